/-
  Printed by gen.py: Go functions as plain functions, and that they are.
-/
import Derived.Test.YtnjoaggeheokeaaDoorF2
set_option linter.unusedVariables false
set_option linter.unusedSimpArgs false
set_option linter.unusedSectionVars false
set_option maxRecDepth 100000
set_option maxHeartbeats 4000000

namespace Go.Gk
open Go Go.Proofs
def netlist_partAt_c1_R (E : World) (Γ : List HP) (res : Int) (v : Value) (w : World) : Prop := v = (.int .i64 res) ∧ Holds E w Γ
def netlist_partAt_c1_K (E : World) (Γ : List HP) (r : Int) (σ : Nat → Value) (w : World) : Prop := finQ Tryd.prog 9 Tryd.f109 (netlist_partAt_c1_R E Γ r) .ret σ w
theorem netlist_partAt_c1_ok (N : Nat) {E w : World} {Γ : List HP} {i0 : Nat} {v0 : Value} {p0 : Part} {p1 : Str} {res : Int} (hw : Holds E w Γ) (h0 : Γ[i0]? = some (rd v0 p0)) (hb : netlist_partAt_c1 N p0 p1 = some res) :
    Calls Tryd.prog 109 [v0, (str p1)].toArray w (Ret (netlist_partAt_c1_R E Γ res)) := by
  unfold netlist_partAt_c1 at hb
  refine enter Tryd.func109 rfl rfl (Nat.le_of_ble_eq_true rfl) ?_
  have hw := hw.dup (i := i0 + 0) h0
  refine RC.seq ?_
  refine RC.region ?_
  refine RL.box_rd (i := 0) (v := v0) trivial rfl hw rfl rfl fun b1 w hw => ?_
  refine RL.assign (v := (.int .i64 0)) trivial rfl rfl ?_
  refine RL.nil ?_
  refine thenQ_n ?_
  refine RC.seq ?_
  refine RC.region ?_
  refine RL.fa_b trivial rfl rfl fa87_0 ?_
  refine RL.load_bfs (i := 0) (f := (fun x => x.Name)) trivial rfl hw rfl rfl fd_Part_0 ty9 ?_
  refine RL.move (v := (str p1)) trivial rfl rfl ?_
  obtain ⟨x2, hx2, hb⟩ := bd hb
  refine RL.call trivial rfl fn107 [(str p0.Name), (str p1)] rfl (Calls_ret (strings_Compare_ok N (p0 := p0.Name) (p1 := p1)  hw  hx2) ?_)
  rintro _ w ⟨rfl, hw⟩
  refine RL.assign (v := (.int .i64 x2)) trivial rfl rfl ?_
  refine RL.nil ?_
  refine thenQ_n ?_
  refine RC.ret ?_
  injection hb with hb; subst hb
  exact fin1 rfl rfl ⟨rfl, hw.drop 2 rfl⟩
def netlist_partAt_R (E : World) (Γ : List HP) (res : Int) (v : Value) (w : World) : Prop := v = (.int .i64 res) ∧ Holds E w Γ
def netlist_partAt_K (E : World) (Γ : List HP) (r : Int) (σ : Nat → Value) (w : World) : Prop := finQ Tryd.prog 16 Tryd.f51 (netlist_partAt_R E Γ r) .ret σ w
theorem netlist_partAt_ok (N : Nat) {E w : World} {Γ : List HP} {i0 : Nat} {v0 : Value} {p0 : (List Part)} {p1 : Str} {res : Int} (hw : Holds E w Γ) (h0 : Γ[i0]? = some (rd v0 p0)) (hb : netlist_partAt N p0 p1 = some res) :
    Calls Tryd.prog 51 [v0, (str p1)].toArray w (Ret (netlist_partAt_R E Γ res)) := by
  unfold netlist_partAt at hb
  refine enter Tryd.func51 rfl rfl (Nat.le_of_ble_eq_true rfl) ?_
  have hw := hw.dup (i := i0 + 0) h0
  refine RC.seq ?_
  refine RC.region ?_
  refine RL.assign (v := (.int .i64 0)) trivial rfl rfl ?_
  refine RL.nil ?_
  refine thenQ_n ?_
  refine RC.seq ?_
  refine RC.region ?_
  refine RL.move (v := v0) trivial rfl rfl ?_
  refine RL.move (v := (str p1)) trivial rfl rfl ?_
  obtain ⟨x1, hx1, hb⟩ := bd hb
  refine RL.call trivial rfl fn108 [v0, (str p1), (.func (.func 109) #[] #[])] rfl (Calls_ret (slices_BinarySearchFunc_Part_string_ok N (p1 := p1) (i0 := 0) hw rfl ⟨109, [], rfl, fn109, fun w Γl v v' y0 y1 r i j hw hi hj hr => by obtain rfl := hw.ofSc (γ := Str) hj; exact Calls_ret (netlist_partAt_c1_ok N (p1 := y1) (i0 := i) hw hi hr) fun _ _ h => h⟩ hx1) ?_)
  rintro _ w ⟨rfl, hw⟩
  refine RL.move (v := (.tuple #[(.int .i64 x1.1), (.bool x1.2)])) trivial rfl rfl ?_
  refine RL.extract (v := (.int .i64 x1.1)) trivial rfl rfl rfl ?_
  refine RL.extract (v := (.bool x1.2)) trivial rfl rfl rfl ?_
  refine RL.assign (v := (.int .i64 x1.1)) trivial rfl rfl ?_
  refine RL.assign (v := (.bool x1.2)) trivial rfl rfl ?_
  refine RL.nil ?_
  refine thenQ_n ?_
  refine RC.seq ?_
  refine RC.seq ?_
  refine RC.region ?_
  refine RL.move (v := (.bool x1.2)) trivial rfl rfl ?_
  refine RL.not (b := x1.2) trivial rfl rfl ?_
  refine RL.nil ?_
  refine thenQ_n ?_
  refine RC.cond (b := (!x1.2)) rfl (fun hc => ?_) (fun hc => ?_)
  · replace hb := cT hc hb
    refine RC.seq ?_
    refine RC.region ?_
    refine RL.assign (v := (.int .i64 (-1))) trivial rfl rfl ?_
    refine RL.nil ?_
    refine thenQ_n ?_
    refine RC.ret ?_
    refine thenQ_r ?_
    injection hb with hb; subst hb
    exact fin1 rfl rfl ⟨rfl, hw.drop 1 rfl⟩
  replace hb := cF hc hb
  refine RC.skip ?_
  refine thenQ_n ?_
  refine RC.seq ?_
  refine RC.region ?_
  refine RL.move (v := (.int .i64 x1.1)) trivial rfl rfl ?_
  refine RL.assign (v := (.int .i64 x1.1)) trivial rfl rfl ?_
  refine RL.nil ?_
  refine thenQ_n ?_
  refine RC.ret ?_
  injection hb with hb; subst hb
  exact fin1 rfl rfl ⟨rfl, hw.drop 1 rfl⟩
def slices_BinarySearchFunc_PinType_string_R (E : World) (Γ : List HP) (res : Int × Bool) (v : Value) (w : World) : Prop := v = .tuple #[(.int .i64 res.1), (.bool res.2)] ∧ Holds E w Γ
def slices_BinarySearchFunc_PinType_string_K (E : World) (Γ : List HP) (r : Int × Bool) (σ : Nat → Value) (w : World) : Prop := finQ Tryd.prog 49 Tryd.f110 (slices_BinarySearchFunc_PinType_string_R E Γ r) .ret σ w
theorem slices_BinarySearchFunc_PinType_string_ok (N : Nat) {E w : World} {Γ : List HP} {i0 : Nat} {v0 : Value} {p0 : (List PinType)} {p1 : Str} {v2 : Value} {p2 : PinType → Str → Option Int} {res : Int × Bool} (hw : Holds E w Γ) (h0 : Γ[i0]? = some (rd v0 p0)) (h2 : Fn2 Tryd.prog E Γ v2 p2 (fun (r : Int) => Value.int .i64 r)) (hb : slices_BinarySearchFunc_PinType_string N p0 p1 p2 = some res) :
    Calls Tryd.prog 110 [v0, (str p1), v2].toArray w (Ret (slices_BinarySearchFunc_PinType_string_R E Γ res)) := by
  unfold slices_BinarySearchFunc_PinType_string at hb
  refine enter Tryd.func110 rfl rfl (Nat.le_of_ble_eq_true rfl) ?_
  have hw := hw.dup (i := i0 + 0) h0
  refine RC.seq ?_
  refine RC.region ?_
  refine RL.assign (v := (.int .i64 0)) trivial rfl rfl ?_
  refine RL.assign (v := (.bool false)) trivial rfl rfl ?_
  refine RL.nil ?_
  refine thenQ_n ?_
  refine RC.seq ?_
  refine RC.region ?_
  refine RL.move (v := v0) trivial rfl rfl ?_
  refine RL.len_rd (i := 0) (l := p0) trivial rfl hw rfl rfl un83 ?_
  refine RL.assign (v := (.int .i64 ((p0.length : Nat) : Int))) trivial rfl rfl ?_
  refine RL.nil ?_
  refine thenQ_n ?_
  refine RC.seq ?_
  refine RC.region ?_
  refine RL.move (v := (.int .i64 ((p0.length : Nat) : Int))) trivial rfl rfl ?_
  refine RL.assign (v := (.int .i64 0)) trivial rfl rfl ?_
  refine RL.assign (v := (.int .i64 ((p0.length : Nat) : Int))) trivial rfl rfl ?_
  refine RL.nil ?_
  refine thenQ_n ?_
  refine RC.seq ?_
  obtain ⟨o29, hN, hb⟩ := bd hb
  refine RC.iter (fun (s2 : Int × Int) (σ : Nat → Value) (w : World) => agree σ [(0, v0), (1, (str p1)), (2, v2), (8, (.int .i64 ((p0.length : Nat) : Int))), (9, (.int .i64 s2.1)), (10, (.int .i64 s2.2))] ∧ Holds E w ([rd v0 p0] ++ Γ)) (fun (s2 : Int × Int) (σ : Nat → Value) (w : World) => agree σ [(0, v0), (1, (str p1)), (2, v2), (8, (.int .i64 ((p0.length : Nat) : Int))), (9, (.int .i64 s2.1))] ∧ Holds E w ([rd v0 p0] ++ Γ)) (fun (r : Empty) (_ : Nat → Value) (_ : World) => r.elim) hN ?_ ?_ ?_ ?_ 
  · exact ⟨⟨rfl, rfl, rfl, rfl, rfl, rfl, trivial⟩, hw.pick 1 [0] (new := [rd v0 p0]) rfl rfl (by decide) (by decide)⟩
  · intro s2 fl σ w hI hb
    obtain ⟨ha, hw⟩ := hI
    obtain ⟨τ, rfl⟩ := ha.ups
    refine RC.seq ?_
    refine RC.seq ?_
    refine RC.region ?_
    refine RL.move (v := (.int .i64 s2.1)) trivial rfl rfl ?_
    refine RL.move (v := (.int .i64 s2.2)) trivial rfl rfl ?_
    refine RL.icmp (a := s2.1) (b := s2.2) trivial rfl rfl rfl rfl ?_
    refine RL.nil ?_
    refine thenQ_n ?_
    refine RC.cond (b := (decide (s2.1 < s2.2))) rfl (fun hc => ?_) (fun hc => ?_)
    rotate_left
    · replace hb := cF hc hb
      refine RC.exit ?_
      refine thenQ_x ?_
      injection hb with hb; subst hb
      exact ⟨rfl, ⟨rfl, rfl, rfl, rfl, rfl, trivial⟩, hw.pick 1 [0] (new := [rd v0 p0]) rfl rfl (by decide) (by decide)⟩
    replace hb := cT hc hb
    refine RC.skip ?_
    refine thenQ_n ?_
    refine RC.block ?_
    refine RC.seq ?_
    refine RC.region ?_
    refine RL.move (v := (.int .i64 s2.1)) trivial rfl rfl ?_
    refine RL.move (v := (.int .i64 s2.2)) trivial rfl rfl ?_
    refine RL.iar (a := s2.1) (b := s2.2) trivial rfl rfl rfl rfl ?_
    refine RL.conv (a := (IntKind.wrap .i64 (s2.1 + s2.2))) trivial rfl rfl ⟨_, un3⟩ un180 ?_
    refine RL.bin (v := (.int .u64 (IntKind.wrap .u64 (IntKind.wrap .i64 (s2.1 + s2.2))))) (v' := (.int .u64 1)) (u := (.int .u64 (Int.fdiv (IntKind.wrap .u64 (IntKind.wrap .i64 (s2.1 + s2.2))) 2))) trivial rfl rfl rfl (fun _ => rfl) (fun _ => rfl) ?_
    refine RL.conv (a := (Int.fdiv (IntKind.wrap .u64 (IntKind.wrap .i64 (s2.1 + s2.2))) 2)) trivial rfl rfl ⟨_, un180⟩ un3 ?_
    refine RL.assign (v := (.int .i64 (IntKind.wrap .i64 (Int.fdiv (IntKind.wrap .u64 (IntKind.wrap .i64 (s2.1 + s2.2))) 2)))) trivial rfl rfl ?_
    refine RL.nil ?_
    refine thenQ_n ?_
    refine RC.seq ?_
    refine RC.region ?_
    refine RL.move (v := v2) trivial rfl rfl ?_
    refine RL.move (v := v0) trivial rfl rfl ?_
    refine RL.move (v := (.int .i64 (IntKind.wrap .i64 (Int.fdiv (IntKind.wrap .u64 (IntKind.wrap .i64 (s2.1 + s2.2))) 2)))) trivial rfl rfl ?_
    obtain ⟨x13, hx13, hb⟩ := bd hb
    refine RL.ia_rd (i := 0) trivial rfl hw rfl rfl rfl sl83 hx13 fun v14 hw => ?_
    refine RL.load_pt (i := 0) (x := x13) trivial rfl hw rfl rfl ty82 fun v15 hw => ?_
    refine RL.move (v := (str p1)) trivial rfl rfl ?_
    have hw := hw.sc (γ := Str) p1
    obtain ⟨x16, hx16, hb⟩ := bd hb
    refine RL.callF2 (i := 1) (j := 0) trivial rfl hw rfl h2 4 rfl rfl rfl rfl rfl hx16 fun w hw => ?_
    refine RL.icmp (a := x16) (b := 0) trivial rfl rfl rfl rfl ?_
    refine RL.nil ?_
    refine thenQ_n ?_
    obtain ⟨s17, hj, hb⟩ := bd hb
    refine RC.jn (fun (s17 : Int × Int) (σ : Nat → Value) (w : World) => agree σ [(0, v0), (1, (str p1)), (2, v2), (8, (.int .i64 ((p0.length : Nat) : Int))), (9, (.int .i64 s17.1)), (10, (.int .i64 s17.2))] ∧ Holds E w ([rd v0 p0] ++ Γ)) s17 ?_ ?_
    · refine RC.cond (b := (decide (x16 < 0))) rfl (fun hc => ?_) (fun hc => ?_)
      rotate_left
      · replace hj := cF hc hj
        refine RC.region ?_
        refine RL.move (v := (.int .i64 (IntKind.wrap .i64 (Int.fdiv (IntKind.wrap .u64 (IntKind.wrap .i64 (s2.1 + s2.2))) 2)))) trivial rfl rfl ?_
        refine RL.assign (v := (.int .i64 (IntKind.wrap .i64 (Int.fdiv (IntKind.wrap .u64 (IntKind.wrap .i64 (s2.1 + s2.2))) 2)))) trivial rfl rfl ?_
        refine RL.nil ?_
        injection hj with hj; subst hj
        exact ⟨rfl, ⟨rfl, rfl, rfl, rfl, rfl, rfl, trivial⟩, hw.pick 4 [3] (new := [rd v0 p0]) rfl rfl (by decide) (by decide)⟩
      replace hj := cT hc hj
      refine RC.region ?_
      refine RL.move (v := (.int .i64 (IntKind.wrap .i64 (Int.fdiv (IntKind.wrap .u64 (IntKind.wrap .i64 (s2.1 + s2.2))) 2)))) trivial rfl rfl ?_
      refine RL.iar (a := (IntKind.wrap .i64 (Int.fdiv (IntKind.wrap .u64 (IntKind.wrap .i64 (s2.1 + s2.2))) 2))) (b := 1) trivial rfl rfl rfl rfl ?_
      refine RL.assign (v := (.int .i64 (IntKind.wrap .i64 ((IntKind.wrap .i64 (Int.fdiv (IntKind.wrap .u64 (IntKind.wrap .i64 (s2.1 + s2.2))) 2)) + 1)))) trivial rfl rfl ?_
      refine RL.nil ?_
      injection hj with hj; subst hj
      exact ⟨rfl, ⟨rfl, rfl, rfl, rfl, rfl, rfl, trivial⟩, hw.pick 4 [3] (new := [rd v0 p0]) rfl rfl (by decide) (by decide)⟩
    rintro σ w ⟨ha, hw⟩
    obtain ⟨τ, rfl⟩ := ha.ups
    refine blkQ_n ?_
    injection hb with hb; subst hb
    exact ⟨rfl, ⟨rfl, rfl, rfl, rfl, rfl, rfl, trivial⟩, hw.pick 1 [0] (new := [rd v0 p0]) rfl rfl (by decide) (by decide)⟩
  · intro r _ _ _ _
    exact r.elim
  intro s2 σ w e hJ
  subst e
  rw [Fo.cs_go] at hb
  obtain ⟨ha, hw⟩ := hJ
  obtain ⟨τ, rfl⟩ := ha.ups
  refine thenQ_n ?_
  refine RC.seq ?_
  obtain ⟨s23, hj, hb⟩ := bd hb
  refine RC.jn (fun (s23 : Bool) (σ : Nat → Value) (w : World) => agree σ [(6, (.int .i64 s2.1)), (7, (.bool s23))] ∧ Holds E w ([] ++ Γ)) s23 ?_ ?_
  · refine RC.region ?_
    refine RL.move (v := (.int .i64 s2.1)) trivial rfl rfl ?_
    refine RL.move (v := (.int .i64 s2.1)) trivial rfl rfl ?_
    refine RL.move (v := (.int .i64 ((p0.length : Nat) : Int))) trivial rfl rfl ?_
    refine RL.icmp (a := s2.1) (b := ((p0.length : Nat) : Int)) trivial rfl rfl rfl rfl ?_
    refine RL.move (v := (.bool (decide (s2.1 < ((p0.length : Nat) : Int))))) trivial rfl rfl ?_
    rcases Bool.eq_false_or_eq_true (decide (s2.1 < ((p0.length : Nat) : Int))) with hg24 | hg24
    rotate_left
    · replace hj := cF hg24 hj
      refine RL.skip rfl (.inl (congrArg Value.bool hg24)) rfl ?_
      refine RL.skip rfl (.inl (congrArg Value.bool hg24)) rfl ?_
      refine RL.skip rfl (.inl (congrArg Value.bool hg24)) rfl ?_
      refine RL.skip rfl (.inl (congrArg Value.bool hg24)) rfl ?_
      refine RL.skip rfl (.inl (congrArg Value.bool hg24)) rfl ?_
      refine RL.skip rfl (.inl (congrArg Value.bool hg24)) rfl ?_
      refine RL.skip rfl (.inl (congrArg Value.bool hg24)) rfl ?_
      refine RL.skip rfl (.inl (congrArg Value.bool hg24)) rfl ?_
      refine RL.pick (b := (decide (s2.1 < ((p0.length : Nat) : Int)))) (v := (.bool false)) trivial rfl rfl (by rw [hg24]; rfl) ?_
      refine RL.assign (v := (.int .i64 s2.1)) trivial rfl rfl ?_
      refine RL.assign (v := (.bool false)) trivial rfl rfl ?_
      refine RL.nil ?_
      injection hj with hj; subst hj
      exact ⟨rfl, ⟨rfl, rfl, trivial⟩, hw.pick 1 [] (new := []) rfl rfl (by decide) (by decide)⟩
    replace hj := cT hg24 hj
    refine RL.move (v := v2) ⟨_, rfl, congrArg Value.bool hg24⟩ rfl rfl ?_
    refine RL.move (v := v0) ⟨_, rfl, congrArg Value.bool hg24⟩ rfl rfl ?_
    refine RL.move (v := (.int .i64 s2.1)) ⟨_, rfl, congrArg Value.bool hg24⟩ rfl rfl ?_
    obtain ⟨x25, hx25, hj⟩ := bd hj
    refine RL.ia_rd (i := 0) ⟨_, rfl, congrArg Value.bool hg24⟩ rfl hw rfl rfl rfl sl83 hx25 fun v26 hw => ?_
    refine RL.load_pt (i := 0) (x := x25) ⟨_, rfl, congrArg Value.bool hg24⟩ rfl hw rfl rfl ty82 fun v27 hw => ?_
    refine RL.move (v := (str p1)) ⟨_, rfl, congrArg Value.bool hg24⟩ rfl rfl ?_
    have hw := hw.sc (γ := Str) p1
    obtain ⟨x28, hx28, hj⟩ := bd hj
    refine RL.callF2 (i := 1) (j := 0) ⟨_, rfl, congrArg Value.bool hg24⟩ rfl hw rfl h2 4 rfl rfl rfl rfl rfl hx28 fun w hw => ?_
    refine RL.icmp (a := x28) (b := 0) ⟨_, rfl, congrArg Value.bool hg24⟩ rfl rfl rfl rfl ?_
    refine RL.pick (b := (decide (s2.1 < ((p0.length : Nat) : Int)))) (v := (.bool (x28 == 0))) trivial rfl rfl (by rw [hg24]; rfl) ?_
    refine RL.assign (v := (.int .i64 s2.1)) trivial rfl rfl ?_
    refine RL.assign (v := (.bool (x28 == 0))) trivial rfl rfl ?_
    refine RL.nil ?_
    injection hj with hj; subst hj
    exact ⟨rfl, ⟨rfl, rfl, trivial⟩, hw.pick 4 [] (new := []) rfl rfl (by decide) (by decide)⟩
  rintro σ w ⟨ha, hw⟩
  obtain ⟨τ, rfl⟩ := ha.ups
  refine thenQ_n ?_
  refine RC.ret ?_
  injection hb with hb; subst hb
  exact fin2 rfl rfl rfl ⟨rfl, hw.drop 0 rfl⟩
def netlist_PinAt_c1_R (E : World) (Γ : List HP) (res : Int) (v : Value) (w : World) : Prop := v = (.int .i64 res) ∧ Holds E w Γ
def netlist_PinAt_c1_K (E : World) (Γ : List HP) (r : Int) (σ : Nat → Value) (w : World) : Prop := finQ Tryd.prog 9 Tryd.f111 (netlist_PinAt_c1_R E Γ r) .ret σ w
theorem netlist_PinAt_c1_ok (N : Nat) {E w : World} {Γ : List HP} {i0 : Nat} {v0 : Value} {p0 : PinType} {p1 : Str} {res : Int} (hw : Holds E w Γ) (h0 : Γ[i0]? = some (rd v0 p0)) (hb : netlist_PinAt_c1 N p0 p1 = some res) :
    Calls Tryd.prog 111 [v0, (str p1)].toArray w (Ret (netlist_PinAt_c1_R E Γ res)) := by
  unfold netlist_PinAt_c1 at hb
  refine enter Tryd.func111 rfl rfl (Nat.le_of_ble_eq_true rfl) ?_
  have hw := hw.dup (i := i0 + 0) h0
  refine RC.seq ?_
  refine RC.region ?_
  refine RL.box_rd (i := 0) (v := v0) trivial rfl hw rfl rfl fun b1 w hw => ?_
  refine RL.assign (v := (.int .i64 0)) trivial rfl rfl ?_
  refine RL.nil ?_
  refine thenQ_n ?_
  refine RC.seq ?_
  refine RC.region ?_
  refine RL.fa_b trivial rfl rfl fa82_0 ?_
  refine RL.load_bfs (i := 0) (f := (fun x => x.Name)) trivial rfl hw rfl rfl fd_PinType_0 ty9 ?_
  refine RL.move (v := (str p1)) trivial rfl rfl ?_
  obtain ⟨x2, hx2, hb⟩ := bd hb
  refine RL.call trivial rfl fn107 [(str p0.Name), (str p1)] rfl (Calls_ret (strings_Compare_ok N (p0 := p0.Name) (p1 := p1)  hw  hx2) ?_)
  rintro _ w ⟨rfl, hw⟩
  refine RL.assign (v := (.int .i64 x2)) trivial rfl rfl ?_
  refine RL.nil ?_
  refine thenQ_n ?_
  refine RC.ret ?_
  injection hb with hb; subst hb
  exact fin1 rfl rfl ⟨rfl, hw.drop 2 rfl⟩
def netlist_PinAt_R (E : World) (Γ : List HP) (res : Int) (v : Value) (w : World) : Prop := v = (.int .i64 res) ∧ Holds E w Γ
def netlist_PinAt_K (E : World) (Γ : List HP) (r : Int) (σ : Nat → Value) (w : World) : Prop := finQ Tryd.prog 17 Tryd.f52 (netlist_PinAt_R E Γ r) .ret σ w
theorem netlist_PinAt_ok (N : Nat) {E w : World} {Γ : List HP} {i0 : Nat} {v0 : Value} {p0 : PartType} {p1 : Str} {res : Int} (hw : Holds E w Γ) (h0 : Γ[i0]? = some (rd v0 p0)) (hb : netlist_PinAt N p0 p1 = some res) :
    Calls Tryd.prog 52 [v0, (str p1)].toArray w (Ret (netlist_PinAt_R E Γ res)) := by
  unfold netlist_PinAt at hb
  refine enter Tryd.func52 rfl rfl (Nat.le_of_ble_eq_true rfl) ?_
  have hw := hw.dup (i := i0 + 0) h0
  refine RC.seq ?_
  refine RC.region ?_
  refine RL.box_rd (i := 0) (v := v0) trivial rfl hw rfl rfl fun b1 w hw => ?_
  refine RL.assign (v := (.int .i64 0)) trivial rfl rfl ?_
  refine RL.nil ?_
  refine thenQ_n ?_
  refine RC.seq ?_
  refine RC.region ?_
  refine RL.fa_b trivial rfl rfl fa85_1 ?_
  refine RL.load_bf (i := 0) (f := (fun x => x.Pins)) trivial rfl hw rfl rfl fd_PartType_1 ty83 fun v2 hw => ?_
  refine RL.move (v := (str p1)) trivial rfl rfl ?_
  obtain ⟨x3, hx3, hb⟩ := bd hb
  refine RL.call trivial rfl fn110 [v2, (str p1), (.func (.func 111) #[] #[])] rfl (Calls_ret (slices_BinarySearchFunc_PinType_string_ok N (p1 := p1) (i0 := 0) hw rfl ⟨111, [], rfl, fn111, fun w Γl v v' y0 y1 r i j hw hi hj hr => by obtain rfl := hw.ofSc (γ := Str) hj; exact Calls_ret (netlist_PinAt_c1_ok N (p1 := y1) (i0 := i) hw hi hr) fun _ _ h => h⟩ hx3) ?_)
  rintro _ w ⟨rfl, hw⟩
  refine RL.move (v := (.tuple #[(.int .i64 x3.1), (.bool x3.2)])) trivial rfl rfl ?_
  refine RL.extract (v := (.int .i64 x3.1)) trivial rfl rfl rfl ?_
  refine RL.extract (v := (.bool x3.2)) trivial rfl rfl rfl ?_
  refine RL.assign (v := (.int .i64 x3.1)) trivial rfl rfl ?_
  refine RL.assign (v := (.bool x3.2)) trivial rfl rfl ?_
  refine RL.nil ?_
  refine thenQ_n ?_
  refine RC.seq ?_
  refine RC.seq ?_
  refine RC.region ?_
  refine RL.move (v := (.bool x3.2)) trivial rfl rfl ?_
  refine RL.not (b := x3.2) trivial rfl rfl ?_
  refine RL.nil ?_
  refine thenQ_n ?_
  refine RC.cond (b := (!x3.2)) rfl (fun hc => ?_) (fun hc => ?_)
  · replace hb := cT hc hb
    refine RC.seq ?_
    refine RC.region ?_
    refine RL.assign (v := (.int .i64 (-1))) trivial rfl rfl ?_
    refine RL.nil ?_
    refine thenQ_n ?_
    refine RC.ret ?_
    refine thenQ_r ?_
    injection hb with hb; subst hb
    exact fin1 rfl rfl ⟨rfl, hw.drop 3 rfl⟩
  replace hb := cF hc hb
  refine RC.skip ?_
  refine thenQ_n ?_
  refine RC.seq ?_
  refine RC.region ?_
  refine RL.move (v := (.int .i64 x3.1)) trivial rfl rfl ?_
  refine RL.assign (v := (.int .i64 x3.1)) trivial rfl rfl ?_
  refine RL.nil ?_
  refine thenQ_n ?_
  refine RC.ret ?_
  injection hb with hb; subst hb
  exact fin1 rfl rfl ⟨rfl, hw.drop 3 rfl⟩
def netlist_hasPin_R (E : World) (Γ : List HP) (res : Bool) (v : Value) (w : World) : Prop := v = (.bool res) ∧ Holds E w Γ
def netlist_hasPin_K (E : World) (Γ : List HP) (r : Bool) (σ : Nat → Value) (w : World) : Prop := finQ Tryd.prog 30 Tryd.f36 (netlist_hasPin_R E Γ r) .ret σ w
theorem netlist_hasPin_ok (N : Nat) {E w : World} {Γ : List HP} {i0 : Nat} {v0 : Value} {p0 : (List PartType)} {i1 : Nat} {v1 : Value} {p1 : (List Part)} {i2 : Nat} {v2 : Value} {p2 : Pin} {res : Bool} (hw : Holds E w Γ) (h0 : Γ[i0]? = some (rd v0 p0)) (h1 : Γ[i1]? = some (rd v1 p1)) (h2 : Γ[i2]? = some (rd v2 p2)) (hb : netlist_hasPin N p0 p1 p2 = some res) :
    Calls Tryd.prog 36 [v0, v1, v2].toArray w (Ret (netlist_hasPin_R E Γ res)) := by
  unfold netlist_hasPin at hb
  refine enter Tryd.func36 rfl rfl (Nat.le_of_ble_eq_true rfl) ?_
  have hw := hw.dup (i := i0 + 0) h0
  have hw := hw.dup (i := i1 + 1) h1
  have hw := hw.dup (i := i2 + 2) h2
  refine RC.seq ?_
  refine RC.region ?_
  refine RL.box_rd (i := 0) (v := v2) trivial rfl hw rfl rfl fun b1 w hw => ?_
  refine RL.assign (v := (.bool false)) trivial rfl rfl ?_
  refine RL.nil ?_
  refine thenQ_n ?_
  refine RC.seq ?_
  refine RC.region ?_
  refine RL.move (v := v1) trivial rfl rfl ?_
  refine RL.fa_b trivial rfl rfl fa28_0 ?_
  refine RL.load_bfs (i := 0) (f := (fun x => x.Part)) trivial rfl hw rfl rfl fd_Pin_0 ty9 ?_
  obtain ⟨x2, hx2, hb⟩ := bd hb
  refine RL.call trivial rfl fn51 [v1, (str p2.Part)] rfl (Calls_ret (netlist_partAt_ok N (p1 := p2.Part) (i0 := 2) hw rfl hx2) ?_)
  rintro _ w ⟨rfl, hw⟩
  refine RL.assign (v := (.int .i64 x2)) trivial rfl rfl ?_
  refine RL.nil ?_
  refine thenQ_n ?_
  refine RC.seq ?_
  obtain ⟨s16, hj, hb⟩ := bd hb
  refine RC.jn (fun (s16 : Bool) (σ : Nat → Value) (w : World) => agree σ [(6, (.bool s16))] ∧ Holds E w ([] ++ Γ)) s16 ?_ ?_
  · rcases Bool.eq_false_or_eq_true (decide (x2 ≥ 0)) with hg17 | hg17
    rotate_left
    · replace hj := cF hg17 hj
      refine RC.draw mixed rfl (fun (D : Nat → Bool) (σ : Nat → Value) (w : World) => doneV D σ [(0, 12, (.int .i64 x2)), (1, 13, (.bool (decide (x2 ≥ 0)))), (2, 14, (.bool (decide (x2 ≥ 0)))), (3, 15, undef), (4, 16, undef), (5, 17, undef), (6, 18, undef), (7, 19, undef), (8, 20, undef), (9, 21, undef), (10, 22, undef), (11, 23, undef), (12, 24, undef), (13, 25, undef), (14, 26, undef), (15, 27, undef), (16, 28, undef), (17, 29, (.bool false)), (18, 6, (.bool false))] ∧ agree σ [(0, v0), (1, v1), (5, (.pointer (some ⟨b1, 0, none⟩))), (7, (.int .i64 x2))] ∧ Holds E w ([bx 28 b1 p2, rd v2 p2, rd v1 p1, rd v0 p0] ++ Γ)) ?_ ⟨?_, ?_, ?_, ?_, ?_, ?_, ?_, ?_, ?_, ?_, ?_, ?_, ?_, ?_, ?_, ?_, ?_, ?_, ?_, trivial⟩ ?_
      · have hw := hw.drew
        exact ⟨⟨(fun h => by cases h), (fun h => by cases h), (fun h => by cases h), (fun h => by cases h), (fun h => by cases h), (fun h => by cases h), (fun h => by cases h), (fun h => by cases h), (fun h => by cases h), (fun h => by cases h), (fun h => by cases h), (fun h => by cases h), (fun h => by cases h), (fun h => by cases h), (fun h => by cases h), (fun h => by cases h), (fun h => by cases h), (fun h => by cases h), (fun h => by cases h), trivial⟩, ⟨rfl, rfl, rfl, rfl, trivial⟩, hw⟩
      · intro D σ w hD hdep hJ
        obtain ⟨hv, ha, hw⟩ := hJ
        have ha2 : agree σ [(0, v0), (1, v1), (5, (.pointer (some ⟨b1, 0, none⟩))), (7, (.int .i64 x2))] := ⟨ha.1, ha.2.1, ha.2.2.1, ha.2.2.2.1, trivial⟩
        obtain ⟨τ, rfl⟩ := ha2.ups
        refine RL.move (v := (.int .i64 x2)) trivial rfl rfl ?_
        refine RL.nil ?_
        exact ⟨rfl, ⟨fun _ => rfl, hv.2.1, hv.2.2.1, hv.2.2.2.1, hv.2.2.2.2.1, hv.2.2.2.2.2.1, hv.2.2.2.2.2.2.1, hv.2.2.2.2.2.2.2.1, hv.2.2.2.2.2.2.2.2.1, hv.2.2.2.2.2.2.2.2.2.1, hv.2.2.2.2.2.2.2.2.2.2.1, hv.2.2.2.2.2.2.2.2.2.2.2.1, hv.2.2.2.2.2.2.2.2.2.2.2.2.1, hv.2.2.2.2.2.2.2.2.2.2.2.2.2.1, hv.2.2.2.2.2.2.2.2.2.2.2.2.2.2.1, hv.2.2.2.2.2.2.2.2.2.2.2.2.2.2.2.1, hv.2.2.2.2.2.2.2.2.2.2.2.2.2.2.2.2.1, hv.2.2.2.2.2.2.2.2.2.2.2.2.2.2.2.2.2.1, hv.2.2.2.2.2.2.2.2.2.2.2.2.2.2.2.2.2.2.1, trivial⟩, ha, hw⟩
      · intro D σ w hD hdep hJ
        obtain ⟨hv, ha, hw⟩ := hJ
        have ha2 : agree σ [(12, (.int .i64 x2)), (0, v0), (1, v1), (5, (.pointer (some ⟨b1, 0, none⟩))), (7, (.int .i64 x2))] := ⟨hv.1 (hdep.1 rfl), ha.1, ha.2.1, ha.2.2.1, ha.2.2.2.1, trivial⟩
        obtain ⟨τ, rfl⟩ := ha2.ups
        refine RL.icmp (a := x2) (b := 0) trivial rfl rfl rfl rfl ?_
        refine RL.nil ?_
        exact ⟨rfl, ⟨hv.1, fun _ => rfl, hv.2.2.1, hv.2.2.2.1, hv.2.2.2.2.1, hv.2.2.2.2.2.1, hv.2.2.2.2.2.2.1, hv.2.2.2.2.2.2.2.1, hv.2.2.2.2.2.2.2.2.1, hv.2.2.2.2.2.2.2.2.2.1, hv.2.2.2.2.2.2.2.2.2.2.1, hv.2.2.2.2.2.2.2.2.2.2.2.1, hv.2.2.2.2.2.2.2.2.2.2.2.2.1, hv.2.2.2.2.2.2.2.2.2.2.2.2.2.1, hv.2.2.2.2.2.2.2.2.2.2.2.2.2.2.1, hv.2.2.2.2.2.2.2.2.2.2.2.2.2.2.2.1, hv.2.2.2.2.2.2.2.2.2.2.2.2.2.2.2.2.1, hv.2.2.2.2.2.2.2.2.2.2.2.2.2.2.2.2.2.1, hv.2.2.2.2.2.2.2.2.2.2.2.2.2.2.2.2.2.2.1, trivial⟩, ha, hw⟩
      · intro D σ w hD hdep hJ
        obtain ⟨hv, ha, hw⟩ := hJ
        have ha2 : agree σ [(13, (.bool (decide (x2 ≥ 0)))), (0, v0), (1, v1), (5, (.pointer (some ⟨b1, 0, none⟩))), (7, (.int .i64 x2))] := ⟨hv.2.1 (hdep.1 rfl), ha.1, ha.2.1, ha.2.2.1, ha.2.2.2.1, trivial⟩
        obtain ⟨τ, rfl⟩ := ha2.ups
        refine RL.move (v := (.bool (decide (x2 ≥ 0)))) trivial rfl rfl ?_
        refine RL.nil ?_
        exact ⟨rfl, ⟨hv.1, hv.2.1, fun _ => rfl, hv.2.2.2.1, hv.2.2.2.2.1, hv.2.2.2.2.2.1, hv.2.2.2.2.2.2.1, hv.2.2.2.2.2.2.2.1, hv.2.2.2.2.2.2.2.2.1, hv.2.2.2.2.2.2.2.2.2.1, hv.2.2.2.2.2.2.2.2.2.2.1, hv.2.2.2.2.2.2.2.2.2.2.2.1, hv.2.2.2.2.2.2.2.2.2.2.2.2.1, hv.2.2.2.2.2.2.2.2.2.2.2.2.2.1, hv.2.2.2.2.2.2.2.2.2.2.2.2.2.2.1, hv.2.2.2.2.2.2.2.2.2.2.2.2.2.2.2.1, hv.2.2.2.2.2.2.2.2.2.2.2.2.2.2.2.2.1, hv.2.2.2.2.2.2.2.2.2.2.2.2.2.2.2.2.2.1, hv.2.2.2.2.2.2.2.2.2.2.2.2.2.2.2.2.2.2.1, trivial⟩, ha, hw⟩
      · intro D σ w hD hdep hJ
        obtain ⟨hv, ha, hw⟩ := hJ
        have ha2 : agree σ [(14, (.bool (decide (x2 ≥ 0)))), (0, v0), (1, v1), (5, (.pointer (some ⟨b1, 0, none⟩))), (7, (.int .i64 x2))] := ⟨hv.2.2.1 (hdep.1 rfl), ha.1, ha.2.1, ha.2.2.1, ha.2.2.2.1, trivial⟩
        obtain ⟨τ, rfl⟩ := ha2.ups
        refine RL.skip rfl (.inl (congrArg Value.bool hg17)) rfl ?_
        refine RL.nil ?_
        exact ⟨rfl, ⟨hv.1, hv.2.1, hv.2.2.1, fun _ => rfl, hv.2.2.2.2.1, hv.2.2.2.2.2.1, hv.2.2.2.2.2.2.1, hv.2.2.2.2.2.2.2.1, hv.2.2.2.2.2.2.2.2.1, hv.2.2.2.2.2.2.2.2.2.1, hv.2.2.2.2.2.2.2.2.2.2.1, hv.2.2.2.2.2.2.2.2.2.2.2.1, hv.2.2.2.2.2.2.2.2.2.2.2.2.1, hv.2.2.2.2.2.2.2.2.2.2.2.2.2.1, hv.2.2.2.2.2.2.2.2.2.2.2.2.2.2.1, hv.2.2.2.2.2.2.2.2.2.2.2.2.2.2.2.1, hv.2.2.2.2.2.2.2.2.2.2.2.2.2.2.2.2.1, hv.2.2.2.2.2.2.2.2.2.2.2.2.2.2.2.2.2.1, hv.2.2.2.2.2.2.2.2.2.2.2.2.2.2.2.2.2.2.1, trivial⟩, ha, hw⟩
      · intro D σ w hD hdep hJ
        obtain ⟨hv, ha, hw⟩ := hJ
        have ha2 : agree σ [(14, (.bool (decide (x2 ≥ 0)))), (0, v0), (1, v1), (5, (.pointer (some ⟨b1, 0, none⟩))), (7, (.int .i64 x2))] := ⟨hv.2.2.1 (hdep.1 rfl), ha.1, ha.2.1, ha.2.2.1, ha.2.2.2.1, trivial⟩
        obtain ⟨τ, rfl⟩ := ha2.ups
        refine RL.skip rfl (.inl (congrArg Value.bool hg17)) rfl ?_
        refine RL.nil ?_
        exact ⟨rfl, ⟨hv.1, hv.2.1, hv.2.2.1, hv.2.2.2.1, fun _ => rfl, hv.2.2.2.2.2.1, hv.2.2.2.2.2.2.1, hv.2.2.2.2.2.2.2.1, hv.2.2.2.2.2.2.2.2.1, hv.2.2.2.2.2.2.2.2.2.1, hv.2.2.2.2.2.2.2.2.2.2.1, hv.2.2.2.2.2.2.2.2.2.2.2.1, hv.2.2.2.2.2.2.2.2.2.2.2.2.1, hv.2.2.2.2.2.2.2.2.2.2.2.2.2.1, hv.2.2.2.2.2.2.2.2.2.2.2.2.2.2.1, hv.2.2.2.2.2.2.2.2.2.2.2.2.2.2.2.1, hv.2.2.2.2.2.2.2.2.2.2.2.2.2.2.2.2.1, hv.2.2.2.2.2.2.2.2.2.2.2.2.2.2.2.2.2.1, hv.2.2.2.2.2.2.2.2.2.2.2.2.2.2.2.2.2.2.1, trivial⟩, ha, hw⟩
      · intro D σ w hD hdep hJ
        obtain ⟨hv, ha, hw⟩ := hJ
        have ha2 : agree σ [(14, (.bool (decide (x2 ≥ 0)))), (0, v0), (1, v1), (5, (.pointer (some ⟨b1, 0, none⟩))), (7, (.int .i64 x2))] := ⟨hv.2.2.1 (hdep.1 rfl), ha.1, ha.2.1, ha.2.2.1, ha.2.2.2.1, trivial⟩
        obtain ⟨τ, rfl⟩ := ha2.ups
        refine RL.skip rfl (.inl (congrArg Value.bool hg17)) rfl ?_
        refine RL.nil ?_
        exact ⟨rfl, ⟨hv.1, hv.2.1, hv.2.2.1, hv.2.2.2.1, hv.2.2.2.2.1, fun _ => rfl, hv.2.2.2.2.2.2.1, hv.2.2.2.2.2.2.2.1, hv.2.2.2.2.2.2.2.2.1, hv.2.2.2.2.2.2.2.2.2.1, hv.2.2.2.2.2.2.2.2.2.2.1, hv.2.2.2.2.2.2.2.2.2.2.2.1, hv.2.2.2.2.2.2.2.2.2.2.2.2.1, hv.2.2.2.2.2.2.2.2.2.2.2.2.2.1, hv.2.2.2.2.2.2.2.2.2.2.2.2.2.2.1, hv.2.2.2.2.2.2.2.2.2.2.2.2.2.2.2.1, hv.2.2.2.2.2.2.2.2.2.2.2.2.2.2.2.2.1, hv.2.2.2.2.2.2.2.2.2.2.2.2.2.2.2.2.2.1, hv.2.2.2.2.2.2.2.2.2.2.2.2.2.2.2.2.2.2.1, trivial⟩, ha, hw⟩
      · intro D σ w hD hdep hJ
        obtain ⟨hv, ha, hw⟩ := hJ
        have ha2 : agree σ [(14, (.bool (decide (x2 ≥ 0)))), (0, v0), (1, v1), (5, (.pointer (some ⟨b1, 0, none⟩))), (7, (.int .i64 x2))] := ⟨hv.2.2.1 (hdep.1 rfl), ha.1, ha.2.1, ha.2.2.1, ha.2.2.2.1, trivial⟩
        obtain ⟨τ, rfl⟩ := ha2.ups
        refine RL.skip rfl (.inl (congrArg Value.bool hg17)) rfl ?_
        refine RL.nil ?_
        exact ⟨rfl, ⟨hv.1, hv.2.1, hv.2.2.1, hv.2.2.2.1, hv.2.2.2.2.1, hv.2.2.2.2.2.1, fun _ => rfl, hv.2.2.2.2.2.2.2.1, hv.2.2.2.2.2.2.2.2.1, hv.2.2.2.2.2.2.2.2.2.1, hv.2.2.2.2.2.2.2.2.2.2.1, hv.2.2.2.2.2.2.2.2.2.2.2.1, hv.2.2.2.2.2.2.2.2.2.2.2.2.1, hv.2.2.2.2.2.2.2.2.2.2.2.2.2.1, hv.2.2.2.2.2.2.2.2.2.2.2.2.2.2.1, hv.2.2.2.2.2.2.2.2.2.2.2.2.2.2.2.1, hv.2.2.2.2.2.2.2.2.2.2.2.2.2.2.2.2.1, hv.2.2.2.2.2.2.2.2.2.2.2.2.2.2.2.2.2.1, hv.2.2.2.2.2.2.2.2.2.2.2.2.2.2.2.2.2.2.1, trivial⟩, ha, hw⟩
      · intro D σ w hD hdep hJ
        obtain ⟨hv, ha, hw⟩ := hJ
        have ha2 : agree σ [(17, undef), (18, undef), (14, (.bool (decide (x2 ≥ 0)))), (0, v0), (1, v1), (5, (.pointer (some ⟨b1, 0, none⟩))), (7, (.int .i64 x2))] := ⟨hv.2.2.2.2.2.1 (hdep.1 rfl), hv.2.2.2.2.2.2.1 (hdep.2.1 rfl), hv.2.2.1 (hdep.2.2.1 rfl), ha.1, ha.2.1, ha.2.2.1, ha.2.2.2.1, trivial⟩
        obtain ⟨τ, rfl⟩ := ha2.ups
        refine RL.skip rfl (.inl (congrArg Value.bool hg17)) rfl ?_
        refine RL.nil ?_
        exact ⟨rfl, ⟨hv.1, hv.2.1, hv.2.2.1, hv.2.2.2.1, hv.2.2.2.2.1, hv.2.2.2.2.2.1, hv.2.2.2.2.2.2.1, fun _ => rfl, hv.2.2.2.2.2.2.2.2.1, hv.2.2.2.2.2.2.2.2.2.1, hv.2.2.2.2.2.2.2.2.2.2.1, hv.2.2.2.2.2.2.2.2.2.2.2.1, hv.2.2.2.2.2.2.2.2.2.2.2.2.1, hv.2.2.2.2.2.2.2.2.2.2.2.2.2.1, hv.2.2.2.2.2.2.2.2.2.2.2.2.2.2.1, hv.2.2.2.2.2.2.2.2.2.2.2.2.2.2.2.1, hv.2.2.2.2.2.2.2.2.2.2.2.2.2.2.2.2.1, hv.2.2.2.2.2.2.2.2.2.2.2.2.2.2.2.2.2.1, hv.2.2.2.2.2.2.2.2.2.2.2.2.2.2.2.2.2.2.1, trivial⟩, ha, hw⟩
      · intro D σ w hD hdep hJ
        obtain ⟨hv, ha, hw⟩ := hJ
        have ha2 : agree σ [(19, undef), (14, (.bool (decide (x2 ≥ 0)))), (0, v0), (1, v1), (5, (.pointer (some ⟨b1, 0, none⟩))), (7, (.int .i64 x2))] := ⟨hv.2.2.2.2.2.2.2.1 (hdep.1 rfl), hv.2.2.1 (hdep.2.1 rfl), ha.1, ha.2.1, ha.2.2.1, ha.2.2.2.1, trivial⟩
        obtain ⟨τ, rfl⟩ := ha2.ups
        refine RL.skip rfl (.inl (congrArg Value.bool hg17)) rfl ?_
        refine RL.nil ?_
        exact ⟨rfl, ⟨hv.1, hv.2.1, hv.2.2.1, hv.2.2.2.1, hv.2.2.2.2.1, hv.2.2.2.2.2.1, hv.2.2.2.2.2.2.1, hv.2.2.2.2.2.2.2.1, fun _ => rfl, hv.2.2.2.2.2.2.2.2.2.1, hv.2.2.2.2.2.2.2.2.2.2.1, hv.2.2.2.2.2.2.2.2.2.2.2.1, hv.2.2.2.2.2.2.2.2.2.2.2.2.1, hv.2.2.2.2.2.2.2.2.2.2.2.2.2.1, hv.2.2.2.2.2.2.2.2.2.2.2.2.2.2.1, hv.2.2.2.2.2.2.2.2.2.2.2.2.2.2.2.1, hv.2.2.2.2.2.2.2.2.2.2.2.2.2.2.2.2.1, hv.2.2.2.2.2.2.2.2.2.2.2.2.2.2.2.2.2.1, hv.2.2.2.2.2.2.2.2.2.2.2.2.2.2.2.2.2.2.1, trivial⟩, ha, hw⟩
      · intro D σ w hD hdep hJ
        obtain ⟨hv, ha, hw⟩ := hJ
        have ha2 : agree σ [(20, undef), (14, (.bool (decide (x2 ≥ 0)))), (0, v0), (1, v1), (5, (.pointer (some ⟨b1, 0, none⟩))), (7, (.int .i64 x2))] := ⟨hv.2.2.2.2.2.2.2.2.1 (hdep.1 rfl), hv.2.2.1 (hdep.2.1 rfl), ha.1, ha.2.1, ha.2.2.1, ha.2.2.2.1, trivial⟩
        obtain ⟨τ, rfl⟩ := ha2.ups
        refine RL.skip rfl (.inl (congrArg Value.bool hg17)) rfl ?_
        refine RL.nil ?_
        exact ⟨rfl, ⟨hv.1, hv.2.1, hv.2.2.1, hv.2.2.2.1, hv.2.2.2.2.1, hv.2.2.2.2.2.1, hv.2.2.2.2.2.2.1, hv.2.2.2.2.2.2.2.1, hv.2.2.2.2.2.2.2.2.1, fun _ => rfl, hv.2.2.2.2.2.2.2.2.2.2.1, hv.2.2.2.2.2.2.2.2.2.2.2.1, hv.2.2.2.2.2.2.2.2.2.2.2.2.1, hv.2.2.2.2.2.2.2.2.2.2.2.2.2.1, hv.2.2.2.2.2.2.2.2.2.2.2.2.2.2.1, hv.2.2.2.2.2.2.2.2.2.2.2.2.2.2.2.1, hv.2.2.2.2.2.2.2.2.2.2.2.2.2.2.2.2.1, hv.2.2.2.2.2.2.2.2.2.2.2.2.2.2.2.2.2.1, hv.2.2.2.2.2.2.2.2.2.2.2.2.2.2.2.2.2.2.1, trivial⟩, ha, hw⟩
      · intro D σ w hD hdep hJ
        obtain ⟨hv, ha, hw⟩ := hJ
        have ha2 : agree σ [(16, undef), (21, undef), (14, (.bool (decide (x2 ≥ 0)))), (0, v0), (1, v1), (5, (.pointer (some ⟨b1, 0, none⟩))), (7, (.int .i64 x2))] := ⟨hv.2.2.2.2.1 (hdep.1 rfl), hv.2.2.2.2.2.2.2.2.2.1 (hdep.2.1 rfl), hv.2.2.1 (hdep.2.2.1 rfl), ha.1, ha.2.1, ha.2.2.1, ha.2.2.2.1, trivial⟩
        obtain ⟨τ, rfl⟩ := ha2.ups
        refine RL.skip rfl (.inl (congrArg Value.bool hg17)) rfl ?_
        refine RL.nil ?_
        exact ⟨rfl, ⟨hv.1, hv.2.1, hv.2.2.1, hv.2.2.2.1, hv.2.2.2.2.1, hv.2.2.2.2.2.1, hv.2.2.2.2.2.2.1, hv.2.2.2.2.2.2.2.1, hv.2.2.2.2.2.2.2.2.1, hv.2.2.2.2.2.2.2.2.2.1, fun _ => rfl, hv.2.2.2.2.2.2.2.2.2.2.2.1, hv.2.2.2.2.2.2.2.2.2.2.2.2.1, hv.2.2.2.2.2.2.2.2.2.2.2.2.2.1, hv.2.2.2.2.2.2.2.2.2.2.2.2.2.2.1, hv.2.2.2.2.2.2.2.2.2.2.2.2.2.2.2.1, hv.2.2.2.2.2.2.2.2.2.2.2.2.2.2.2.2.1, hv.2.2.2.2.2.2.2.2.2.2.2.2.2.2.2.2.2.1, hv.2.2.2.2.2.2.2.2.2.2.2.2.2.2.2.2.2.2.1, trivial⟩, ha, hw⟩
      · intro D σ w hD hdep hJ
        obtain ⟨hv, ha, hw⟩ := hJ
        have ha2 : agree σ [(15, undef), (22, undef), (14, (.bool (decide (x2 ≥ 0)))), (0, v0), (1, v1), (5, (.pointer (some ⟨b1, 0, none⟩))), (7, (.int .i64 x2))] := ⟨hv.2.2.2.1 (hdep.1 rfl), hv.2.2.2.2.2.2.2.2.2.2.1 (hdep.2.1 rfl), hv.2.2.1 (hdep.2.2.1 rfl), ha.1, ha.2.1, ha.2.2.1, ha.2.2.2.1, trivial⟩
        obtain ⟨τ, rfl⟩ := ha2.ups
        refine RL.skip rfl (.inl (congrArg Value.bool hg17)) rfl ?_
        refine RL.nil ?_
        exact ⟨rfl, ⟨hv.1, hv.2.1, hv.2.2.1, hv.2.2.2.1, hv.2.2.2.2.1, hv.2.2.2.2.2.1, hv.2.2.2.2.2.2.1, hv.2.2.2.2.2.2.2.1, hv.2.2.2.2.2.2.2.2.1, hv.2.2.2.2.2.2.2.2.2.1, hv.2.2.2.2.2.2.2.2.2.2.1, fun _ => rfl, hv.2.2.2.2.2.2.2.2.2.2.2.2.1, hv.2.2.2.2.2.2.2.2.2.2.2.2.2.1, hv.2.2.2.2.2.2.2.2.2.2.2.2.2.2.1, hv.2.2.2.2.2.2.2.2.2.2.2.2.2.2.2.1, hv.2.2.2.2.2.2.2.2.2.2.2.2.2.2.2.2.1, hv.2.2.2.2.2.2.2.2.2.2.2.2.2.2.2.2.2.1, hv.2.2.2.2.2.2.2.2.2.2.2.2.2.2.2.2.2.2.1, trivial⟩, ha, hw⟩
      · intro D σ w hD hdep hJ
        obtain ⟨hv, ha, hw⟩ := hJ
        have ha2 : agree σ [(23, undef), (14, (.bool (decide (x2 ≥ 0)))), (0, v0), (1, v1), (5, (.pointer (some ⟨b1, 0, none⟩))), (7, (.int .i64 x2))] := ⟨hv.2.2.2.2.2.2.2.2.2.2.2.1 (hdep.1 rfl), hv.2.2.1 (hdep.2.1 rfl), ha.1, ha.2.1, ha.2.2.1, ha.2.2.2.1, trivial⟩
        obtain ⟨τ, rfl⟩ := ha2.ups
        refine RL.skip rfl (.inl (congrArg Value.bool hg17)) rfl ?_
        refine RL.nil ?_
        exact ⟨rfl, ⟨hv.1, hv.2.1, hv.2.2.1, hv.2.2.2.1, hv.2.2.2.2.1, hv.2.2.2.2.2.1, hv.2.2.2.2.2.2.1, hv.2.2.2.2.2.2.2.1, hv.2.2.2.2.2.2.2.2.1, hv.2.2.2.2.2.2.2.2.2.1, hv.2.2.2.2.2.2.2.2.2.2.1, hv.2.2.2.2.2.2.2.2.2.2.2.1, fun _ => rfl, hv.2.2.2.2.2.2.2.2.2.2.2.2.2.1, hv.2.2.2.2.2.2.2.2.2.2.2.2.2.2.1, hv.2.2.2.2.2.2.2.2.2.2.2.2.2.2.2.1, hv.2.2.2.2.2.2.2.2.2.2.2.2.2.2.2.2.1, hv.2.2.2.2.2.2.2.2.2.2.2.2.2.2.2.2.2.1, hv.2.2.2.2.2.2.2.2.2.2.2.2.2.2.2.2.2.2.1, trivial⟩, ha, hw⟩
      · intro D σ w hD hdep hJ
        obtain ⟨hv, ha, hw⟩ := hJ
        have ha2 : agree σ [(14, (.bool (decide (x2 ≥ 0)))), (0, v0), (1, v1), (5, (.pointer (some ⟨b1, 0, none⟩))), (7, (.int .i64 x2))] := ⟨hv.2.2.1 (hdep.1 rfl), ha.1, ha.2.1, ha.2.2.1, ha.2.2.2.1, trivial⟩
        obtain ⟨τ, rfl⟩ := ha2.ups
        refine RL.skip rfl (.inl (congrArg Value.bool hg17)) rfl ?_
        refine RL.nil ?_
        exact ⟨rfl, ⟨hv.1, hv.2.1, hv.2.2.1, hv.2.2.2.1, hv.2.2.2.2.1, hv.2.2.2.2.2.1, hv.2.2.2.2.2.2.1, hv.2.2.2.2.2.2.2.1, hv.2.2.2.2.2.2.2.2.1, hv.2.2.2.2.2.2.2.2.2.1, hv.2.2.2.2.2.2.2.2.2.2.1, hv.2.2.2.2.2.2.2.2.2.2.2.1, hv.2.2.2.2.2.2.2.2.2.2.2.2.1, fun _ => rfl, hv.2.2.2.2.2.2.2.2.2.2.2.2.2.2.1, hv.2.2.2.2.2.2.2.2.2.2.2.2.2.2.2.1, hv.2.2.2.2.2.2.2.2.2.2.2.2.2.2.2.2.1, hv.2.2.2.2.2.2.2.2.2.2.2.2.2.2.2.2.2.1, hv.2.2.2.2.2.2.2.2.2.2.2.2.2.2.2.2.2.2.1, trivial⟩, ha, hw⟩
      · intro D σ w hD hdep hJ
        obtain ⟨hv, ha, hw⟩ := hJ
        have ha2 : agree σ [(25, undef), (14, (.bool (decide (x2 ≥ 0)))), (0, v0), (1, v1), (5, (.pointer (some ⟨b1, 0, none⟩))), (7, (.int .i64 x2))] := ⟨hv.2.2.2.2.2.2.2.2.2.2.2.2.2.1 (hdep.1 rfl), hv.2.2.1 (hdep.2.1 rfl), ha.1, ha.2.1, ha.2.2.1, ha.2.2.2.1, trivial⟩
        obtain ⟨τ, rfl⟩ := ha2.ups
        refine RL.skip rfl (.inl (congrArg Value.bool hg17)) rfl ?_
        refine RL.nil ?_
        exact ⟨rfl, ⟨hv.1, hv.2.1, hv.2.2.1, hv.2.2.2.1, hv.2.2.2.2.1, hv.2.2.2.2.2.1, hv.2.2.2.2.2.2.1, hv.2.2.2.2.2.2.2.1, hv.2.2.2.2.2.2.2.2.1, hv.2.2.2.2.2.2.2.2.2.1, hv.2.2.2.2.2.2.2.2.2.2.1, hv.2.2.2.2.2.2.2.2.2.2.2.1, hv.2.2.2.2.2.2.2.2.2.2.2.2.1, hv.2.2.2.2.2.2.2.2.2.2.2.2.2.1, fun _ => rfl, hv.2.2.2.2.2.2.2.2.2.2.2.2.2.2.2.1, hv.2.2.2.2.2.2.2.2.2.2.2.2.2.2.2.2.1, hv.2.2.2.2.2.2.2.2.2.2.2.2.2.2.2.2.2.1, hv.2.2.2.2.2.2.2.2.2.2.2.2.2.2.2.2.2.2.1, trivial⟩, ha, hw⟩
      · intro D σ w hD hdep hJ
        obtain ⟨hv, ha, hw⟩ := hJ
        have ha2 : agree σ [(24, undef), (26, undef), (22, undef), (14, (.bool (decide (x2 ≥ 0)))), (0, v0), (1, v1), (5, (.pointer (some ⟨b1, 0, none⟩))), (7, (.int .i64 x2))] := ⟨hv.2.2.2.2.2.2.2.2.2.2.2.2.1 (hdep.1 rfl), hv.2.2.2.2.2.2.2.2.2.2.2.2.2.2.1 (hdep.2.1 rfl), hv.2.2.2.2.2.2.2.2.2.2.1 (hdep.2.2.1 rfl), hv.2.2.1 (hdep.2.2.2.1 rfl), ha.1, ha.2.1, ha.2.2.1, ha.2.2.2.1, trivial⟩
        obtain ⟨τ, rfl⟩ := ha2.ups
        refine RL.skip rfl (.inl (congrArg Value.bool hg17)) rfl ?_
        refine RL.nil ?_
        exact ⟨rfl, ⟨hv.1, hv.2.1, hv.2.2.1, hv.2.2.2.1, hv.2.2.2.2.1, hv.2.2.2.2.2.1, hv.2.2.2.2.2.2.1, hv.2.2.2.2.2.2.2.1, hv.2.2.2.2.2.2.2.2.1, hv.2.2.2.2.2.2.2.2.2.1, hv.2.2.2.2.2.2.2.2.2.2.1, hv.2.2.2.2.2.2.2.2.2.2.2.1, hv.2.2.2.2.2.2.2.2.2.2.2.2.1, hv.2.2.2.2.2.2.2.2.2.2.2.2.2.1, hv.2.2.2.2.2.2.2.2.2.2.2.2.2.2.1, fun _ => rfl, hv.2.2.2.2.2.2.2.2.2.2.2.2.2.2.2.2.1, hv.2.2.2.2.2.2.2.2.2.2.2.2.2.2.2.2.2.1, hv.2.2.2.2.2.2.2.2.2.2.2.2.2.2.2.2.2.2.1, trivial⟩, ha, hw⟩
      · intro D σ w hD hdep hJ
        obtain ⟨hv, ha, hw⟩ := hJ
        have ha2 : agree σ [(27, undef), (14, (.bool (decide (x2 ≥ 0)))), (0, v0), (1, v1), (5, (.pointer (some ⟨b1, 0, none⟩))), (7, (.int .i64 x2))] := ⟨hv.2.2.2.2.2.2.2.2.2.2.2.2.2.2.2.1 (hdep.1 rfl), hv.2.2.1 (hdep.2.1 rfl), ha.1, ha.2.1, ha.2.2.1, ha.2.2.2.1, trivial⟩
        obtain ⟨τ, rfl⟩ := ha2.ups
        refine RL.skip rfl (.inl (congrArg Value.bool hg17)) rfl ?_
        refine RL.nil ?_
        exact ⟨rfl, ⟨hv.1, hv.2.1, hv.2.2.1, hv.2.2.2.1, hv.2.2.2.2.1, hv.2.2.2.2.2.1, hv.2.2.2.2.2.2.1, hv.2.2.2.2.2.2.2.1, hv.2.2.2.2.2.2.2.2.1, hv.2.2.2.2.2.2.2.2.2.1, hv.2.2.2.2.2.2.2.2.2.2.1, hv.2.2.2.2.2.2.2.2.2.2.2.1, hv.2.2.2.2.2.2.2.2.2.2.2.2.1, hv.2.2.2.2.2.2.2.2.2.2.2.2.2.1, hv.2.2.2.2.2.2.2.2.2.2.2.2.2.2.1, hv.2.2.2.2.2.2.2.2.2.2.2.2.2.2.2.1, fun _ => rfl, hv.2.2.2.2.2.2.2.2.2.2.2.2.2.2.2.2.2.1, hv.2.2.2.2.2.2.2.2.2.2.2.2.2.2.2.2.2.2.1, trivial⟩, ha, hw⟩
      · intro D σ w hD hdep hJ
        obtain ⟨hv, ha, hw⟩ := hJ
        have ha2 : agree σ [(14, (.bool (decide (x2 ≥ 0)))), (28, undef), (0, v0), (1, v1), (5, (.pointer (some ⟨b1, 0, none⟩))), (7, (.int .i64 x2))] := ⟨hv.2.2.1 (hdep.1 rfl), hv.2.2.2.2.2.2.2.2.2.2.2.2.2.2.2.2.1 (hdep.2.1 rfl), ha.1, ha.2.1, ha.2.2.1, ha.2.2.2.1, trivial⟩
        obtain ⟨τ, rfl⟩ := ha2.ups
        refine RL.pick (b := (decide (x2 ≥ 0))) (v := (.bool false)) trivial rfl rfl (by rw [hg17]; rfl) ?_
        refine RL.nil ?_
        exact ⟨rfl, ⟨hv.1, hv.2.1, hv.2.2.1, hv.2.2.2.1, hv.2.2.2.2.1, hv.2.2.2.2.2.1, hv.2.2.2.2.2.2.1, hv.2.2.2.2.2.2.2.1, hv.2.2.2.2.2.2.2.2.1, hv.2.2.2.2.2.2.2.2.2.1, hv.2.2.2.2.2.2.2.2.2.2.1, hv.2.2.2.2.2.2.2.2.2.2.2.1, hv.2.2.2.2.2.2.2.2.2.2.2.2.1, hv.2.2.2.2.2.2.2.2.2.2.2.2.2.1, hv.2.2.2.2.2.2.2.2.2.2.2.2.2.2.1, hv.2.2.2.2.2.2.2.2.2.2.2.2.2.2.2.1, hv.2.2.2.2.2.2.2.2.2.2.2.2.2.2.2.2.1, fun _ => rfl, hv.2.2.2.2.2.2.2.2.2.2.2.2.2.2.2.2.2.2.1, trivial⟩, ha, hw⟩
      · intro D σ w hD hdep hJ
        obtain ⟨hv, ha, hw⟩ := hJ
        have ha2 : agree σ [(29, (.bool false)), (27, undef), (12, (.int .i64 x2)), (13, (.bool (decide (x2 ≥ 0)))), (14, (.bool (decide (x2 ≥ 0)))), (15, undef), (16, undef), (17, undef), (18, undef), (19, undef), (20, undef), (21, undef), (22, undef), (23, undef), (24, undef), (25, undef), (26, undef), (28, undef), (0, v0), (1, v1), (5, (.pointer (some ⟨b1, 0, none⟩))), (7, (.int .i64 x2))] := ⟨hv.2.2.2.2.2.2.2.2.2.2.2.2.2.2.2.2.2.1 (hdep.1 rfl), hv.2.2.2.2.2.2.2.2.2.2.2.2.2.2.2.1 (hdep.2.1 rfl), hv.1 (hdep.2.2.1 rfl), hv.2.1 (hdep.2.2.2.1 rfl), hv.2.2.1 (hdep.2.2.2.2.1 rfl), hv.2.2.2.1 (hdep.2.2.2.2.2.1 rfl), hv.2.2.2.2.1 (hdep.2.2.2.2.2.2.1 rfl), hv.2.2.2.2.2.1 (hdep.2.2.2.2.2.2.2.1 rfl), hv.2.2.2.2.2.2.1 (hdep.2.2.2.2.2.2.2.2.1 rfl), hv.2.2.2.2.2.2.2.1 (hdep.2.2.2.2.2.2.2.2.2.1 rfl), hv.2.2.2.2.2.2.2.2.1 (hdep.2.2.2.2.2.2.2.2.2.2.1 rfl), hv.2.2.2.2.2.2.2.2.2.1 (hdep.2.2.2.2.2.2.2.2.2.2.2.1 rfl), hv.2.2.2.2.2.2.2.2.2.2.1 (hdep.2.2.2.2.2.2.2.2.2.2.2.2.1 rfl), hv.2.2.2.2.2.2.2.2.2.2.2.1 (hdep.2.2.2.2.2.2.2.2.2.2.2.2.2.1 rfl), hv.2.2.2.2.2.2.2.2.2.2.2.2.1 (hdep.2.2.2.2.2.2.2.2.2.2.2.2.2.2.1 rfl), hv.2.2.2.2.2.2.2.2.2.2.2.2.2.1 (hdep.2.2.2.2.2.2.2.2.2.2.2.2.2.2.2.1 rfl), hv.2.2.2.2.2.2.2.2.2.2.2.2.2.2.1 (hdep.2.2.2.2.2.2.2.2.2.2.2.2.2.2.2.2.1 rfl), hv.2.2.2.2.2.2.2.2.2.2.2.2.2.2.2.2.1 (hdep.2.2.2.2.2.2.2.2.2.2.2.2.2.2.2.2.2.2.1 rfl), ha.1, ha.2.1, ha.2.2.1, ha.2.2.2.1, trivial⟩
        obtain ⟨τ, rfl⟩ := ha2.ups
        refine RL.assign (v := (.bool false)) trivial rfl rfl ?_
        refine RL.nil ?_
        exact ⟨rfl, ⟨hv.1, hv.2.1, hv.2.2.1, hv.2.2.2.1, hv.2.2.2.2.1, hv.2.2.2.2.2.1, hv.2.2.2.2.2.2.1, hv.2.2.2.2.2.2.2.1, hv.2.2.2.2.2.2.2.2.1, hv.2.2.2.2.2.2.2.2.2.1, hv.2.2.2.2.2.2.2.2.2.2.1, hv.2.2.2.2.2.2.2.2.2.2.2.1, hv.2.2.2.2.2.2.2.2.2.2.2.2.1, hv.2.2.2.2.2.2.2.2.2.2.2.2.2.1, hv.2.2.2.2.2.2.2.2.2.2.2.2.2.2.1, hv.2.2.2.2.2.2.2.2.2.2.2.2.2.2.2.1, hv.2.2.2.2.2.2.2.2.2.2.2.2.2.2.2.2.1, hv.2.2.2.2.2.2.2.2.2.2.2.2.2.2.2.2.2.1, fun _ => rfl, trivial⟩, ha, hw⟩
      intro D σ w hall hJ
      obtain ⟨hv, ha, hw⟩ := hJ
      have ha2 : agree σ [(6, (.bool false)), (0, v0), (1, v1), (5, (.pointer (some ⟨b1, 0, none⟩))), (7, (.int .i64 x2))] := ⟨hv.2.2.2.2.2.2.2.2.2.2.2.2.2.2.2.2.2.2.1 (hall 18 (by decide)), ha.1, ha.2.1, ha.2.2.1, ha.2.2.2.1, trivial⟩
      obtain ⟨τ, rfl⟩ := ha2.ups
      injection hj with hj; subst hj
      exact ⟨rfl, ⟨rfl, trivial⟩, hw.pick 4 [] (new := []) rfl rfl (by decide) (by decide)⟩
    replace hj := cT hg17 hj
    obtain ⟨x18, hx18, hj⟩ := bd hj
    obtain ⟨x21, hx21, hj⟩ := bd hj
    obtain ⟨x22, hx22, hj⟩ := bd hj
    obtain ⟨x25, hx25, hj⟩ := bd hj
    refine RC.draw mixed rfl (fun (D : Nat → Bool) (σ : Nat → Value) (w : World) => ∃ v19 v20 v23 v24 : Value, doneV D σ [(0, 12, (.int .i64 x2)), (1, 13, (.bool (decide (x2 ≥ 0)))), (2, 14, (.bool (decide (x2 ≥ 0)))), (3, 15, v0), (4, 16, v0), (5, 17, v1), (6, 18, (.int .i64 x2)), (7, 19, v19), (8, 20, v20), (9, 21, (str x18.Type_)), (10, 22, (.int .i64 x21)), (11, 23, v23), (12, 24, v24), (13, 25, (.pointer (some ⟨b1, 1, none⟩))), (14, 26, (str p2.Pin)), (15, 27, (.int .i64 x25)), (16, 28, (.bool (decide (x25 ≥ 0)))), (17, 29, (.bool (decide (x25 ≥ 0)))), (18, 6, (.bool (decide (x25 ≥ 0))))] ∧ agree σ [(0, v0), (1, v1), (5, (.pointer (some ⟨b1, 0, none⟩))), (7, (.int .i64 x2))] ∧ Holds E w ([bif D 7 then (pt v19 x18) else junk, bif D 8 then (pt v20 x18.Type_) else junk, bif D 11 then (pt v23 x22) else junk, bif D 12 then (rd v24 x22) else junk, bx 28 b1 p2, rd v2 p2, rd v1 p1, rd v0 p0] ++ Γ)) ?_ ⟨?_, ?_, ?_, ?_, ?_, ?_, ?_, ?_, ?_, ?_, ?_, ?_, ?_, ?_, ?_, ?_, ?_, ?_, ?_, trivial⟩ ?_
    · have hw := hw.drew
      have hw := hw.junk
      have hw := hw.junk
      have hw := hw.junk
      have hw := hw.junk
      exact ⟨undef, undef, undef, undef, ⟨(fun h => by cases h), (fun h => by cases h), (fun h => by cases h), (fun h => by cases h), (fun h => by cases h), (fun h => by cases h), (fun h => by cases h), (fun h => by cases h), (fun h => by cases h), (fun h => by cases h), (fun h => by cases h), (fun h => by cases h), (fun h => by cases h), (fun h => by cases h), (fun h => by cases h), (fun h => by cases h), (fun h => by cases h), (fun h => by cases h), (fun h => by cases h), trivial⟩, ⟨rfl, rfl, rfl, rfl, trivial⟩, hw⟩
    · intro D σ w hD hdep hJ
      obtain ⟨v19, v20, v23, v24, hv, ha, hw⟩ := hJ
      have ha2 : agree σ [(0, v0), (1, v1), (5, (.pointer (some ⟨b1, 0, none⟩))), (7, (.int .i64 x2))] := ⟨ha.1, ha.2.1, ha.2.2.1, ha.2.2.2.1, trivial⟩
      obtain ⟨τ, rfl⟩ := ha2.ups
      refine RL.move (v := (.int .i64 x2)) trivial rfl rfl ?_
      refine RL.nil ?_
      exact ⟨rfl, v19, v20, v23, v24, ⟨fun _ => rfl, hv.2.1, hv.2.2.1, hv.2.2.2.1, hv.2.2.2.2.1, hv.2.2.2.2.2.1, hv.2.2.2.2.2.2.1, hv.2.2.2.2.2.2.2.1, hv.2.2.2.2.2.2.2.2.1, hv.2.2.2.2.2.2.2.2.2.1, hv.2.2.2.2.2.2.2.2.2.2.1, hv.2.2.2.2.2.2.2.2.2.2.2.1, hv.2.2.2.2.2.2.2.2.2.2.2.2.1, hv.2.2.2.2.2.2.2.2.2.2.2.2.2.1, hv.2.2.2.2.2.2.2.2.2.2.2.2.2.2.1, hv.2.2.2.2.2.2.2.2.2.2.2.2.2.2.2.1, hv.2.2.2.2.2.2.2.2.2.2.2.2.2.2.2.2.1, hv.2.2.2.2.2.2.2.2.2.2.2.2.2.2.2.2.2.1, hv.2.2.2.2.2.2.2.2.2.2.2.2.2.2.2.2.2.2.1, trivial⟩, ha, hw⟩
    · intro D σ w hD hdep hJ
      obtain ⟨v19, v20, v23, v24, hv, ha, hw⟩ := hJ
      have ha2 : agree σ [(12, (.int .i64 x2)), (0, v0), (1, v1), (5, (.pointer (some ⟨b1, 0, none⟩))), (7, (.int .i64 x2))] := ⟨hv.1 (hdep.1 rfl), ha.1, ha.2.1, ha.2.2.1, ha.2.2.2.1, trivial⟩
      obtain ⟨τ, rfl⟩ := ha2.ups
      refine RL.icmp (a := x2) (b := 0) trivial rfl rfl rfl rfl ?_
      refine RL.nil ?_
      exact ⟨rfl, v19, v20, v23, v24, ⟨hv.1, fun _ => rfl, hv.2.2.1, hv.2.2.2.1, hv.2.2.2.2.1, hv.2.2.2.2.2.1, hv.2.2.2.2.2.2.1, hv.2.2.2.2.2.2.2.1, hv.2.2.2.2.2.2.2.2.1, hv.2.2.2.2.2.2.2.2.2.1, hv.2.2.2.2.2.2.2.2.2.2.1, hv.2.2.2.2.2.2.2.2.2.2.2.1, hv.2.2.2.2.2.2.2.2.2.2.2.2.1, hv.2.2.2.2.2.2.2.2.2.2.2.2.2.1, hv.2.2.2.2.2.2.2.2.2.2.2.2.2.2.1, hv.2.2.2.2.2.2.2.2.2.2.2.2.2.2.2.1, hv.2.2.2.2.2.2.2.2.2.2.2.2.2.2.2.2.1, hv.2.2.2.2.2.2.2.2.2.2.2.2.2.2.2.2.2.1, hv.2.2.2.2.2.2.2.2.2.2.2.2.2.2.2.2.2.2.1, trivial⟩, ha, hw⟩
    · intro D σ w hD hdep hJ
      obtain ⟨v19, v20, v23, v24, hv, ha, hw⟩ := hJ
      have ha2 : agree σ [(13, (.bool (decide (x2 ≥ 0)))), (0, v0), (1, v1), (5, (.pointer (some ⟨b1, 0, none⟩))), (7, (.int .i64 x2))] := ⟨hv.2.1 (hdep.1 rfl), ha.1, ha.2.1, ha.2.2.1, ha.2.2.2.1, trivial⟩
      obtain ⟨τ, rfl⟩ := ha2.ups
      refine RL.move (v := (.bool (decide (x2 ≥ 0)))) trivial rfl rfl ?_
      refine RL.nil ?_
      exact ⟨rfl, v19, v20, v23, v24, ⟨hv.1, hv.2.1, fun _ => rfl, hv.2.2.2.1, hv.2.2.2.2.1, hv.2.2.2.2.2.1, hv.2.2.2.2.2.2.1, hv.2.2.2.2.2.2.2.1, hv.2.2.2.2.2.2.2.2.1, hv.2.2.2.2.2.2.2.2.2.1, hv.2.2.2.2.2.2.2.2.2.2.1, hv.2.2.2.2.2.2.2.2.2.2.2.1, hv.2.2.2.2.2.2.2.2.2.2.2.2.1, hv.2.2.2.2.2.2.2.2.2.2.2.2.2.1, hv.2.2.2.2.2.2.2.2.2.2.2.2.2.2.1, hv.2.2.2.2.2.2.2.2.2.2.2.2.2.2.2.1, hv.2.2.2.2.2.2.2.2.2.2.2.2.2.2.2.2.1, hv.2.2.2.2.2.2.2.2.2.2.2.2.2.2.2.2.2.1, hv.2.2.2.2.2.2.2.2.2.2.2.2.2.2.2.2.2.2.1, trivial⟩, ha, hw⟩
    · intro D σ w hD hdep hJ
      obtain ⟨v19, v20, v23, v24, hv, ha, hw⟩ := hJ
      have ha2 : agree σ [(14, (.bool (decide (x2 ≥ 0)))), (0, v0), (1, v1), (5, (.pointer (some ⟨b1, 0, none⟩))), (7, (.int .i64 x2))] := ⟨hv.2.2.1 (hdep.1 rfl), ha.1, ha.2.1, ha.2.2.1, ha.2.2.2.1, trivial⟩
      obtain ⟨τ, rfl⟩ := ha2.ups
      refine RL.move (v := v0) ⟨_, rfl, congrArg Value.bool hg17⟩ rfl rfl ?_
      refine RL.nil ?_
      exact ⟨rfl, v19, v20, v23, v24, ⟨hv.1, hv.2.1, hv.2.2.1, fun _ => rfl, hv.2.2.2.2.1, hv.2.2.2.2.2.1, hv.2.2.2.2.2.2.1, hv.2.2.2.2.2.2.2.1, hv.2.2.2.2.2.2.2.2.1, hv.2.2.2.2.2.2.2.2.2.1, hv.2.2.2.2.2.2.2.2.2.2.1, hv.2.2.2.2.2.2.2.2.2.2.2.1, hv.2.2.2.2.2.2.2.2.2.2.2.2.1, hv.2.2.2.2.2.2.2.2.2.2.2.2.2.1, hv.2.2.2.2.2.2.2.2.2.2.2.2.2.2.1, hv.2.2.2.2.2.2.2.2.2.2.2.2.2.2.2.1, hv.2.2.2.2.2.2.2.2.2.2.2.2.2.2.2.2.1, hv.2.2.2.2.2.2.2.2.2.2.2.2.2.2.2.2.2.1, hv.2.2.2.2.2.2.2.2.2.2.2.2.2.2.2.2.2.2.1, trivial⟩, ha, hw⟩
    · intro D σ w hD hdep hJ
      obtain ⟨v19, v20, v23, v24, hv, ha, hw⟩ := hJ
      have ha2 : agree σ [(14, (.bool (decide (x2 ≥ 0)))), (0, v0), (1, v1), (5, (.pointer (some ⟨b1, 0, none⟩))), (7, (.int .i64 x2))] := ⟨hv.2.2.1 (hdep.1 rfl), ha.1, ha.2.1, ha.2.2.1, ha.2.2.2.1, trivial⟩
      obtain ⟨τ, rfl⟩ := ha2.ups
      refine RL.move (v := v0) ⟨_, rfl, congrArg Value.bool hg17⟩ rfl rfl ?_
      refine RL.nil ?_
      exact ⟨rfl, v19, v20, v23, v24, ⟨hv.1, hv.2.1, hv.2.2.1, hv.2.2.2.1, fun _ => rfl, hv.2.2.2.2.2.1, hv.2.2.2.2.2.2.1, hv.2.2.2.2.2.2.2.1, hv.2.2.2.2.2.2.2.2.1, hv.2.2.2.2.2.2.2.2.2.1, hv.2.2.2.2.2.2.2.2.2.2.1, hv.2.2.2.2.2.2.2.2.2.2.2.1, hv.2.2.2.2.2.2.2.2.2.2.2.2.1, hv.2.2.2.2.2.2.2.2.2.2.2.2.2.1, hv.2.2.2.2.2.2.2.2.2.2.2.2.2.2.1, hv.2.2.2.2.2.2.2.2.2.2.2.2.2.2.2.1, hv.2.2.2.2.2.2.2.2.2.2.2.2.2.2.2.2.1, hv.2.2.2.2.2.2.2.2.2.2.2.2.2.2.2.2.2.1, hv.2.2.2.2.2.2.2.2.2.2.2.2.2.2.2.2.2.2.1, trivial⟩, ha, hw⟩
    · intro D σ w hD hdep hJ
      obtain ⟨v19, v20, v23, v24, hv, ha, hw⟩ := hJ
      have ha2 : agree σ [(14, (.bool (decide (x2 ≥ 0)))), (0, v0), (1, v1), (5, (.pointer (some ⟨b1, 0, none⟩))), (7, (.int .i64 x2))] := ⟨hv.2.2.1 (hdep.1 rfl), ha.1, ha.2.1, ha.2.2.1, ha.2.2.2.1, trivial⟩
      obtain ⟨τ, rfl⟩ := ha2.ups
      refine RL.move (v := v1) ⟨_, rfl, congrArg Value.bool hg17⟩ rfl rfl ?_
      refine RL.nil ?_
      exact ⟨rfl, v19, v20, v23, v24, ⟨hv.1, hv.2.1, hv.2.2.1, hv.2.2.2.1, hv.2.2.2.2.1, fun _ => rfl, hv.2.2.2.2.2.2.1, hv.2.2.2.2.2.2.2.1, hv.2.2.2.2.2.2.2.2.1, hv.2.2.2.2.2.2.2.2.2.1, hv.2.2.2.2.2.2.2.2.2.2.1, hv.2.2.2.2.2.2.2.2.2.2.2.1, hv.2.2.2.2.2.2.2.2.2.2.2.2.1, hv.2.2.2.2.2.2.2.2.2.2.2.2.2.1, hv.2.2.2.2.2.2.2.2.2.2.2.2.2.2.1, hv.2.2.2.2.2.2.2.2.2.2.2.2.2.2.2.1, hv.2.2.2.2.2.2.2.2.2.2.2.2.2.2.2.2.1, hv.2.2.2.2.2.2.2.2.2.2.2.2.2.2.2.2.2.1, hv.2.2.2.2.2.2.2.2.2.2.2.2.2.2.2.2.2.2.1, trivial⟩, ha, hw⟩
    · intro D σ w hD hdep hJ
      obtain ⟨v19, v20, v23, v24, hv, ha, hw⟩ := hJ
      have ha2 : agree σ [(14, (.bool (decide (x2 ≥ 0)))), (0, v0), (1, v1), (5, (.pointer (some ⟨b1, 0, none⟩))), (7, (.int .i64 x2))] := ⟨hv.2.2.1 (hdep.1 rfl), ha.1, ha.2.1, ha.2.2.1, ha.2.2.2.1, trivial⟩
      obtain ⟨τ, rfl⟩ := ha2.ups
      refine RL.move (v := (.int .i64 x2)) ⟨_, rfl, congrArg Value.bool hg17⟩ rfl rfl ?_
      refine RL.nil ?_
      exact ⟨rfl, v19, v20, v23, v24, ⟨hv.1, hv.2.1, hv.2.2.1, hv.2.2.2.1, hv.2.2.2.2.1, hv.2.2.2.2.2.1, fun _ => rfl, hv.2.2.2.2.2.2.2.1, hv.2.2.2.2.2.2.2.2.1, hv.2.2.2.2.2.2.2.2.2.1, hv.2.2.2.2.2.2.2.2.2.2.1, hv.2.2.2.2.2.2.2.2.2.2.2.1, hv.2.2.2.2.2.2.2.2.2.2.2.2.1, hv.2.2.2.2.2.2.2.2.2.2.2.2.2.1, hv.2.2.2.2.2.2.2.2.2.2.2.2.2.2.1, hv.2.2.2.2.2.2.2.2.2.2.2.2.2.2.2.1, hv.2.2.2.2.2.2.2.2.2.2.2.2.2.2.2.2.1, hv.2.2.2.2.2.2.2.2.2.2.2.2.2.2.2.2.2.1, hv.2.2.2.2.2.2.2.2.2.2.2.2.2.2.2.2.2.2.1, trivial⟩, ha, hw⟩
    · intro D σ w hD hdep hJ
      obtain ⟨v19, v20, v23, v24, hv, ha, hw⟩ := hJ
      have ha2 : agree σ [(17, v1), (18, (.int .i64 x2)), (14, (.bool (decide (x2 ≥ 0)))), (0, v0), (1, v1), (5, (.pointer (some ⟨b1, 0, none⟩))), (7, (.int .i64 x2))] := ⟨hv.2.2.2.2.2.1 (hdep.1 rfl), hv.2.2.2.2.2.2.1 (hdep.2.1 rfl), hv.2.2.1 (hdep.2.2.1 rfl), ha.1, ha.2.1, ha.2.2.1, ha.2.2.2.1, trivial⟩
      obtain ⟨τ, rfl⟩ := ha2.ups
      refine RL.ia_rd (i := 6) ⟨_, rfl, congrArg Value.bool hg17⟩ rfl hw rfl rfl rfl sl23 hx18 fun v26 hw => ?_
      have hw := hw.fillat 0 1 0 rfl rfl rfl (by simp)
      refine RL.nil ?_
      exact ⟨rfl, v26, v20, v23, v24, ⟨hv.1, hv.2.1, hv.2.2.1, hv.2.2.2.1, hv.2.2.2.2.1, hv.2.2.2.2.2.1, hv.2.2.2.2.2.2.1, fun _ => rfl, hv.2.2.2.2.2.2.2.2.1, hv.2.2.2.2.2.2.2.2.2.1, hv.2.2.2.2.2.2.2.2.2.2.1, hv.2.2.2.2.2.2.2.2.2.2.2.1, hv.2.2.2.2.2.2.2.2.2.2.2.2.1, hv.2.2.2.2.2.2.2.2.2.2.2.2.2.1, hv.2.2.2.2.2.2.2.2.2.2.2.2.2.2.1, hv.2.2.2.2.2.2.2.2.2.2.2.2.2.2.2.1, hv.2.2.2.2.2.2.2.2.2.2.2.2.2.2.2.2.1, hv.2.2.2.2.2.2.2.2.2.2.2.2.2.2.2.2.2.1, hv.2.2.2.2.2.2.2.2.2.2.2.2.2.2.2.2.2.2.1, trivial⟩, ha, hw⟩
    · intro D σ w hD hdep hJ
      obtain ⟨v19, v20, v23, v24, hv, ha, hw⟩ := hJ
      have ha2 : agree σ [(19, v19), (14, (.bool (decide (x2 ≥ 0)))), (0, v0), (1, v1), (5, (.pointer (some ⟨b1, 0, none⟩))), (7, (.int .i64 x2))] := ⟨hv.2.2.2.2.2.2.2.1 (hdep.1 rfl), hv.2.2.1 (hdep.2.1 rfl), ha.1, ha.2.1, ha.2.2.1, ha.2.2.2.1, trivial⟩
      obtain ⟨τ, rfl⟩ := ha2.ups
      refine RL.fa_pt (i := 0) (f := fun (x : Part) => x.Type_) ⟨_, rfl, congrArg Value.bool hg17⟩ rfl hw rfl (ent_t (hdep.1 rfl)) fa87_1 fd_Part_1 fun v27 hw => ?_
      have hw := hw.fillat 0 1 1 rfl rfl rfl (by simp)
      refine RL.nil ?_
      exact ⟨rfl, v19, v27, v23, v24, ⟨hv.1, hv.2.1, hv.2.2.1, hv.2.2.2.1, hv.2.2.2.2.1, hv.2.2.2.2.2.1, hv.2.2.2.2.2.2.1, hv.2.2.2.2.2.2.2.1, fun _ => rfl, hv.2.2.2.2.2.2.2.2.2.1, hv.2.2.2.2.2.2.2.2.2.2.1, hv.2.2.2.2.2.2.2.2.2.2.2.1, hv.2.2.2.2.2.2.2.2.2.2.2.2.1, hv.2.2.2.2.2.2.2.2.2.2.2.2.2.1, hv.2.2.2.2.2.2.2.2.2.2.2.2.2.2.1, hv.2.2.2.2.2.2.2.2.2.2.2.2.2.2.2.1, hv.2.2.2.2.2.2.2.2.2.2.2.2.2.2.2.2.1, hv.2.2.2.2.2.2.2.2.2.2.2.2.2.2.2.2.2.1, hv.2.2.2.2.2.2.2.2.2.2.2.2.2.2.2.2.2.2.1, trivial⟩, ha, hw⟩
    · intro D σ w hD hdep hJ
      obtain ⟨v19, v20, v23, v24, hv, ha, hw⟩ := hJ
      have ha2 : agree σ [(20, v20), (14, (.bool (decide (x2 ≥ 0)))), (0, v0), (1, v1), (5, (.pointer (some ⟨b1, 0, none⟩))), (7, (.int .i64 x2))] := ⟨hv.2.2.2.2.2.2.2.2.1 (hdep.1 rfl), hv.2.2.1 (hdep.2.1 rfl), ha.1, ha.2.1, ha.2.2.1, ha.2.2.2.1, trivial⟩
      obtain ⟨τ, rfl⟩ := ha2.ups
      refine RL.load_pts (i := 1) (y := x18.Type_) ⟨_, rfl, congrArg Value.bool hg17⟩ rfl hw rfl (ent_t (hdep.1 rfl)) ty9 ?_
      refine RL.nil ?_
      exact ⟨rfl, v19, v20, v23, v24, ⟨hv.1, hv.2.1, hv.2.2.1, hv.2.2.2.1, hv.2.2.2.2.1, hv.2.2.2.2.2.1, hv.2.2.2.2.2.2.1, hv.2.2.2.2.2.2.2.1, hv.2.2.2.2.2.2.2.2.1, fun _ => rfl, hv.2.2.2.2.2.2.2.2.2.2.1, hv.2.2.2.2.2.2.2.2.2.2.2.1, hv.2.2.2.2.2.2.2.2.2.2.2.2.1, hv.2.2.2.2.2.2.2.2.2.2.2.2.2.1, hv.2.2.2.2.2.2.2.2.2.2.2.2.2.2.1, hv.2.2.2.2.2.2.2.2.2.2.2.2.2.2.2.1, hv.2.2.2.2.2.2.2.2.2.2.2.2.2.2.2.2.1, hv.2.2.2.2.2.2.2.2.2.2.2.2.2.2.2.2.2.1, hv.2.2.2.2.2.2.2.2.2.2.2.2.2.2.2.2.2.2.1, trivial⟩, ha, hw⟩
    · intro D σ w hD hdep hJ
      obtain ⟨v19, v20, v23, v24, hv, ha, hw⟩ := hJ
      have ha2 : agree σ [(16, v0), (21, (str x18.Type_)), (14, (.bool (decide (x2 ≥ 0)))), (0, v0), (1, v1), (5, (.pointer (some ⟨b1, 0, none⟩))), (7, (.int .i64 x2))] := ⟨hv.2.2.2.2.1 (hdep.1 rfl), hv.2.2.2.2.2.2.2.2.2.1 (hdep.2.1 rfl), hv.2.2.1 (hdep.2.2.1 rfl), ha.1, ha.2.1, ha.2.2.1, ha.2.2.2.1, trivial⟩
      obtain ⟨τ, rfl⟩ := ha2.ups
      refine RL.call ⟨_, rfl, congrArg Value.bool hg17⟩ rfl fn50 [v0, (str x18.Type_)] rfl (Calls_ret (netlist_TypeAt_ok N (p1 := x18.Type_) (i0 := 7) hw rfl hx21) ?_)
      rintro _ w ⟨rfl, hw⟩
      refine RL.nil ?_
      exact ⟨rfl, v19, v20, v23, v24, ⟨hv.1, hv.2.1, hv.2.2.1, hv.2.2.2.1, hv.2.2.2.2.1, hv.2.2.2.2.2.1, hv.2.2.2.2.2.2.1, hv.2.2.2.2.2.2.2.1, hv.2.2.2.2.2.2.2.2.1, hv.2.2.2.2.2.2.2.2.2.1, fun _ => rfl, hv.2.2.2.2.2.2.2.2.2.2.2.1, hv.2.2.2.2.2.2.2.2.2.2.2.2.1, hv.2.2.2.2.2.2.2.2.2.2.2.2.2.1, hv.2.2.2.2.2.2.2.2.2.2.2.2.2.2.1, hv.2.2.2.2.2.2.2.2.2.2.2.2.2.2.2.1, hv.2.2.2.2.2.2.2.2.2.2.2.2.2.2.2.2.1, hv.2.2.2.2.2.2.2.2.2.2.2.2.2.2.2.2.2.1, hv.2.2.2.2.2.2.2.2.2.2.2.2.2.2.2.2.2.2.1, trivial⟩, ha, hw⟩
    · intro D σ w hD hdep hJ
      obtain ⟨v19, v20, v23, v24, hv, ha, hw⟩ := hJ
      have ha2 : agree σ [(15, v0), (22, (.int .i64 x21)), (14, (.bool (decide (x2 ≥ 0)))), (0, v0), (1, v1), (5, (.pointer (some ⟨b1, 0, none⟩))), (7, (.int .i64 x2))] := ⟨hv.2.2.2.1 (hdep.1 rfl), hv.2.2.2.2.2.2.2.2.2.2.1 (hdep.2.1 rfl), hv.2.2.1 (hdep.2.2.1 rfl), ha.1, ha.2.1, ha.2.2.1, ha.2.2.2.1, trivial⟩
      obtain ⟨τ, rfl⟩ := ha2.ups
      refine RL.ia_rd (i := 7) ⟨_, rfl, congrArg Value.bool hg17⟩ rfl hw rfl rfl rfl sl22 hx22 fun v28 hw => ?_
      have hw := hw.fillat 0 1 2 rfl rfl rfl (by simp)
      refine RL.nil ?_
      exact ⟨rfl, v19, v20, v28, v24, ⟨hv.1, hv.2.1, hv.2.2.1, hv.2.2.2.1, hv.2.2.2.2.1, hv.2.2.2.2.2.1, hv.2.2.2.2.2.2.1, hv.2.2.2.2.2.2.2.1, hv.2.2.2.2.2.2.2.2.1, hv.2.2.2.2.2.2.2.2.2.1, hv.2.2.2.2.2.2.2.2.2.2.1, fun _ => rfl, hv.2.2.2.2.2.2.2.2.2.2.2.2.1, hv.2.2.2.2.2.2.2.2.2.2.2.2.2.1, hv.2.2.2.2.2.2.2.2.2.2.2.2.2.2.1, hv.2.2.2.2.2.2.2.2.2.2.2.2.2.2.2.1, hv.2.2.2.2.2.2.2.2.2.2.2.2.2.2.2.2.1, hv.2.2.2.2.2.2.2.2.2.2.2.2.2.2.2.2.2.1, hv.2.2.2.2.2.2.2.2.2.2.2.2.2.2.2.2.2.2.1, trivial⟩, ha, hw⟩
    · intro D σ w hD hdep hJ
      obtain ⟨v19, v20, v23, v24, hv, ha, hw⟩ := hJ
      have ha2 : agree σ [(23, v23), (14, (.bool (decide (x2 ≥ 0)))), (0, v0), (1, v1), (5, (.pointer (some ⟨b1, 0, none⟩))), (7, (.int .i64 x2))] := ⟨hv.2.2.2.2.2.2.2.2.2.2.2.1 (hdep.1 rfl), hv.2.2.1 (hdep.2.1 rfl), ha.1, ha.2.1, ha.2.2.1, ha.2.2.2.1, trivial⟩
      obtain ⟨τ, rfl⟩ := ha2.ups
      refine RL.load_pt (i := 2) (x := x22) ⟨_, rfl, congrArg Value.bool hg17⟩ rfl hw rfl (ent_t (hdep.1 rfl)) ty85 fun v29 hw => ?_
      have hw := hw.fillat 0 1 3 rfl rfl rfl (by simp)
      refine RL.nil ?_
      exact ⟨rfl, v19, v20, v23, v29, ⟨hv.1, hv.2.1, hv.2.2.1, hv.2.2.2.1, hv.2.2.2.2.1, hv.2.2.2.2.2.1, hv.2.2.2.2.2.2.1, hv.2.2.2.2.2.2.2.1, hv.2.2.2.2.2.2.2.2.1, hv.2.2.2.2.2.2.2.2.2.1, hv.2.2.2.2.2.2.2.2.2.2.1, hv.2.2.2.2.2.2.2.2.2.2.2.1, fun _ => rfl, hv.2.2.2.2.2.2.2.2.2.2.2.2.2.1, hv.2.2.2.2.2.2.2.2.2.2.2.2.2.2.1, hv.2.2.2.2.2.2.2.2.2.2.2.2.2.2.2.1, hv.2.2.2.2.2.2.2.2.2.2.2.2.2.2.2.2.1, hv.2.2.2.2.2.2.2.2.2.2.2.2.2.2.2.2.2.1, hv.2.2.2.2.2.2.2.2.2.2.2.2.2.2.2.2.2.2.1, trivial⟩, ha, hw⟩
    · intro D σ w hD hdep hJ
      obtain ⟨v19, v20, v23, v24, hv, ha, hw⟩ := hJ
      have ha2 : agree σ [(14, (.bool (decide (x2 ≥ 0)))), (0, v0), (1, v1), (5, (.pointer (some ⟨b1, 0, none⟩))), (7, (.int .i64 x2))] := ⟨hv.2.2.1 (hdep.1 rfl), ha.1, ha.2.1, ha.2.2.1, ha.2.2.2.1, trivial⟩
      obtain ⟨τ, rfl⟩ := ha2.ups
      refine RL.fa_b ⟨_, rfl, congrArg Value.bool hg17⟩ rfl rfl fa28_1 ?_
      refine RL.nil ?_
      exact ⟨rfl, v19, v20, v23, v24, ⟨hv.1, hv.2.1, hv.2.2.1, hv.2.2.2.1, hv.2.2.2.2.1, hv.2.2.2.2.2.1, hv.2.2.2.2.2.2.1, hv.2.2.2.2.2.2.2.1, hv.2.2.2.2.2.2.2.2.1, hv.2.2.2.2.2.2.2.2.2.1, hv.2.2.2.2.2.2.2.2.2.2.1, hv.2.2.2.2.2.2.2.2.2.2.2.1, hv.2.2.2.2.2.2.2.2.2.2.2.2.1, fun _ => rfl, hv.2.2.2.2.2.2.2.2.2.2.2.2.2.2.1, hv.2.2.2.2.2.2.2.2.2.2.2.2.2.2.2.1, hv.2.2.2.2.2.2.2.2.2.2.2.2.2.2.2.2.1, hv.2.2.2.2.2.2.2.2.2.2.2.2.2.2.2.2.2.1, hv.2.2.2.2.2.2.2.2.2.2.2.2.2.2.2.2.2.2.1, trivial⟩, ha, hw⟩
    · intro D σ w hD hdep hJ
      obtain ⟨v19, v20, v23, v24, hv, ha, hw⟩ := hJ
      have ha2 : agree σ [(25, (.pointer (some ⟨b1, 1, none⟩))), (14, (.bool (decide (x2 ≥ 0)))), (0, v0), (1, v1), (5, (.pointer (some ⟨b1, 0, none⟩))), (7, (.int .i64 x2))] := ⟨hv.2.2.2.2.2.2.2.2.2.2.2.2.2.1 (hdep.1 rfl), hv.2.2.1 (hdep.2.1 rfl), ha.1, ha.2.1, ha.2.2.1, ha.2.2.2.1, trivial⟩
      obtain ⟨τ, rfl⟩ := ha2.ups
      refine RL.load_bfs (i := 4) (f := (fun x => x.Pin)) ⟨_, rfl, congrArg Value.bool hg17⟩ rfl hw rfl rfl fd_Pin_1 ty9 ?_
      refine RL.nil ?_
      exact ⟨rfl, v19, v20, v23, v24, ⟨hv.1, hv.2.1, hv.2.2.1, hv.2.2.2.1, hv.2.2.2.2.1, hv.2.2.2.2.2.1, hv.2.2.2.2.2.2.1, hv.2.2.2.2.2.2.2.1, hv.2.2.2.2.2.2.2.2.1, hv.2.2.2.2.2.2.2.2.2.1, hv.2.2.2.2.2.2.2.2.2.2.1, hv.2.2.2.2.2.2.2.2.2.2.2.1, hv.2.2.2.2.2.2.2.2.2.2.2.2.1, hv.2.2.2.2.2.2.2.2.2.2.2.2.2.1, fun _ => rfl, hv.2.2.2.2.2.2.2.2.2.2.2.2.2.2.2.1, hv.2.2.2.2.2.2.2.2.2.2.2.2.2.2.2.2.1, hv.2.2.2.2.2.2.2.2.2.2.2.2.2.2.2.2.2.1, hv.2.2.2.2.2.2.2.2.2.2.2.2.2.2.2.2.2.2.1, trivial⟩, ha, hw⟩
    · intro D σ w hD hdep hJ
      obtain ⟨v19, v20, v23, v24, hv, ha, hw⟩ := hJ
      have ha2 : agree σ [(24, v24), (26, (str p2.Pin)), (22, (.int .i64 x21)), (14, (.bool (decide (x2 ≥ 0)))), (0, v0), (1, v1), (5, (.pointer (some ⟨b1, 0, none⟩))), (7, (.int .i64 x2))] := ⟨hv.2.2.2.2.2.2.2.2.2.2.2.2.1 (hdep.1 rfl), hv.2.2.2.2.2.2.2.2.2.2.2.2.2.2.1 (hdep.2.1 rfl), hv.2.2.2.2.2.2.2.2.2.2.1 (hdep.2.2.1 rfl), hv.2.2.1 (hdep.2.2.2.1 rfl), ha.1, ha.2.1, ha.2.2.1, ha.2.2.2.1, trivial⟩
      obtain ⟨τ, rfl⟩ := ha2.ups
      refine RL.call ⟨_, rfl, congrArg Value.bool hg17⟩ rfl fn52 [v24, (str p2.Pin)] rfl (Calls_ret (netlist_PinAt_ok N (p1 := p2.Pin) (i0 := 3) hw (ent_t (hdep.1 rfl)) hx25) ?_)
      rintro _ w ⟨rfl, hw⟩
      refine RL.nil ?_
      exact ⟨rfl, v19, v20, v23, v24, ⟨hv.1, hv.2.1, hv.2.2.1, hv.2.2.2.1, hv.2.2.2.2.1, hv.2.2.2.2.2.1, hv.2.2.2.2.2.2.1, hv.2.2.2.2.2.2.2.1, hv.2.2.2.2.2.2.2.2.1, hv.2.2.2.2.2.2.2.2.2.1, hv.2.2.2.2.2.2.2.2.2.2.1, hv.2.2.2.2.2.2.2.2.2.2.2.1, hv.2.2.2.2.2.2.2.2.2.2.2.2.1, hv.2.2.2.2.2.2.2.2.2.2.2.2.2.1, hv.2.2.2.2.2.2.2.2.2.2.2.2.2.2.1, fun _ => rfl, hv.2.2.2.2.2.2.2.2.2.2.2.2.2.2.2.2.1, hv.2.2.2.2.2.2.2.2.2.2.2.2.2.2.2.2.2.1, hv.2.2.2.2.2.2.2.2.2.2.2.2.2.2.2.2.2.2.1, trivial⟩, ha, hw⟩
    · intro D σ w hD hdep hJ
      obtain ⟨v19, v20, v23, v24, hv, ha, hw⟩ := hJ
      have ha2 : agree σ [(27, (.int .i64 x25)), (14, (.bool (decide (x2 ≥ 0)))), (0, v0), (1, v1), (5, (.pointer (some ⟨b1, 0, none⟩))), (7, (.int .i64 x2))] := ⟨hv.2.2.2.2.2.2.2.2.2.2.2.2.2.2.2.1 (hdep.1 rfl), hv.2.2.1 (hdep.2.1 rfl), ha.1, ha.2.1, ha.2.2.1, ha.2.2.2.1, trivial⟩
      obtain ⟨τ, rfl⟩ := ha2.ups
      refine RL.icmp (a := x25) (b := 0) ⟨_, rfl, congrArg Value.bool hg17⟩ rfl rfl rfl rfl ?_
      refine RL.nil ?_
      exact ⟨rfl, v19, v20, v23, v24, ⟨hv.1, hv.2.1, hv.2.2.1, hv.2.2.2.1, hv.2.2.2.2.1, hv.2.2.2.2.2.1, hv.2.2.2.2.2.2.1, hv.2.2.2.2.2.2.2.1, hv.2.2.2.2.2.2.2.2.1, hv.2.2.2.2.2.2.2.2.2.1, hv.2.2.2.2.2.2.2.2.2.2.1, hv.2.2.2.2.2.2.2.2.2.2.2.1, hv.2.2.2.2.2.2.2.2.2.2.2.2.1, hv.2.2.2.2.2.2.2.2.2.2.2.2.2.1, hv.2.2.2.2.2.2.2.2.2.2.2.2.2.2.1, hv.2.2.2.2.2.2.2.2.2.2.2.2.2.2.2.1, fun _ => rfl, hv.2.2.2.2.2.2.2.2.2.2.2.2.2.2.2.2.2.1, hv.2.2.2.2.2.2.2.2.2.2.2.2.2.2.2.2.2.2.1, trivial⟩, ha, hw⟩
    · intro D σ w hD hdep hJ
      obtain ⟨v19, v20, v23, v24, hv, ha, hw⟩ := hJ
      have ha2 : agree σ [(14, (.bool (decide (x2 ≥ 0)))), (28, (.bool (decide (x25 ≥ 0)))), (0, v0), (1, v1), (5, (.pointer (some ⟨b1, 0, none⟩))), (7, (.int .i64 x2))] := ⟨hv.2.2.1 (hdep.1 rfl), hv.2.2.2.2.2.2.2.2.2.2.2.2.2.2.2.2.1 (hdep.2.1 rfl), ha.1, ha.2.1, ha.2.2.1, ha.2.2.2.1, trivial⟩
      obtain ⟨τ, rfl⟩ := ha2.ups
      refine RL.pick (b := (decide (x2 ≥ 0))) (v := (.bool (decide (x25 ≥ 0)))) trivial rfl rfl (by rw [hg17]; rfl) ?_
      refine RL.nil ?_
      exact ⟨rfl, v19, v20, v23, v24, ⟨hv.1, hv.2.1, hv.2.2.1, hv.2.2.2.1, hv.2.2.2.2.1, hv.2.2.2.2.2.1, hv.2.2.2.2.2.2.1, hv.2.2.2.2.2.2.2.1, hv.2.2.2.2.2.2.2.2.1, hv.2.2.2.2.2.2.2.2.2.1, hv.2.2.2.2.2.2.2.2.2.2.1, hv.2.2.2.2.2.2.2.2.2.2.2.1, hv.2.2.2.2.2.2.2.2.2.2.2.2.1, hv.2.2.2.2.2.2.2.2.2.2.2.2.2.1, hv.2.2.2.2.2.2.2.2.2.2.2.2.2.2.1, hv.2.2.2.2.2.2.2.2.2.2.2.2.2.2.2.1, hv.2.2.2.2.2.2.2.2.2.2.2.2.2.2.2.2.1, fun _ => rfl, hv.2.2.2.2.2.2.2.2.2.2.2.2.2.2.2.2.2.2.1, trivial⟩, ha, hw⟩
    · intro D σ w hD hdep hJ
      obtain ⟨v19, v20, v23, v24, hv, ha, hw⟩ := hJ
      have ha2 : agree σ [(29, (.bool (decide (x25 ≥ 0)))), (27, (.int .i64 x25)), (12, (.int .i64 x2)), (13, (.bool (decide (x2 ≥ 0)))), (14, (.bool (decide (x2 ≥ 0)))), (15, v0), (16, v0), (17, v1), (18, (.int .i64 x2)), (19, v19), (20, v20), (21, (str x18.Type_)), (22, (.int .i64 x21)), (23, v23), (24, v24), (25, (.pointer (some ⟨b1, 1, none⟩))), (26, (str p2.Pin)), (28, (.bool (decide (x25 ≥ 0)))), (0, v0), (1, v1), (5, (.pointer (some ⟨b1, 0, none⟩))), (7, (.int .i64 x2))] := ⟨hv.2.2.2.2.2.2.2.2.2.2.2.2.2.2.2.2.2.1 (hdep.1 rfl), hv.2.2.2.2.2.2.2.2.2.2.2.2.2.2.2.1 (hdep.2.1 rfl), hv.1 (hdep.2.2.1 rfl), hv.2.1 (hdep.2.2.2.1 rfl), hv.2.2.1 (hdep.2.2.2.2.1 rfl), hv.2.2.2.1 (hdep.2.2.2.2.2.1 rfl), hv.2.2.2.2.1 (hdep.2.2.2.2.2.2.1 rfl), hv.2.2.2.2.2.1 (hdep.2.2.2.2.2.2.2.1 rfl), hv.2.2.2.2.2.2.1 (hdep.2.2.2.2.2.2.2.2.1 rfl), hv.2.2.2.2.2.2.2.1 (hdep.2.2.2.2.2.2.2.2.2.1 rfl), hv.2.2.2.2.2.2.2.2.1 (hdep.2.2.2.2.2.2.2.2.2.2.1 rfl), hv.2.2.2.2.2.2.2.2.2.1 (hdep.2.2.2.2.2.2.2.2.2.2.2.1 rfl), hv.2.2.2.2.2.2.2.2.2.2.1 (hdep.2.2.2.2.2.2.2.2.2.2.2.2.1 rfl), hv.2.2.2.2.2.2.2.2.2.2.2.1 (hdep.2.2.2.2.2.2.2.2.2.2.2.2.2.1 rfl), hv.2.2.2.2.2.2.2.2.2.2.2.2.1 (hdep.2.2.2.2.2.2.2.2.2.2.2.2.2.2.1 rfl), hv.2.2.2.2.2.2.2.2.2.2.2.2.2.1 (hdep.2.2.2.2.2.2.2.2.2.2.2.2.2.2.2.1 rfl), hv.2.2.2.2.2.2.2.2.2.2.2.2.2.2.1 (hdep.2.2.2.2.2.2.2.2.2.2.2.2.2.2.2.2.1 rfl), hv.2.2.2.2.2.2.2.2.2.2.2.2.2.2.2.2.1 (hdep.2.2.2.2.2.2.2.2.2.2.2.2.2.2.2.2.2.2.1 rfl), ha.1, ha.2.1, ha.2.2.1, ha.2.2.2.1, trivial⟩
      obtain ⟨τ, rfl⟩ := ha2.ups
      refine RL.assign (v := (.bool (decide (x25 ≥ 0)))) trivial rfl rfl ?_
      refine RL.nil ?_
      exact ⟨rfl, v19, v20, v23, v24, ⟨hv.1, hv.2.1, hv.2.2.1, hv.2.2.2.1, hv.2.2.2.2.1, hv.2.2.2.2.2.1, hv.2.2.2.2.2.2.1, hv.2.2.2.2.2.2.2.1, hv.2.2.2.2.2.2.2.2.1, hv.2.2.2.2.2.2.2.2.2.1, hv.2.2.2.2.2.2.2.2.2.2.1, hv.2.2.2.2.2.2.2.2.2.2.2.1, hv.2.2.2.2.2.2.2.2.2.2.2.2.1, hv.2.2.2.2.2.2.2.2.2.2.2.2.2.1, hv.2.2.2.2.2.2.2.2.2.2.2.2.2.2.1, hv.2.2.2.2.2.2.2.2.2.2.2.2.2.2.2.1, hv.2.2.2.2.2.2.2.2.2.2.2.2.2.2.2.2.1, hv.2.2.2.2.2.2.2.2.2.2.2.2.2.2.2.2.2.1, fun _ => rfl, trivial⟩, ha, hw⟩
    intro D σ w hall hJ
    obtain ⟨v19, v20, v23, v24, hv, ha, hw⟩ := hJ
    rw [hall 7 (by decide)] at hw
    rw [hall 8 (by decide)] at hw
    rw [hall 11 (by decide)] at hw
    rw [hall 12 (by decide)] at hw
    have ha2 : agree σ [(6, (.bool (decide (x25 ≥ 0)))), (0, v0), (1, v1), (5, (.pointer (some ⟨b1, 0, none⟩))), (7, (.int .i64 x2))] := ⟨hv.2.2.2.2.2.2.2.2.2.2.2.2.2.2.2.2.2.2.1 (hall 18 (by decide)), ha.1, ha.2.1, ha.2.2.1, ha.2.2.2.1, trivial⟩
    obtain ⟨τ, rfl⟩ := ha2.ups
    injection hj with hj; subst hj
    exact ⟨rfl, ⟨rfl, trivial⟩, hw.pick 8 [] (new := []) rfl rfl (by decide) (by decide)⟩
  rintro σ w ⟨ha, hw⟩
  obtain ⟨τ, rfl⟩ := ha.ups
  refine thenQ_n ?_
  refine RC.ret ?_
  injection hb with hb; subst hb
  exact fin1 rfl rfl ⟨rfl, hw.drop 0 rfl⟩
def netlist_CheckList_c1_R (E : World) (Γ : List HP) (res : Bool) (v : Value) (w : World) : Prop := v = (.bool res) ∧ Holds E w Γ
def netlist_CheckList_c1_K (E : World) (Γ : List HP) (r : Bool) (σ : Nat → Value) (w : World) : Prop := finQ Tryd.prog 10 Tryd.f44 (netlist_CheckList_c1_R E Γ r) .ret σ w
theorem netlist_CheckList_c1_ok (N : Nat) {E w : World} {Γ : List HP} {i0 : Nat} {v0 : Value} {p0 : Pin} {i1 : Nat} {v1 : Value} {p1 : (List PartType)} {i2 : Nat} {v2 : Value} {p2 : Netlist} {res : Bool} (hw : Holds E w Γ) (h0 : Γ[i0]? = some (rd v0 p0)) (h1 : Γ[i1]? = some (pt v1 p1)) (h2 : Γ[i2]? = some (pt v2 p2)) (hb : netlist_CheckList_c1 N p0 p1 p2 = some res) :
    Calls Tryd.prog 44 [v0, v1, v2].toArray w (Ret (netlist_CheckList_c1_R E Γ res)) := by
  unfold netlist_CheckList_c1 at hb
  refine enter Tryd.func44 rfl rfl (Nat.le_of_ble_eq_true rfl) ?_
  have hw := hw.dup (i := i0 + 0) h0
  have hw := hw.dup_pt (i := i1 + 1) h1
  have hw := hw.dup_pt (i := i2 + 2) h2
  refine RC.seq ?_
  refine RC.region ?_
  refine RL.box_rd (i := 2) (v := v0) trivial rfl hw rfl rfl fun b1 w hw => ?_
  refine RL.assign (v := (.bool false)) trivial rfl rfl ?_
  refine RL.nil ?_
  refine thenQ_n ?_
  refine RC.seq ?_
  refine RC.region ?_
  refine RL.load_pt (i := 2) (x := p1) trivial rfl hw rfl rfl ty22 fun v2 hw => ?_
  refine RL.fa_pt (i := 2) (f := fun (x : Netlist) => x.Parts) trivial rfl hw rfl rfl fa26_0 fd_Netlist_0 fun v3 hw => ?_
  refine RL.load_pt (i := 0) (x := p2.Parts) trivial rfl hw rfl rfl ty23 fun v4 hw => ?_
  refine RL.load_bf (i := 3) (f := (fun x => x)) trivial rfl hw rfl rfl Fd.self ty28 fun v5 hw => ?_
  obtain ⟨x6, hx6, hb⟩ := bd hb
  refine RL.call trivial rfl fn36 [v2, v4, v5] rfl (Calls_ret (netlist_hasPin_ok N  (i0 := 3) (i1 := 1) (i2 := 0) hw rfl rfl rfl hx6) ?_)
  rintro _ w ⟨rfl, hw⟩
  refine RL.assign (v := (.bool x6)) trivial rfl rfl ?_
  refine RL.nil ?_
  refine thenQ_n ?_
  refine RC.ret ?_
  injection hb with hb; subst hb
  exact fin1 rfl rfl ⟨rfl, hw.drop 8 rfl⟩
def netlist_ComparePins_R (E : World) (Γ : List HP) (res : Int) (v : Value) (w : World) : Prop := v = (.int .i64 res) ∧ Holds E w Γ
def netlist_ComparePins_K (E : World) (Γ : List HP) (r : Int) (σ : Nat → Value) (w : World) : Prop := finQ Tryd.prog 19 Tryd.f100 (netlist_ComparePins_R E Γ r) .ret σ w
theorem netlist_ComparePins_ok (N : Nat) {E w : World} {Γ : List HP} {i0 : Nat} {v0 : Value} {p0 : Pin} {i1 : Nat} {v1 : Value} {p1 : Pin} {res : Int} (hw : Holds E w Γ) (h0 : Γ[i0]? = some (rd v0 p0)) (h1 : Γ[i1]? = some (rd v1 p1)) (hb : netlist_ComparePins N p0 p1 = some res) :
    Calls Tryd.prog 100 [v0, v1].toArray w (Ret (netlist_ComparePins_R E Γ res)) := by
  unfold netlist_ComparePins at hb
  refine enter Tryd.func100 rfl rfl (Nat.le_of_ble_eq_true rfl) ?_
  have hw := hw.dup (i := i0 + 0) h0
  have hw := hw.dup (i := i1 + 1) h1
  refine RC.seq ?_
  refine RC.region ?_
  refine RL.box_rd (i := 1) (v := v0) trivial rfl hw rfl rfl fun b1 w hw => ?_
  refine RL.box_rd (i := 1) (v := v1) trivial rfl hw rfl rfl fun b2 w hw => ?_
  refine RL.assign (v := (.int .i64 0)) trivial rfl rfl ?_
  refine RL.nil ?_
  refine thenQ_n ?_
  refine RC.seq ?_
  refine RC.seq ?_
  refine RC.region ?_
  refine RL.fa_b trivial rfl rfl fa28_0 ?_
  refine RL.load_bfs (i := 1) (f := (fun x => x.Part)) trivial rfl hw rfl rfl fd_Pin_0 ty9 ?_
  refine RL.fa_b trivial rfl rfl fa28_0 ?_
  refine RL.load_bfs (i := 0) (f := (fun x => x.Part)) trivial rfl hw rfl rfl fd_Pin_0 ty9 ?_
  obtain ⟨x3, hx3, hb⟩ := bd hb
  refine RL.call trivial rfl fn107 [(str p0.Part), (str p1.Part)] rfl (Calls_ret (strings_Compare_ok N (p0 := p0.Part) (p1 := p1.Part)  hw  hx3) ?_)
  rintro _ w ⟨rfl, hw⟩
  refine RL.assign (v := (.int .i64 x3)) trivial rfl rfl ?_
  refine RL.nil ?_
  refine thenQ_n ?_
  refine RC.seq ?_
  refine RC.region ?_
  refine RL.move (v := (.int .i64 x3)) trivial rfl rfl ?_
  refine RL.icmp (a := x3) (b := 0) trivial rfl rfl rfl rfl ?_
  refine RL.nil ?_
  refine thenQ_n ?_
  refine RC.cond (b := (x3 != 0)) rfl (fun hc => ?_) (fun hc => ?_)
  · replace hb := cT hc hb
    refine RC.seq ?_
    refine RC.region ?_
    refine RL.move (v := (.int .i64 x3)) trivial rfl rfl ?_
    refine RL.assign (v := (.int .i64 x3)) trivial rfl rfl ?_
    refine RL.nil ?_
    refine thenQ_n ?_
    refine RC.ret ?_
    refine thenQ_r ?_
    injection hb with hb; subst hb
    exact fin1 rfl rfl ⟨rfl, hw.drop 4 rfl⟩
  replace hb := cF hc hb
  refine RC.skip ?_
  refine thenQ_n ?_
  refine RC.seq ?_
  refine RC.region ?_
  refine RL.fa_b trivial rfl rfl fa28_1 ?_
  refine RL.load_bfs (i := 1) (f := (fun x => x.Pin)) trivial rfl hw rfl rfl fd_Pin_1 ty9 ?_
  refine RL.fa_b trivial rfl rfl fa28_1 ?_
  refine RL.load_bfs (i := 0) (f := (fun x => x.Pin)) trivial rfl hw rfl rfl fd_Pin_1 ty9 ?_
  obtain ⟨x4, hx4, hb⟩ := bd hb
  refine RL.call trivial rfl fn107 [(str p0.Pin), (str p1.Pin)] rfl (Calls_ret (strings_Compare_ok N (p0 := p0.Pin) (p1 := p1.Pin)  hw  hx4) ?_)
  rintro _ w ⟨rfl, hw⟩
  refine RL.assign (v := (.int .i64 x4)) trivial rfl rfl ?_
  refine RL.nil ?_
  refine thenQ_n ?_
  refine RC.ret ?_
  injection hb with hb; subst hb
  exact fin1 rfl rfl ⟨rfl, hw.drop 4 rfl⟩
def netlist_checkNetPins_R (E : World) (Γ : List HP) (v2 : Value) (res : Int × (List (Pin × Bool))) (v : Value) (w : World) : Prop := v = (.int .i64 res.1) ∧ Holds E w (mp v2 res.2 :: Γ)
def netlist_checkNetPins_K (E : World) (Γ : List HP) (v2 : Value) (r : Int × (List (Pin × Bool))) (σ : Nat → Value) (w : World) : Prop := finQ Tryd.prog 53 Tryd.f43 (netlist_checkNetPins_R E Γ v2 r) .ret σ w
theorem netlist_checkNetPins_ok (N : Nat) {E w : World} {Γ : List HP} {i0 : Nat} {v0 : Value} {p0 : (List Pin)} {v1 : Value} {p1 : Pin → Option Bool} {v2 : Value} {p2 : (List (Pin × Bool))} {res : Int × (List (Pin × Bool))} (hw : Holds E w (mp v2 p2 :: Γ)) (h0 : Γ[i0]? = some (rd v0 p0)) (h1 : Fn1 Tryd.prog E Γ v1 p1 (fun (r : Bool) => Value.bool r)) (hb : netlist_checkNetPins N p0 p1 p2 = some res) :
    Calls Tryd.prog 43 [v0, v1, v2].toArray w (Ret (netlist_checkNetPins_R E Γ v2 res)) := by
  unfold netlist_checkNetPins at hb
  refine enter Tryd.func43 rfl rfl (Nat.le_of_ble_eq_true rfl) ?_
  have hw := hw.dup (i := i0 + 1) h0
  refine RC.seq ?_
  refine RC.region ?_
  refine RL.assign (v := (.int .i64 0)) trivial rfl rfl ?_
  refine RL.nil ?_
  refine thenQ_n ?_
  refine RC.seq ?_
  refine RC.seq ?_
  refine RC.region ?_
  refine RL.move (v := v0) trivial rfl rfl ?_
  refine RL.len_rd (i := 0) (l := p0) trivial rfl hw rfl rfl un33 ?_
  refine RL.icmp (a := ((p0.length : Nat) : Int)) (b := 500) trivial rfl rfl rfl rfl ?_
  refine RL.nil ?_
  refine thenQ_n ?_
  refine RC.cond (b := (decide (((p0.length : Nat) : Int) > 500))) rfl (fun hc => ?_) (fun hc => ?_)
  · replace hb := cT hc hb
    refine RC.seq ?_
    refine RC.region ?_
    refine RL.assign (v := (.int .i64 2)) trivial rfl rfl ?_
    refine RL.nil ?_
    refine thenQ_n ?_
    refine RC.ret ?_
    refine thenQ_r ?_
    injection hb with hb; subst hb
    exact fin1 rfl rfl ⟨rfl, hw.pick 2 [1] (new := [mp v2 p2]) rfl rfl (by decide) (by decide)⟩
  replace hb := cF hc hb
  refine RC.skip ?_
  refine thenQ_n ?_
  refine RC.seq ?_
  refine RC.seq ?_
  refine RC.region ?_
  refine RL.move (v := v0) trivial rfl rfl ?_
  refine RL.len_rd (i := 0) (l := p0) trivial rfl hw rfl rfl un33 ?_
  refine RL.move (v := (.int .i64 0)) trivial rfl rfl ?_
  refine RL.nil ?_
  refine thenQ_n ?_
  obtain ⟨o117, hN, hb⟩ := bd hb
  refine RC.range (fun (k1 : Nat) (s2 : Unit) (σ : Nat → Value) (w : World) => agree σ [(0, v0), (1, v1), (2, v2), (14, v0), (15, (.int .i64 ((p0.length : Nat) : Int))), (16, (.int .i64 ((k1 : Nat) : Int)))] ∧ Holds E w ([rd v0 p0, mp v2 p2] ++ Γ)) (fun (s2 : Unit) (σ : Nat → Value) (w : World) => agree σ [(0, v0), (2, v2)] ∧ Holds E w ([rd v0 p0, mp v2 p2] ++ Γ)) (netlist_checkNetPins_K E Γ v2) hN ?_ ?_ ?_ ?_ ?_ 
  · exact ⟨⟨rfl, rfl, rfl, rfl, rfl, rfl, trivial⟩, hw.pick 2 [0, 1] (new := [rd v0 p0, mp v2 p2]) rfl rfl (by decide) (by decide)⟩
  · intro hm s2 σ w hI
    obtain ⟨ha, hw⟩ := hI
    obtain ⟨τ, rfl⟩ := ha.ups
    refine RC.seq ?_
    refine RC.region ?_
    refine RL.icmp (a := ((p0.length : Nat) : Int)) (b := ((p0.length : Nat) : Int)) trivial rfl rfl rfl rfl ?_
    refine RL.nil ?_
    refine thenQ_n ?_
    refine RC.seq ?_
    refine RC.cond_f dge ?_
    refine RC.exit ?_
    refine thenQ_x ?_
    exact ⟨rfl, ⟨rfl, rfl, trivial⟩, hw.pick 2 [0, 1] (new := [rd v0 p0, mp v2 p2]) rfl rfl (by decide) (by decide)⟩
  · intro hm k1 s2 fl σ w hk hI hb
    obtain ⟨ha, hw⟩ := hI
    obtain ⟨τ, rfl⟩ := ha.ups
    refine RC.seq ?_
    refine RC.region ?_
    refine RL.icmp (a := ((k1 : Nat) : Int)) (b := ((p0.length : Nat) : Int)) trivial rfl rfl rfl rfl ?_
    refine RL.nil ?_
    refine thenQ_n ?_
    refine RC.seq ?_
    refine RC.cond_t (dlt hk) ?_
    refine RC.skip ?_
    refine thenQ_n ?_
    refine RC.seq ?_
    refine RC.block ?_
    refine RC.seq ?_
    refine RC.region ?_
    refine RL.move (v := (.int .i64 ((k1 : Nat) : Int))) trivial rfl rfl ?_
    obtain ⟨x51, hx51, hb⟩ := bd hb
    refine RL.ia_rd (i := 0) trivial rfl hw rfl rfl rfl sl33 hx51 fun v52 hw => ?_
    refine RL.load_pt (i := 0) (x := x51) trivial rfl hw rfl rfl ty28 fun v53 hw => ?_
    refine RL.alloc trivial rfl hw ze28.z fun b54 w hw => ?_
    refine RL.assign (v := (.int .i64 ((k1 : Nat) : Int))) trivial rfl rfl ?_
    refine RL.store_raw (i := 0) (j := 1) trivial hw rfl rfl rfl rfl ty28 rfl fun w hw => ?_
    refine RL.nil ?_
    refine thenQ_n ?_
    refine RC.block ?_
    refine RC.seq ?_
    refine RC.region ?_
    refine RL.move (v := v1) trivial rfl rfl ?_
    refine RL.load_bf (i := 0) (f := (fun x => x)) trivial rfl hw rfl rfl Fd.self ty28 fun v55 hw => ?_
    obtain ⟨x56, hx56, hb⟩ := bd hb
    refine RL.callF1 (i := 0) trivial rfl hw rfl h1 6 rfl rfl rfl hx56 fun w hw => ?_
    refine RL.not (b := x56) trivial rfl rfl ?_
    refine RL.assign (v := (.bool (!x56))) trivial rfl rfl ?_
    refine RL.nil ?_
    refine thenQ_n ?_
    refine RC.cond (b := (!x56)) rfl (fun hc => ?_) (fun hc => ?_)
    · replace hb := cT hc hb
      refine RC.seq ?_
      refine RC.region ?_
      refine RL.assign (v := (.int .i64 9)) trivial rfl rfl ?_
      refine RL.nil ?_
      refine thenQ_n ?_
      refine RC.ret ?_
      refine blkQ_r ?_
      refine blkQ_r ?_
      refine thenQ_r ?_
      injection hb with hb; subst hb
      exact ⟨rfl, fin1 rfl rfl ⟨rfl, hw.pick 6 [5] (new := [mp v2 p2]) rfl rfl (by decide) (by decide)⟩⟩
    replace hb := cF hc hb
    refine RC.seq ?_
    obtain ⟨s87, hj, hb⟩ := bd hb
    refine RC.jn (fun (s87 : Bool) (σ : Nat → Value) (w : World) => agree σ [(0, v0), (1, v1), (2, v2), (8, (.pointer (some ⟨b54, 0, none⟩))), (14, v0), (15, (.int .i64 ((p0.length : Nat) : Int))), (16, (.int .i64 ((k1 : Nat) : Int))), (26, (.bool s87))] ∧ Holds E w ([rd v0 p0, mp v2 p2, bx 28 b54 x51] ++ Γ)) s87 ?_ ?_
    · rcases Bool.eq_false_or_eq_true (decide (((k1 : Nat) : Int) > 0)) with hg88 | hg88
      rotate_left
      · replace hj := cF hg88 hj
        refine RC.draw mixed rfl (fun (D : Nat → Bool) (σ : Nat → Value) (w : World) => doneV D σ [(0, 27, (.int .i64 ((k1 : Nat) : Int))), (1, 28, (.bool (decide (((k1 : Nat) : Int) > 0)))), (2, 29, (.bool (decide (((k1 : Nat) : Int) > 0)))), (3, 30, undef), (4, 31, undef), (5, 32, undef), (6, 33, undef), (7, 34, undef), (8, 35, undef), (9, 36, undef), (10, 37, undef), (11, 38, (.bool false)), (12, 26, (.bool false))] ∧ agree σ [(0, v0), (1, v1), (2, v2), (7, (.int .i64 ((k1 : Nat) : Int))), (8, (.pointer (some ⟨b54, 0, none⟩))), (14, v0), (15, (.int .i64 ((p0.length : Nat) : Int))), (16, (.int .i64 ((k1 : Nat) : Int)))] ∧ Holds E w ([rd v55 x51, bx 28 b54 x51, rd v53 x51, pt v52 x51, rd v0 p0, mp v2 p2] ++ Γ)) ?_ ⟨?_, ?_, ?_, ?_, ?_, ?_, ?_, ?_, ?_, ?_, ?_, ?_, ?_, trivial⟩ ?_
        · have hw := hw.drew
          exact ⟨⟨(fun h => by cases h), (fun h => by cases h), (fun h => by cases h), (fun h => by cases h), (fun h => by cases h), (fun h => by cases h), (fun h => by cases h), (fun h => by cases h), (fun h => by cases h), (fun h => by cases h), (fun h => by cases h), (fun h => by cases h), (fun h => by cases h), trivial⟩, ⟨rfl, rfl, rfl, rfl, rfl, rfl, rfl, rfl, trivial⟩, hw⟩
        · intro D σ w hD hdep hJ
          obtain ⟨hv, ha, hw⟩ := hJ
          have ha2 : agree σ [(0, v0), (1, v1), (2, v2), (7, (.int .i64 ((k1 : Nat) : Int))), (8, (.pointer (some ⟨b54, 0, none⟩))), (14, v0), (15, (.int .i64 ((p0.length : Nat) : Int))), (16, (.int .i64 ((k1 : Nat) : Int)))] := ⟨ha.1, ha.2.1, ha.2.2.1, ha.2.2.2.1, ha.2.2.2.2.1, ha.2.2.2.2.2.1, ha.2.2.2.2.2.2.1, ha.2.2.2.2.2.2.2.1, trivial⟩
          obtain ⟨τ, rfl⟩ := ha2.ups
          refine RL.move (v := (.int .i64 ((k1 : Nat) : Int))) trivial rfl rfl ?_
          refine RL.nil ?_
          exact ⟨rfl, ⟨fun _ => rfl, hv.2.1, hv.2.2.1, hv.2.2.2.1, hv.2.2.2.2.1, hv.2.2.2.2.2.1, hv.2.2.2.2.2.2.1, hv.2.2.2.2.2.2.2.1, hv.2.2.2.2.2.2.2.2.1, hv.2.2.2.2.2.2.2.2.2.1, hv.2.2.2.2.2.2.2.2.2.2.1, hv.2.2.2.2.2.2.2.2.2.2.2.1, hv.2.2.2.2.2.2.2.2.2.2.2.2.1, trivial⟩, ha, hw⟩
        · intro D σ w hD hdep hJ
          obtain ⟨hv, ha, hw⟩ := hJ
          have ha2 : agree σ [(27, (.int .i64 ((k1 : Nat) : Int))), (0, v0), (1, v1), (2, v2), (7, (.int .i64 ((k1 : Nat) : Int))), (8, (.pointer (some ⟨b54, 0, none⟩))), (14, v0), (15, (.int .i64 ((p0.length : Nat) : Int))), (16, (.int .i64 ((k1 : Nat) : Int)))] := ⟨hv.1 (hdep.1 rfl), ha.1, ha.2.1, ha.2.2.1, ha.2.2.2.1, ha.2.2.2.2.1, ha.2.2.2.2.2.1, ha.2.2.2.2.2.2.1, ha.2.2.2.2.2.2.2.1, trivial⟩
          obtain ⟨τ, rfl⟩ := ha2.ups
          refine RL.icmp (a := ((k1 : Nat) : Int)) (b := 0) trivial rfl rfl rfl rfl ?_
          refine RL.nil ?_
          exact ⟨rfl, ⟨hv.1, fun _ => rfl, hv.2.2.1, hv.2.2.2.1, hv.2.2.2.2.1, hv.2.2.2.2.2.1, hv.2.2.2.2.2.2.1, hv.2.2.2.2.2.2.2.1, hv.2.2.2.2.2.2.2.2.1, hv.2.2.2.2.2.2.2.2.2.1, hv.2.2.2.2.2.2.2.2.2.2.1, hv.2.2.2.2.2.2.2.2.2.2.2.1, hv.2.2.2.2.2.2.2.2.2.2.2.2.1, trivial⟩, ha, hw⟩
        · intro D σ w hD hdep hJ
          obtain ⟨hv, ha, hw⟩ := hJ
          have ha2 : agree σ [(28, (.bool (decide (((k1 : Nat) : Int) > 0)))), (0, v0), (1, v1), (2, v2), (7, (.int .i64 ((k1 : Nat) : Int))), (8, (.pointer (some ⟨b54, 0, none⟩))), (14, v0), (15, (.int .i64 ((p0.length : Nat) : Int))), (16, (.int .i64 ((k1 : Nat) : Int)))] := ⟨hv.2.1 (hdep.1 rfl), ha.1, ha.2.1, ha.2.2.1, ha.2.2.2.1, ha.2.2.2.2.1, ha.2.2.2.2.2.1, ha.2.2.2.2.2.2.1, ha.2.2.2.2.2.2.2.1, trivial⟩
          obtain ⟨τ, rfl⟩ := ha2.ups
          refine RL.move (v := (.bool (decide (((k1 : Nat) : Int) > 0)))) trivial rfl rfl ?_
          refine RL.nil ?_
          exact ⟨rfl, ⟨hv.1, hv.2.1, fun _ => rfl, hv.2.2.2.1, hv.2.2.2.2.1, hv.2.2.2.2.2.1, hv.2.2.2.2.2.2.1, hv.2.2.2.2.2.2.2.1, hv.2.2.2.2.2.2.2.2.1, hv.2.2.2.2.2.2.2.2.2.1, hv.2.2.2.2.2.2.2.2.2.2.1, hv.2.2.2.2.2.2.2.2.2.2.2.1, hv.2.2.2.2.2.2.2.2.2.2.2.2.1, trivial⟩, ha, hw⟩
        · intro D σ w hD hdep hJ
          obtain ⟨hv, ha, hw⟩ := hJ
          have ha2 : agree σ [(29, (.bool (decide (((k1 : Nat) : Int) > 0)))), (0, v0), (1, v1), (2, v2), (7, (.int .i64 ((k1 : Nat) : Int))), (8, (.pointer (some ⟨b54, 0, none⟩))), (14, v0), (15, (.int .i64 ((p0.length : Nat) : Int))), (16, (.int .i64 ((k1 : Nat) : Int)))] := ⟨hv.2.2.1 (hdep.1 rfl), ha.1, ha.2.1, ha.2.2.1, ha.2.2.2.1, ha.2.2.2.2.1, ha.2.2.2.2.2.1, ha.2.2.2.2.2.2.1, ha.2.2.2.2.2.2.2.1, trivial⟩
          obtain ⟨τ, rfl⟩ := ha2.ups
          refine RL.skip rfl (.inl (congrArg Value.bool hg88)) rfl ?_
          refine RL.nil ?_
          exact ⟨rfl, ⟨hv.1, hv.2.1, hv.2.2.1, fun _ => rfl, hv.2.2.2.2.1, hv.2.2.2.2.2.1, hv.2.2.2.2.2.2.1, hv.2.2.2.2.2.2.2.1, hv.2.2.2.2.2.2.2.2.1, hv.2.2.2.2.2.2.2.2.2.1, hv.2.2.2.2.2.2.2.2.2.2.1, hv.2.2.2.2.2.2.2.2.2.2.2.1, hv.2.2.2.2.2.2.2.2.2.2.2.2.1, trivial⟩, ha, hw⟩
        · intro D σ w hD hdep hJ
          obtain ⟨hv, ha, hw⟩ := hJ
          have ha2 : agree σ [(29, (.bool (decide (((k1 : Nat) : Int) > 0)))), (0, v0), (1, v1), (2, v2), (7, (.int .i64 ((k1 : Nat) : Int))), (8, (.pointer (some ⟨b54, 0, none⟩))), (14, v0), (15, (.int .i64 ((p0.length : Nat) : Int))), (16, (.int .i64 ((k1 : Nat) : Int)))] := ⟨hv.2.2.1 (hdep.1 rfl), ha.1, ha.2.1, ha.2.2.1, ha.2.2.2.1, ha.2.2.2.2.1, ha.2.2.2.2.2.1, ha.2.2.2.2.2.2.1, ha.2.2.2.2.2.2.2.1, trivial⟩
          obtain ⟨τ, rfl⟩ := ha2.ups
          refine RL.skip rfl (.inl (congrArg Value.bool hg88)) rfl ?_
          refine RL.nil ?_
          exact ⟨rfl, ⟨hv.1, hv.2.1, hv.2.2.1, hv.2.2.2.1, fun _ => rfl, hv.2.2.2.2.2.1, hv.2.2.2.2.2.2.1, hv.2.2.2.2.2.2.2.1, hv.2.2.2.2.2.2.2.2.1, hv.2.2.2.2.2.2.2.2.2.1, hv.2.2.2.2.2.2.2.2.2.2.1, hv.2.2.2.2.2.2.2.2.2.2.2.1, hv.2.2.2.2.2.2.2.2.2.2.2.2.1, trivial⟩, ha, hw⟩
        · intro D σ w hD hdep hJ
          obtain ⟨hv, ha, hw⟩ := hJ
          have ha2 : agree σ [(29, (.bool (decide (((k1 : Nat) : Int) > 0)))), (0, v0), (1, v1), (2, v2), (7, (.int .i64 ((k1 : Nat) : Int))), (8, (.pointer (some ⟨b54, 0, none⟩))), (14, v0), (15, (.int .i64 ((p0.length : Nat) : Int))), (16, (.int .i64 ((k1 : Nat) : Int)))] := ⟨hv.2.2.1 (hdep.1 rfl), ha.1, ha.2.1, ha.2.2.1, ha.2.2.2.1, ha.2.2.2.2.1, ha.2.2.2.2.2.1, ha.2.2.2.2.2.2.1, ha.2.2.2.2.2.2.2.1, trivial⟩
          obtain ⟨τ, rfl⟩ := ha2.ups
          refine RL.skip rfl (.inl (congrArg Value.bool hg88)) rfl ?_
          refine RL.nil ?_
          exact ⟨rfl, ⟨hv.1, hv.2.1, hv.2.2.1, hv.2.2.2.1, hv.2.2.2.2.1, fun _ => rfl, hv.2.2.2.2.2.2.1, hv.2.2.2.2.2.2.2.1, hv.2.2.2.2.2.2.2.2.1, hv.2.2.2.2.2.2.2.2.2.1, hv.2.2.2.2.2.2.2.2.2.2.1, hv.2.2.2.2.2.2.2.2.2.2.2.1, hv.2.2.2.2.2.2.2.2.2.2.2.2.1, trivial⟩, ha, hw⟩
        · intro D σ w hD hdep hJ
          obtain ⟨hv, ha, hw⟩ := hJ
          have ha2 : agree σ [(32, undef), (29, (.bool (decide (((k1 : Nat) : Int) > 0)))), (0, v0), (1, v1), (2, v2), (7, (.int .i64 ((k1 : Nat) : Int))), (8, (.pointer (some ⟨b54, 0, none⟩))), (14, v0), (15, (.int .i64 ((p0.length : Nat) : Int))), (16, (.int .i64 ((k1 : Nat) : Int)))] := ⟨hv.2.2.2.2.2.1 (hdep.1 rfl), hv.2.2.1 (hdep.2.1 rfl), ha.1, ha.2.1, ha.2.2.1, ha.2.2.2.1, ha.2.2.2.2.1, ha.2.2.2.2.2.1, ha.2.2.2.2.2.2.1, ha.2.2.2.2.2.2.2.1, trivial⟩
          obtain ⟨τ, rfl⟩ := ha2.ups
          refine RL.skip rfl (.inl (congrArg Value.bool hg88)) rfl ?_
          refine RL.nil ?_
          exact ⟨rfl, ⟨hv.1, hv.2.1, hv.2.2.1, hv.2.2.2.1, hv.2.2.2.2.1, hv.2.2.2.2.2.1, fun _ => rfl, hv.2.2.2.2.2.2.2.1, hv.2.2.2.2.2.2.2.2.1, hv.2.2.2.2.2.2.2.2.2.1, hv.2.2.2.2.2.2.2.2.2.2.1, hv.2.2.2.2.2.2.2.2.2.2.2.1, hv.2.2.2.2.2.2.2.2.2.2.2.2.1, trivial⟩, ha, hw⟩
        · intro D σ w hD hdep hJ
          obtain ⟨hv, ha, hw⟩ := hJ
          have ha2 : agree σ [(31, undef), (33, undef), (29, (.bool (decide (((k1 : Nat) : Int) > 0)))), (0, v0), (1, v1), (2, v2), (7, (.int .i64 ((k1 : Nat) : Int))), (8, (.pointer (some ⟨b54, 0, none⟩))), (14, v0), (15, (.int .i64 ((p0.length : Nat) : Int))), (16, (.int .i64 ((k1 : Nat) : Int)))] := ⟨hv.2.2.2.2.1 (hdep.1 rfl), hv.2.2.2.2.2.2.1 (hdep.2.1 rfl), hv.2.2.1 (hdep.2.2.1 rfl), ha.1, ha.2.1, ha.2.2.1, ha.2.2.2.1, ha.2.2.2.2.1, ha.2.2.2.2.2.1, ha.2.2.2.2.2.2.1, ha.2.2.2.2.2.2.2.1, trivial⟩
          obtain ⟨τ, rfl⟩ := ha2.ups
          refine RL.skip rfl (.inl (congrArg Value.bool hg88)) rfl ?_
          refine RL.nil ?_
          exact ⟨rfl, ⟨hv.1, hv.2.1, hv.2.2.1, hv.2.2.2.1, hv.2.2.2.2.1, hv.2.2.2.2.2.1, hv.2.2.2.2.2.2.1, fun _ => rfl, hv.2.2.2.2.2.2.2.2.1, hv.2.2.2.2.2.2.2.2.2.1, hv.2.2.2.2.2.2.2.2.2.2.1, hv.2.2.2.2.2.2.2.2.2.2.2.1, hv.2.2.2.2.2.2.2.2.2.2.2.2.1, trivial⟩, ha, hw⟩
        · intro D σ w hD hdep hJ
          obtain ⟨hv, ha, hw⟩ := hJ
          have ha2 : agree σ [(34, undef), (29, (.bool (decide (((k1 : Nat) : Int) > 0)))), (0, v0), (1, v1), (2, v2), (7, (.int .i64 ((k1 : Nat) : Int))), (8, (.pointer (some ⟨b54, 0, none⟩))), (14, v0), (15, (.int .i64 ((p0.length : Nat) : Int))), (16, (.int .i64 ((k1 : Nat) : Int)))] := ⟨hv.2.2.2.2.2.2.2.1 (hdep.1 rfl), hv.2.2.1 (hdep.2.1 rfl), ha.1, ha.2.1, ha.2.2.1, ha.2.2.2.1, ha.2.2.2.2.1, ha.2.2.2.2.2.1, ha.2.2.2.2.2.2.1, ha.2.2.2.2.2.2.2.1, trivial⟩
          obtain ⟨τ, rfl⟩ := ha2.ups
          refine RL.skip rfl (.inl (congrArg Value.bool hg88)) rfl ?_
          refine RL.nil ?_
          exact ⟨rfl, ⟨hv.1, hv.2.1, hv.2.2.1, hv.2.2.2.1, hv.2.2.2.2.1, hv.2.2.2.2.2.1, hv.2.2.2.2.2.2.1, hv.2.2.2.2.2.2.2.1, fun _ => rfl, hv.2.2.2.2.2.2.2.2.2.1, hv.2.2.2.2.2.2.2.2.2.2.1, hv.2.2.2.2.2.2.2.2.2.2.2.1, hv.2.2.2.2.2.2.2.2.2.2.2.2.1, trivial⟩, ha, hw⟩
        · intro D σ w hD hdep hJ
          obtain ⟨hv, ha, hw⟩ := hJ
          have ha2 : agree σ [(30, undef), (35, undef), (29, (.bool (decide (((k1 : Nat) : Int) > 0)))), (0, v0), (1, v1), (2, v2), (7, (.int .i64 ((k1 : Nat) : Int))), (8, (.pointer (some ⟨b54, 0, none⟩))), (14, v0), (15, (.int .i64 ((p0.length : Nat) : Int))), (16, (.int .i64 ((k1 : Nat) : Int)))] := ⟨hv.2.2.2.1 (hdep.1 rfl), hv.2.2.2.2.2.2.2.2.1 (hdep.2.1 rfl), hv.2.2.1 (hdep.2.2.1 rfl), ha.1, ha.2.1, ha.2.2.1, ha.2.2.2.1, ha.2.2.2.2.1, ha.2.2.2.2.2.1, ha.2.2.2.2.2.2.1, ha.2.2.2.2.2.2.2.1, trivial⟩
          obtain ⟨τ, rfl⟩ := ha2.ups
          refine RL.skip rfl (.inl (congrArg Value.bool hg88)) rfl ?_
          refine RL.nil ?_
          exact ⟨rfl, ⟨hv.1, hv.2.1, hv.2.2.1, hv.2.2.2.1, hv.2.2.2.2.1, hv.2.2.2.2.2.1, hv.2.2.2.2.2.2.1, hv.2.2.2.2.2.2.2.1, hv.2.2.2.2.2.2.2.2.1, fun _ => rfl, hv.2.2.2.2.2.2.2.2.2.2.1, hv.2.2.2.2.2.2.2.2.2.2.2.1, hv.2.2.2.2.2.2.2.2.2.2.2.2.1, trivial⟩, ha, hw⟩
        · intro D σ w hD hdep hJ
          obtain ⟨hv, ha, hw⟩ := hJ
          have ha2 : agree σ [(36, undef), (29, (.bool (decide (((k1 : Nat) : Int) > 0)))), (0, v0), (1, v1), (2, v2), (7, (.int .i64 ((k1 : Nat) : Int))), (8, (.pointer (some ⟨b54, 0, none⟩))), (14, v0), (15, (.int .i64 ((p0.length : Nat) : Int))), (16, (.int .i64 ((k1 : Nat) : Int)))] := ⟨hv.2.2.2.2.2.2.2.2.2.1 (hdep.1 rfl), hv.2.2.1 (hdep.2.1 rfl), ha.1, ha.2.1, ha.2.2.1, ha.2.2.2.1, ha.2.2.2.2.1, ha.2.2.2.2.2.1, ha.2.2.2.2.2.2.1, ha.2.2.2.2.2.2.2.1, trivial⟩
          obtain ⟨τ, rfl⟩ := ha2.ups
          refine RL.skip rfl (.inl (congrArg Value.bool hg88)) rfl ?_
          refine RL.nil ?_
          exact ⟨rfl, ⟨hv.1, hv.2.1, hv.2.2.1, hv.2.2.2.1, hv.2.2.2.2.1, hv.2.2.2.2.2.1, hv.2.2.2.2.2.2.1, hv.2.2.2.2.2.2.2.1, hv.2.2.2.2.2.2.2.2.1, hv.2.2.2.2.2.2.2.2.2.1, fun _ => rfl, hv.2.2.2.2.2.2.2.2.2.2.2.1, hv.2.2.2.2.2.2.2.2.2.2.2.2.1, trivial⟩, ha, hw⟩
        · intro D σ w hD hdep hJ
          obtain ⟨hv, ha, hw⟩ := hJ
          have ha2 : agree σ [(29, (.bool (decide (((k1 : Nat) : Int) > 0)))), (37, undef), (0, v0), (1, v1), (2, v2), (7, (.int .i64 ((k1 : Nat) : Int))), (8, (.pointer (some ⟨b54, 0, none⟩))), (14, v0), (15, (.int .i64 ((p0.length : Nat) : Int))), (16, (.int .i64 ((k1 : Nat) : Int)))] := ⟨hv.2.2.1 (hdep.1 rfl), hv.2.2.2.2.2.2.2.2.2.2.1 (hdep.2.1 rfl), ha.1, ha.2.1, ha.2.2.1, ha.2.2.2.1, ha.2.2.2.2.1, ha.2.2.2.2.2.1, ha.2.2.2.2.2.2.1, ha.2.2.2.2.2.2.2.1, trivial⟩
          obtain ⟨τ, rfl⟩ := ha2.ups
          refine RL.pick (b := (decide (((k1 : Nat) : Int) > 0))) (v := (.bool false)) trivial rfl rfl (by rw [hg88]; rfl) ?_
          refine RL.nil ?_
          exact ⟨rfl, ⟨hv.1, hv.2.1, hv.2.2.1, hv.2.2.2.1, hv.2.2.2.2.1, hv.2.2.2.2.2.1, hv.2.2.2.2.2.2.1, hv.2.2.2.2.2.2.2.1, hv.2.2.2.2.2.2.2.2.1, hv.2.2.2.2.2.2.2.2.2.1, hv.2.2.2.2.2.2.2.2.2.2.1, fun _ => rfl, hv.2.2.2.2.2.2.2.2.2.2.2.2.1, trivial⟩, ha, hw⟩
        · intro D σ w hD hdep hJ
          obtain ⟨hv, ha, hw⟩ := hJ
          have ha2 : agree σ [(38, (.bool false)), (36, undef), (0, v0), (1, v1), (2, v2), (7, (.int .i64 ((k1 : Nat) : Int))), (8, (.pointer (some ⟨b54, 0, none⟩))), (14, v0), (15, (.int .i64 ((p0.length : Nat) : Int))), (16, (.int .i64 ((k1 : Nat) : Int)))] := ⟨hv.2.2.2.2.2.2.2.2.2.2.2.1 (hdep.1 rfl), hv.2.2.2.2.2.2.2.2.2.1 (hdep.2.1 rfl), ha.1, ha.2.1, ha.2.2.1, ha.2.2.2.1, ha.2.2.2.2.1, ha.2.2.2.2.2.1, ha.2.2.2.2.2.2.1, ha.2.2.2.2.2.2.2.1, trivial⟩
          obtain ⟨τ, rfl⟩ := ha2.ups
          refine RL.assign (v := (.bool false)) trivial rfl rfl ?_
          refine RL.nil ?_
          exact ⟨rfl, ⟨hv.1, hv.2.1, hv.2.2.1, hv.2.2.2.1, hv.2.2.2.2.1, hv.2.2.2.2.2.1, hv.2.2.2.2.2.2.1, hv.2.2.2.2.2.2.2.1, hv.2.2.2.2.2.2.2.2.1, hv.2.2.2.2.2.2.2.2.2.1, hv.2.2.2.2.2.2.2.2.2.2.1, hv.2.2.2.2.2.2.2.2.2.2.2.1, fun _ => rfl, trivial⟩, ha, hw⟩
        intro D σ w hall hJ
        obtain ⟨hv, ha, hw⟩ := hJ
        have ha2 : agree σ [(26, (.bool false)), (0, v0), (1, v1), (2, v2), (7, (.int .i64 ((k1 : Nat) : Int))), (8, (.pointer (some ⟨b54, 0, none⟩))), (14, v0), (15, (.int .i64 ((p0.length : Nat) : Int))), (16, (.int .i64 ((k1 : Nat) : Int)))] := ⟨hv.2.2.2.2.2.2.2.2.2.2.2.2.1 (hall 12 (by decide)), ha.1, ha.2.1, ha.2.2.1, ha.2.2.2.1, ha.2.2.2.2.1, ha.2.2.2.2.2.1, ha.2.2.2.2.2.2.1, ha.2.2.2.2.2.2.2.1, trivial⟩
        obtain ⟨τ, rfl⟩ := ha2.ups
        injection hj with hj; subst hj
        exact ⟨rfl, ⟨rfl, rfl, rfl, rfl, rfl, rfl, rfl, rfl, trivial⟩, hw.pick 6 [4, 5, 1] (new := [rd v0 p0, mp v2 p2, bx 28 b54 x51]) rfl rfl (by decide) (by decide)⟩
      replace hj := cT hg88 hj
      obtain ⟨x90, hx90, hj⟩ := bd hj
      obtain ⟨x93, hx93, hj⟩ := bd hj
      refine RC.draw mixed rfl (fun (D : Nat → Bool) (σ : Nat → Value) (w : World) => ∃ v89 v91 v92 : Value, doneV D σ [(0, 27, (.int .i64 ((k1 : Nat) : Int))), (1, 28, (.bool (decide (((k1 : Nat) : Int) > 0)))), (2, 29, (.bool (decide (((k1 : Nat) : Int) > 0)))), (3, 30, v89), (4, 31, v0), (5, 32, (.int .i64 ((k1 : Nat) : Int))), (6, 33, (.int .i64 (IntKind.wrap .i64 (((k1 : Nat) : Int) - 1)))), (7, 34, v91), (8, 35, v92), (9, 36, (.int .i64 x93)), (10, 37, (.bool (decide (x93 ≤ 0)))), (11, 38, (.bool (decide (x93 ≤ 0)))), (12, 26, (.bool (decide (x93 ≤ 0))))] ∧ agree σ [(0, v0), (1, v1), (2, v2), (7, (.int .i64 ((k1 : Nat) : Int))), (8, (.pointer (some ⟨b54, 0, none⟩))), (14, v0), (15, (.int .i64 ((p0.length : Nat) : Int))), (16, (.int .i64 ((k1 : Nat) : Int)))] ∧ Holds E w ([bif D 3 then (rd v89 x51) else junk, bif D 7 then (pt v91 x90) else junk, bif D 8 then (rd v92 x90) else junk, rd v55 x51, bx 28 b54 x51, rd v53 x51, pt v52 x51, rd v0 p0, mp v2 p2] ++ Γ)) ?_ ⟨?_, ?_, ?_, ?_, ?_, ?_, ?_, ?_, ?_, ?_, ?_, ?_, ?_, trivial⟩ ?_
      · have hw := hw.drew
        have hw := hw.junk
        have hw := hw.junk
        have hw := hw.junk
        exact ⟨undef, undef, undef, ⟨(fun h => by cases h), (fun h => by cases h), (fun h => by cases h), (fun h => by cases h), (fun h => by cases h), (fun h => by cases h), (fun h => by cases h), (fun h => by cases h), (fun h => by cases h), (fun h => by cases h), (fun h => by cases h), (fun h => by cases h), (fun h => by cases h), trivial⟩, ⟨rfl, rfl, rfl, rfl, rfl, rfl, rfl, rfl, trivial⟩, hw⟩
      · intro D σ w hD hdep hJ
        obtain ⟨v89, v91, v92, hv, ha, hw⟩ := hJ
        have ha2 : agree σ [(0, v0), (1, v1), (2, v2), (7, (.int .i64 ((k1 : Nat) : Int))), (8, (.pointer (some ⟨b54, 0, none⟩))), (14, v0), (15, (.int .i64 ((p0.length : Nat) : Int))), (16, (.int .i64 ((k1 : Nat) : Int)))] := ⟨ha.1, ha.2.1, ha.2.2.1, ha.2.2.2.1, ha.2.2.2.2.1, ha.2.2.2.2.2.1, ha.2.2.2.2.2.2.1, ha.2.2.2.2.2.2.2.1, trivial⟩
        obtain ⟨τ, rfl⟩ := ha2.ups
        refine RL.move (v := (.int .i64 ((k1 : Nat) : Int))) trivial rfl rfl ?_
        refine RL.nil ?_
        exact ⟨rfl, v89, v91, v92, ⟨fun _ => rfl, hv.2.1, hv.2.2.1, hv.2.2.2.1, hv.2.2.2.2.1, hv.2.2.2.2.2.1, hv.2.2.2.2.2.2.1, hv.2.2.2.2.2.2.2.1, hv.2.2.2.2.2.2.2.2.1, hv.2.2.2.2.2.2.2.2.2.1, hv.2.2.2.2.2.2.2.2.2.2.1, hv.2.2.2.2.2.2.2.2.2.2.2.1, hv.2.2.2.2.2.2.2.2.2.2.2.2.1, trivial⟩, ha, hw⟩
      · intro D σ w hD hdep hJ
        obtain ⟨v89, v91, v92, hv, ha, hw⟩ := hJ
        have ha2 : agree σ [(27, (.int .i64 ((k1 : Nat) : Int))), (0, v0), (1, v1), (2, v2), (7, (.int .i64 ((k1 : Nat) : Int))), (8, (.pointer (some ⟨b54, 0, none⟩))), (14, v0), (15, (.int .i64 ((p0.length : Nat) : Int))), (16, (.int .i64 ((k1 : Nat) : Int)))] := ⟨hv.1 (hdep.1 rfl), ha.1, ha.2.1, ha.2.2.1, ha.2.2.2.1, ha.2.2.2.2.1, ha.2.2.2.2.2.1, ha.2.2.2.2.2.2.1, ha.2.2.2.2.2.2.2.1, trivial⟩
        obtain ⟨τ, rfl⟩ := ha2.ups
        refine RL.icmp (a := ((k1 : Nat) : Int)) (b := 0) trivial rfl rfl rfl rfl ?_
        refine RL.nil ?_
        exact ⟨rfl, v89, v91, v92, ⟨hv.1, fun _ => rfl, hv.2.2.1, hv.2.2.2.1, hv.2.2.2.2.1, hv.2.2.2.2.2.1, hv.2.2.2.2.2.2.1, hv.2.2.2.2.2.2.2.1, hv.2.2.2.2.2.2.2.2.1, hv.2.2.2.2.2.2.2.2.2.1, hv.2.2.2.2.2.2.2.2.2.2.1, hv.2.2.2.2.2.2.2.2.2.2.2.1, hv.2.2.2.2.2.2.2.2.2.2.2.2.1, trivial⟩, ha, hw⟩
      · intro D σ w hD hdep hJ
        obtain ⟨v89, v91, v92, hv, ha, hw⟩ := hJ
        have ha2 : agree σ [(28, (.bool (decide (((k1 : Nat) : Int) > 0)))), (0, v0), (1, v1), (2, v2), (7, (.int .i64 ((k1 : Nat) : Int))), (8, (.pointer (some ⟨b54, 0, none⟩))), (14, v0), (15, (.int .i64 ((p0.length : Nat) : Int))), (16, (.int .i64 ((k1 : Nat) : Int)))] := ⟨hv.2.1 (hdep.1 rfl), ha.1, ha.2.1, ha.2.2.1, ha.2.2.2.1, ha.2.2.2.2.1, ha.2.2.2.2.2.1, ha.2.2.2.2.2.2.1, ha.2.2.2.2.2.2.2.1, trivial⟩
        obtain ⟨τ, rfl⟩ := ha2.ups
        refine RL.move (v := (.bool (decide (((k1 : Nat) : Int) > 0)))) trivial rfl rfl ?_
        refine RL.nil ?_
        exact ⟨rfl, v89, v91, v92, ⟨hv.1, hv.2.1, fun _ => rfl, hv.2.2.2.1, hv.2.2.2.2.1, hv.2.2.2.2.2.1, hv.2.2.2.2.2.2.1, hv.2.2.2.2.2.2.2.1, hv.2.2.2.2.2.2.2.2.1, hv.2.2.2.2.2.2.2.2.2.1, hv.2.2.2.2.2.2.2.2.2.2.1, hv.2.2.2.2.2.2.2.2.2.2.2.1, hv.2.2.2.2.2.2.2.2.2.2.2.2.1, trivial⟩, ha, hw⟩
      · intro D σ w hD hdep hJ
        obtain ⟨v89, v91, v92, hv, ha, hw⟩ := hJ
        have ha2 : agree σ [(29, (.bool (decide (((k1 : Nat) : Int) > 0)))), (0, v0), (1, v1), (2, v2), (7, (.int .i64 ((k1 : Nat) : Int))), (8, (.pointer (some ⟨b54, 0, none⟩))), (14, v0), (15, (.int .i64 ((p0.length : Nat) : Int))), (16, (.int .i64 ((k1 : Nat) : Int)))] := ⟨hv.2.2.1 (hdep.1 rfl), ha.1, ha.2.1, ha.2.2.1, ha.2.2.2.1, ha.2.2.2.2.1, ha.2.2.2.2.2.1, ha.2.2.2.2.2.2.1, ha.2.2.2.2.2.2.2.1, trivial⟩
        obtain ⟨τ, rfl⟩ := ha2.ups
        refine RL.load_bf (i := 4) (f := (fun x => x)) ⟨_, rfl, congrArg Value.bool hg88⟩ rfl hw rfl rfl Fd.self ty28 fun v94 hw => ?_
        have hw := hw.fillat 0 1 0 rfl rfl rfl (by simp)
        refine RL.nil ?_
        exact ⟨rfl, v94, v91, v92, ⟨hv.1, hv.2.1, hv.2.2.1, fun _ => rfl, hv.2.2.2.2.1, hv.2.2.2.2.2.1, hv.2.2.2.2.2.2.1, hv.2.2.2.2.2.2.2.1, hv.2.2.2.2.2.2.2.2.1, hv.2.2.2.2.2.2.2.2.2.1, hv.2.2.2.2.2.2.2.2.2.2.1, hv.2.2.2.2.2.2.2.2.2.2.2.1, hv.2.2.2.2.2.2.2.2.2.2.2.2.1, trivial⟩, ha, hw⟩
      · intro D σ w hD hdep hJ
        obtain ⟨v89, v91, v92, hv, ha, hw⟩ := hJ
        have ha2 : agree σ [(29, (.bool (decide (((k1 : Nat) : Int) > 0)))), (0, v0), (1, v1), (2, v2), (7, (.int .i64 ((k1 : Nat) : Int))), (8, (.pointer (some ⟨b54, 0, none⟩))), (14, v0), (15, (.int .i64 ((p0.length : Nat) : Int))), (16, (.int .i64 ((k1 : Nat) : Int)))] := ⟨hv.2.2.1 (hdep.1 rfl), ha.1, ha.2.1, ha.2.2.1, ha.2.2.2.1, ha.2.2.2.2.1, ha.2.2.2.2.2.1, ha.2.2.2.2.2.2.1, ha.2.2.2.2.2.2.2.1, trivial⟩
        obtain ⟨τ, rfl⟩ := ha2.ups
        refine RL.move (v := v0) ⟨_, rfl, congrArg Value.bool hg88⟩ rfl rfl ?_
        refine RL.nil ?_
        exact ⟨rfl, v89, v91, v92, ⟨hv.1, hv.2.1, hv.2.2.1, hv.2.2.2.1, fun _ => rfl, hv.2.2.2.2.2.1, hv.2.2.2.2.2.2.1, hv.2.2.2.2.2.2.2.1, hv.2.2.2.2.2.2.2.2.1, hv.2.2.2.2.2.2.2.2.2.1, hv.2.2.2.2.2.2.2.2.2.2.1, hv.2.2.2.2.2.2.2.2.2.2.2.1, hv.2.2.2.2.2.2.2.2.2.2.2.2.1, trivial⟩, ha, hw⟩
      · intro D σ w hD hdep hJ
        obtain ⟨v89, v91, v92, hv, ha, hw⟩ := hJ
        have ha2 : agree σ [(29, (.bool (decide (((k1 : Nat) : Int) > 0)))), (0, v0), (1, v1), (2, v2), (7, (.int .i64 ((k1 : Nat) : Int))), (8, (.pointer (some ⟨b54, 0, none⟩))), (14, v0), (15, (.int .i64 ((p0.length : Nat) : Int))), (16, (.int .i64 ((k1 : Nat) : Int)))] := ⟨hv.2.2.1 (hdep.1 rfl), ha.1, ha.2.1, ha.2.2.1, ha.2.2.2.1, ha.2.2.2.2.1, ha.2.2.2.2.2.1, ha.2.2.2.2.2.2.1, ha.2.2.2.2.2.2.2.1, trivial⟩
        obtain ⟨τ, rfl⟩ := ha2.ups
        refine RL.move (v := (.int .i64 ((k1 : Nat) : Int))) ⟨_, rfl, congrArg Value.bool hg88⟩ rfl rfl ?_
        refine RL.nil ?_
        exact ⟨rfl, v89, v91, v92, ⟨hv.1, hv.2.1, hv.2.2.1, hv.2.2.2.1, hv.2.2.2.2.1, fun _ => rfl, hv.2.2.2.2.2.2.1, hv.2.2.2.2.2.2.2.1, hv.2.2.2.2.2.2.2.2.1, hv.2.2.2.2.2.2.2.2.2.1, hv.2.2.2.2.2.2.2.2.2.2.1, hv.2.2.2.2.2.2.2.2.2.2.2.1, hv.2.2.2.2.2.2.2.2.2.2.2.2.1, trivial⟩, ha, hw⟩
      · intro D σ w hD hdep hJ
        obtain ⟨v89, v91, v92, hv, ha, hw⟩ := hJ
        have ha2 : agree σ [(32, (.int .i64 ((k1 : Nat) : Int))), (29, (.bool (decide (((k1 : Nat) : Int) > 0)))), (0, v0), (1, v1), (2, v2), (7, (.int .i64 ((k1 : Nat) : Int))), (8, (.pointer (some ⟨b54, 0, none⟩))), (14, v0), (15, (.int .i64 ((p0.length : Nat) : Int))), (16, (.int .i64 ((k1 : Nat) : Int)))] := ⟨hv.2.2.2.2.2.1 (hdep.1 rfl), hv.2.2.1 (hdep.2.1 rfl), ha.1, ha.2.1, ha.2.2.1, ha.2.2.2.1, ha.2.2.2.2.1, ha.2.2.2.2.2.1, ha.2.2.2.2.2.2.1, ha.2.2.2.2.2.2.2.1, trivial⟩
        obtain ⟨τ, rfl⟩ := ha2.ups
        refine RL.iar (a := ((k1 : Nat) : Int)) (b := 1) ⟨_, rfl, congrArg Value.bool hg88⟩ rfl rfl rfl rfl ?_
        refine RL.nil ?_
        exact ⟨rfl, v89, v91, v92, ⟨hv.1, hv.2.1, hv.2.2.1, hv.2.2.2.1, hv.2.2.2.2.1, hv.2.2.2.2.2.1, fun _ => rfl, hv.2.2.2.2.2.2.2.1, hv.2.2.2.2.2.2.2.2.1, hv.2.2.2.2.2.2.2.2.2.1, hv.2.2.2.2.2.2.2.2.2.2.1, hv.2.2.2.2.2.2.2.2.2.2.2.1, hv.2.2.2.2.2.2.2.2.2.2.2.2.1, trivial⟩, ha, hw⟩
      · intro D σ w hD hdep hJ
        obtain ⟨v89, v91, v92, hv, ha, hw⟩ := hJ
        have ha2 : agree σ [(31, v0), (33, (.int .i64 (IntKind.wrap .i64 (((k1 : Nat) : Int) - 1)))), (29, (.bool (decide (((k1 : Nat) : Int) > 0)))), (0, v0), (1, v1), (2, v2), (7, (.int .i64 ((k1 : Nat) : Int))), (8, (.pointer (some ⟨b54, 0, none⟩))), (14, v0), (15, (.int .i64 ((p0.length : Nat) : Int))), (16, (.int .i64 ((k1 : Nat) : Int)))] := ⟨hv.2.2.2.2.1 (hdep.1 rfl), hv.2.2.2.2.2.2.1 (hdep.2.1 rfl), hv.2.2.1 (hdep.2.2.1 rfl), ha.1, ha.2.1, ha.2.2.1, ha.2.2.2.1, ha.2.2.2.2.1, ha.2.2.2.2.2.1, ha.2.2.2.2.2.2.1, ha.2.2.2.2.2.2.2.1, trivial⟩
        obtain ⟨τ, rfl⟩ := ha2.ups
        refine RL.ia_rd (i := 7) ⟨_, rfl, congrArg Value.bool hg88⟩ rfl hw rfl rfl rfl sl33 hx90 fun v95 hw => ?_
        have hw := hw.fillat 0 1 1 rfl rfl rfl (by simp)
        refine RL.nil ?_
        exact ⟨rfl, v89, v95, v92, ⟨hv.1, hv.2.1, hv.2.2.1, hv.2.2.2.1, hv.2.2.2.2.1, hv.2.2.2.2.2.1, hv.2.2.2.2.2.2.1, fun _ => rfl, hv.2.2.2.2.2.2.2.2.1, hv.2.2.2.2.2.2.2.2.2.1, hv.2.2.2.2.2.2.2.2.2.2.1, hv.2.2.2.2.2.2.2.2.2.2.2.1, hv.2.2.2.2.2.2.2.2.2.2.2.2.1, trivial⟩, ha, hw⟩
      · intro D σ w hD hdep hJ
        obtain ⟨v89, v91, v92, hv, ha, hw⟩ := hJ
        have ha2 : agree σ [(34, v91), (29, (.bool (decide (((k1 : Nat) : Int) > 0)))), (0, v0), (1, v1), (2, v2), (7, (.int .i64 ((k1 : Nat) : Int))), (8, (.pointer (some ⟨b54, 0, none⟩))), (14, v0), (15, (.int .i64 ((p0.length : Nat) : Int))), (16, (.int .i64 ((k1 : Nat) : Int)))] := ⟨hv.2.2.2.2.2.2.2.1 (hdep.1 rfl), hv.2.2.1 (hdep.2.1 rfl), ha.1, ha.2.1, ha.2.2.1, ha.2.2.2.1, ha.2.2.2.2.1, ha.2.2.2.2.2.1, ha.2.2.2.2.2.2.1, ha.2.2.2.2.2.2.2.1, trivial⟩
        obtain ⟨τ, rfl⟩ := ha2.ups
        refine RL.load_pt (i := 1) (x := x90) ⟨_, rfl, congrArg Value.bool hg88⟩ rfl hw rfl (ent_t (hdep.1 rfl)) ty28 fun v96 hw => ?_
        have hw := hw.fillat 0 1 2 rfl rfl rfl (by simp)
        refine RL.nil ?_
        exact ⟨rfl, v89, v91, v96, ⟨hv.1, hv.2.1, hv.2.2.1, hv.2.2.2.1, hv.2.2.2.2.1, hv.2.2.2.2.2.1, hv.2.2.2.2.2.2.1, hv.2.2.2.2.2.2.2.1, fun _ => rfl, hv.2.2.2.2.2.2.2.2.2.1, hv.2.2.2.2.2.2.2.2.2.2.1, hv.2.2.2.2.2.2.2.2.2.2.2.1, hv.2.2.2.2.2.2.2.2.2.2.2.2.1, trivial⟩, ha, hw⟩
      · intro D σ w hD hdep hJ
        obtain ⟨v89, v91, v92, hv, ha, hw⟩ := hJ
        have ha2 : agree σ [(30, v89), (35, v92), (29, (.bool (decide (((k1 : Nat) : Int) > 0)))), (0, v0), (1, v1), (2, v2), (7, (.int .i64 ((k1 : Nat) : Int))), (8, (.pointer (some ⟨b54, 0, none⟩))), (14, v0), (15, (.int .i64 ((p0.length : Nat) : Int))), (16, (.int .i64 ((k1 : Nat) : Int)))] := ⟨hv.2.2.2.1 (hdep.1 rfl), hv.2.2.2.2.2.2.2.2.1 (hdep.2.1 rfl), hv.2.2.1 (hdep.2.2.1 rfl), ha.1, ha.2.1, ha.2.2.1, ha.2.2.2.1, ha.2.2.2.2.1, ha.2.2.2.2.2.1, ha.2.2.2.2.2.2.1, ha.2.2.2.2.2.2.2.1, trivial⟩
        obtain ⟨τ, rfl⟩ := ha2.ups
        refine RL.call ⟨_, rfl, congrArg Value.bool hg88⟩ rfl fn100 [v89, v92] rfl (Calls_ret (netlist_ComparePins_ok N  (i0 := 0) (i1 := 2) hw (ent_t (hdep.1 rfl)) (ent_t (hdep.2.1 rfl)) hx93) ?_)
        rintro _ w ⟨rfl, hw⟩
        refine RL.nil ?_
        exact ⟨rfl, v89, v91, v92, ⟨hv.1, hv.2.1, hv.2.2.1, hv.2.2.2.1, hv.2.2.2.2.1, hv.2.2.2.2.2.1, hv.2.2.2.2.2.2.1, hv.2.2.2.2.2.2.2.1, hv.2.2.2.2.2.2.2.2.1, fun _ => rfl, hv.2.2.2.2.2.2.2.2.2.2.1, hv.2.2.2.2.2.2.2.2.2.2.2.1, hv.2.2.2.2.2.2.2.2.2.2.2.2.1, trivial⟩, ha, hw⟩
      · intro D σ w hD hdep hJ
        obtain ⟨v89, v91, v92, hv, ha, hw⟩ := hJ
        have ha2 : agree σ [(36, (.int .i64 x93)), (29, (.bool (decide (((k1 : Nat) : Int) > 0)))), (0, v0), (1, v1), (2, v2), (7, (.int .i64 ((k1 : Nat) : Int))), (8, (.pointer (some ⟨b54, 0, none⟩))), (14, v0), (15, (.int .i64 ((p0.length : Nat) : Int))), (16, (.int .i64 ((k1 : Nat) : Int)))] := ⟨hv.2.2.2.2.2.2.2.2.2.1 (hdep.1 rfl), hv.2.2.1 (hdep.2.1 rfl), ha.1, ha.2.1, ha.2.2.1, ha.2.2.2.1, ha.2.2.2.2.1, ha.2.2.2.2.2.1, ha.2.2.2.2.2.2.1, ha.2.2.2.2.2.2.2.1, trivial⟩
        obtain ⟨τ, rfl⟩ := ha2.ups
        refine RL.icmp (a := x93) (b := 0) ⟨_, rfl, congrArg Value.bool hg88⟩ rfl rfl rfl rfl ?_
        refine RL.nil ?_
        exact ⟨rfl, v89, v91, v92, ⟨hv.1, hv.2.1, hv.2.2.1, hv.2.2.2.1, hv.2.2.2.2.1, hv.2.2.2.2.2.1, hv.2.2.2.2.2.2.1, hv.2.2.2.2.2.2.2.1, hv.2.2.2.2.2.2.2.2.1, hv.2.2.2.2.2.2.2.2.2.1, fun _ => rfl, hv.2.2.2.2.2.2.2.2.2.2.2.1, hv.2.2.2.2.2.2.2.2.2.2.2.2.1, trivial⟩, ha, hw⟩
      · intro D σ w hD hdep hJ
        obtain ⟨v89, v91, v92, hv, ha, hw⟩ := hJ
        have ha2 : agree σ [(29, (.bool (decide (((k1 : Nat) : Int) > 0)))), (37, (.bool (decide (x93 ≤ 0)))), (0, v0), (1, v1), (2, v2), (7, (.int .i64 ((k1 : Nat) : Int))), (8, (.pointer (some ⟨b54, 0, none⟩))), (14, v0), (15, (.int .i64 ((p0.length : Nat) : Int))), (16, (.int .i64 ((k1 : Nat) : Int)))] := ⟨hv.2.2.1 (hdep.1 rfl), hv.2.2.2.2.2.2.2.2.2.2.1 (hdep.2.1 rfl), ha.1, ha.2.1, ha.2.2.1, ha.2.2.2.1, ha.2.2.2.2.1, ha.2.2.2.2.2.1, ha.2.2.2.2.2.2.1, ha.2.2.2.2.2.2.2.1, trivial⟩
        obtain ⟨τ, rfl⟩ := ha2.ups
        refine RL.pick (b := (decide (((k1 : Nat) : Int) > 0))) (v := (.bool (decide (x93 ≤ 0)))) trivial rfl rfl (by rw [hg88]; rfl) ?_
        refine RL.nil ?_
        exact ⟨rfl, v89, v91, v92, ⟨hv.1, hv.2.1, hv.2.2.1, hv.2.2.2.1, hv.2.2.2.2.1, hv.2.2.2.2.2.1, hv.2.2.2.2.2.2.1, hv.2.2.2.2.2.2.2.1, hv.2.2.2.2.2.2.2.2.1, hv.2.2.2.2.2.2.2.2.2.1, hv.2.2.2.2.2.2.2.2.2.2.1, fun _ => rfl, hv.2.2.2.2.2.2.2.2.2.2.2.2.1, trivial⟩, ha, hw⟩
      · intro D σ w hD hdep hJ
        obtain ⟨v89, v91, v92, hv, ha, hw⟩ := hJ
        have ha2 : agree σ [(38, (.bool (decide (x93 ≤ 0)))), (36, (.int .i64 x93)), (0, v0), (1, v1), (2, v2), (7, (.int .i64 ((k1 : Nat) : Int))), (8, (.pointer (some ⟨b54, 0, none⟩))), (14, v0), (15, (.int .i64 ((p0.length : Nat) : Int))), (16, (.int .i64 ((k1 : Nat) : Int)))] := ⟨hv.2.2.2.2.2.2.2.2.2.2.2.1 (hdep.1 rfl), hv.2.2.2.2.2.2.2.2.2.1 (hdep.2.1 rfl), ha.1, ha.2.1, ha.2.2.1, ha.2.2.2.1, ha.2.2.2.2.1, ha.2.2.2.2.2.1, ha.2.2.2.2.2.2.1, ha.2.2.2.2.2.2.2.1, trivial⟩
        obtain ⟨τ, rfl⟩ := ha2.ups
        refine RL.assign (v := (.bool (decide (x93 ≤ 0)))) trivial rfl rfl ?_
        refine RL.nil ?_
        exact ⟨rfl, v89, v91, v92, ⟨hv.1, hv.2.1, hv.2.2.1, hv.2.2.2.1, hv.2.2.2.2.1, hv.2.2.2.2.2.1, hv.2.2.2.2.2.2.1, hv.2.2.2.2.2.2.2.1, hv.2.2.2.2.2.2.2.2.1, hv.2.2.2.2.2.2.2.2.2.1, hv.2.2.2.2.2.2.2.2.2.2.1, hv.2.2.2.2.2.2.2.2.2.2.2.1, fun _ => rfl, trivial⟩, ha, hw⟩
      intro D σ w hall hJ
      obtain ⟨v89, v91, v92, hv, ha, hw⟩ := hJ
      rw [hall 3 (by decide)] at hw
      rw [hall 7 (by decide)] at hw
      rw [hall 8 (by decide)] at hw
      have ha2 : agree σ [(26, (.bool (decide (x93 ≤ 0)))), (0, v0), (1, v1), (2, v2), (7, (.int .i64 ((k1 : Nat) : Int))), (8, (.pointer (some ⟨b54, 0, none⟩))), (14, v0), (15, (.int .i64 ((p0.length : Nat) : Int))), (16, (.int .i64 ((k1 : Nat) : Int)))] := ⟨hv.2.2.2.2.2.2.2.2.2.2.2.2.1 (hall 12 (by decide)), ha.1, ha.2.1, ha.2.2.1, ha.2.2.2.1, ha.2.2.2.2.1, ha.2.2.2.2.2.1, ha.2.2.2.2.2.2.1, ha.2.2.2.2.2.2.2.1, trivial⟩
      obtain ⟨τ, rfl⟩ := ha2.ups
      injection hj with hj; subst hj
      exact ⟨rfl, ⟨rfl, rfl, rfl, rfl, rfl, rfl, rfl, rfl, trivial⟩, hw.pick 9 [7, 8, 4] (new := [rd v0 p0, mp v2 p2, bx 28 b54 x51]) rfl rfl (by decide) (by decide)⟩
    rintro σ w ⟨ha, hw⟩
    obtain ⟨τ, rfl⟩ := ha.ups
    refine thenQ_n ?_
    refine RC.cond (b := s87) rfl (fun hc => ?_) (fun hc => ?_)
    · replace hb := cT hc hb
      refine RC.seq ?_
      refine RC.region ?_
      refine RL.assign (v := (.int .i64 8)) trivial rfl rfl ?_
      refine RL.nil ?_
      refine thenQ_n ?_
      refine RC.ret ?_
      refine blkQ_r ?_
      refine blkQ_r ?_
      refine thenQ_r ?_
      injection hb with hb; subst hb
      exact ⟨rfl, fin1 rfl rfl ⟨rfl, hw.pick 3 [1] (new := [mp v2 p2]) rfl rfl (by decide) (by decide)⟩⟩
    replace hb := cF hc hb
    refine RC.seq ?_
    refine RC.region ?_
    refine RL.move (v := v2) trivial rfl rfl ?_
    refine RL.load_bf (i := 2) (f := (fun x => x)) trivial rfl hw rfl rfl Fd.self ty28 fun v98 hw => ?_
    refine RL.lookup1s (i := 2) (k := x51) trivial rfl hw rfl (key_rd hw (j := 0) rfl) rfl mt77 ?_
    refine RL.assign (v := (.bool (mget p2 x51 (false : Bool)))) trivial rfl rfl ?_
    refine RL.nil ?_
    refine thenQ_n ?_
    refine RC.cond (b := (mget p2 x51 (false : Bool))) rfl (fun hc => ?_) (fun hc => ?_)
    rotate_left
    · replace hb := cF hc hb
      refine RC.skip ?_
      refine blkQ_n ?_
      refine blkQ_n ?_
      refine thenQ_n ?_
      refine RC.region ?_
      refine RL.inc trivial rfl hk hm rfl rfl ?_
      refine RL.move (v := (.int .i64 ((k1 + 1 : Nat) : Int))) trivial rfl rfl ?_
      refine RL.nil ?_
      injection hb with hb; subst hb
      exact ⟨rfl, ⟨rfl, rfl, rfl, rfl, rfl, rfl, trivial⟩, hw.pick 4 [1, 2] (new := [rd v0 p0, mp v2 p2]) rfl rfl (by decide) (by decide)⟩
    replace hb := cT hc hb
    refine RC.seq ?_
    refine RC.region ?_
    refine RL.assign (v := (.int .i64 7)) trivial rfl rfl ?_
    refine RL.nil ?_
    refine thenQ_n ?_
    refine RC.ret ?_
    refine blkQ_r ?_
    refine blkQ_r ?_
    refine thenQ_r ?_
    injection hb with hb; subst hb
    exact ⟨rfl, fin1 rfl rfl ⟨rfl, hw.pick 4 [2] (new := [mp v2 p2]) rfl rfl (by decide) (by decide)⟩⟩
  · intro r σ w e hK
    subst e
    refine thenQ_r ?_
    injection hb with hb; subst hb
    exact hK
  intro s2 σ w e hJ
  subst e
  rw [Fo.cs_go] at hb
  obtain ⟨ha, hw⟩ := hJ
  obtain ⟨τ, rfl⟩ := ha.ups
  refine thenQ_n ?_
  refine RC.seq ?_
  refine RC.seq ?_
  refine RC.region ?_
  refine RL.move (v := v0) trivial rfl rfl ?_
  refine RL.len_rd (i := 0) (l := p0) trivial rfl hw rfl rfl un33 ?_
  refine RL.move (v := (.int .i64 0)) trivial rfl rfl ?_
  refine RL.nil ?_
  refine thenQ_n ?_
  obtain ⟨s100, hN, hb⟩ := bd hb
  refine RC.fold (fun (k99 : Nat) (s100 : (List (Pin × Bool))) (σ : Nat → Value) (w : World) => agree σ [(2, v2), (44, v0), (45, (.int .i64 ((p0.length : Nat) : Int))), (46, (.int .i64 ((k99 : Nat) : Int)))] ∧ Holds E w ([mp v2 s100, rd v0 p0] ++ Γ)) (fun (s100 : (List (Pin × Bool))) (σ : Nat → Value) (w : World) => agree σ [(2, v2)] ∧ Holds E w ([mp v2 s100, rd v0 p0] ++ Γ)) hN ?_ ?_ ?_ ?_
  · exact ⟨⟨rfl, rfl, rfl, rfl, trivial⟩, hw.pick 2 [1, 0] (new := [mp v2 p2, rd v0 p0]) rfl rfl (by decide) (by decide)⟩
  · intro hm s100 σ w hI
    obtain ⟨ha, hw⟩ := hI
    obtain ⟨τ, rfl⟩ := ha.ups
    refine RC.seq ?_
    refine RC.region ?_
    refine RL.icmp (a := ((p0.length : Nat) : Int)) (b := ((p0.length : Nat) : Int)) trivial rfl rfl rfl rfl ?_
    refine RL.nil ?_
    refine thenQ_n ?_
    refine RC.seq ?_
    refine RC.cond_f dge ?_
    refine RC.exit ?_
    refine thenQ_x ?_
    exact ⟨rfl, ⟨rfl, trivial⟩, hw.pick 2 [0, 1] (new := [mp v2 s100, rd v0 p0]) rfl rfl (by decide) (by decide)⟩
  · intro hm k99 s100 s' σ w hk hI hb
    obtain ⟨ha, hw⟩ := hI
    obtain ⟨τ, rfl⟩ := ha.ups
    refine RC.seq ?_
    refine RC.region ?_
    refine RL.icmp (a := ((k99 : Nat) : Int)) (b := ((p0.length : Nat) : Int)) trivial rfl rfl rfl rfl ?_
    refine RL.nil ?_
    refine thenQ_n ?_
    refine RC.seq ?_
    refine RC.cond_t (dlt hk) ?_
    refine RC.skip ?_
    refine thenQ_n ?_
    refine RC.seq ?_
    refine RC.block ?_
    refine RC.seq ?_
    refine RC.region ?_
    obtain ⟨x111, hx111, hb⟩ := bd hb
    refine RL.ia_rd (i := 1) trivial rfl hw rfl rfl rfl sl33 hx111 fun v112 hw => ?_
    refine RL.load_pt (i := 0) (x := x111) trivial rfl hw rfl rfl ty28 fun v113 hw => ?_
    refine RL.alloc trivial rfl hw ze28.z fun b114 w hw => ?_
    refine RL.store_raw (i := 0) (j := 1) trivial hw rfl rfl rfl rfl ty28 rfl fun w hw => ?_
    refine RL.nil ?_
    refine thenQ_n ?_
    refine RC.region ?_
    refine RL.move (v := v2) trivial rfl rfl ?_
    refine RL.load_bf (i := 0) (f := (fun x => x)) trivial rfl hw rfl rfl Fd.self ty28 fun v115 hw => ?_
    have hw := hw.sc (γ := Bool) true
    refine RL.mapUpdate (i := 5) (j := 0) (k := x111) trivial hw rfl (key_rd hw (j := 1) rfl) rfl rfl rfl mt77 fun w hw => ?_
    refine RL.nil ?_
    refine blkQ_n ?_
    refine thenQ_n ?_
    refine RC.region ?_
    refine RL.inc trivial rfl hk hm rfl rfl ?_
    refine RL.move (v := (.int .i64 ((k99 + 1 : Nat) : Int))) trivial rfl rfl ?_
    refine RL.nil ?_
    injection hb with hb; subst hb
    exact ⟨rfl, ⟨rfl, rfl, rfl, rfl, trivial⟩, hw.pick 7 [5, 6] (new := [mp v2 (mput s100 x111 true), rd v0 p0]) rfl rfl (by decide) (by decide)⟩
  intro σ w hJ
  obtain ⟨ha, hw⟩ := hJ
  obtain ⟨τ, rfl⟩ := ha.ups
  refine thenQ_n ?_
  refine RC.seq ?_
  refine RC.region ?_
  refine RL.assign (v := (.int .i64 0)) trivial rfl rfl ?_
  refine RL.nil ?_
  refine thenQ_n ?_
  refine RC.ret ?_
  injection hb with hb; subst hb
  exact fin1 rfl rfl ⟨rfl, hw.pick 2 [0] (new := [mp v2 s100]) rfl rfl (by decide) (by decide)⟩
def netlist_CheckList_R (E : World) (Γ : List HP) (res : Int) (v : Value) (w : World) : Prop := v = (.int .i64 res) ∧ Holds E w Γ
def netlist_CheckList_K (E : World) (Γ : List HP) (r : Int) (σ : Nat → Value) (w : World) : Prop := finQ Tryd.prog 71 Tryd.f13 (netlist_CheckList_R E Γ r) .ret σ w
theorem netlist_CheckList_ok (N : Nat) {E w : World} {Γ : List HP} {i0 : Nat} {v0 : Value} {p0 : (List PartType)} {i1 : Nat} {v1 : Value} {p1 : Netlist} {res : Int} (hw : Holds E w Γ) (h0 : Γ[i0]? = some (rd v0 p0)) (h1 : Γ[i1]? = some (rd v1 p1)) (hb : netlist_CheckList N p0 p1 = some res) :
    Calls Tryd.prog 13 [v0, v1].toArray w (Ret (netlist_CheckList_R E Γ res)) := by
  unfold netlist_CheckList at hb
  refine enter Tryd.func13 rfl rfl (Nat.le_of_ble_eq_true rfl) ?_
  have hw := hw.dup (i := i0 + 0) h0
  have hw := hw.dup (i := i1 + 1) h1
  refine RC.seq ?_
  refine RC.region ?_
  refine RL.box_rd (i := 1) (v := v0) trivial rfl hw rfl rfl fun b1 w hw => ?_
  have hw := hw.freeze_bx (i := 0) rfl
  refine RL.box_rd (i := 1) (v := v1) trivial rfl hw rfl rfl fun b2 w hw => ?_
  have hw := hw.freeze_bx (i := 0) rfl
  refine RL.assign (v := (.int .i64 0)) trivial rfl rfl ?_
  refine RL.nil ?_
  refine thenQ_n ?_
  refine RC.seq ?_
  refine RC.seq ?_
  refine RC.region ?_
  refine RL.load_pt (i := 1) (x := p0) trivial rfl hw rfl rfl ty22 fun v3 hw => ?_
  obtain ⟨x4, hx4, hb⟩ := bd hb
  refine RL.call trivial rfl fn40 [v3] rfl (Calls_ret (netlist_CheckTypes_ok N  (i0 := 0) hw rfl hx4) ?_)
  rintro _ w ⟨rfl, hw⟩
  refine RL.assign (v := (.int .i64 x4)) trivial rfl rfl ?_
  refine RL.nil ?_
  refine thenQ_n ?_
  refine RC.seq ?_
  refine RC.region ?_
  refine RL.move (v := (.int .i64 x4)) trivial rfl rfl ?_
  refine RL.icmp (a := x4) (b := 0) trivial rfl rfl rfl rfl ?_
  refine RL.nil ?_
  refine thenQ_n ?_
  refine RC.cond (b := (x4 != 0)) rfl (fun hc => ?_) (fun hc => ?_)
  · replace hb := cT hc hb
    refine RC.seq ?_
    refine RC.region ?_
    refine RL.move (v := (.int .i64 x4)) trivial rfl rfl ?_
    refine RL.assign (v := (.int .i64 x4)) trivial rfl rfl ?_
    refine RL.nil ?_
    refine thenQ_n ?_
    refine RC.ret ?_
    refine thenQ_r ?_
    injection hb with hb; subst hb
    exact fin1 rfl rfl ⟨rfl, hw.drop 5 rfl⟩
  replace hb := cF hc hb
  refine RC.skip ?_
  refine thenQ_n ?_
  refine RC.seq ?_
  refine RC.seq ?_
  refine RC.region ?_
  refine RL.load_pt (i := 2) (x := p0) trivial rfl hw rfl rfl ty22 fun v5 hw => ?_
  refine RL.fa_pt (i := 2) (f := fun (x : Netlist) => x.Parts) trivial rfl hw rfl rfl fa26_0 fd_Netlist_0 fun v6 hw => ?_
  refine RL.load_pt (i := 0) (x := p1.Parts) trivial rfl hw rfl rfl ty23 fun v7 hw => ?_
  obtain ⟨x8, hx8, hb⟩ := bd hb
  refine RL.call trivial rfl fn41 [v5, v7, (.func (.func 42) #[] #[])] rfl (Calls_ret (netlist_checkParts_ok N  (i0 := 2) (i1 := 0) hw rfl rfl ⟨42, [], rfl, fn42, fun w Γl v y0 r i hw hi hr => by obtain rfl := hw.ofSc (γ := Str) hi; exact Calls_ret (netlist_IsPath_ok N (p0 := y0) hw hr) fun _ _ h => h⟩ hx8) ?_)
  rintro _ w ⟨rfl, hw⟩
  refine RL.assign (v := (.int .i64 x8)) trivial rfl rfl ?_
  refine RL.nil ?_
  refine thenQ_n ?_
  refine RC.seq ?_
  refine RC.region ?_
  refine RL.move (v := (.int .i64 x8)) trivial rfl rfl ?_
  refine RL.icmp (a := x8) (b := 0) trivial rfl rfl rfl rfl ?_
  refine RL.nil ?_
  refine thenQ_n ?_
  refine RC.cond (b := (x8 != 0)) rfl (fun hc => ?_) (fun hc => ?_)
  · replace hb := cT hc hb
    refine RC.seq ?_
    refine RC.region ?_
    refine RL.move (v := (.int .i64 x8)) trivial rfl rfl ?_
    refine RL.assign (v := (.int .i64 x8)) trivial rfl rfl ?_
    refine RL.nil ?_
    refine thenQ_n ?_
    refine RC.ret ?_
    refine thenQ_r ?_
    injection hb with hb; subst hb
    exact fin1 rfl rfl ⟨rfl, hw.drop 8 rfl⟩
  replace hb := cF hc hb
  refine RC.skip ?_
  refine thenQ_n ?_
  refine RC.seq ?_
  refine RC.seq ?_
  refine RC.region ?_
  refine RL.fa_pt (i := 4) (f := fun (x : Netlist) => x.Nets) trivial rfl hw rfl rfl fa26_1 fd_Netlist_1 fun v9 hw => ?_
  refine RL.load_pt (i := 0) (x := p1.Nets) trivial rfl hw rfl rfl ty24 fun v10 hw => ?_
  refine RL.len_rd (i := 0) (l := p1.Nets) trivial rfl hw rfl rfl un24 ?_
  refine RL.icmp (a := ((p1.Nets.length : Nat) : Int)) (b := 1000) trivial rfl rfl rfl rfl ?_
  refine RL.nil ?_
  refine thenQ_n ?_
  refine RC.cond (b := (decide (((p1.Nets.length : Nat) : Int) > 1000))) rfl (fun hc => ?_) (fun hc => ?_)
  · replace hb := cT hc hb
    refine RC.seq ?_
    refine RC.region ?_
    refine RL.assign (v := (.int .i64 2)) trivial rfl rfl ?_
    refine RL.nil ?_
    refine thenQ_n ?_
    refine RC.ret ?_
    refine thenQ_r ?_
    injection hb with hb; subst hb
    exact fin1 rfl rfl ⟨rfl, hw.drop 10 rfl⟩
  replace hb := cF hc hb
  refine RC.skip ?_
  refine thenQ_n ?_
  refine RC.seq ?_
  refine RC.region ?_
  refine RL.makeMap (κ := Pin) (ν := Bool) trivial rfl hw fun v11 w hw => ?_
  refine RL.assign (v := v11) trivial rfl rfl ?_
  refine RL.nil ?_
  refine thenQ_n ?_
  refine RC.seq ?_
  refine RC.seq ?_
  refine RC.region ?_
  refine RL.fa_pt (i := 7) (f := fun (x : Netlist) => x.Nets) trivial rfl hw rfl rfl fa26_1 fd_Netlist_1 fun v12 hw => ?_
  refine RL.load_pt (i := 0) (x := p1.Nets) trivial rfl hw rfl rfl ty24 fun v13 hw => ?_
  refine RL.len_rd (i := 0) (l := p1.Nets) trivial rfl hw rfl rfl un24 ?_
  refine RL.move (v := (.int .i64 0)) trivial rfl rfl ?_
  refine RL.nil ?_
  refine thenQ_n ?_
  obtain ⟨o106, hN, hb⟩ := bd hb
  refine RC.range (fun (k14 : Nat) (s15 : (List (Pin × Bool))) (σ : Nat → Value) (w : World) => agree σ [(2, (.pointer (some ⟨b1, 0, none⟩))), (3, (.pointer (some ⟨b2, 0, none⟩))), (7, v11), (29, v13), (30, (.int .i64 ((p1.Nets.length : Nat) : Int))), (31, (.int .i64 ((k14 : Nat) : Int)))] ∧ Holds E w ([pt (.pointer (some ⟨b1, 0, none⟩)) p0, pt (.pointer (some ⟨b2, 0, none⟩)) p1, mp v11 s15, rd v13 p1.Nets] ++ Γ)) (fun (s15 : (List (Pin × Bool))) (σ : Nat → Value) (w : World) => agree σ [] ∧ Holds E w ([pt (.pointer (some ⟨b1, 0, none⟩)) p0, pt (.pointer (some ⟨b2, 0, none⟩)) p1, mp v11 s15, rd v13 p1.Nets] ++ Γ)) (netlist_CheckList_K E Γ) hN ?_ ?_ ?_ ?_ ?_ 
  · exact ⟨⟨rfl, rfl, rfl, rfl, rfl, rfl, trivial⟩, hw.pick 13 [10, 9, 2, 0] (new := [pt (.pointer (some ⟨b1, 0, none⟩)) p0, pt (.pointer (some ⟨b2, 0, none⟩)) p1, mp v11 ([] : (List (Pin × Bool))), rd v13 p1.Nets]) rfl rfl (by decide) (by decide)⟩
  · intro hm s15 σ w hI
    obtain ⟨ha, hw⟩ := hI
    obtain ⟨τ, rfl⟩ := ha.ups
    refine RC.seq ?_
    refine RC.region ?_
    refine RL.icmp (a := ((p1.Nets.length : Nat) : Int)) (b := ((p1.Nets.length : Nat) : Int)) trivial rfl rfl rfl rfl ?_
    refine RL.nil ?_
    refine thenQ_n ?_
    refine RC.seq ?_
    refine RC.cond_f dge ?_
    refine RC.exit ?_
    refine thenQ_x ?_
    exact ⟨rfl, trivial, hw.pick 4 [0, 1, 2, 3] (new := [pt (.pointer (some ⟨b1, 0, none⟩)) p0, pt (.pointer (some ⟨b2, 0, none⟩)) p1, mp v11 s15, rd v13 p1.Nets]) rfl rfl (by decide) (by decide)⟩
  · intro hm k14 s15 fl σ w hk hI hb
    obtain ⟨ha, hw⟩ := hI
    obtain ⟨τ, rfl⟩ := ha.ups
    refine RC.seq ?_
    refine RC.region ?_
    refine RL.icmp (a := ((k14 : Nat) : Int)) (b := ((p1.Nets.length : Nat) : Int)) trivial rfl rfl rfl rfl ?_
    refine RL.nil ?_
    refine thenQ_n ?_
    refine RC.seq ?_
    refine RC.cond_t (dlt hk) ?_
    refine RC.skip ?_
    refine thenQ_n ?_
    refine RC.seq ?_
    refine RC.block ?_
    refine RC.seq ?_
    refine RC.region ?_
    refine RL.move (v := (.int .i64 ((k14 : Nat) : Int))) trivial rfl rfl ?_
    obtain ⟨x76, hx76, hb⟩ := bd hb
    refine RL.ia_rd (i := 3) trivial rfl hw rfl rfl rfl sl24 hx76 fun v77 hw => ?_
    refine RL.load_pt (i := 0) (x := x76) trivial rfl hw rfl rfl ty64 fun v78 hw => ?_
    refine RL.alloc trivial rfl hw ze64.z fun b79 w hw => ?_
    refine RL.assign (v := (.int .i64 ((k14 : Nat) : Int))) trivial rfl rfl ?_
    refine RL.store_raw (i := 0) (j := 1) trivial hw rfl rfl rfl rfl ty64 rfl fun w hw => ?_
    refine RL.nil ?_
    refine thenQ_n ?_
    refine RC.seq ?_
    refine RC.seq ?_
    refine RC.region ?_
    refine RL.fa_b trivial rfl rfl fa64_0 ?_
    refine RL.load_bfs (i := 0) (f := (fun x => x.Name)) trivial rfl hw rfl rfl fd_Net_0 ty9 ?_
    obtain ⟨x80, hx80, hb⟩ := bd hb
    refine RL.call trivial rfl fn42 [(str x76.Name)] rfl (Calls_ret (netlist_IsPath_ok N (p0 := x76.Name)  hw  hx80) ?_)
    rintro _ w ⟨rfl, hw⟩
    refine RL.not (b := x80) trivial rfl rfl ?_
    refine RL.nil ?_
    refine thenQ_n ?_
    refine RC.cond (b := (!x80)) rfl (fun hc => ?_) (fun hc => ?_)
    · replace hb := cT hc hb
      refine RC.seq ?_
      refine RC.region ?_
      refine RL.assign (v := (.int .i64 5)) trivial rfl rfl ?_
      refine RL.nil ?_
      refine thenQ_n ?_
      refine RC.ret ?_
      refine thenQ_r ?_
      refine blkQ_r ?_
      refine thenQ_r ?_
      injection hb with hb; subst hb
      exact ⟨rfl, fin1 rfl rfl ⟨rfl, hw.drop 7 rfl⟩⟩
    replace hb := cF hc hb
    refine RC.skip ?_
    refine thenQ_n ?_
    refine RC.seq ?_
    refine RC.seq ?_
    refine RC.region ?_
    refine RL.fa_b trivial rfl rfl fa64_1 ?_
    refine RL.load_bf (i := 0) (f := (fun x => x.Pins)) trivial rfl hw rfl rfl fd_Net_1 ty33 fun v81 hw => ?_
    refine RL.len_rd (i := 0) (l := x76.Pins) trivial rfl hw rfl rfl un33 ?_
    refine RL.icmp (a := ((x76.Pins.length : Nat) : Int)) (b := 0) trivial rfl rfl rfl rfl ?_
    refine RL.nil ?_
    refine thenQ_n ?_
    refine RC.cond (b := (((x76.Pins.length : Nat) : Int) == 0)) rfl (fun hc => ?_) (fun hc => ?_)
    · replace hb := cT hc hb
      refine RC.seq ?_
      refine RC.region ?_
      refine RL.assign (v := (.int .i64 9)) trivial rfl rfl ?_
      refine RL.nil ?_
      refine thenQ_n ?_
      refine RC.ret ?_
      refine thenQ_r ?_
      refine blkQ_r ?_
      refine thenQ_r ?_
      injection hb with hb; subst hb
      exact ⟨rfl, fin1 rfl rfl ⟨rfl, hw.drop 8 rfl⟩⟩
    replace hb := cF hc hb
    refine RC.skip ?_
    refine thenQ_n ?_
    refine RC.seq ?_
    refine RC.seq ?_
    refine RC.region ?_
    refine RL.fa_b trivial rfl rfl fa64_1 ?_
    refine RL.load_bf (i := 1) (f := (fun x => x.Pins)) trivial rfl hw rfl rfl fd_Net_1 ty33 fun v82 hw => ?_
    refine RL.makeFunc trivial rfl [(.pointer (some ⟨b1, 0, none⟩)), (.pointer (some ⟨b2, 0, none⟩))] rfl ?_
    refine RL.move (v := v11) trivial rfl rfl ?_
    have hw := hw.pull (i := 7) rfl
    obtain ⟨x83, hx83, hb⟩ := bd hb
    refine RL.call trivial rfl fn43 [v82, (.func (.func 44) #[] #[(.pointer (some ⟨b1, 0, none⟩)), (.pointer (some ⟨b2, 0, none⟩))]), v11] rfl (Calls_ret (netlist_checkNetPins_ok N  (i0 := 0) hw rfl ⟨44, [(.pointer (some ⟨b1, 0, none⟩)), (.pointer (some ⟨b2, 0, none⟩))], rfl, fn44, fun w Γl v y0 r i hw hi hr => by exact Calls_ret (netlist_CheckList_c1_ok N (i0 := i) (i1 := Γl.length + 5) (i2 := Γl.length + 6) hw hi (up_get rfl) (up_get rfl) hr) fun _ _ h => h⟩ hx83) ?_)
    rintro _ w ⟨rfl, hw⟩
    refine RL.assign (v := (.int .i64 x83.1)) trivial rfl rfl ?_
    refine RL.nil ?_
    refine thenQ_n ?_
    refine RC.seq ?_
    refine RC.region ?_
    refine RL.move (v := (.int .i64 x83.1)) trivial rfl rfl ?_
    refine RL.icmp (a := x83.1) (b := 0) trivial rfl rfl rfl rfl ?_
    refine RL.nil ?_
    refine thenQ_n ?_
    refine RC.cond (b := (x83.1 != 0)) rfl (fun hc => ?_) (fun hc => ?_)
    · replace hb := cT hc hb
      refine RC.seq ?_
      refine RC.region ?_
      refine RL.move (v := (.int .i64 x83.1)) trivial rfl rfl ?_
      refine RL.assign (v := (.int .i64 x83.1)) trivial rfl rfl ?_
      refine RL.nil ?_
      refine thenQ_n ?_
      refine RC.ret ?_
      refine thenQ_r ?_
      refine blkQ_r ?_
      refine thenQ_r ?_
      injection hb with hb; subst hb
      exact ⟨rfl, fin1 rfl rfl ⟨rfl, hw.drop 10 rfl⟩⟩
    replace hb := cF hc hb
    refine RC.skip ?_
    refine thenQ_n ?_
    refine RC.seq ?_
    refine RC.seq ?_
    refine RC.region ?_
    refine RL.fa_b trivial rfl rfl fa64_2 ?_
    refine RL.load_bf (i := 3) (f := (fun x => x.Ports)) trivial rfl hw rfl rfl fd_Net_2 ty55 fun v84 hw => ?_
    refine RL.len_rd (i := 0) (l := x76.Ports) trivial rfl hw rfl rfl un55 ?_
    refine RL.icmp (a := ((x76.Ports.length : Nat) : Int)) (b := 0) trivial rfl rfl rfl rfl ?_
    refine RL.nil ?_
    refine thenQ_n ?_
    refine RC.cond (b := (decide (((x76.Ports.length : Nat) : Int) > 0))) rfl (fun hc => ?_) (fun hc => ?_)
    · replace hb := cT hc hb
      refine RC.seq ?_
      refine RC.region ?_
      refine RL.assign (v := (.int .i64 3)) trivial rfl rfl ?_
      refine RL.nil ?_
      refine thenQ_n ?_
      refine RC.ret ?_
      refine thenQ_r ?_
      refine blkQ_r ?_
      refine thenQ_r ?_
      injection hb with hb; subst hb
      exact ⟨rfl, fin1 rfl rfl ⟨rfl, hw.drop 11 rfl⟩⟩
    replace hb := cF hc hb
    refine RC.skip ?_
    refine thenQ_n ?_
    refine RC.seq ?_
    obtain ⟨s95, hj, hb⟩ := bd hb
    refine RC.jn (fun (s95 : Bool) (σ : Nat → Value) (w : World) => agree σ [(2, (.pointer (some ⟨b1, 0, none⟩))), (3, (.pointer (some ⟨b2, 0, none⟩))), (7, v11), (29, v13), (30, (.int .i64 ((p1.Nets.length : Nat) : Int))), (31, (.int .i64 ((k14 : Nat) : Int))), (69, (.bool s95))] ∧ Holds E w ([pt (.pointer (some ⟨b1, 0, none⟩)) p0, pt (.pointer (some ⟨b2, 0, none⟩)) p1, mp v11 x83.2, rd v13 p1.Nets] ++ Γ)) s95 ?_ ?_
    · rcases Bool.eq_false_or_eq_true (decide (((k14 : Nat) : Int) > 0)) with hg96 | hg96
      rotate_left
      · replace hj := cF hg96 hj
        refine RC.draw mixed rfl (fun (D : Nat → Bool) (σ : Nat → Value) (w : World) => doneV D σ [(0, 56, (.int .i64 ((k14 : Nat) : Int))), (1, 57, (.bool (decide (((k14 : Nat) : Int) > 0)))), (2, 58, (.bool (decide (((k14 : Nat) : Int) > 0)))), (3, 59, undef), (4, 60, undef), (5, 61, undef), (6, 62, undef), (7, 63, undef), (8, 64, undef), (9, 65, undef), (10, 66, undef), (11, 67, undef), (12, 68, undef), (13, 69, (.bool false))] ∧ agree σ [(2, (.pointer (some ⟨b1, 0, none⟩))), (3, (.pointer (some ⟨b2, 0, none⟩))), (7, v11), (8, (.int .i64 ((k14 : Nat) : Int))), (9, (.pointer (some ⟨b79, 0, none⟩))), (29, v13), (30, (.int .i64 ((p1.Nets.length : Nat) : Int))), (31, (.int .i64 ((k14 : Nat) : Int)))] ∧ Holds E w ([rd v84 x76.Ports, mp v11 x83.2, rd v82 x76.Pins, rd v81 x76.Pins, bx 64 b79 x76, rd v78 x76, pt v77 x76, pt (.pointer (some ⟨b1, 0, none⟩)) p0, pt (.pointer (some ⟨b2, 0, none⟩)) p1, junk, rd v13 p1.Nets] ++ Γ)) ?_ ⟨?_, ?_, ?_, ?_, ?_, ?_, ?_, ?_, ?_, ?_, ?_, ?_, ?_, ?_, trivial⟩ ?_
        · have hw := hw.drew
          exact ⟨⟨(fun h => by cases h), (fun h => by cases h), (fun h => by cases h), (fun h => by cases h), (fun h => by cases h), (fun h => by cases h), (fun h => by cases h), (fun h => by cases h), (fun h => by cases h), (fun h => by cases h), (fun h => by cases h), (fun h => by cases h), (fun h => by cases h), (fun h => by cases h), trivial⟩, ⟨rfl, rfl, rfl, rfl, rfl, rfl, rfl, rfl, trivial⟩, hw⟩
        · intro D σ w hD hdep hJ
          obtain ⟨hv, ha, hw⟩ := hJ
          have ha2 : agree σ [(2, (.pointer (some ⟨b1, 0, none⟩))), (3, (.pointer (some ⟨b2, 0, none⟩))), (7, v11), (8, (.int .i64 ((k14 : Nat) : Int))), (9, (.pointer (some ⟨b79, 0, none⟩))), (29, v13), (30, (.int .i64 ((p1.Nets.length : Nat) : Int))), (31, (.int .i64 ((k14 : Nat) : Int)))] := ⟨ha.1, ha.2.1, ha.2.2.1, ha.2.2.2.1, ha.2.2.2.2.1, ha.2.2.2.2.2.1, ha.2.2.2.2.2.2.1, ha.2.2.2.2.2.2.2.1, trivial⟩
          obtain ⟨τ, rfl⟩ := ha2.ups
          refine RL.move (v := (.int .i64 ((k14 : Nat) : Int))) trivial rfl rfl ?_
          refine RL.nil ?_
          exact ⟨rfl, ⟨fun _ => rfl, hv.2.1, hv.2.2.1, hv.2.2.2.1, hv.2.2.2.2.1, hv.2.2.2.2.2.1, hv.2.2.2.2.2.2.1, hv.2.2.2.2.2.2.2.1, hv.2.2.2.2.2.2.2.2.1, hv.2.2.2.2.2.2.2.2.2.1, hv.2.2.2.2.2.2.2.2.2.2.1, hv.2.2.2.2.2.2.2.2.2.2.2.1, hv.2.2.2.2.2.2.2.2.2.2.2.2.1, hv.2.2.2.2.2.2.2.2.2.2.2.2.2.1, trivial⟩, ha, hw⟩
        · intro D σ w hD hdep hJ
          obtain ⟨hv, ha, hw⟩ := hJ
          have ha2 : agree σ [(56, (.int .i64 ((k14 : Nat) : Int))), (2, (.pointer (some ⟨b1, 0, none⟩))), (3, (.pointer (some ⟨b2, 0, none⟩))), (7, v11), (8, (.int .i64 ((k14 : Nat) : Int))), (9, (.pointer (some ⟨b79, 0, none⟩))), (29, v13), (30, (.int .i64 ((p1.Nets.length : Nat) : Int))), (31, (.int .i64 ((k14 : Nat) : Int)))] := ⟨hv.1 (hdep.1 rfl), ha.1, ha.2.1, ha.2.2.1, ha.2.2.2.1, ha.2.2.2.2.1, ha.2.2.2.2.2.1, ha.2.2.2.2.2.2.1, ha.2.2.2.2.2.2.2.1, trivial⟩
          obtain ⟨τ, rfl⟩ := ha2.ups
          refine RL.icmp (a := ((k14 : Nat) : Int)) (b := 0) trivial rfl rfl rfl rfl ?_
          refine RL.nil ?_
          exact ⟨rfl, ⟨hv.1, fun _ => rfl, hv.2.2.1, hv.2.2.2.1, hv.2.2.2.2.1, hv.2.2.2.2.2.1, hv.2.2.2.2.2.2.1, hv.2.2.2.2.2.2.2.1, hv.2.2.2.2.2.2.2.2.1, hv.2.2.2.2.2.2.2.2.2.1, hv.2.2.2.2.2.2.2.2.2.2.1, hv.2.2.2.2.2.2.2.2.2.2.2.1, hv.2.2.2.2.2.2.2.2.2.2.2.2.1, hv.2.2.2.2.2.2.2.2.2.2.2.2.2.1, trivial⟩, ha, hw⟩
        · intro D σ w hD hdep hJ
          obtain ⟨hv, ha, hw⟩ := hJ
          have ha2 : agree σ [(57, (.bool (decide (((k14 : Nat) : Int) > 0)))), (2, (.pointer (some ⟨b1, 0, none⟩))), (3, (.pointer (some ⟨b2, 0, none⟩))), (7, v11), (8, (.int .i64 ((k14 : Nat) : Int))), (9, (.pointer (some ⟨b79, 0, none⟩))), (29, v13), (30, (.int .i64 ((p1.Nets.length : Nat) : Int))), (31, (.int .i64 ((k14 : Nat) : Int)))] := ⟨hv.2.1 (hdep.1 rfl), ha.1, ha.2.1, ha.2.2.1, ha.2.2.2.1, ha.2.2.2.2.1, ha.2.2.2.2.2.1, ha.2.2.2.2.2.2.1, ha.2.2.2.2.2.2.2.1, trivial⟩
          obtain ⟨τ, rfl⟩ := ha2.ups
          refine RL.move (v := (.bool (decide (((k14 : Nat) : Int) > 0)))) trivial rfl rfl ?_
          refine RL.nil ?_
          exact ⟨rfl, ⟨hv.1, hv.2.1, fun _ => rfl, hv.2.2.2.1, hv.2.2.2.2.1, hv.2.2.2.2.2.1, hv.2.2.2.2.2.2.1, hv.2.2.2.2.2.2.2.1, hv.2.2.2.2.2.2.2.2.1, hv.2.2.2.2.2.2.2.2.2.1, hv.2.2.2.2.2.2.2.2.2.2.1, hv.2.2.2.2.2.2.2.2.2.2.2.1, hv.2.2.2.2.2.2.2.2.2.2.2.2.1, hv.2.2.2.2.2.2.2.2.2.2.2.2.2.1, trivial⟩, ha, hw⟩
        · intro D σ w hD hdep hJ
          obtain ⟨hv, ha, hw⟩ := hJ
          have ha2 : agree σ [(58, (.bool (decide (((k14 : Nat) : Int) > 0)))), (2, (.pointer (some ⟨b1, 0, none⟩))), (3, (.pointer (some ⟨b2, 0, none⟩))), (7, v11), (8, (.int .i64 ((k14 : Nat) : Int))), (9, (.pointer (some ⟨b79, 0, none⟩))), (29, v13), (30, (.int .i64 ((p1.Nets.length : Nat) : Int))), (31, (.int .i64 ((k14 : Nat) : Int)))] := ⟨hv.2.2.1 (hdep.1 rfl), ha.1, ha.2.1, ha.2.2.1, ha.2.2.2.1, ha.2.2.2.2.1, ha.2.2.2.2.2.1, ha.2.2.2.2.2.2.1, ha.2.2.2.2.2.2.2.1, trivial⟩
          obtain ⟨τ, rfl⟩ := ha2.ups
          refine RL.skip rfl (.inl (congrArg Value.bool hg96)) rfl ?_
          refine RL.nil ?_
          exact ⟨rfl, ⟨hv.1, hv.2.1, hv.2.2.1, fun _ => rfl, hv.2.2.2.2.1, hv.2.2.2.2.2.1, hv.2.2.2.2.2.2.1, hv.2.2.2.2.2.2.2.1, hv.2.2.2.2.2.2.2.2.1, hv.2.2.2.2.2.2.2.2.2.1, hv.2.2.2.2.2.2.2.2.2.2.1, hv.2.2.2.2.2.2.2.2.2.2.2.1, hv.2.2.2.2.2.2.2.2.2.2.2.2.1, hv.2.2.2.2.2.2.2.2.2.2.2.2.2.1, trivial⟩, ha, hw⟩
        · intro D σ w hD hdep hJ
          obtain ⟨hv, ha, hw⟩ := hJ
          have ha2 : agree σ [(59, undef), (58, (.bool (decide (((k14 : Nat) : Int) > 0)))), (2, (.pointer (some ⟨b1, 0, none⟩))), (3, (.pointer (some ⟨b2, 0, none⟩))), (7, v11), (8, (.int .i64 ((k14 : Nat) : Int))), (9, (.pointer (some ⟨b79, 0, none⟩))), (29, v13), (30, (.int .i64 ((p1.Nets.length : Nat) : Int))), (31, (.int .i64 ((k14 : Nat) : Int)))] := ⟨hv.2.2.2.1 (hdep.1 rfl), hv.2.2.1 (hdep.2.1 rfl), ha.1, ha.2.1, ha.2.2.1, ha.2.2.2.1, ha.2.2.2.2.1, ha.2.2.2.2.2.1, ha.2.2.2.2.2.2.1, ha.2.2.2.2.2.2.2.1, trivial⟩
          obtain ⟨τ, rfl⟩ := ha2.ups
          refine RL.skip rfl (.inl (congrArg Value.bool hg96)) rfl ?_
          refine RL.nil ?_
          exact ⟨rfl, ⟨hv.1, hv.2.1, hv.2.2.1, hv.2.2.2.1, fun _ => rfl, hv.2.2.2.2.2.1, hv.2.2.2.2.2.2.1, hv.2.2.2.2.2.2.2.1, hv.2.2.2.2.2.2.2.2.1, hv.2.2.2.2.2.2.2.2.2.1, hv.2.2.2.2.2.2.2.2.2.2.1, hv.2.2.2.2.2.2.2.2.2.2.2.1, hv.2.2.2.2.2.2.2.2.2.2.2.2.1, hv.2.2.2.2.2.2.2.2.2.2.2.2.2.1, trivial⟩, ha, hw⟩
        · intro D σ w hD hdep hJ
          obtain ⟨hv, ha, hw⟩ := hJ
          have ha2 : agree σ [(58, (.bool (decide (((k14 : Nat) : Int) > 0)))), (2, (.pointer (some ⟨b1, 0, none⟩))), (3, (.pointer (some ⟨b2, 0, none⟩))), (7, v11), (8, (.int .i64 ((k14 : Nat) : Int))), (9, (.pointer (some ⟨b79, 0, none⟩))), (29, v13), (30, (.int .i64 ((p1.Nets.length : Nat) : Int))), (31, (.int .i64 ((k14 : Nat) : Int)))] := ⟨hv.2.2.1 (hdep.1 rfl), ha.1, ha.2.1, ha.2.2.1, ha.2.2.2.1, ha.2.2.2.2.1, ha.2.2.2.2.2.1, ha.2.2.2.2.2.2.1, ha.2.2.2.2.2.2.2.1, trivial⟩
          obtain ⟨τ, rfl⟩ := ha2.ups
          refine RL.skip rfl (.inl (congrArg Value.bool hg96)) rfl ?_
          refine RL.nil ?_
          exact ⟨rfl, ⟨hv.1, hv.2.1, hv.2.2.1, hv.2.2.2.1, hv.2.2.2.2.1, fun _ => rfl, hv.2.2.2.2.2.2.1, hv.2.2.2.2.2.2.2.1, hv.2.2.2.2.2.2.2.2.1, hv.2.2.2.2.2.2.2.2.2.1, hv.2.2.2.2.2.2.2.2.2.2.1, hv.2.2.2.2.2.2.2.2.2.2.2.1, hv.2.2.2.2.2.2.2.2.2.2.2.2.1, hv.2.2.2.2.2.2.2.2.2.2.2.2.2.1, trivial⟩, ha, hw⟩
        · intro D σ w hD hdep hJ
          obtain ⟨hv, ha, hw⟩ := hJ
          have ha2 : agree σ [(61, undef), (58, (.bool (decide (((k14 : Nat) : Int) > 0)))), (2, (.pointer (some ⟨b1, 0, none⟩))), (3, (.pointer (some ⟨b2, 0, none⟩))), (7, v11), (8, (.int .i64 ((k14 : Nat) : Int))), (9, (.pointer (some ⟨b79, 0, none⟩))), (29, v13), (30, (.int .i64 ((p1.Nets.length : Nat) : Int))), (31, (.int .i64 ((k14 : Nat) : Int)))] := ⟨hv.2.2.2.2.2.1 (hdep.1 rfl), hv.2.2.1 (hdep.2.1 rfl), ha.1, ha.2.1, ha.2.2.1, ha.2.2.2.1, ha.2.2.2.2.1, ha.2.2.2.2.2.1, ha.2.2.2.2.2.2.1, ha.2.2.2.2.2.2.2.1, trivial⟩
          obtain ⟨τ, rfl⟩ := ha2.ups
          refine RL.skip rfl (.inl (congrArg Value.bool hg96)) rfl ?_
          refine RL.nil ?_
          exact ⟨rfl, ⟨hv.1, hv.2.1, hv.2.2.1, hv.2.2.2.1, hv.2.2.2.2.1, hv.2.2.2.2.2.1, fun _ => rfl, hv.2.2.2.2.2.2.2.1, hv.2.2.2.2.2.2.2.2.1, hv.2.2.2.2.2.2.2.2.2.1, hv.2.2.2.2.2.2.2.2.2.2.1, hv.2.2.2.2.2.2.2.2.2.2.2.1, hv.2.2.2.2.2.2.2.2.2.2.2.2.1, hv.2.2.2.2.2.2.2.2.2.2.2.2.2.1, trivial⟩, ha, hw⟩
        · intro D σ w hD hdep hJ
          obtain ⟨hv, ha, hw⟩ := hJ
          have ha2 : agree σ [(58, (.bool (decide (((k14 : Nat) : Int) > 0)))), (2, (.pointer (some ⟨b1, 0, none⟩))), (3, (.pointer (some ⟨b2, 0, none⟩))), (7, v11), (8, (.int .i64 ((k14 : Nat) : Int))), (9, (.pointer (some ⟨b79, 0, none⟩))), (29, v13), (30, (.int .i64 ((p1.Nets.length : Nat) : Int))), (31, (.int .i64 ((k14 : Nat) : Int)))] := ⟨hv.2.2.1 (hdep.1 rfl), ha.1, ha.2.1, ha.2.2.1, ha.2.2.2.1, ha.2.2.2.2.1, ha.2.2.2.2.2.1, ha.2.2.2.2.2.2.1, ha.2.2.2.2.2.2.2.1, trivial⟩
          obtain ⟨τ, rfl⟩ := ha2.ups
          refine RL.skip rfl (.inl (congrArg Value.bool hg96)) rfl ?_
          refine RL.nil ?_
          exact ⟨rfl, ⟨hv.1, hv.2.1, hv.2.2.1, hv.2.2.2.1, hv.2.2.2.2.1, hv.2.2.2.2.2.1, hv.2.2.2.2.2.2.1, fun _ => rfl, hv.2.2.2.2.2.2.2.2.1, hv.2.2.2.2.2.2.2.2.2.1, hv.2.2.2.2.2.2.2.2.2.2.1, hv.2.2.2.2.2.2.2.2.2.2.2.1, hv.2.2.2.2.2.2.2.2.2.2.2.2.1, hv.2.2.2.2.2.2.2.2.2.2.2.2.2.1, trivial⟩, ha, hw⟩
        · intro D σ w hD hdep hJ
          obtain ⟨hv, ha, hw⟩ := hJ
          have ha2 : agree σ [(63, undef), (58, (.bool (decide (((k14 : Nat) : Int) > 0)))), (2, (.pointer (some ⟨b1, 0, none⟩))), (3, (.pointer (some ⟨b2, 0, none⟩))), (7, v11), (8, (.int .i64 ((k14 : Nat) : Int))), (9, (.pointer (some ⟨b79, 0, none⟩))), (29, v13), (30, (.int .i64 ((p1.Nets.length : Nat) : Int))), (31, (.int .i64 ((k14 : Nat) : Int)))] := ⟨hv.2.2.2.2.2.2.2.1 (hdep.1 rfl), hv.2.2.1 (hdep.2.1 rfl), ha.1, ha.2.1, ha.2.2.1, ha.2.2.2.1, ha.2.2.2.2.1, ha.2.2.2.2.2.1, ha.2.2.2.2.2.2.1, ha.2.2.2.2.2.2.2.1, trivial⟩
          obtain ⟨τ, rfl⟩ := ha2.ups
          refine RL.skip rfl (.inl (congrArg Value.bool hg96)) rfl ?_
          refine RL.nil ?_
          exact ⟨rfl, ⟨hv.1, hv.2.1, hv.2.2.1, hv.2.2.2.1, hv.2.2.2.2.1, hv.2.2.2.2.2.1, hv.2.2.2.2.2.2.1, hv.2.2.2.2.2.2.2.1, fun _ => rfl, hv.2.2.2.2.2.2.2.2.2.1, hv.2.2.2.2.2.2.2.2.2.2.1, hv.2.2.2.2.2.2.2.2.2.2.2.1, hv.2.2.2.2.2.2.2.2.2.2.2.2.1, hv.2.2.2.2.2.2.2.2.2.2.2.2.2.1, trivial⟩, ha, hw⟩
        · intro D σ w hD hdep hJ
          obtain ⟨hv, ha, hw⟩ := hJ
          have ha2 : agree σ [(62, undef), (64, undef), (58, (.bool (decide (((k14 : Nat) : Int) > 0)))), (2, (.pointer (some ⟨b1, 0, none⟩))), (3, (.pointer (some ⟨b2, 0, none⟩))), (7, v11), (8, (.int .i64 ((k14 : Nat) : Int))), (9, (.pointer (some ⟨b79, 0, none⟩))), (29, v13), (30, (.int .i64 ((p1.Nets.length : Nat) : Int))), (31, (.int .i64 ((k14 : Nat) : Int)))] := ⟨hv.2.2.2.2.2.2.1 (hdep.1 rfl), hv.2.2.2.2.2.2.2.2.1 (hdep.2.1 rfl), hv.2.2.1 (hdep.2.2.1 rfl), ha.1, ha.2.1, ha.2.2.1, ha.2.2.2.1, ha.2.2.2.2.1, ha.2.2.2.2.2.1, ha.2.2.2.2.2.2.1, ha.2.2.2.2.2.2.2.1, trivial⟩
          obtain ⟨τ, rfl⟩ := ha2.ups
          refine RL.skip rfl (.inl (congrArg Value.bool hg96)) rfl ?_
          refine RL.nil ?_
          exact ⟨rfl, ⟨hv.1, hv.2.1, hv.2.2.1, hv.2.2.2.1, hv.2.2.2.2.1, hv.2.2.2.2.2.1, hv.2.2.2.2.2.2.1, hv.2.2.2.2.2.2.2.1, hv.2.2.2.2.2.2.2.2.1, fun _ => rfl, hv.2.2.2.2.2.2.2.2.2.2.1, hv.2.2.2.2.2.2.2.2.2.2.2.1, hv.2.2.2.2.2.2.2.2.2.2.2.2.1, hv.2.2.2.2.2.2.2.2.2.2.2.2.2.1, trivial⟩, ha, hw⟩
        · intro D σ w hD hdep hJ
          obtain ⟨hv, ha, hw⟩ := hJ
          have ha2 : agree σ [(65, undef), (58, (.bool (decide (((k14 : Nat) : Int) > 0)))), (2, (.pointer (some ⟨b1, 0, none⟩))), (3, (.pointer (some ⟨b2, 0, none⟩))), (7, v11), (8, (.int .i64 ((k14 : Nat) : Int))), (9, (.pointer (some ⟨b79, 0, none⟩))), (29, v13), (30, (.int .i64 ((p1.Nets.length : Nat) : Int))), (31, (.int .i64 ((k14 : Nat) : Int)))] := ⟨hv.2.2.2.2.2.2.2.2.2.1 (hdep.1 rfl), hv.2.2.1 (hdep.2.1 rfl), ha.1, ha.2.1, ha.2.2.1, ha.2.2.2.1, ha.2.2.2.2.1, ha.2.2.2.2.2.1, ha.2.2.2.2.2.2.1, ha.2.2.2.2.2.2.2.1, trivial⟩
          obtain ⟨τ, rfl⟩ := ha2.ups
          refine RL.skip rfl (.inl (congrArg Value.bool hg96)) rfl ?_
          refine RL.nil ?_
          exact ⟨rfl, ⟨hv.1, hv.2.1, hv.2.2.1, hv.2.2.2.1, hv.2.2.2.2.1, hv.2.2.2.2.2.1, hv.2.2.2.2.2.2.1, hv.2.2.2.2.2.2.2.1, hv.2.2.2.2.2.2.2.2.1, hv.2.2.2.2.2.2.2.2.2.1, fun _ => rfl, hv.2.2.2.2.2.2.2.2.2.2.2.1, hv.2.2.2.2.2.2.2.2.2.2.2.2.1, hv.2.2.2.2.2.2.2.2.2.2.2.2.2.1, trivial⟩, ha, hw⟩
        · intro D σ w hD hdep hJ
          obtain ⟨hv, ha, hw⟩ := hJ
          have ha2 : agree σ [(66, undef), (58, (.bool (decide (((k14 : Nat) : Int) > 0)))), (2, (.pointer (some ⟨b1, 0, none⟩))), (3, (.pointer (some ⟨b2, 0, none⟩))), (7, v11), (8, (.int .i64 ((k14 : Nat) : Int))), (9, (.pointer (some ⟨b79, 0, none⟩))), (29, v13), (30, (.int .i64 ((p1.Nets.length : Nat) : Int))), (31, (.int .i64 ((k14 : Nat) : Int)))] := ⟨hv.2.2.2.2.2.2.2.2.2.2.1 (hdep.1 rfl), hv.2.2.1 (hdep.2.1 rfl), ha.1, ha.2.1, ha.2.2.1, ha.2.2.2.1, ha.2.2.2.2.1, ha.2.2.2.2.2.1, ha.2.2.2.2.2.2.1, ha.2.2.2.2.2.2.2.1, trivial⟩
          obtain ⟨τ, rfl⟩ := ha2.ups
          refine RL.skip rfl (.inl (congrArg Value.bool hg96)) rfl ?_
          refine RL.nil ?_
          exact ⟨rfl, ⟨hv.1, hv.2.1, hv.2.2.1, hv.2.2.2.1, hv.2.2.2.2.1, hv.2.2.2.2.2.1, hv.2.2.2.2.2.2.1, hv.2.2.2.2.2.2.2.1, hv.2.2.2.2.2.2.2.2.1, hv.2.2.2.2.2.2.2.2.2.1, hv.2.2.2.2.2.2.2.2.2.2.1, fun _ => rfl, hv.2.2.2.2.2.2.2.2.2.2.2.2.1, hv.2.2.2.2.2.2.2.2.2.2.2.2.2.1, trivial⟩, ha, hw⟩
        · intro D σ w hD hdep hJ
          obtain ⟨hv, ha, hw⟩ := hJ
          have ha2 : agree σ [(60, undef), (67, undef), (58, (.bool (decide (((k14 : Nat) : Int) > 0)))), (2, (.pointer (some ⟨b1, 0, none⟩))), (3, (.pointer (some ⟨b2, 0, none⟩))), (7, v11), (8, (.int .i64 ((k14 : Nat) : Int))), (9, (.pointer (some ⟨b79, 0, none⟩))), (29, v13), (30, (.int .i64 ((p1.Nets.length : Nat) : Int))), (31, (.int .i64 ((k14 : Nat) : Int)))] := ⟨hv.2.2.2.2.1 (hdep.1 rfl), hv.2.2.2.2.2.2.2.2.2.2.2.1 (hdep.2.1 rfl), hv.2.2.1 (hdep.2.2.1 rfl), ha.1, ha.2.1, ha.2.2.1, ha.2.2.2.1, ha.2.2.2.2.1, ha.2.2.2.2.2.1, ha.2.2.2.2.2.2.1, ha.2.2.2.2.2.2.2.1, trivial⟩
          obtain ⟨τ, rfl⟩ := ha2.ups
          refine RL.skip rfl (.inl (congrArg Value.bool hg96)) rfl ?_
          refine RL.nil ?_
          exact ⟨rfl, ⟨hv.1, hv.2.1, hv.2.2.1, hv.2.2.2.1, hv.2.2.2.2.1, hv.2.2.2.2.2.1, hv.2.2.2.2.2.2.1, hv.2.2.2.2.2.2.2.1, hv.2.2.2.2.2.2.2.2.1, hv.2.2.2.2.2.2.2.2.2.1, hv.2.2.2.2.2.2.2.2.2.2.1, hv.2.2.2.2.2.2.2.2.2.2.2.1, fun _ => rfl, hv.2.2.2.2.2.2.2.2.2.2.2.2.2.1, trivial⟩, ha, hw⟩
        · intro D σ w hD hdep hJ
          obtain ⟨hv, ha, hw⟩ := hJ
          have ha2 : agree σ [(58, (.bool (decide (((k14 : Nat) : Int) > 0)))), (68, undef), (2, (.pointer (some ⟨b1, 0, none⟩))), (3, (.pointer (some ⟨b2, 0, none⟩))), (7, v11), (8, (.int .i64 ((k14 : Nat) : Int))), (9, (.pointer (some ⟨b79, 0, none⟩))), (29, v13), (30, (.int .i64 ((p1.Nets.length : Nat) : Int))), (31, (.int .i64 ((k14 : Nat) : Int)))] := ⟨hv.2.2.1 (hdep.1 rfl), hv.2.2.2.2.2.2.2.2.2.2.2.2.1 (hdep.2.1 rfl), ha.1, ha.2.1, ha.2.2.1, ha.2.2.2.1, ha.2.2.2.2.1, ha.2.2.2.2.2.1, ha.2.2.2.2.2.2.1, ha.2.2.2.2.2.2.2.1, trivial⟩
          obtain ⟨τ, rfl⟩ := ha2.ups
          refine RL.pick (b := (decide (((k14 : Nat) : Int) > 0))) (v := (.bool false)) trivial rfl rfl (by rw [hg96]; rfl) ?_
          refine RL.nil ?_
          exact ⟨rfl, ⟨hv.1, hv.2.1, hv.2.2.1, hv.2.2.2.1, hv.2.2.2.2.1, hv.2.2.2.2.2.1, hv.2.2.2.2.2.2.1, hv.2.2.2.2.2.2.2.1, hv.2.2.2.2.2.2.2.2.1, hv.2.2.2.2.2.2.2.2.2.1, hv.2.2.2.2.2.2.2.2.2.2.1, hv.2.2.2.2.2.2.2.2.2.2.2.1, hv.2.2.2.2.2.2.2.2.2.2.2.2.1, fun _ => rfl, trivial⟩, ha, hw⟩
        intro D σ w hall hJ
        obtain ⟨hv, ha, hw⟩ := hJ
        have ha2 : agree σ [(69, (.bool false)), (2, (.pointer (some ⟨b1, 0, none⟩))), (3, (.pointer (some ⟨b2, 0, none⟩))), (7, v11), (8, (.int .i64 ((k14 : Nat) : Int))), (9, (.pointer (some ⟨b79, 0, none⟩))), (29, v13), (30, (.int .i64 ((p1.Nets.length : Nat) : Int))), (31, (.int .i64 ((k14 : Nat) : Int)))] := ⟨hv.2.2.2.2.2.2.2.2.2.2.2.2.2.1 (hall 13 (by decide)), ha.1, ha.2.1, ha.2.2.1, ha.2.2.2.1, ha.2.2.2.2.1, ha.2.2.2.2.2.1, ha.2.2.2.2.2.2.1, ha.2.2.2.2.2.2.2.1, trivial⟩
        obtain ⟨τ, rfl⟩ := ha2.ups
        injection hj with hj; subst hj
        exact ⟨rfl, ⟨rfl, rfl, rfl, rfl, rfl, rfl, rfl, trivial⟩, hw.pick 11 [7, 8, 1, 10] (new := [pt (.pointer (some ⟨b1, 0, none⟩)) p0, pt (.pointer (some ⟨b2, 0, none⟩)) p1, mp v11 x83.2, rd v13 p1.Nets]) rfl rfl (by decide) (by decide)⟩
      replace hj := cT hg96 hj
      obtain ⟨x99, hx99, hj⟩ := bd hj
      refine RC.draw mixed rfl (fun (D : Nat → Bool) (σ : Nat → Value) (w : World) => ∃ v97 v98 v100 v101 : Value, doneV D σ [(0, 56, (.int .i64 ((k14 : Nat) : Int))), (1, 57, (.bool (decide (((k14 : Nat) : Int) > 0)))), (2, 58, (.bool (decide (((k14 : Nat) : Int) > 0)))), (3, 59, (.pointer (some ⟨b79, 0, none⟩))), (4, 60, (str x76.Name)), (5, 61, v97), (6, 62, v98), (7, 63, (.int .i64 ((k14 : Nat) : Int))), (8, 64, (.int .i64 (IntKind.wrap .i64 (((k14 : Nat) : Int) - 1)))), (9, 65, v100), (10, 66, v101), (11, 67, (str x99.Name)), (12, 68, (.bool (x76.Name.ltb x99.Name || x76.Name.eqb x99.Name))), (13, 69, (.bool (x76.Name.ltb x99.Name || x76.Name.eqb x99.Name)))] ∧ agree σ [(2, (.pointer (some ⟨b1, 0, none⟩))), (3, (.pointer (some ⟨b2, 0, none⟩))), (7, v11), (8, (.int .i64 ((k14 : Nat) : Int))), (9, (.pointer (some ⟨b79, 0, none⟩))), (29, v13), (30, (.int .i64 ((p1.Nets.length : Nat) : Int))), (31, (.int .i64 ((k14 : Nat) : Int)))] ∧ Holds E w ([bif D 5 then (pt v97 p1.Nets) else junk, bif D 6 then (rd v98 p1.Nets) else junk, bif D 9 then (pt v100 x99) else junk, bif D 10 then (pt v101 x99.Name) else junk, rd v84 x76.Ports, mp v11 x83.2, rd v82 x76.Pins, rd v81 x76.Pins, bx 64 b79 x76, rd v78 x76, pt v77 x76, pt (.pointer (some ⟨b1, 0, none⟩)) p0, pt (.pointer (some ⟨b2, 0, none⟩)) p1, junk, rd v13 p1.Nets] ++ Γ)) ?_ ⟨?_, ?_, ?_, ?_, ?_, ?_, ?_, ?_, ?_, ?_, ?_, ?_, ?_, ?_, trivial⟩ ?_
      · have hw := hw.drew
        have hw := hw.junk
        have hw := hw.junk
        have hw := hw.junk
        have hw := hw.junk
        exact ⟨undef, undef, undef, undef, ⟨(fun h => by cases h), (fun h => by cases h), (fun h => by cases h), (fun h => by cases h), (fun h => by cases h), (fun h => by cases h), (fun h => by cases h), (fun h => by cases h), (fun h => by cases h), (fun h => by cases h), (fun h => by cases h), (fun h => by cases h), (fun h => by cases h), (fun h => by cases h), trivial⟩, ⟨rfl, rfl, rfl, rfl, rfl, rfl, rfl, rfl, trivial⟩, hw⟩
      · intro D σ w hD hdep hJ
        obtain ⟨v97, v98, v100, v101, hv, ha, hw⟩ := hJ
        have ha2 : agree σ [(2, (.pointer (some ⟨b1, 0, none⟩))), (3, (.pointer (some ⟨b2, 0, none⟩))), (7, v11), (8, (.int .i64 ((k14 : Nat) : Int))), (9, (.pointer (some ⟨b79, 0, none⟩))), (29, v13), (30, (.int .i64 ((p1.Nets.length : Nat) : Int))), (31, (.int .i64 ((k14 : Nat) : Int)))] := ⟨ha.1, ha.2.1, ha.2.2.1, ha.2.2.2.1, ha.2.2.2.2.1, ha.2.2.2.2.2.1, ha.2.2.2.2.2.2.1, ha.2.2.2.2.2.2.2.1, trivial⟩
        obtain ⟨τ, rfl⟩ := ha2.ups
        refine RL.move (v := (.int .i64 ((k14 : Nat) : Int))) trivial rfl rfl ?_
        refine RL.nil ?_
        exact ⟨rfl, v97, v98, v100, v101, ⟨fun _ => rfl, hv.2.1, hv.2.2.1, hv.2.2.2.1, hv.2.2.2.2.1, hv.2.2.2.2.2.1, hv.2.2.2.2.2.2.1, hv.2.2.2.2.2.2.2.1, hv.2.2.2.2.2.2.2.2.1, hv.2.2.2.2.2.2.2.2.2.1, hv.2.2.2.2.2.2.2.2.2.2.1, hv.2.2.2.2.2.2.2.2.2.2.2.1, hv.2.2.2.2.2.2.2.2.2.2.2.2.1, hv.2.2.2.2.2.2.2.2.2.2.2.2.2.1, trivial⟩, ha, hw⟩
      · intro D σ w hD hdep hJ
        obtain ⟨v97, v98, v100, v101, hv, ha, hw⟩ := hJ
        have ha2 : agree σ [(56, (.int .i64 ((k14 : Nat) : Int))), (2, (.pointer (some ⟨b1, 0, none⟩))), (3, (.pointer (some ⟨b2, 0, none⟩))), (7, v11), (8, (.int .i64 ((k14 : Nat) : Int))), (9, (.pointer (some ⟨b79, 0, none⟩))), (29, v13), (30, (.int .i64 ((p1.Nets.length : Nat) : Int))), (31, (.int .i64 ((k14 : Nat) : Int)))] := ⟨hv.1 (hdep.1 rfl), ha.1, ha.2.1, ha.2.2.1, ha.2.2.2.1, ha.2.2.2.2.1, ha.2.2.2.2.2.1, ha.2.2.2.2.2.2.1, ha.2.2.2.2.2.2.2.1, trivial⟩
        obtain ⟨τ, rfl⟩ := ha2.ups
        refine RL.icmp (a := ((k14 : Nat) : Int)) (b := 0) trivial rfl rfl rfl rfl ?_
        refine RL.nil ?_
        exact ⟨rfl, v97, v98, v100, v101, ⟨hv.1, fun _ => rfl, hv.2.2.1, hv.2.2.2.1, hv.2.2.2.2.1, hv.2.2.2.2.2.1, hv.2.2.2.2.2.2.1, hv.2.2.2.2.2.2.2.1, hv.2.2.2.2.2.2.2.2.1, hv.2.2.2.2.2.2.2.2.2.1, hv.2.2.2.2.2.2.2.2.2.2.1, hv.2.2.2.2.2.2.2.2.2.2.2.1, hv.2.2.2.2.2.2.2.2.2.2.2.2.1, hv.2.2.2.2.2.2.2.2.2.2.2.2.2.1, trivial⟩, ha, hw⟩
      · intro D σ w hD hdep hJ
        obtain ⟨v97, v98, v100, v101, hv, ha, hw⟩ := hJ
        have ha2 : agree σ [(57, (.bool (decide (((k14 : Nat) : Int) > 0)))), (2, (.pointer (some ⟨b1, 0, none⟩))), (3, (.pointer (some ⟨b2, 0, none⟩))), (7, v11), (8, (.int .i64 ((k14 : Nat) : Int))), (9, (.pointer (some ⟨b79, 0, none⟩))), (29, v13), (30, (.int .i64 ((p1.Nets.length : Nat) : Int))), (31, (.int .i64 ((k14 : Nat) : Int)))] := ⟨hv.2.1 (hdep.1 rfl), ha.1, ha.2.1, ha.2.2.1, ha.2.2.2.1, ha.2.2.2.2.1, ha.2.2.2.2.2.1, ha.2.2.2.2.2.2.1, ha.2.2.2.2.2.2.2.1, trivial⟩
        obtain ⟨τ, rfl⟩ := ha2.ups
        refine RL.move (v := (.bool (decide (((k14 : Nat) : Int) > 0)))) trivial rfl rfl ?_
        refine RL.nil ?_
        exact ⟨rfl, v97, v98, v100, v101, ⟨hv.1, hv.2.1, fun _ => rfl, hv.2.2.2.1, hv.2.2.2.2.1, hv.2.2.2.2.2.1, hv.2.2.2.2.2.2.1, hv.2.2.2.2.2.2.2.1, hv.2.2.2.2.2.2.2.2.1, hv.2.2.2.2.2.2.2.2.2.1, hv.2.2.2.2.2.2.2.2.2.2.1, hv.2.2.2.2.2.2.2.2.2.2.2.1, hv.2.2.2.2.2.2.2.2.2.2.2.2.1, hv.2.2.2.2.2.2.2.2.2.2.2.2.2.1, trivial⟩, ha, hw⟩
      · intro D σ w hD hdep hJ
        obtain ⟨v97, v98, v100, v101, hv, ha, hw⟩ := hJ
        have ha2 : agree σ [(58, (.bool (decide (((k14 : Nat) : Int) > 0)))), (2, (.pointer (some ⟨b1, 0, none⟩))), (3, (.pointer (some ⟨b2, 0, none⟩))), (7, v11), (8, (.int .i64 ((k14 : Nat) : Int))), (9, (.pointer (some ⟨b79, 0, none⟩))), (29, v13), (30, (.int .i64 ((p1.Nets.length : Nat) : Int))), (31, (.int .i64 ((k14 : Nat) : Int)))] := ⟨hv.2.2.1 (hdep.1 rfl), ha.1, ha.2.1, ha.2.2.1, ha.2.2.2.1, ha.2.2.2.2.1, ha.2.2.2.2.2.1, ha.2.2.2.2.2.2.1, ha.2.2.2.2.2.2.2.1, trivial⟩
        obtain ⟨τ, rfl⟩ := ha2.ups
        refine RL.fa_b ⟨_, rfl, congrArg Value.bool hg96⟩ rfl rfl fa64_0 ?_
        refine RL.nil ?_
        exact ⟨rfl, v97, v98, v100, v101, ⟨hv.1, hv.2.1, hv.2.2.1, fun _ => rfl, hv.2.2.2.2.1, hv.2.2.2.2.2.1, hv.2.2.2.2.2.2.1, hv.2.2.2.2.2.2.2.1, hv.2.2.2.2.2.2.2.2.1, hv.2.2.2.2.2.2.2.2.2.1, hv.2.2.2.2.2.2.2.2.2.2.1, hv.2.2.2.2.2.2.2.2.2.2.2.1, hv.2.2.2.2.2.2.2.2.2.2.2.2.1, hv.2.2.2.2.2.2.2.2.2.2.2.2.2.1, trivial⟩, ha, hw⟩
      · intro D σ w hD hdep hJ
        obtain ⟨v97, v98, v100, v101, hv, ha, hw⟩ := hJ
        have ha2 : agree σ [(59, (.pointer (some ⟨b79, 0, none⟩))), (58, (.bool (decide (((k14 : Nat) : Int) > 0)))), (2, (.pointer (some ⟨b1, 0, none⟩))), (3, (.pointer (some ⟨b2, 0, none⟩))), (7, v11), (8, (.int .i64 ((k14 : Nat) : Int))), (9, (.pointer (some ⟨b79, 0, none⟩))), (29, v13), (30, (.int .i64 ((p1.Nets.length : Nat) : Int))), (31, (.int .i64 ((k14 : Nat) : Int)))] := ⟨hv.2.2.2.1 (hdep.1 rfl), hv.2.2.1 (hdep.2.1 rfl), ha.1, ha.2.1, ha.2.2.1, ha.2.2.2.1, ha.2.2.2.2.1, ha.2.2.2.2.2.1, ha.2.2.2.2.2.2.1, ha.2.2.2.2.2.2.2.1, trivial⟩
        obtain ⟨τ, rfl⟩ := ha2.ups
        refine RL.load_bfs (i := 8) (f := (fun x => x.Name)) ⟨_, rfl, congrArg Value.bool hg96⟩ rfl hw rfl rfl fd_Net_0 ty9 ?_
        refine RL.nil ?_
        exact ⟨rfl, v97, v98, v100, v101, ⟨hv.1, hv.2.1, hv.2.2.1, hv.2.2.2.1, fun _ => rfl, hv.2.2.2.2.2.1, hv.2.2.2.2.2.2.1, hv.2.2.2.2.2.2.2.1, hv.2.2.2.2.2.2.2.2.1, hv.2.2.2.2.2.2.2.2.2.1, hv.2.2.2.2.2.2.2.2.2.2.1, hv.2.2.2.2.2.2.2.2.2.2.2.1, hv.2.2.2.2.2.2.2.2.2.2.2.2.1, hv.2.2.2.2.2.2.2.2.2.2.2.2.2.1, trivial⟩, ha, hw⟩
      · intro D σ w hD hdep hJ
        obtain ⟨v97, v98, v100, v101, hv, ha, hw⟩ := hJ
        have ha2 : agree σ [(58, (.bool (decide (((k14 : Nat) : Int) > 0)))), (2, (.pointer (some ⟨b1, 0, none⟩))), (3, (.pointer (some ⟨b2, 0, none⟩))), (7, v11), (8, (.int .i64 ((k14 : Nat) : Int))), (9, (.pointer (some ⟨b79, 0, none⟩))), (29, v13), (30, (.int .i64 ((p1.Nets.length : Nat) : Int))), (31, (.int .i64 ((k14 : Nat) : Int)))] := ⟨hv.2.2.1 (hdep.1 rfl), ha.1, ha.2.1, ha.2.2.1, ha.2.2.2.1, ha.2.2.2.2.1, ha.2.2.2.2.2.1, ha.2.2.2.2.2.2.1, ha.2.2.2.2.2.2.2.1, trivial⟩
        obtain ⟨τ, rfl⟩ := ha2.ups
        refine RL.fa_pt (i := 12) (f := fun (x : Netlist) => x.Nets) ⟨_, rfl, congrArg Value.bool hg96⟩ rfl hw rfl rfl fa26_1 fd_Netlist_1 fun v102 hw => ?_
        have hw := hw.fillat 0 1 0 rfl rfl rfl (by simp)
        refine RL.nil ?_
        exact ⟨rfl, v102, v98, v100, v101, ⟨hv.1, hv.2.1, hv.2.2.1, hv.2.2.2.1, hv.2.2.2.2.1, fun _ => rfl, hv.2.2.2.2.2.2.1, hv.2.2.2.2.2.2.2.1, hv.2.2.2.2.2.2.2.2.1, hv.2.2.2.2.2.2.2.2.2.1, hv.2.2.2.2.2.2.2.2.2.2.1, hv.2.2.2.2.2.2.2.2.2.2.2.1, hv.2.2.2.2.2.2.2.2.2.2.2.2.1, hv.2.2.2.2.2.2.2.2.2.2.2.2.2.1, trivial⟩, ha, hw⟩
      · intro D σ w hD hdep hJ
        obtain ⟨v97, v98, v100, v101, hv, ha, hw⟩ := hJ
        have ha2 : agree σ [(61, v97), (58, (.bool (decide (((k14 : Nat) : Int) > 0)))), (2, (.pointer (some ⟨b1, 0, none⟩))), (3, (.pointer (some ⟨b2, 0, none⟩))), (7, v11), (8, (.int .i64 ((k14 : Nat) : Int))), (9, (.pointer (some ⟨b79, 0, none⟩))), (29, v13), (30, (.int .i64 ((p1.Nets.length : Nat) : Int))), (31, (.int .i64 ((k14 : Nat) : Int)))] := ⟨hv.2.2.2.2.2.1 (hdep.1 rfl), hv.2.2.1 (hdep.2.1 rfl), ha.1, ha.2.1, ha.2.2.1, ha.2.2.2.1, ha.2.2.2.2.1, ha.2.2.2.2.2.1, ha.2.2.2.2.2.2.1, ha.2.2.2.2.2.2.2.1, trivial⟩
        obtain ⟨τ, rfl⟩ := ha2.ups
        refine RL.load_pt (i := 0) (x := p1.Nets) ⟨_, rfl, congrArg Value.bool hg96⟩ rfl hw rfl (ent_t (hdep.1 rfl)) ty24 fun v103 hw => ?_
        have hw := hw.fillat 0 1 1 rfl rfl rfl (by simp)
        refine RL.nil ?_
        exact ⟨rfl, v97, v103, v100, v101, ⟨hv.1, hv.2.1, hv.2.2.1, hv.2.2.2.1, hv.2.2.2.2.1, hv.2.2.2.2.2.1, fun _ => rfl, hv.2.2.2.2.2.2.2.1, hv.2.2.2.2.2.2.2.2.1, hv.2.2.2.2.2.2.2.2.2.1, hv.2.2.2.2.2.2.2.2.2.2.1, hv.2.2.2.2.2.2.2.2.2.2.2.1, hv.2.2.2.2.2.2.2.2.2.2.2.2.1, hv.2.2.2.2.2.2.2.2.2.2.2.2.2.1, trivial⟩, ha, hw⟩
      · intro D σ w hD hdep hJ
        obtain ⟨v97, v98, v100, v101, hv, ha, hw⟩ := hJ
        have ha2 : agree σ [(58, (.bool (decide (((k14 : Nat) : Int) > 0)))), (2, (.pointer (some ⟨b1, 0, none⟩))), (3, (.pointer (some ⟨b2, 0, none⟩))), (7, v11), (8, (.int .i64 ((k14 : Nat) : Int))), (9, (.pointer (some ⟨b79, 0, none⟩))), (29, v13), (30, (.int .i64 ((p1.Nets.length : Nat) : Int))), (31, (.int .i64 ((k14 : Nat) : Int)))] := ⟨hv.2.2.1 (hdep.1 rfl), ha.1, ha.2.1, ha.2.2.1, ha.2.2.2.1, ha.2.2.2.2.1, ha.2.2.2.2.2.1, ha.2.2.2.2.2.2.1, ha.2.2.2.2.2.2.2.1, trivial⟩
        obtain ⟨τ, rfl⟩ := ha2.ups
        refine RL.move (v := (.int .i64 ((k14 : Nat) : Int))) ⟨_, rfl, congrArg Value.bool hg96⟩ rfl rfl ?_
        refine RL.nil ?_
        exact ⟨rfl, v97, v98, v100, v101, ⟨hv.1, hv.2.1, hv.2.2.1, hv.2.2.2.1, hv.2.2.2.2.1, hv.2.2.2.2.2.1, hv.2.2.2.2.2.2.1, fun _ => rfl, hv.2.2.2.2.2.2.2.2.1, hv.2.2.2.2.2.2.2.2.2.1, hv.2.2.2.2.2.2.2.2.2.2.1, hv.2.2.2.2.2.2.2.2.2.2.2.1, hv.2.2.2.2.2.2.2.2.2.2.2.2.1, hv.2.2.2.2.2.2.2.2.2.2.2.2.2.1, trivial⟩, ha, hw⟩
      · intro D σ w hD hdep hJ
        obtain ⟨v97, v98, v100, v101, hv, ha, hw⟩ := hJ
        have ha2 : agree σ [(63, (.int .i64 ((k14 : Nat) : Int))), (58, (.bool (decide (((k14 : Nat) : Int) > 0)))), (2, (.pointer (some ⟨b1, 0, none⟩))), (3, (.pointer (some ⟨b2, 0, none⟩))), (7, v11), (8, (.int .i64 ((k14 : Nat) : Int))), (9, (.pointer (some ⟨b79, 0, none⟩))), (29, v13), (30, (.int .i64 ((p1.Nets.length : Nat) : Int))), (31, (.int .i64 ((k14 : Nat) : Int)))] := ⟨hv.2.2.2.2.2.2.2.1 (hdep.1 rfl), hv.2.2.1 (hdep.2.1 rfl), ha.1, ha.2.1, ha.2.2.1, ha.2.2.2.1, ha.2.2.2.2.1, ha.2.2.2.2.2.1, ha.2.2.2.2.2.2.1, ha.2.2.2.2.2.2.2.1, trivial⟩
        obtain ⟨τ, rfl⟩ := ha2.ups
        refine RL.iar (a := ((k14 : Nat) : Int)) (b := 1) ⟨_, rfl, congrArg Value.bool hg96⟩ rfl rfl rfl rfl ?_
        refine RL.nil ?_
        exact ⟨rfl, v97, v98, v100, v101, ⟨hv.1, hv.2.1, hv.2.2.1, hv.2.2.2.1, hv.2.2.2.2.1, hv.2.2.2.2.2.1, hv.2.2.2.2.2.2.1, hv.2.2.2.2.2.2.2.1, fun _ => rfl, hv.2.2.2.2.2.2.2.2.2.1, hv.2.2.2.2.2.2.2.2.2.2.1, hv.2.2.2.2.2.2.2.2.2.2.2.1, hv.2.2.2.2.2.2.2.2.2.2.2.2.1, hv.2.2.2.2.2.2.2.2.2.2.2.2.2.1, trivial⟩, ha, hw⟩
      · intro D σ w hD hdep hJ
        obtain ⟨v97, v98, v100, v101, hv, ha, hw⟩ := hJ
        have ha2 : agree σ [(62, v98), (64, (.int .i64 (IntKind.wrap .i64 (((k14 : Nat) : Int) - 1)))), (58, (.bool (decide (((k14 : Nat) : Int) > 0)))), (2, (.pointer (some ⟨b1, 0, none⟩))), (3, (.pointer (some ⟨b2, 0, none⟩))), (7, v11), (8, (.int .i64 ((k14 : Nat) : Int))), (9, (.pointer (some ⟨b79, 0, none⟩))), (29, v13), (30, (.int .i64 ((p1.Nets.length : Nat) : Int))), (31, (.int .i64 ((k14 : Nat) : Int)))] := ⟨hv.2.2.2.2.2.2.1 (hdep.1 rfl), hv.2.2.2.2.2.2.2.2.1 (hdep.2.1 rfl), hv.2.2.1 (hdep.2.2.1 rfl), ha.1, ha.2.1, ha.2.2.1, ha.2.2.2.1, ha.2.2.2.2.1, ha.2.2.2.2.2.1, ha.2.2.2.2.2.2.1, ha.2.2.2.2.2.2.2.1, trivial⟩
        obtain ⟨τ, rfl⟩ := ha2.ups
        refine RL.ia_rd (i := 1) ⟨_, rfl, congrArg Value.bool hg96⟩ rfl hw rfl rfl (ent_t (hdep.1 rfl)) sl24 hx99 fun v104 hw => ?_
        have hw := hw.fillat 0 1 2 rfl rfl rfl (by simp)
        refine RL.nil ?_
        exact ⟨rfl, v97, v98, v104, v101, ⟨hv.1, hv.2.1, hv.2.2.1, hv.2.2.2.1, hv.2.2.2.2.1, hv.2.2.2.2.2.1, hv.2.2.2.2.2.2.1, hv.2.2.2.2.2.2.2.1, hv.2.2.2.2.2.2.2.2.1, fun _ => rfl, hv.2.2.2.2.2.2.2.2.2.2.1, hv.2.2.2.2.2.2.2.2.2.2.2.1, hv.2.2.2.2.2.2.2.2.2.2.2.2.1, hv.2.2.2.2.2.2.2.2.2.2.2.2.2.1, trivial⟩, ha, hw⟩
      · intro D σ w hD hdep hJ
        obtain ⟨v97, v98, v100, v101, hv, ha, hw⟩ := hJ
        have ha2 : agree σ [(65, v100), (58, (.bool (decide (((k14 : Nat) : Int) > 0)))), (2, (.pointer (some ⟨b1, 0, none⟩))), (3, (.pointer (some ⟨b2, 0, none⟩))), (7, v11), (8, (.int .i64 ((k14 : Nat) : Int))), (9, (.pointer (some ⟨b79, 0, none⟩))), (29, v13), (30, (.int .i64 ((p1.Nets.length : Nat) : Int))), (31, (.int .i64 ((k14 : Nat) : Int)))] := ⟨hv.2.2.2.2.2.2.2.2.2.1 (hdep.1 rfl), hv.2.2.1 (hdep.2.1 rfl), ha.1, ha.2.1, ha.2.2.1, ha.2.2.2.1, ha.2.2.2.2.1, ha.2.2.2.2.2.1, ha.2.2.2.2.2.2.1, ha.2.2.2.2.2.2.2.1, trivial⟩
        obtain ⟨τ, rfl⟩ := ha2.ups
        refine RL.fa_pt (i := 2) (f := fun (x : Net) => x.Name) ⟨_, rfl, congrArg Value.bool hg96⟩ rfl hw rfl (ent_t (hdep.1 rfl)) fa64_0 fd_Net_0 fun v105 hw => ?_
        have hw := hw.fillat 0 1 3 rfl rfl rfl (by simp)
        refine RL.nil ?_
        exact ⟨rfl, v97, v98, v100, v105, ⟨hv.1, hv.2.1, hv.2.2.1, hv.2.2.2.1, hv.2.2.2.2.1, hv.2.2.2.2.2.1, hv.2.2.2.2.2.2.1, hv.2.2.2.2.2.2.2.1, hv.2.2.2.2.2.2.2.2.1, hv.2.2.2.2.2.2.2.2.2.1, fun _ => rfl, hv.2.2.2.2.2.2.2.2.2.2.2.1, hv.2.2.2.2.2.2.2.2.2.2.2.2.1, hv.2.2.2.2.2.2.2.2.2.2.2.2.2.1, trivial⟩, ha, hw⟩
      · intro D σ w hD hdep hJ
        obtain ⟨v97, v98, v100, v101, hv, ha, hw⟩ := hJ
        have ha2 : agree σ [(66, v101), (58, (.bool (decide (((k14 : Nat) : Int) > 0)))), (2, (.pointer (some ⟨b1, 0, none⟩))), (3, (.pointer (some ⟨b2, 0, none⟩))), (7, v11), (8, (.int .i64 ((k14 : Nat) : Int))), (9, (.pointer (some ⟨b79, 0, none⟩))), (29, v13), (30, (.int .i64 ((p1.Nets.length : Nat) : Int))), (31, (.int .i64 ((k14 : Nat) : Int)))] := ⟨hv.2.2.2.2.2.2.2.2.2.2.1 (hdep.1 rfl), hv.2.2.1 (hdep.2.1 rfl), ha.1, ha.2.1, ha.2.2.1, ha.2.2.2.1, ha.2.2.2.2.1, ha.2.2.2.2.2.1, ha.2.2.2.2.2.2.1, ha.2.2.2.2.2.2.2.1, trivial⟩
        obtain ⟨τ, rfl⟩ := ha2.ups
        refine RL.load_pts (i := 3) (y := x99.Name) ⟨_, rfl, congrArg Value.bool hg96⟩ rfl hw rfl (ent_t (hdep.1 rfl)) ty9 ?_
        refine RL.nil ?_
        exact ⟨rfl, v97, v98, v100, v101, ⟨hv.1, hv.2.1, hv.2.2.1, hv.2.2.2.1, hv.2.2.2.2.1, hv.2.2.2.2.2.1, hv.2.2.2.2.2.2.1, hv.2.2.2.2.2.2.2.1, hv.2.2.2.2.2.2.2.2.1, hv.2.2.2.2.2.2.2.2.2.1, hv.2.2.2.2.2.2.2.2.2.2.1, fun _ => rfl, hv.2.2.2.2.2.2.2.2.2.2.2.2.1, hv.2.2.2.2.2.2.2.2.2.2.2.2.2.1, trivial⟩, ha, hw⟩
      · intro D σ w hD hdep hJ
        obtain ⟨v97, v98, v100, v101, hv, ha, hw⟩ := hJ
        have ha2 : agree σ [(60, (str x76.Name)), (67, (str x99.Name)), (58, (.bool (decide (((k14 : Nat) : Int) > 0)))), (2, (.pointer (some ⟨b1, 0, none⟩))), (3, (.pointer (some ⟨b2, 0, none⟩))), (7, v11), (8, (.int .i64 ((k14 : Nat) : Int))), (9, (.pointer (some ⟨b79, 0, none⟩))), (29, v13), (30, (.int .i64 ((p1.Nets.length : Nat) : Int))), (31, (.int .i64 ((k14 : Nat) : Int)))] := ⟨hv.2.2.2.2.1 (hdep.1 rfl), hv.2.2.2.2.2.2.2.2.2.2.2.1 (hdep.2.1 rfl), hv.2.2.1 (hdep.2.2.1 rfl), ha.1, ha.2.1, ha.2.2.1, ha.2.2.2.1, ha.2.2.2.2.1, ha.2.2.2.2.2.1, ha.2.2.2.2.2.2.1, ha.2.2.2.2.2.2.2.1, trivial⟩
        obtain ⟨τ, rfl⟩ := ha2.ups
        refine RL.scmp (a := x76.Name) (b := x99.Name) ⟨_, rfl, congrArg Value.bool hg96⟩ rfl rfl rfl rfl ?_
        refine RL.nil ?_
        exact ⟨rfl, v97, v98, v100, v101, ⟨hv.1, hv.2.1, hv.2.2.1, hv.2.2.2.1, hv.2.2.2.2.1, hv.2.2.2.2.2.1, hv.2.2.2.2.2.2.1, hv.2.2.2.2.2.2.2.1, hv.2.2.2.2.2.2.2.2.1, hv.2.2.2.2.2.2.2.2.2.1, hv.2.2.2.2.2.2.2.2.2.2.1, hv.2.2.2.2.2.2.2.2.2.2.2.1, fun _ => rfl, hv.2.2.2.2.2.2.2.2.2.2.2.2.2.1, trivial⟩, ha, hw⟩
      · intro D σ w hD hdep hJ
        obtain ⟨v97, v98, v100, v101, hv, ha, hw⟩ := hJ
        have ha2 : agree σ [(58, (.bool (decide (((k14 : Nat) : Int) > 0)))), (68, (.bool (x76.Name.ltb x99.Name || x76.Name.eqb x99.Name))), (2, (.pointer (some ⟨b1, 0, none⟩))), (3, (.pointer (some ⟨b2, 0, none⟩))), (7, v11), (8, (.int .i64 ((k14 : Nat) : Int))), (9, (.pointer (some ⟨b79, 0, none⟩))), (29, v13), (30, (.int .i64 ((p1.Nets.length : Nat) : Int))), (31, (.int .i64 ((k14 : Nat) : Int)))] := ⟨hv.2.2.1 (hdep.1 rfl), hv.2.2.2.2.2.2.2.2.2.2.2.2.1 (hdep.2.1 rfl), ha.1, ha.2.1, ha.2.2.1, ha.2.2.2.1, ha.2.2.2.2.1, ha.2.2.2.2.2.1, ha.2.2.2.2.2.2.1, ha.2.2.2.2.2.2.2.1, trivial⟩
        obtain ⟨τ, rfl⟩ := ha2.ups
        refine RL.pick (b := (decide (((k14 : Nat) : Int) > 0))) (v := (.bool (x76.Name.ltb x99.Name || x76.Name.eqb x99.Name))) trivial rfl rfl (by rw [hg96]; rfl) ?_
        refine RL.nil ?_
        exact ⟨rfl, v97, v98, v100, v101, ⟨hv.1, hv.2.1, hv.2.2.1, hv.2.2.2.1, hv.2.2.2.2.1, hv.2.2.2.2.2.1, hv.2.2.2.2.2.2.1, hv.2.2.2.2.2.2.2.1, hv.2.2.2.2.2.2.2.2.1, hv.2.2.2.2.2.2.2.2.2.1, hv.2.2.2.2.2.2.2.2.2.2.1, hv.2.2.2.2.2.2.2.2.2.2.2.1, hv.2.2.2.2.2.2.2.2.2.2.2.2.1, fun _ => rfl, trivial⟩, ha, hw⟩
      intro D σ w hall hJ
      obtain ⟨v97, v98, v100, v101, hv, ha, hw⟩ := hJ
      rw [hall 5 (by decide)] at hw
      rw [hall 6 (by decide)] at hw
      rw [hall 9 (by decide)] at hw
      rw [hall 10 (by decide)] at hw
      have ha2 : agree σ [(69, (.bool (x76.Name.ltb x99.Name || x76.Name.eqb x99.Name))), (2, (.pointer (some ⟨b1, 0, none⟩))), (3, (.pointer (some ⟨b2, 0, none⟩))), (7, v11), (8, (.int .i64 ((k14 : Nat) : Int))), (9, (.pointer (some ⟨b79, 0, none⟩))), (29, v13), (30, (.int .i64 ((p1.Nets.length : Nat) : Int))), (31, (.int .i64 ((k14 : Nat) : Int)))] := ⟨hv.2.2.2.2.2.2.2.2.2.2.2.2.2.1 (hall 13 (by decide)), ha.1, ha.2.1, ha.2.2.1, ha.2.2.2.1, ha.2.2.2.2.1, ha.2.2.2.2.2.1, ha.2.2.2.2.2.2.1, ha.2.2.2.2.2.2.2.1, trivial⟩
      obtain ⟨τ, rfl⟩ := ha2.ups
      injection hj with hj; subst hj
      exact ⟨rfl, ⟨rfl, rfl, rfl, rfl, rfl, rfl, rfl, trivial⟩, hw.pick 15 [11, 12, 5, 14] (new := [pt (.pointer (some ⟨b1, 0, none⟩)) p0, pt (.pointer (some ⟨b2, 0, none⟩)) p1, mp v11 x83.2, rd v13 p1.Nets]) rfl rfl (by decide) (by decide)⟩
    rintro σ w ⟨ha, hw⟩
    obtain ⟨τ, rfl⟩ := ha.ups
    refine thenQ_n ?_
    refine RC.cond (b := s95) rfl (fun hc => ?_) (fun hc => ?_)
    rotate_left
    · replace hb := cF hc hb
      refine RC.skip ?_
      refine blkQ_n ?_
      refine thenQ_n ?_
      refine RC.region ?_
      refine RL.inc trivial rfl hk hm rfl rfl ?_
      refine RL.move (v := (.int .i64 ((k14 + 1 : Nat) : Int))) trivial rfl rfl ?_
      refine RL.nil ?_
      injection hb with hb; subst hb
      exact ⟨rfl, ⟨rfl, rfl, rfl, rfl, rfl, rfl, trivial⟩, hw.pick 4 [0, 1, 2, 3] (new := [pt (.pointer (some ⟨b1, 0, none⟩)) p0, pt (.pointer (some ⟨b2, 0, none⟩)) p1, mp v11 x83.2, rd v13 p1.Nets]) rfl rfl (by decide) (by decide)⟩
    replace hb := cT hc hb
    refine RC.seq ?_
    refine RC.region ?_
    refine RL.assign (v := (.int .i64 8)) trivial rfl rfl ?_
    refine RL.nil ?_
    refine thenQ_n ?_
    refine RC.ret ?_
    refine blkQ_r ?_
    refine thenQ_r ?_
    injection hb with hb; subst hb
    exact ⟨rfl, fin1 rfl rfl ⟨rfl, hw.drop 4 rfl⟩⟩
  · intro r σ w e hK
    subst e
    refine thenQ_r ?_
    injection hb with hb; subst hb
    exact hK
  intro s15 σ w e hJ
  subst e
  rw [Fo.cs_go] at hb
  obtain ⟨ha, hw⟩ := hJ
  obtain ⟨τ, rfl⟩ := ha.ups
  refine thenQ_n ?_
  refine RC.seq ?_
  refine RC.region ?_
  refine RL.assign (v := (.int .i64 0)) trivial rfl rfl ?_
  refine RL.nil ?_
  refine thenQ_n ?_
  refine RC.ret ?_
  injection hb with hb; subst hb
  exact fin1 rfl rfl ⟨rfl, hw.drop 4 rfl⟩
def netlist_Nets_R (E : World) (Γ : List HP) (res : (List (Pin × Int))) (v : Value) (w : World) : Prop := Holds E w (mp v res :: Γ)
def netlist_Nets_K (E : World) (Γ : List HP) (r : (List (Pin × Int))) (σ : Nat → Value) (w : World) : Prop := finQ Tryd.prog 30 Tryd.f37 (netlist_Nets_R E Γ r) .ret σ w
theorem netlist_Nets_ok (N : Nat) {E w : World} {Γ : List HP} {i0 : Nat} {v0 : Value} {p0 : Netlist} {res : (List (Pin × Int))} (hw : Holds E w Γ) (h0 : Γ[i0]? = some (rd v0 p0)) (hb : netlist_Nets N p0 = some res) :
    Calls Tryd.prog 37 [v0].toArray w (Ret (netlist_Nets_R E Γ res)) := by
  unfold netlist_Nets at hb
  refine enter Tryd.func37 rfl rfl (Nat.le_of_ble_eq_true rfl) ?_
  have hw := hw.dup (i := i0 + 0) h0
  refine RC.seq ?_
  refine RC.region ?_
  refine RL.box_rd (i := 0) (v := v0) trivial rfl hw rfl rfl fun b1 w hw => ?_
  refine RL.assign (v := (.map none)) trivial rfl rfl ?_
  refine RL.nil ?_
  refine thenQ_n ?_
  refine RC.seq ?_
  refine RC.region ?_
  refine RL.makeMap (κ := Pin) (ν := Int) trivial rfl hw fun v2 w hw => ?_
  refine RL.assign (v := v2) trivial rfl rfl ?_
  refine RL.nil ?_
  refine thenQ_n ?_
  refine RC.seq ?_
  refine RC.seq ?_
  refine RC.region ?_
  refine RL.fa_b trivial rfl rfl fa26_1 ?_
  refine RL.load_bf (i := 1) (f := (fun x => x.Nets)) trivial rfl hw rfl rfl fd_Netlist_1 ty24 fun v3 hw => ?_
  refine RL.len_rd (i := 0) (l := p0.Nets) trivial rfl hw rfl rfl un24 ?_
  refine RL.move (v := (.int .i64 0)) trivial rfl rfl ?_
  refine RL.nil ?_
  refine thenQ_n ?_
  obtain ⟨s5, hN, hb⟩ := bd hb
  refine RC.fold (fun (k4 : Nat) (s5 : (List (Pin × Int))) (σ : Nat → Value) (w : World) => agree σ [(3, v2), (10, v3), (11, (.int .i64 ((p0.Nets.length : Nat) : Int))), (12, (.int .i64 ((k4 : Nat) : Int)))] ∧ Holds E w ([mp v2 s5, rd v3 p0.Nets] ++ Γ)) (fun (s5 : (List (Pin × Int))) (σ : Nat → Value) (w : World) => agree σ [(3, v2)] ∧ Holds E w ([mp v2 s5, rd v3 p0.Nets] ++ Γ)) hN ?_ ?_ ?_ ?_
  · exact ⟨⟨rfl, rfl, rfl, rfl, trivial⟩, hw.pick 4 [1, 0] (new := [mp v2 ([] : (List (Pin × Int))), rd v3 p0.Nets]) rfl rfl (by decide) (by decide)⟩
  · intro hm s5 σ w hI
    obtain ⟨ha, hw⟩ := hI
    obtain ⟨τ, rfl⟩ := ha.ups
    refine RC.seq ?_
    refine RC.region ?_
    refine RL.icmp (a := ((p0.Nets.length : Nat) : Int)) (b := ((p0.Nets.length : Nat) : Int)) trivial rfl rfl rfl rfl ?_
    refine RL.nil ?_
    refine thenQ_n ?_
    refine RC.seq ?_
    refine RC.cond_f dge ?_
    refine RC.exit ?_
    refine thenQ_x ?_
    exact ⟨rfl, ⟨rfl, trivial⟩, hw.pick 2 [0, 1] (new := [mp v2 s5, rd v3 p0.Nets]) rfl rfl (by decide) (by decide)⟩
  · intro hm k4 s5 s' σ w hk hI hb
    obtain ⟨ha, hw⟩ := hI
    obtain ⟨τ, rfl⟩ := ha.ups
    refine RC.seq ?_
    refine RC.region ?_
    refine RL.icmp (a := ((k4 : Nat) : Int)) (b := ((p0.Nets.length : Nat) : Int)) trivial rfl rfl rfl rfl ?_
    refine RL.nil ?_
    refine thenQ_n ?_
    refine RC.seq ?_
    refine RC.cond_t (dlt hk) ?_
    refine RC.skip ?_
    refine thenQ_n ?_
    refine RC.seq ?_
    refine RC.block ?_
    refine RC.seq ?_
    refine RC.region ?_
    refine RL.move (v := (.int .i64 ((k4 : Nat) : Int))) trivial rfl rfl ?_
    obtain ⟨x52, hx52, hb⟩ := bd hb
    refine RL.ia_rd (i := 1) trivial rfl hw rfl rfl rfl sl24 hx52 fun v53 hw => ?_
    refine RL.load_pt (i := 0) (x := x52) trivial rfl hw rfl rfl ty64 fun v54 hw => ?_
    refine RL.alloc trivial rfl hw ze64.z fun b55 w hw => ?_
    refine RL.assign (v := (.int .i64 ((k4 : Nat) : Int))) trivial rfl rfl ?_
    refine RL.store_raw (i := 0) (j := 1) trivial hw rfl rfl rfl rfl ty64 rfl fun w hw => ?_
    refine RL.nil ?_
    refine thenQ_n ?_
    refine RC.seq ?_
    refine RC.region ?_
    refine RL.fa_b trivial rfl rfl fa64_1 ?_
    refine RL.load_bf (i := 0) (f := (fun x => x.Pins)) trivial rfl hw rfl rfl fd_Net_1 ty33 fun v56 hw => ?_
    refine RL.len_rd (i := 0) (l := x52.Pins) trivial rfl hw rfl rfl un33 ?_
    refine RL.move (v := (.int .i64 0)) trivial rfl rfl ?_
    refine RL.nil ?_
    refine thenQ_n ?_
    obtain ⟨s58, hN, hb⟩ := bd hb
    refine RC.fold (fun (k57 : Nat) (s58 : (List (Pin × Int))) (σ : Nat → Value) (w : World) => agree σ [(3, v2), (4, (.int .i64 ((k4 : Nat) : Int))), (10, v3), (11, (.int .i64 ((p0.Nets.length : Nat) : Int))), (12, (.int .i64 ((k4 : Nat) : Int))), (18, v56), (19, (.int .i64 ((x52.Pins.length : Nat) : Int))), (20, (.int .i64 ((k57 : Nat) : Int)))] ∧ Holds E w ([mp v2 s58, rd v3 p0.Nets, rd v56 x52.Pins] ++ Γ)) (fun (s58 : (List (Pin × Int))) (σ : Nat → Value) (w : World) => agree σ [(3, v2), (10, v3), (11, (.int .i64 ((p0.Nets.length : Nat) : Int))), (12, (.int .i64 ((k4 : Nat) : Int)))] ∧ Holds E w ([mp v2 s58, rd v3 p0.Nets, rd v56 x52.Pins] ++ Γ)) hN ?_ ?_ ?_ ?_
    · exact ⟨⟨rfl, rfl, rfl, rfl, rfl, rfl, rfl, rfl, trivial⟩, hw.pick 6 [4, 5, 0] (new := [mp v2 s5, rd v3 p0.Nets, rd v56 x52.Pins]) rfl rfl (by decide) (by decide)⟩
    · intro hm s58 σ w hI
      obtain ⟨ha, hw⟩ := hI
      obtain ⟨τ, rfl⟩ := ha.ups
      refine RC.seq ?_
      refine RC.region ?_
      refine RL.icmp (a := ((x52.Pins.length : Nat) : Int)) (b := ((x52.Pins.length : Nat) : Int)) trivial rfl rfl rfl rfl ?_
      refine RL.nil ?_
      refine thenQ_n ?_
      refine RC.seq ?_
      refine RC.cond_f dge ?_
      refine RC.exit ?_
      refine thenQ_x ?_
      exact ⟨rfl, ⟨rfl, rfl, rfl, rfl, trivial⟩, hw.pick 3 [0, 1, 2] (new := [mp v2 s58, rd v3 p0.Nets, rd v56 x52.Pins]) rfl rfl (by decide) (by decide)⟩
    · intro hm k57 s58 s' σ w hk hI hb
      obtain ⟨ha, hw⟩ := hI
      obtain ⟨τ, rfl⟩ := ha.ups
      refine RC.seq ?_
      refine RC.region ?_
      refine RL.icmp (a := ((k57 : Nat) : Int)) (b := ((x52.Pins.length : Nat) : Int)) trivial rfl rfl rfl rfl ?_
      refine RL.nil ?_
      refine thenQ_n ?_
      refine RC.seq ?_
      refine RC.cond_t (dlt hk) ?_
      refine RC.skip ?_
      refine thenQ_n ?_
      refine RC.seq ?_
      refine RC.block ?_
      refine RC.seq ?_
      refine RC.region ?_
      obtain ⟨x69, hx69, hb⟩ := bd hb
      refine RL.ia_rd (i := 2) trivial rfl hw rfl rfl rfl sl33 hx69 fun v70 hw => ?_
      refine RL.load_pt (i := 0) (x := x69) trivial rfl hw rfl rfl ty28 fun v71 hw => ?_
      refine RL.alloc trivial rfl hw ze28.z fun b72 w hw => ?_
      refine RL.store_raw (i := 0) (j := 1) trivial hw rfl rfl rfl rfl ty28 rfl fun w hw => ?_
      refine RL.nil ?_
      refine thenQ_n ?_
      refine RC.region ?_
      refine RL.move (v := v2) trivial rfl rfl ?_
      refine RL.load_bf (i := 0) (f := (fun x => x)) trivial rfl hw rfl rfl Fd.self ty28 fun v73 hw => ?_
      refine RL.move (v := (.int .i64 ((k4 : Nat) : Int))) trivial rfl rfl ?_
      have hw := hw.sc (γ := Int) ((k4 : Nat) : Int)
      refine RL.mapUpdate (i := 5) (j := 0) (k := x69) trivial hw rfl (key_rd hw (j := 1) rfl) rfl rfl rfl mt72 fun w hw => ?_
      refine RL.nil ?_
      refine blkQ_n ?_
      refine thenQ_n ?_
      refine RC.region ?_
      refine RL.inc trivial rfl hk hm rfl rfl ?_
      refine RL.move (v := (.int .i64 ((k57 + 1 : Nat) : Int))) trivial rfl rfl ?_
      refine RL.nil ?_
      injection hb with hb; subst hb
      exact ⟨rfl, ⟨rfl, rfl, rfl, rfl, rfl, rfl, rfl, rfl, trivial⟩, hw.pick 8 [5, 6, 7] (new := [mp v2 (mput s58 x69 ((k4 : Nat) : Int)), rd v3 p0.Nets, rd v56 x52.Pins]) rfl rfl (by decide) (by decide)⟩
    intro σ w hJ
    obtain ⟨ha, hw⟩ := hJ
    obtain ⟨τ, rfl⟩ := ha.ups
    refine blkQ_n ?_
    refine thenQ_n ?_
    refine RC.region ?_
    refine RL.inc trivial rfl hk hm rfl rfl ?_
    refine RL.move (v := (.int .i64 ((k4 + 1 : Nat) : Int))) trivial rfl rfl ?_
    refine RL.nil ?_
    injection hb with hb; subst hb
    exact ⟨rfl, ⟨rfl, rfl, rfl, rfl, trivial⟩, hw.pick 3 [0, 1] (new := [mp v2 s58, rd v3 p0.Nets]) rfl rfl (by decide) (by decide)⟩
  intro σ w hJ
  obtain ⟨ha, hw⟩ := hJ
  obtain ⟨τ, rfl⟩ := ha.ups
  refine thenQ_n ?_
  refine RC.seq ?_
  refine RC.region ?_
  refine RL.move (v := v2) trivial rfl rfl ?_
  refine RL.assign (v := v2) trivial rfl rfl ?_
  refine RL.nil ?_
  refine thenQ_n ?_
  refine RC.ret ?_
  injection hb with hb; subst hb
  exact fin1 rfl rfl (hw.pick 2 [0] (new := [mp v2 s5]) rfl rfl (by decide) (by decide))
def netlist_NetOf_R (E : World) (Γ : List HP) (res : Str × Bool × Int) (v : Value) (w : World) : Prop := v = .tuple #[(str res.1), (.bool res.2.1), (.int .i64 res.2.2)] ∧ Holds E w Γ
def netlist_NetOf_K (E : World) (Γ : List HP) (r : Str × Bool × Int) (σ : Nat → Value) (w : World) : Prop := finQ Tryd.prog 39 Tryd.f11 (netlist_NetOf_R E Γ r) .ret σ w
theorem netlist_NetOf_ok (N : Nat) {E w : World} {Γ : List HP} {i0 : Nat} {v0 : Value} {p0 : (List PartType)} {i1 : Nat} {v1 : Value} {p1 : Netlist} {i2 : Nat} {v2 : Value} {p2 : Pin} {res : Str × Bool × Int} (hw : Holds E w Γ) (h0 : Γ[i0]? = some (rd v0 p0)) (h1 : Γ[i1]? = some (rd v1 p1)) (h2 : Γ[i2]? = some (rd v2 p2)) (hb : netlist_NetOf N p0 p1 p2 = some res) :
    Calls Tryd.prog 11 [v0, v1, v2].toArray w (Ret (netlist_NetOf_R E Γ res)) := by
  unfold netlist_NetOf at hb
  refine enter Tryd.func11 rfl rfl (Nat.le_of_ble_eq_true rfl) ?_
  have hw := hw.dup (i := i0 + 0) h0
  have hw := hw.dup (i := i1 + 1) h1
  have hw := hw.dup (i := i2 + 2) h2
  refine RC.seq ?_
  refine RC.region ?_
  refine RL.box_rd (i := 1) (v := v1) trivial rfl hw rfl rfl fun b1 w hw => ?_
  refine RL.box_rd (i := 1) (v := v2) trivial rfl hw rfl rfl fun b2 w hw => ?_
  refine RL.assign (v := (str ⟨[]⟩)) trivial rfl rfl ?_
  refine RL.assign (v := (.bool false)) trivial rfl rfl ?_
  refine RL.assign (v := (.int .i64 0)) trivial rfl rfl ?_
  refine RL.nil ?_
  refine thenQ_n ?_
  refine RC.seq ?_
  refine RC.seq ?_
  refine RC.region ?_
  refine RL.move (v := v0) trivial rfl rfl ?_
  refine RL.load_bf (i := 1) (f := (fun x => x)) trivial rfl hw rfl rfl Fd.self ty26 fun v3 hw => ?_
  obtain ⟨x4, hx4, hb⟩ := bd hb
  refine RL.call trivial rfl fn13 [v0, v3] rfl (Calls_ret (netlist_CheckList_ok N  (i0 := 5) (i1 := 0) hw rfl rfl hx4) ?_)
  rintro _ w ⟨rfl, hw⟩
  refine RL.assign (v := (.int .i64 x4)) trivial rfl rfl ?_
  refine RL.nil ?_
  refine thenQ_n ?_
  refine RC.seq ?_
  refine RC.region ?_
  refine RL.move (v := (.int .i64 x4)) trivial rfl rfl ?_
  refine RL.icmp (a := x4) (b := 0) trivial rfl rfl rfl rfl ?_
  refine RL.nil ?_
  refine thenQ_n ?_
  refine RC.cond (b := (x4 != 0)) rfl (fun hc => ?_) (fun hc => ?_)
  · replace hb := cT hc hb
    refine RC.seq ?_
    refine RC.region ?_
    refine RL.move (v := (.int .i64 x4)) trivial rfl rfl ?_
    refine RL.assign (v := (str ⟨[]⟩)) trivial rfl rfl ?_
    refine RL.assign (v := (.bool false)) trivial rfl rfl ?_
    refine RL.assign (v := (.int .i64 x4)) trivial rfl rfl ?_
    refine RL.nil ?_
    refine thenQ_n ?_
    refine RC.ret ?_
    refine thenQ_r ?_
    injection hb with hb; subst hb
    exact fin3 rfl rfl rfl rfl ⟨rfl, hw.drop 6 rfl⟩
  replace hb := cF hc hb
  refine RC.skip ?_
  refine thenQ_n ?_
  refine RC.seq ?_
  refine RC.seq ?_
  refine RC.region ?_
  refine RL.move (v := v0) trivial rfl rfl ?_
  refine RL.fa_b trivial rfl rfl fa26_0 ?_
  refine RL.load_bf (i := 2) (f := (fun x => x.Parts)) trivial rfl hw rfl rfl fd_Netlist_0 ty23 fun v5 hw => ?_
  refine RL.load_bf (i := 2) (f := (fun x => x)) trivial rfl hw rfl rfl Fd.self ty28 fun v6 hw => ?_
  obtain ⟨x7, hx7, hb⟩ := bd hb
  refine RL.call trivial rfl fn36 [v0, v5, v6] rfl (Calls_ret (netlist_hasPin_ok N  (i0 := 7) (i1 := 1) (i2 := 0) hw rfl rfl rfl hx7) ?_)
  rintro _ w ⟨rfl, hw⟩
  refine RL.not (b := x7) trivial rfl rfl ?_
  refine RL.nil ?_
  refine thenQ_n ?_
  refine RC.cond (b := (!x7)) rfl (fun hc => ?_) (fun hc => ?_)
  · replace hb := cT hc hb
    refine RC.seq ?_
    refine RC.region ?_
    refine RL.assign (v := (str ⟨[]⟩)) trivial rfl rfl ?_
    refine RL.assign (v := (.bool false)) trivial rfl rfl ?_
    refine RL.assign (v := (.int .i64 9)) trivial rfl rfl ?_
    refine RL.nil ?_
    refine thenQ_n ?_
    refine RC.ret ?_
    refine thenQ_r ?_
    injection hb with hb; subst hb
    exact fin3 rfl rfl rfl rfl ⟨rfl, hw.drop 8 rfl⟩
  replace hb := cF hc hb
  refine RC.skip ?_
  refine thenQ_n ?_
  refine RC.seq ?_
  obtain ⟨x9, hx9, hb⟩ := bd hb
  refine RC.draw mixed rfl (fun (D : Nat → Bool) (σ : Nat → Value) (w : World) => ∃ v8 v10 v11 : Value, doneV D σ [(0, 25, v8), (1, 26, v10), (2, 27, v11), (3, 28, (.tuple #[(.int .i64 (mget x9 p2 (0 : Int))), (.bool (mhas x9 p2))])), (4, 24, (.tuple #[(.int .i64 (mget x9 p2 (0 : Int))), (.bool (mhas x9 p2))])), (5, 29, (.int .i64 (mget x9 p2 (0 : Int)))), (6, 30, (.bool (mhas x9 p2))), (7, 10, (.int .i64 (mget x9 p2 (0 : Int)))), (8, 11, (.bool (mhas x9 p2)))] ∧ agree σ [(4, (.pointer (some ⟨b1, 0, none⟩))), (5, (.pointer (some ⟨b2, 0, none⟩)))] ∧ Holds E w ([bif D 0 then (rd v8 p1) else junk, bif D 1 then (mp v10 x9) else junk, bif D 2 then (rd v11 p2) else junk, rd v6 p2, rd v5 p1.Parts, rd v3 p1, bx 28 b2 p2, bx 26 b1 p1, rd v2 p2, rd v1 p1, rd v0 p0] ++ Γ)) ?_ ⟨?_, ?_, ?_, ?_, ?_, ?_, ?_, ?_, ?_, trivial⟩ ?_
  · have hw := hw.drew
    have hw := hw.junk
    have hw := hw.junk
    have hw := hw.junk
    exact ⟨undef, undef, undef, ⟨(fun h => by cases h), (fun h => by cases h), (fun h => by cases h), (fun h => by cases h), (fun h => by cases h), (fun h => by cases h), (fun h => by cases h), (fun h => by cases h), (fun h => by cases h), trivial⟩, ⟨rfl, rfl, trivial⟩, hw⟩
  · intro D σ w hD hdep hJ
    obtain ⟨v8, v10, v11, hv, ha, hw⟩ := hJ
    have ha2 : agree σ [(4, (.pointer (some ⟨b1, 0, none⟩))), (5, (.pointer (some ⟨b2, 0, none⟩)))] := ⟨ha.1, ha.2.1, trivial⟩
    obtain ⟨τ, rfl⟩ := ha2.ups
    refine RL.load_bf (i := 7) (f := (fun x => x)) trivial rfl hw rfl rfl Fd.self ty26 fun v12 hw => ?_
    have hw := hw.fillat 0 1 0 rfl rfl rfl (by simp)
    refine RL.nil ?_
    exact ⟨rfl, v12, v10, v11, ⟨fun _ => rfl, hv.2.1, hv.2.2.1, hv.2.2.2.1, hv.2.2.2.2.1, hv.2.2.2.2.2.1, hv.2.2.2.2.2.2.1, hv.2.2.2.2.2.2.2.1, hv.2.2.2.2.2.2.2.2.1, trivial⟩, ha, hw⟩
  · intro D σ w hD hdep hJ
    obtain ⟨v8, v10, v11, hv, ha, hw⟩ := hJ
    have ha2 : agree σ [(25, v8), (4, (.pointer (some ⟨b1, 0, none⟩))), (5, (.pointer (some ⟨b2, 0, none⟩)))] := ⟨hv.1 (hdep.1 rfl), ha.1, ha.2.1, trivial⟩
    obtain ⟨τ, rfl⟩ := ha2.ups
    refine RL.call trivial rfl fn37 [v8] rfl (Calls_ret (netlist_Nets_ok N  (i0 := 0) hw (ent_t (hdep.1 rfl)) hx9) ?_)
    rintro v13 w hw
    have hw := hw.fillat 0 1 1 rfl rfl rfl (by simp)
    refine RL.nil ?_
    exact ⟨rfl, v8, v13, v11, ⟨hv.1, fun _ => rfl, hv.2.2.1, hv.2.2.2.1, hv.2.2.2.2.1, hv.2.2.2.2.2.1, hv.2.2.2.2.2.2.1, hv.2.2.2.2.2.2.2.1, hv.2.2.2.2.2.2.2.2.1, trivial⟩, ha, hw⟩
  · intro D σ w hD hdep hJ
    obtain ⟨v8, v10, v11, hv, ha, hw⟩ := hJ
    have ha2 : agree σ [(4, (.pointer (some ⟨b1, 0, none⟩))), (5, (.pointer (some ⟨b2, 0, none⟩)))] := ⟨ha.1, ha.2.1, trivial⟩
    obtain ⟨τ, rfl⟩ := ha2.ups
    refine RL.load_bf (i := 6) (f := (fun x => x)) trivial rfl hw rfl rfl Fd.self ty28 fun v14 hw => ?_
    have hw := hw.fillat 0 1 2 rfl rfl rfl (by simp)
    refine RL.nil ?_
    exact ⟨rfl, v8, v10, v14, ⟨hv.1, hv.2.1, fun _ => rfl, hv.2.2.2.1, hv.2.2.2.2.1, hv.2.2.2.2.2.1, hv.2.2.2.2.2.2.1, hv.2.2.2.2.2.2.2.1, hv.2.2.2.2.2.2.2.2.1, trivial⟩, ha, hw⟩
  · intro D σ w hD hdep hJ
    obtain ⟨v8, v10, v11, hv, ha, hw⟩ := hJ
    have ha2 : agree σ [(26, v10), (27, v11), (4, (.pointer (some ⟨b1, 0, none⟩))), (5, (.pointer (some ⟨b2, 0, none⟩)))] := ⟨hv.2.1 (hdep.1 rfl), hv.2.2.1 (hdep.2.1 rfl), ha.1, ha.2.1, trivial⟩
    obtain ⟨τ, rfl⟩ := ha2.ups
    refine RL.lookup2s (i := 1) (k := p2) trivial rfl hw rfl (key_rd hw (j := 2) (ent_t (hdep.2.1 rfl))) (ent_t (hdep.1 rfl)) mt72 ?_
    refine RL.nil ?_
    exact ⟨rfl, v8, v10, v11, ⟨hv.1, hv.2.1, hv.2.2.1, fun _ => rfl, hv.2.2.2.2.1, hv.2.2.2.2.2.1, hv.2.2.2.2.2.2.1, hv.2.2.2.2.2.2.2.1, hv.2.2.2.2.2.2.2.2.1, trivial⟩, ha, hw⟩
  · intro D σ w hD hdep hJ
    obtain ⟨v8, v10, v11, hv, ha, hw⟩ := hJ
    have ha2 : agree σ [(28, (.tuple #[(.int .i64 (mget x9 p2 (0 : Int))), (.bool (mhas x9 p2))])), (4, (.pointer (some ⟨b1, 0, none⟩))), (5, (.pointer (some ⟨b2, 0, none⟩)))] := ⟨hv.2.2.2.1 (hdep.1 rfl), ha.1, ha.2.1, trivial⟩
    obtain ⟨τ, rfl⟩ := ha2.ups
    refine RL.move (v := (.tuple #[(.int .i64 (mget x9 p2 (0 : Int))), (.bool (mhas x9 p2))])) trivial rfl rfl ?_
    refine RL.nil ?_
    exact ⟨rfl, v8, v10, v11, ⟨hv.1, hv.2.1, hv.2.2.1, hv.2.2.2.1, fun _ => rfl, hv.2.2.2.2.2.1, hv.2.2.2.2.2.2.1, hv.2.2.2.2.2.2.2.1, hv.2.2.2.2.2.2.2.2.1, trivial⟩, ha, hw⟩
  · intro D σ w hD hdep hJ
    obtain ⟨v8, v10, v11, hv, ha, hw⟩ := hJ
    have ha2 : agree σ [(24, (.tuple #[(.int .i64 (mget x9 p2 (0 : Int))), (.bool (mhas x9 p2))])), (4, (.pointer (some ⟨b1, 0, none⟩))), (5, (.pointer (some ⟨b2, 0, none⟩)))] := ⟨hv.2.2.2.2.1 (hdep.1 rfl), ha.1, ha.2.1, trivial⟩
    obtain ⟨τ, rfl⟩ := ha2.ups
    refine RL.extract (v := (.int .i64 (mget x9 p2 (0 : Int)))) trivial rfl rfl rfl ?_
    refine RL.nil ?_
    exact ⟨rfl, v8, v10, v11, ⟨hv.1, hv.2.1, hv.2.2.1, hv.2.2.2.1, hv.2.2.2.2.1, fun _ => rfl, hv.2.2.2.2.2.2.1, hv.2.2.2.2.2.2.2.1, hv.2.2.2.2.2.2.2.2.1, trivial⟩, ha, hw⟩
  · intro D σ w hD hdep hJ
    obtain ⟨v8, v10, v11, hv, ha, hw⟩ := hJ
    have ha2 : agree σ [(24, (.tuple #[(.int .i64 (mget x9 p2 (0 : Int))), (.bool (mhas x9 p2))])), (4, (.pointer (some ⟨b1, 0, none⟩))), (5, (.pointer (some ⟨b2, 0, none⟩)))] := ⟨hv.2.2.2.2.1 (hdep.1 rfl), ha.1, ha.2.1, trivial⟩
    obtain ⟨τ, rfl⟩ := ha2.ups
    refine RL.extract (v := (.bool (mhas x9 p2))) trivial rfl rfl rfl ?_
    refine RL.nil ?_
    exact ⟨rfl, v8, v10, v11, ⟨hv.1, hv.2.1, hv.2.2.1, hv.2.2.2.1, hv.2.2.2.2.1, hv.2.2.2.2.2.1, fun _ => rfl, hv.2.2.2.2.2.2.2.1, hv.2.2.2.2.2.2.2.2.1, trivial⟩, ha, hw⟩
  · intro D σ w hD hdep hJ
    obtain ⟨v8, v10, v11, hv, ha, hw⟩ := hJ
    have ha2 : agree σ [(29, (.int .i64 (mget x9 p2 (0 : Int)))), (26, v10), (25, v8), (27, v11), (28, (.tuple #[(.int .i64 (mget x9 p2 (0 : Int))), (.bool (mhas x9 p2))])), (24, (.tuple #[(.int .i64 (mget x9 p2 (0 : Int))), (.bool (mhas x9 p2))])), (4, (.pointer (some ⟨b1, 0, none⟩))), (5, (.pointer (some ⟨b2, 0, none⟩)))] := ⟨hv.2.2.2.2.2.1 (hdep.1 rfl), hv.2.1 (hdep.2.1 rfl), hv.1 (hdep.2.2.1 rfl), hv.2.2.1 (hdep.2.2.2.2.1 rfl), hv.2.2.2.1 (hdep.2.2.2.2.2.1 rfl), hv.2.2.2.2.1 (hdep.2.2.2.2.2.2.1 rfl), ha.1, ha.2.1, trivial⟩
    obtain ⟨τ, rfl⟩ := ha2.ups
    refine RL.assign (v := (.int .i64 (mget x9 p2 (0 : Int)))) trivial rfl rfl ?_
    refine RL.nil ?_
    exact ⟨rfl, v8, v10, v11, ⟨hv.1, hv.2.1, hv.2.2.1, hv.2.2.2.1, hv.2.2.2.2.1, hv.2.2.2.2.2.1, hv.2.2.2.2.2.2.1, fun _ => rfl, hv.2.2.2.2.2.2.2.2.1, trivial⟩, ha, hw⟩
  · intro D σ w hD hdep hJ
    obtain ⟨v8, v10, v11, hv, ha, hw⟩ := hJ
    have ha2 : agree σ [(30, (.bool (mhas x9 p2))), (10, (.int .i64 (mget x9 p2 (0 : Int)))), (25, v8), (26, v10), (27, v11), (28, (.tuple #[(.int .i64 (mget x9 p2 (0 : Int))), (.bool (mhas x9 p2))])), (24, (.tuple #[(.int .i64 (mget x9 p2 (0 : Int))), (.bool (mhas x9 p2))])), (29, (.int .i64 (mget x9 p2 (0 : Int)))), (4, (.pointer (some ⟨b1, 0, none⟩))), (5, (.pointer (some ⟨b2, 0, none⟩)))] := ⟨hv.2.2.2.2.2.2.1 (hdep.1 rfl), hv.2.2.2.2.2.2.2.1 (hdep.2.1 rfl), hv.1 (hdep.2.2.1 rfl), hv.2.1 (hdep.2.2.2.1 rfl), hv.2.2.1 (hdep.2.2.2.2.1 rfl), hv.2.2.2.1 (hdep.2.2.2.2.2.1 rfl), hv.2.2.2.2.1 (hdep.2.2.2.2.2.2.1 rfl), hv.2.2.2.2.2.1 (hdep.2.2.2.2.2.2.2.1 rfl), ha.1, ha.2.1, trivial⟩
    obtain ⟨τ, rfl⟩ := ha2.ups
    refine RL.assign (v := (.bool (mhas x9 p2))) trivial rfl rfl ?_
    refine RL.nil ?_
    exact ⟨rfl, v8, v10, v11, ⟨hv.1, hv.2.1, hv.2.2.1, hv.2.2.2.1, hv.2.2.2.2.1, hv.2.2.2.2.2.1, hv.2.2.2.2.2.2.1, hv.2.2.2.2.2.2.2.1, fun _ => rfl, trivial⟩, ha, hw⟩
  intro D σ w hall hJ
  obtain ⟨v8, v10, v11, hv, ha, hw⟩ := hJ
  rw [hall 0 (by decide)] at hw
  rw [hall 1 (by decide)] at hw
  rw [hall 2 (by decide)] at hw
  have ha2 : agree σ [(10, (.int .i64 (mget x9 p2 (0 : Int)))), (11, (.bool (mhas x9 p2))), (4, (.pointer (some ⟨b1, 0, none⟩))), (5, (.pointer (some ⟨b2, 0, none⟩)))] := ⟨hv.2.2.2.2.2.2.2.1 (hall 7 (by decide)), hv.2.2.2.2.2.2.2.2.1 (hall 8 (by decide)), ha.1, ha.2.1, trivial⟩
  obtain ⟨τ, rfl⟩ := ha2.ups
  refine thenQ_n ?_
  refine RC.seq ?_
  refine RC.seq ?_
  refine RC.region ?_
  refine RL.move (v := (.bool (mhas x9 p2))) trivial rfl rfl ?_
  refine RL.not (b := (mhas x9 p2)) trivial rfl rfl ?_
  refine RL.nil ?_
  refine thenQ_n ?_
  refine RC.cond (b := (!(mhas x9 p2))) rfl (fun hc => ?_) (fun hc => ?_)
  · replace hb := cT hc hb
    refine RC.seq ?_
    refine RC.region ?_
    refine RL.assign (v := (str ⟨[]⟩)) trivial rfl rfl ?_
    refine RL.assign (v := (.bool false)) trivial rfl rfl ?_
    refine RL.assign (v := (.int .i64 0)) trivial rfl rfl ?_
    refine RL.nil ?_
    refine thenQ_n ?_
    refine RC.ret ?_
    refine thenQ_r ?_
    injection hb with hb; subst hb
    exact fin3 rfl rfl rfl rfl ⟨rfl, hw.drop 11 rfl⟩
  replace hb := cF hc hb
  refine RC.skip ?_
  refine thenQ_n ?_
  refine RC.seq ?_
  refine RC.region ?_
  refine RL.fa_b trivial rfl rfl fa26_1 ?_
  refine RL.load_bf (i := 7) (f := (fun x => x.Nets)) trivial rfl hw rfl rfl fd_Netlist_1 ty24 fun v15 hw => ?_
  refine RL.move (v := (.int .i64 (mget x9 p2 (0 : Int)))) trivial rfl rfl ?_
  obtain ⟨x16, hx16, hb⟩ := bd hb
  refine RL.ia_rd (i := 0) trivial rfl hw rfl rfl rfl sl24 hx16 fun v17 hw => ?_
  refine RL.fa_pt (i := 0) (f := fun (x : Net) => x.Name) trivial rfl hw rfl rfl fa64_0 fd_Net_0 fun v18 hw => ?_
  refine RL.load_pts (i := 0) (y := x16.Name) trivial rfl hw rfl rfl ty9 ?_
  refine RL.assign (v := (str x16.Name)) trivial rfl rfl ?_
  refine RL.assign (v := (.bool true)) trivial rfl rfl ?_
  refine RL.assign (v := (.int .i64 0)) trivial rfl rfl ?_
  refine RL.nil ?_
  refine thenQ_n ?_
  refine RC.ret ?_
  injection hb with hb; subst hb
  exact fin3 rfl rfl rfl rfl ⟨rfl, hw.drop 14 rfl⟩
end Go.Gk
