/-
  Printed by gen.py: Go functions as plain functions, and that they are.
-/
import Derived.Test.YtnjoaggeheokeaaDoorF1
set_option linter.unusedVariables false
set_option linter.unusedSimpArgs false
set_option linter.unusedSectionVars false
set_option maxRecDepth 100000
set_option maxHeartbeats 4000000

namespace Go.Gk
open Go Go.Proofs
def netlist_TypeAt_R (E : World) (Γ : List HP) (res : Int) (v : Value) (w : World) : Prop := v = (.int .i64 res) ∧ Holds E w Γ
def netlist_TypeAt_K (E : World) (Γ : List HP) (r : Int) (σ : Nat → Value) (w : World) : Prop := finQ Tryd.prog 16 Tryd.f50 (netlist_TypeAt_R E Γ r) .ret σ w
theorem netlist_TypeAt_ok (N : Nat) {E w : World} {Γ : List HP} {i0 : Nat} {v0 : Value} {p0 : (List PartType)} {p1 : Str} {res : Int} (hw : Holds E w Γ) (h0 : Γ[i0]? = some (rd v0 p0)) (hb : netlist_TypeAt N p0 p1 = some res) :
    Calls Tryd.prog 50 [v0, (str p1)].toArray w (Ret (netlist_TypeAt_R E Γ res)) := by
  unfold netlist_TypeAt at hb
  refine enter Tryd.func50 rfl rfl (Nat.le_of_ble_eq_true rfl) ?_
  have hw := hw.dup (i := i0 + 0) h0
  refine RC.seq ?_
  refine RC.region ?_
  refine RL.assign (v := (.int .i64 0)) trivial rfl rfl ?_
  refine RL.nil ?_
  refine thenQ_n ?_
  refine RC.seq ?_
  refine RC.region ?_
  refine RL.move (v := v0) trivial rfl rfl ?_
  refine RL.move (v := (str p1)) trivial rfl rfl ?_
  obtain ⟨x1, hx1, hb⟩ := bd hb
  refine RL.call trivial rfl fn105 [v0, (str p1), (.func (.func 106) #[] #[])] rfl (Calls_ret (slices_BinarySearchFunc_PartType_string_ok N (p1 := p1) (i0 := 0) hw rfl ⟨106, [], rfl, fn106, fun w Γl v v' y0 y1 r i j hw hi hj hr => by obtain rfl := hw.ofSc (γ := Str) hj; exact Calls_ret (netlist_TypeAt_c1_ok N (p1 := y1) (i0 := i) hw hi hr) fun _ _ h => h⟩ hx1) ?_)
  rintro _ w ⟨rfl, hw⟩
  refine RL.move (v := (.tuple #[(.int .i64 x1.1), (.bool x1.2)])) trivial rfl rfl ?_
  refine RL.extract (v := (.int .i64 x1.1)) trivial rfl rfl rfl ?_
  refine RL.extract (v := (.bool x1.2)) trivial rfl rfl rfl ?_
  refine RL.assign (v := (.int .i64 x1.1)) trivial rfl rfl ?_
  refine RL.assign (v := (.bool x1.2)) trivial rfl rfl ?_
  refine RL.nil ?_
  refine thenQ_n ?_
  refine RC.seq ?_
  refine RC.seq ?_
  refine RC.region ?_
  refine RL.move (v := (.bool x1.2)) trivial rfl rfl ?_
  refine RL.not (b := x1.2) trivial rfl rfl ?_
  refine RL.nil ?_
  refine thenQ_n ?_
  refine RC.cond (b := (!x1.2)) rfl (fun hc => ?_) (fun hc => ?_)
  · replace hb := cT hc hb
    refine RC.seq ?_
    refine RC.region ?_
    refine RL.assign (v := (.int .i64 (-1))) trivial rfl rfl ?_
    refine RL.nil ?_
    refine thenQ_n ?_
    refine RC.ret ?_
    refine thenQ_r ?_
    injection hb with hb; subst hb
    exact fin1 rfl rfl ⟨rfl, hw.drop 1 rfl⟩
  replace hb := cF hc hb
  refine RC.skip ?_
  refine thenQ_n ?_
  refine RC.seq ?_
  refine RC.region ?_
  refine RL.move (v := (.int .i64 x1.1)) trivial rfl rfl ?_
  refine RL.assign (v := (.int .i64 x1.1)) trivial rfl rfl ?_
  refine RL.nil ?_
  refine thenQ_n ?_
  refine RC.ret ?_
  injection hb with hb; subst hb
  exact fin1 rfl rfl ⟨rfl, hw.drop 1 rfl⟩
def netlist_checkParts_R (E : World) (Γ : List HP) (res : Int) (v : Value) (w : World) : Prop := v = (.int .i64 res) ∧ Holds E w Γ
def netlist_checkParts_K (E : World) (Γ : List HP) (r : Int) (σ : Nat → Value) (w : World) : Prop := finQ Tryd.prog 46 Tryd.f41 (netlist_checkParts_R E Γ r) .ret σ w
theorem netlist_checkParts_ok (N : Nat) {E w : World} {Γ : List HP} {i0 : Nat} {v0 : Value} {p0 : (List PartType)} {i1 : Nat} {v1 : Value} {p1 : (List Part)} {v2 : Value} {p2 : Str → Option Bool} {res : Int} (hw : Holds E w Γ) (h0 : Γ[i0]? = some (rd v0 p0)) (h1 : Γ[i1]? = some (rd v1 p1)) (h2 : Fn1 Tryd.prog E Γ v2 p2 (fun (r : Bool) => Value.bool r)) (hb : netlist_checkParts N p0 p1 p2 = some res) :
    Calls Tryd.prog 41 [v0, v1, v2].toArray w (Ret (netlist_checkParts_R E Γ res)) := by
  unfold netlist_checkParts at hb
  refine enter Tryd.func41 rfl rfl (Nat.le_of_ble_eq_true rfl) ?_
  have hw := hw.dup (i := i0 + 0) h0
  have hw := hw.dup (i := i1 + 1) h1
  refine RC.seq ?_
  refine RC.region ?_
  refine RL.assign (v := (.int .i64 0)) trivial rfl rfl ?_
  refine RL.nil ?_
  refine thenQ_n ?_
  refine RC.seq ?_
  refine RC.seq ?_
  refine RC.region ?_
  refine RL.move (v := v1) trivial rfl rfl ?_
  refine RL.len_rd (i := 0) (l := p1) trivial rfl hw rfl rfl un23 ?_
  refine RL.icmp (a := ((p1.length : Nat) : Int)) (b := 1000) trivial rfl rfl rfl rfl ?_
  refine RL.nil ?_
  refine thenQ_n ?_
  refine RC.cond (b := (decide (((p1.length : Nat) : Int) > 1000))) rfl (fun hc => ?_) (fun hc => ?_)
  · replace hb := cT hc hb
    refine RC.seq ?_
    refine RC.region ?_
    refine RL.assign (v := (.int .i64 2)) trivial rfl rfl ?_
    refine RL.nil ?_
    refine thenQ_n ?_
    refine RC.ret ?_
    refine thenQ_r ?_
    injection hb with hb; subst hb
    exact fin1 rfl rfl ⟨rfl, hw.drop 2 rfl⟩
  replace hb := cF hc hb
  refine RC.skip ?_
  refine thenQ_n ?_
  refine RC.seq ?_
  refine RC.seq ?_
  refine RC.region ?_
  refine RL.move (v := v1) trivial rfl rfl ?_
  refine RL.len_rd (i := 0) (l := p1) trivial rfl hw rfl rfl un23 ?_
  refine RL.move (v := (.int .i64 0)) trivial rfl rfl ?_
  refine RL.nil ?_
  refine thenQ_n ?_
  obtain ⟨o121, hN, hb⟩ := bd hb
  refine RC.range (fun (k1 : Nat) (s2 : Unit) (σ : Nat → Value) (w : World) => agree σ [(0, v0), (1, v1), (2, v2), (12, v1), (13, (.int .i64 ((p1.length : Nat) : Int))), (14, (.int .i64 ((k1 : Nat) : Int)))] ∧ Holds E w ([rd v0 p0, rd v1 p1] ++ Γ)) (fun (s2 : Unit) (σ : Nat → Value) (w : World) => agree σ [] ∧ Holds E w ([rd v0 p0, rd v1 p1] ++ Γ)) (netlist_checkParts_K E Γ) hN ?_ ?_ ?_ ?_ ?_ 
  · exact ⟨⟨rfl, rfl, rfl, rfl, rfl, rfl, trivial⟩, hw.pick 2 [1, 0] (new := [rd v0 p0, rd v1 p1]) rfl rfl (by decide) (by decide)⟩
  · intro hm s2 σ w hI
    obtain ⟨ha, hw⟩ := hI
    obtain ⟨τ, rfl⟩ := ha.ups
    refine RC.seq ?_
    refine RC.region ?_
    refine RL.icmp (a := ((p1.length : Nat) : Int)) (b := ((p1.length : Nat) : Int)) trivial rfl rfl rfl rfl ?_
    refine RL.nil ?_
    refine thenQ_n ?_
    refine RC.seq ?_
    refine RC.cond_f dge ?_
    refine RC.exit ?_
    refine thenQ_x ?_
    exact ⟨rfl, trivial, hw.pick 2 [0, 1] (new := [rd v0 p0, rd v1 p1]) rfl rfl (by decide) (by decide)⟩
  · intro hm k1 s2 fl σ w hk hI hb
    obtain ⟨ha, hw⟩ := hI
    obtain ⟨τ, rfl⟩ := ha.ups
    refine RC.seq ?_
    refine RC.region ?_
    refine RL.icmp (a := ((k1 : Nat) : Int)) (b := ((p1.length : Nat) : Int)) trivial rfl rfl rfl rfl ?_
    refine RL.nil ?_
    refine thenQ_n ?_
    refine RC.seq ?_
    refine RC.cond_t (dlt hk) ?_
    refine RC.skip ?_
    refine thenQ_n ?_
    refine RC.seq ?_
    refine RC.block ?_
    refine RC.seq ?_
    refine RC.region ?_
    refine RL.move (v := (.int .i64 ((k1 : Nat) : Int))) trivial rfl rfl ?_
    obtain ⟨x62, hx62, hb⟩ := bd hb
    refine RL.ia_rd (i := 1) trivial rfl hw rfl rfl rfl sl23 hx62 fun v63 hw => ?_
    refine RL.load_pt (i := 0) (x := x62) trivial rfl hw rfl rfl ty87 fun v64 hw => ?_
    refine RL.alloc trivial rfl hw ze87.z fun b65 w hw => ?_
    refine RL.assign (v := (.int .i64 ((k1 : Nat) : Int))) trivial rfl rfl ?_
    refine RL.store_raw (i := 0) (j := 1) trivial hw rfl rfl rfl rfl ty87 rfl fun w hw => ?_
    refine RL.nil ?_
    refine thenQ_n ?_
    refine RC.block ?_
    refine RC.seq ?_
    refine RC.region ?_
    refine RL.move (v := v2) trivial rfl rfl ?_
    refine RL.fa_b trivial rfl rfl fa87_0 ?_
    refine RL.load_bfs (i := 0) (f := (fun x => x.Name)) trivial rfl hw rfl rfl fd_Part_0 ty9 ?_
    have hw := hw.sc (γ := Str) x62.Name
    obtain ⟨x66, hx66, hb⟩ := bd hb
    refine RL.callF1 (i := 0) trivial rfl hw rfl h2 6 rfl rfl rfl hx66 fun w hw => ?_
    refine RL.not (b := x66) trivial rfl rfl ?_
    refine RL.assign (v := (.bool (!x66))) trivial rfl rfl ?_
    refine RL.nil ?_
    refine thenQ_n ?_
    refine RC.cond (b := (!x66)) rfl (fun hc => ?_) (fun hc => ?_)
    · replace hb := cT hc hb
      refine RC.seq ?_
      refine RC.region ?_
      refine RL.assign (v := (.int .i64 5)) trivial rfl rfl ?_
      refine RL.nil ?_
      refine thenQ_n ?_
      refine RC.ret ?_
      refine blkQ_r ?_
      refine blkQ_r ?_
      refine thenQ_r ?_
      injection hb with hb; subst hb
      exact ⟨rfl, fin1 rfl rfl ⟨rfl, hw.drop 6 rfl⟩⟩
    replace hb := cF hc hb
    refine RC.seq ?_
    refine RC.region ?_
    refine RL.move (v := v0) trivial rfl rfl ?_
    refine RL.fa_b trivial rfl rfl fa87_1 ?_
    refine RL.load_bfs (i := 1) (f := (fun x => x.Type_)) trivial rfl hw rfl rfl fd_Part_1 ty9 ?_
    obtain ⟨x94, hx94, hb⟩ := bd hb
    refine RL.call trivial rfl fn50 [v0, (str x62.Type_)] rfl (Calls_ret (netlist_TypeAt_ok N (p1 := x62.Type_) (i0 := 4) hw rfl hx94) ?_)
    rintro _ w ⟨rfl, hw⟩
    refine RL.icmp (a := x94) (b := 0) trivial rfl rfl rfl rfl ?_
    refine RL.assign (v := (.bool (decide (x94 < 0)))) trivial rfl rfl ?_
    refine RL.nil ?_
    refine thenQ_n ?_
    refine RC.cond (b := (decide (x94 < 0))) rfl (fun hc => ?_) (fun hc => ?_)
    · replace hb := cT hc hb
      refine RC.seq ?_
      refine RC.region ?_
      refine RL.assign (v := (.int .i64 9)) trivial rfl rfl ?_
      refine RL.nil ?_
      refine thenQ_n ?_
      refine RC.ret ?_
      refine blkQ_r ?_
      refine blkQ_r ?_
      refine thenQ_r ?_
      injection hb with hb; subst hb
      exact ⟨rfl, fin1 rfl rfl ⟨rfl, hw.drop 6 rfl⟩⟩
    replace hb := cF hc hb
    refine RC.seq ?_
    obtain ⟨s114, hj, hb⟩ := bd hb
    refine RC.jn (fun (s114 : Bool) (σ : Nat → Value) (w : World) => agree σ [(0, v0), (1, v1), (2, v2), (12, v1), (13, (.int .i64 ((p1.length : Nat) : Int))), (14, (.int .i64 ((k1 : Nat) : Int))), (31, (.bool s114))] ∧ Holds E w ([rd v0 p0, rd v1 p1] ++ Γ)) s114 ?_ ?_
    · rcases Bool.eq_false_or_eq_true (decide (((k1 : Nat) : Int) > 0)) with hg115 | hg115
      rotate_left
      · replace hj := cF hg115 hj
        refine RC.draw mixed rfl (fun (D : Nat → Bool) (σ : Nat → Value) (w : World) => doneV D σ [(0, 32, (.int .i64 ((k1 : Nat) : Int))), (1, 33, (.bool (decide (((k1 : Nat) : Int) > 0)))), (2, 34, (.bool (decide (((k1 : Nat) : Int) > 0)))), (3, 35, undef), (4, 36, undef), (5, 37, undef), (6, 38, undef), (7, 39, undef), (8, 40, undef), (9, 41, undef), (10, 42, undef), (11, 43, undef), (12, 44, (.bool false)), (13, 31, (.bool false))] ∧ agree σ [(0, v0), (1, v1), (2, v2), (7, (.int .i64 ((k1 : Nat) : Int))), (8, (.pointer (some ⟨b65, 0, none⟩))), (12, v1), (13, (.int .i64 ((p1.length : Nat) : Int))), (14, (.int .i64 ((k1 : Nat) : Int)))] ∧ Holds E w ([rd (str x62.Name) x62.Name, bx 87 b65 x62, rd v64 x62, pt v63 x62, rd v0 p0, rd v1 p1] ++ Γ)) ?_ ⟨?_, ?_, ?_, ?_, ?_, ?_, ?_, ?_, ?_, ?_, ?_, ?_, ?_, ?_, trivial⟩ ?_
        · have hw := hw.drew
          exact ⟨⟨(fun h => by cases h), (fun h => by cases h), (fun h => by cases h), (fun h => by cases h), (fun h => by cases h), (fun h => by cases h), (fun h => by cases h), (fun h => by cases h), (fun h => by cases h), (fun h => by cases h), (fun h => by cases h), (fun h => by cases h), (fun h => by cases h), (fun h => by cases h), trivial⟩, ⟨rfl, rfl, rfl, rfl, rfl, rfl, rfl, rfl, trivial⟩, hw⟩
        · intro D σ w hD hdep hJ
          obtain ⟨hv, ha, hw⟩ := hJ
          have ha2 : agree σ [(0, v0), (1, v1), (2, v2), (7, (.int .i64 ((k1 : Nat) : Int))), (8, (.pointer (some ⟨b65, 0, none⟩))), (12, v1), (13, (.int .i64 ((p1.length : Nat) : Int))), (14, (.int .i64 ((k1 : Nat) : Int)))] := ⟨ha.1, ha.2.1, ha.2.2.1, ha.2.2.2.1, ha.2.2.2.2.1, ha.2.2.2.2.2.1, ha.2.2.2.2.2.2.1, ha.2.2.2.2.2.2.2.1, trivial⟩
          obtain ⟨τ, rfl⟩ := ha2.ups
          refine RL.move (v := (.int .i64 ((k1 : Nat) : Int))) trivial rfl rfl ?_
          refine RL.nil ?_
          exact ⟨rfl, ⟨fun _ => rfl, hv.2.1, hv.2.2.1, hv.2.2.2.1, hv.2.2.2.2.1, hv.2.2.2.2.2.1, hv.2.2.2.2.2.2.1, hv.2.2.2.2.2.2.2.1, hv.2.2.2.2.2.2.2.2.1, hv.2.2.2.2.2.2.2.2.2.1, hv.2.2.2.2.2.2.2.2.2.2.1, hv.2.2.2.2.2.2.2.2.2.2.2.1, hv.2.2.2.2.2.2.2.2.2.2.2.2.1, hv.2.2.2.2.2.2.2.2.2.2.2.2.2.1, trivial⟩, ha, hw⟩
        · intro D σ w hD hdep hJ
          obtain ⟨hv, ha, hw⟩ := hJ
          have ha2 : agree σ [(32, (.int .i64 ((k1 : Nat) : Int))), (0, v0), (1, v1), (2, v2), (7, (.int .i64 ((k1 : Nat) : Int))), (8, (.pointer (some ⟨b65, 0, none⟩))), (12, v1), (13, (.int .i64 ((p1.length : Nat) : Int))), (14, (.int .i64 ((k1 : Nat) : Int)))] := ⟨hv.1 (hdep.1 rfl), ha.1, ha.2.1, ha.2.2.1, ha.2.2.2.1, ha.2.2.2.2.1, ha.2.2.2.2.2.1, ha.2.2.2.2.2.2.1, ha.2.2.2.2.2.2.2.1, trivial⟩
          obtain ⟨τ, rfl⟩ := ha2.ups
          refine RL.icmp (a := ((k1 : Nat) : Int)) (b := 0) trivial rfl rfl rfl rfl ?_
          refine RL.nil ?_
          exact ⟨rfl, ⟨hv.1, fun _ => rfl, hv.2.2.1, hv.2.2.2.1, hv.2.2.2.2.1, hv.2.2.2.2.2.1, hv.2.2.2.2.2.2.1, hv.2.2.2.2.2.2.2.1, hv.2.2.2.2.2.2.2.2.1, hv.2.2.2.2.2.2.2.2.2.1, hv.2.2.2.2.2.2.2.2.2.2.1, hv.2.2.2.2.2.2.2.2.2.2.2.1, hv.2.2.2.2.2.2.2.2.2.2.2.2.1, hv.2.2.2.2.2.2.2.2.2.2.2.2.2.1, trivial⟩, ha, hw⟩
        · intro D σ w hD hdep hJ
          obtain ⟨hv, ha, hw⟩ := hJ
          have ha2 : agree σ [(33, (.bool (decide (((k1 : Nat) : Int) > 0)))), (0, v0), (1, v1), (2, v2), (7, (.int .i64 ((k1 : Nat) : Int))), (8, (.pointer (some ⟨b65, 0, none⟩))), (12, v1), (13, (.int .i64 ((p1.length : Nat) : Int))), (14, (.int .i64 ((k1 : Nat) : Int)))] := ⟨hv.2.1 (hdep.1 rfl), ha.1, ha.2.1, ha.2.2.1, ha.2.2.2.1, ha.2.2.2.2.1, ha.2.2.2.2.2.1, ha.2.2.2.2.2.2.1, ha.2.2.2.2.2.2.2.1, trivial⟩
          obtain ⟨τ, rfl⟩ := ha2.ups
          refine RL.move (v := (.bool (decide (((k1 : Nat) : Int) > 0)))) trivial rfl rfl ?_
          refine RL.nil ?_
          exact ⟨rfl, ⟨hv.1, hv.2.1, fun _ => rfl, hv.2.2.2.1, hv.2.2.2.2.1, hv.2.2.2.2.2.1, hv.2.2.2.2.2.2.1, hv.2.2.2.2.2.2.2.1, hv.2.2.2.2.2.2.2.2.1, hv.2.2.2.2.2.2.2.2.2.1, hv.2.2.2.2.2.2.2.2.2.2.1, hv.2.2.2.2.2.2.2.2.2.2.2.1, hv.2.2.2.2.2.2.2.2.2.2.2.2.1, hv.2.2.2.2.2.2.2.2.2.2.2.2.2.1, trivial⟩, ha, hw⟩
        · intro D σ w hD hdep hJ
          obtain ⟨hv, ha, hw⟩ := hJ
          have ha2 : agree σ [(34, (.bool (decide (((k1 : Nat) : Int) > 0)))), (0, v0), (1, v1), (2, v2), (7, (.int .i64 ((k1 : Nat) : Int))), (8, (.pointer (some ⟨b65, 0, none⟩))), (12, v1), (13, (.int .i64 ((p1.length : Nat) : Int))), (14, (.int .i64 ((k1 : Nat) : Int)))] := ⟨hv.2.2.1 (hdep.1 rfl), ha.1, ha.2.1, ha.2.2.1, ha.2.2.2.1, ha.2.2.2.2.1, ha.2.2.2.2.2.1, ha.2.2.2.2.2.2.1, ha.2.2.2.2.2.2.2.1, trivial⟩
          obtain ⟨τ, rfl⟩ := ha2.ups
          refine RL.skip rfl (.inl (congrArg Value.bool hg115)) rfl ?_
          refine RL.nil ?_
          exact ⟨rfl, ⟨hv.1, hv.2.1, hv.2.2.1, fun _ => rfl, hv.2.2.2.2.1, hv.2.2.2.2.2.1, hv.2.2.2.2.2.2.1, hv.2.2.2.2.2.2.2.1, hv.2.2.2.2.2.2.2.2.1, hv.2.2.2.2.2.2.2.2.2.1, hv.2.2.2.2.2.2.2.2.2.2.1, hv.2.2.2.2.2.2.2.2.2.2.2.1, hv.2.2.2.2.2.2.2.2.2.2.2.2.1, hv.2.2.2.2.2.2.2.2.2.2.2.2.2.1, trivial⟩, ha, hw⟩
        · intro D σ w hD hdep hJ
          obtain ⟨hv, ha, hw⟩ := hJ
          have ha2 : agree σ [(35, undef), (34, (.bool (decide (((k1 : Nat) : Int) > 0)))), (0, v0), (1, v1), (2, v2), (7, (.int .i64 ((k1 : Nat) : Int))), (8, (.pointer (some ⟨b65, 0, none⟩))), (12, v1), (13, (.int .i64 ((p1.length : Nat) : Int))), (14, (.int .i64 ((k1 : Nat) : Int)))] := ⟨hv.2.2.2.1 (hdep.1 rfl), hv.2.2.1 (hdep.2.1 rfl), ha.1, ha.2.1, ha.2.2.1, ha.2.2.2.1, ha.2.2.2.2.1, ha.2.2.2.2.2.1, ha.2.2.2.2.2.2.1, ha.2.2.2.2.2.2.2.1, trivial⟩
          obtain ⟨τ, rfl⟩ := ha2.ups
          refine RL.skip rfl (.inl (congrArg Value.bool hg115)) rfl ?_
          refine RL.nil ?_
          exact ⟨rfl, ⟨hv.1, hv.2.1, hv.2.2.1, hv.2.2.2.1, fun _ => rfl, hv.2.2.2.2.2.1, hv.2.2.2.2.2.2.1, hv.2.2.2.2.2.2.2.1, hv.2.2.2.2.2.2.2.2.1, hv.2.2.2.2.2.2.2.2.2.1, hv.2.2.2.2.2.2.2.2.2.2.1, hv.2.2.2.2.2.2.2.2.2.2.2.1, hv.2.2.2.2.2.2.2.2.2.2.2.2.1, hv.2.2.2.2.2.2.2.2.2.2.2.2.2.1, trivial⟩, ha, hw⟩
        · intro D σ w hD hdep hJ
          obtain ⟨hv, ha, hw⟩ := hJ
          have ha2 : agree σ [(34, (.bool (decide (((k1 : Nat) : Int) > 0)))), (0, v0), (1, v1), (2, v2), (7, (.int .i64 ((k1 : Nat) : Int))), (8, (.pointer (some ⟨b65, 0, none⟩))), (12, v1), (13, (.int .i64 ((p1.length : Nat) : Int))), (14, (.int .i64 ((k1 : Nat) : Int)))] := ⟨hv.2.2.1 (hdep.1 rfl), ha.1, ha.2.1, ha.2.2.1, ha.2.2.2.1, ha.2.2.2.2.1, ha.2.2.2.2.2.1, ha.2.2.2.2.2.2.1, ha.2.2.2.2.2.2.2.1, trivial⟩
          obtain ⟨τ, rfl⟩ := ha2.ups
          refine RL.skip rfl (.inl (congrArg Value.bool hg115)) rfl ?_
          refine RL.nil ?_
          exact ⟨rfl, ⟨hv.1, hv.2.1, hv.2.2.1, hv.2.2.2.1, hv.2.2.2.2.1, fun _ => rfl, hv.2.2.2.2.2.2.1, hv.2.2.2.2.2.2.2.1, hv.2.2.2.2.2.2.2.2.1, hv.2.2.2.2.2.2.2.2.2.1, hv.2.2.2.2.2.2.2.2.2.2.1, hv.2.2.2.2.2.2.2.2.2.2.2.1, hv.2.2.2.2.2.2.2.2.2.2.2.2.1, hv.2.2.2.2.2.2.2.2.2.2.2.2.2.1, trivial⟩, ha, hw⟩
        · intro D σ w hD hdep hJ
          obtain ⟨hv, ha, hw⟩ := hJ
          have ha2 : agree σ [(34, (.bool (decide (((k1 : Nat) : Int) > 0)))), (0, v0), (1, v1), (2, v2), (7, (.int .i64 ((k1 : Nat) : Int))), (8, (.pointer (some ⟨b65, 0, none⟩))), (12, v1), (13, (.int .i64 ((p1.length : Nat) : Int))), (14, (.int .i64 ((k1 : Nat) : Int)))] := ⟨hv.2.2.1 (hdep.1 rfl), ha.1, ha.2.1, ha.2.2.1, ha.2.2.2.1, ha.2.2.2.2.1, ha.2.2.2.2.2.1, ha.2.2.2.2.2.2.1, ha.2.2.2.2.2.2.2.1, trivial⟩
          obtain ⟨τ, rfl⟩ := ha2.ups
          refine RL.skip rfl (.inl (congrArg Value.bool hg115)) rfl ?_
          refine RL.nil ?_
          exact ⟨rfl, ⟨hv.1, hv.2.1, hv.2.2.1, hv.2.2.2.1, hv.2.2.2.2.1, hv.2.2.2.2.2.1, fun _ => rfl, hv.2.2.2.2.2.2.2.1, hv.2.2.2.2.2.2.2.2.1, hv.2.2.2.2.2.2.2.2.2.1, hv.2.2.2.2.2.2.2.2.2.2.1, hv.2.2.2.2.2.2.2.2.2.2.2.1, hv.2.2.2.2.2.2.2.2.2.2.2.2.1, hv.2.2.2.2.2.2.2.2.2.2.2.2.2.1, trivial⟩, ha, hw⟩
        · intro D σ w hD hdep hJ
          obtain ⟨hv, ha, hw⟩ := hJ
          have ha2 : agree σ [(38, undef), (34, (.bool (decide (((k1 : Nat) : Int) > 0)))), (0, v0), (1, v1), (2, v2), (7, (.int .i64 ((k1 : Nat) : Int))), (8, (.pointer (some ⟨b65, 0, none⟩))), (12, v1), (13, (.int .i64 ((p1.length : Nat) : Int))), (14, (.int .i64 ((k1 : Nat) : Int)))] := ⟨hv.2.2.2.2.2.2.1 (hdep.1 rfl), hv.2.2.1 (hdep.2.1 rfl), ha.1, ha.2.1, ha.2.2.1, ha.2.2.2.1, ha.2.2.2.2.1, ha.2.2.2.2.2.1, ha.2.2.2.2.2.2.1, ha.2.2.2.2.2.2.2.1, trivial⟩
          obtain ⟨τ, rfl⟩ := ha2.ups
          refine RL.skip rfl (.inl (congrArg Value.bool hg115)) rfl ?_
          refine RL.nil ?_
          exact ⟨rfl, ⟨hv.1, hv.2.1, hv.2.2.1, hv.2.2.2.1, hv.2.2.2.2.1, hv.2.2.2.2.2.1, hv.2.2.2.2.2.2.1, fun _ => rfl, hv.2.2.2.2.2.2.2.2.1, hv.2.2.2.2.2.2.2.2.2.1, hv.2.2.2.2.2.2.2.2.2.2.1, hv.2.2.2.2.2.2.2.2.2.2.2.1, hv.2.2.2.2.2.2.2.2.2.2.2.2.1, hv.2.2.2.2.2.2.2.2.2.2.2.2.2.1, trivial⟩, ha, hw⟩
        · intro D σ w hD hdep hJ
          obtain ⟨hv, ha, hw⟩ := hJ
          have ha2 : agree σ [(37, undef), (39, undef), (34, (.bool (decide (((k1 : Nat) : Int) > 0)))), (0, v0), (1, v1), (2, v2), (7, (.int .i64 ((k1 : Nat) : Int))), (8, (.pointer (some ⟨b65, 0, none⟩))), (12, v1), (13, (.int .i64 ((p1.length : Nat) : Int))), (14, (.int .i64 ((k1 : Nat) : Int)))] := ⟨hv.2.2.2.2.2.1 (hdep.1 rfl), hv.2.2.2.2.2.2.2.1 (hdep.2.1 rfl), hv.2.2.1 (hdep.2.2.1 rfl), ha.1, ha.2.1, ha.2.2.1, ha.2.2.2.1, ha.2.2.2.2.1, ha.2.2.2.2.2.1, ha.2.2.2.2.2.2.1, ha.2.2.2.2.2.2.2.1, trivial⟩
          obtain ⟨τ, rfl⟩ := ha2.ups
          refine RL.skip rfl (.inl (congrArg Value.bool hg115)) rfl ?_
          refine RL.nil ?_
          exact ⟨rfl, ⟨hv.1, hv.2.1, hv.2.2.1, hv.2.2.2.1, hv.2.2.2.2.1, hv.2.2.2.2.2.1, hv.2.2.2.2.2.2.1, hv.2.2.2.2.2.2.2.1, fun _ => rfl, hv.2.2.2.2.2.2.2.2.2.1, hv.2.2.2.2.2.2.2.2.2.2.1, hv.2.2.2.2.2.2.2.2.2.2.2.1, hv.2.2.2.2.2.2.2.2.2.2.2.2.1, hv.2.2.2.2.2.2.2.2.2.2.2.2.2.1, trivial⟩, ha, hw⟩
        · intro D σ w hD hdep hJ
          obtain ⟨hv, ha, hw⟩ := hJ
          have ha2 : agree σ [(40, undef), (34, (.bool (decide (((k1 : Nat) : Int) > 0)))), (0, v0), (1, v1), (2, v2), (7, (.int .i64 ((k1 : Nat) : Int))), (8, (.pointer (some ⟨b65, 0, none⟩))), (12, v1), (13, (.int .i64 ((p1.length : Nat) : Int))), (14, (.int .i64 ((k1 : Nat) : Int)))] := ⟨hv.2.2.2.2.2.2.2.2.1 (hdep.1 rfl), hv.2.2.1 (hdep.2.1 rfl), ha.1, ha.2.1, ha.2.2.1, ha.2.2.2.1, ha.2.2.2.2.1, ha.2.2.2.2.2.1, ha.2.2.2.2.2.2.1, ha.2.2.2.2.2.2.2.1, trivial⟩
          obtain ⟨τ, rfl⟩ := ha2.ups
          refine RL.skip rfl (.inl (congrArg Value.bool hg115)) rfl ?_
          refine RL.nil ?_
          exact ⟨rfl, ⟨hv.1, hv.2.1, hv.2.2.1, hv.2.2.2.1, hv.2.2.2.2.1, hv.2.2.2.2.2.1, hv.2.2.2.2.2.2.1, hv.2.2.2.2.2.2.2.1, hv.2.2.2.2.2.2.2.2.1, fun _ => rfl, hv.2.2.2.2.2.2.2.2.2.2.1, hv.2.2.2.2.2.2.2.2.2.2.2.1, hv.2.2.2.2.2.2.2.2.2.2.2.2.1, hv.2.2.2.2.2.2.2.2.2.2.2.2.2.1, trivial⟩, ha, hw⟩
        · intro D σ w hD hdep hJ
          obtain ⟨hv, ha, hw⟩ := hJ
          have ha2 : agree σ [(41, undef), (34, (.bool (decide (((k1 : Nat) : Int) > 0)))), (0, v0), (1, v1), (2, v2), (7, (.int .i64 ((k1 : Nat) : Int))), (8, (.pointer (some ⟨b65, 0, none⟩))), (12, v1), (13, (.int .i64 ((p1.length : Nat) : Int))), (14, (.int .i64 ((k1 : Nat) : Int)))] := ⟨hv.2.2.2.2.2.2.2.2.2.1 (hdep.1 rfl), hv.2.2.1 (hdep.2.1 rfl), ha.1, ha.2.1, ha.2.2.1, ha.2.2.2.1, ha.2.2.2.2.1, ha.2.2.2.2.2.1, ha.2.2.2.2.2.2.1, ha.2.2.2.2.2.2.2.1, trivial⟩
          obtain ⟨τ, rfl⟩ := ha2.ups
          refine RL.skip rfl (.inl (congrArg Value.bool hg115)) rfl ?_
          refine RL.nil ?_
          exact ⟨rfl, ⟨hv.1, hv.2.1, hv.2.2.1, hv.2.2.2.1, hv.2.2.2.2.1, hv.2.2.2.2.2.1, hv.2.2.2.2.2.2.1, hv.2.2.2.2.2.2.2.1, hv.2.2.2.2.2.2.2.2.1, hv.2.2.2.2.2.2.2.2.2.1, fun _ => rfl, hv.2.2.2.2.2.2.2.2.2.2.2.1, hv.2.2.2.2.2.2.2.2.2.2.2.2.1, hv.2.2.2.2.2.2.2.2.2.2.2.2.2.1, trivial⟩, ha, hw⟩
        · intro D σ w hD hdep hJ
          obtain ⟨hv, ha, hw⟩ := hJ
          have ha2 : agree σ [(36, undef), (42, undef), (34, (.bool (decide (((k1 : Nat) : Int) > 0)))), (0, v0), (1, v1), (2, v2), (7, (.int .i64 ((k1 : Nat) : Int))), (8, (.pointer (some ⟨b65, 0, none⟩))), (12, v1), (13, (.int .i64 ((p1.length : Nat) : Int))), (14, (.int .i64 ((k1 : Nat) : Int)))] := ⟨hv.2.2.2.2.1 (hdep.1 rfl), hv.2.2.2.2.2.2.2.2.2.2.1 (hdep.2.1 rfl), hv.2.2.1 (hdep.2.2.1 rfl), ha.1, ha.2.1, ha.2.2.1, ha.2.2.2.1, ha.2.2.2.2.1, ha.2.2.2.2.2.1, ha.2.2.2.2.2.2.1, ha.2.2.2.2.2.2.2.1, trivial⟩
          obtain ⟨τ, rfl⟩ := ha2.ups
          refine RL.skip rfl (.inl (congrArg Value.bool hg115)) rfl ?_
          refine RL.nil ?_
          exact ⟨rfl, ⟨hv.1, hv.2.1, hv.2.2.1, hv.2.2.2.1, hv.2.2.2.2.1, hv.2.2.2.2.2.1, hv.2.2.2.2.2.2.1, hv.2.2.2.2.2.2.2.1, hv.2.2.2.2.2.2.2.2.1, hv.2.2.2.2.2.2.2.2.2.1, hv.2.2.2.2.2.2.2.2.2.2.1, fun _ => rfl, hv.2.2.2.2.2.2.2.2.2.2.2.2.1, hv.2.2.2.2.2.2.2.2.2.2.2.2.2.1, trivial⟩, ha, hw⟩
        · intro D σ w hD hdep hJ
          obtain ⟨hv, ha, hw⟩ := hJ
          have ha2 : agree σ [(34, (.bool (decide (((k1 : Nat) : Int) > 0)))), (43, undef), (0, v0), (1, v1), (2, v2), (7, (.int .i64 ((k1 : Nat) : Int))), (8, (.pointer (some ⟨b65, 0, none⟩))), (12, v1), (13, (.int .i64 ((p1.length : Nat) : Int))), (14, (.int .i64 ((k1 : Nat) : Int)))] := ⟨hv.2.2.1 (hdep.1 rfl), hv.2.2.2.2.2.2.2.2.2.2.2.1 (hdep.2.1 rfl), ha.1, ha.2.1, ha.2.2.1, ha.2.2.2.1, ha.2.2.2.2.1, ha.2.2.2.2.2.1, ha.2.2.2.2.2.2.1, ha.2.2.2.2.2.2.2.1, trivial⟩
          obtain ⟨τ, rfl⟩ := ha2.ups
          refine RL.pick (b := (decide (((k1 : Nat) : Int) > 0))) (v := (.bool false)) trivial rfl rfl (by rw [hg115]; rfl) ?_
          refine RL.nil ?_
          exact ⟨rfl, ⟨hv.1, hv.2.1, hv.2.2.1, hv.2.2.2.1, hv.2.2.2.2.1, hv.2.2.2.2.2.1, hv.2.2.2.2.2.2.1, hv.2.2.2.2.2.2.2.1, hv.2.2.2.2.2.2.2.2.1, hv.2.2.2.2.2.2.2.2.2.1, hv.2.2.2.2.2.2.2.2.2.2.1, hv.2.2.2.2.2.2.2.2.2.2.2.1, fun _ => rfl, hv.2.2.2.2.2.2.2.2.2.2.2.2.2.1, trivial⟩, ha, hw⟩
        · intro D σ w hD hdep hJ
          obtain ⟨hv, ha, hw⟩ := hJ
          have ha2 : agree σ [(44, (.bool false)), (34, (.bool (decide (((k1 : Nat) : Int) > 0)))), (0, v0), (1, v1), (2, v2), (7, (.int .i64 ((k1 : Nat) : Int))), (8, (.pointer (some ⟨b65, 0, none⟩))), (12, v1), (13, (.int .i64 ((p1.length : Nat) : Int))), (14, (.int .i64 ((k1 : Nat) : Int)))] := ⟨hv.2.2.2.2.2.2.2.2.2.2.2.2.1 (hdep.1 rfl), hv.2.2.1 (hdep.2.1 rfl), ha.1, ha.2.1, ha.2.2.1, ha.2.2.2.1, ha.2.2.2.2.1, ha.2.2.2.2.2.1, ha.2.2.2.2.2.2.1, ha.2.2.2.2.2.2.2.1, trivial⟩
          obtain ⟨τ, rfl⟩ := ha2.ups
          refine RL.assign (v := (.bool false)) trivial rfl rfl ?_
          refine RL.nil ?_
          exact ⟨rfl, ⟨hv.1, hv.2.1, hv.2.2.1, hv.2.2.2.1, hv.2.2.2.2.1, hv.2.2.2.2.2.1, hv.2.2.2.2.2.2.1, hv.2.2.2.2.2.2.2.1, hv.2.2.2.2.2.2.2.2.1, hv.2.2.2.2.2.2.2.2.2.1, hv.2.2.2.2.2.2.2.2.2.2.1, hv.2.2.2.2.2.2.2.2.2.2.2.1, hv.2.2.2.2.2.2.2.2.2.2.2.2.1, fun _ => rfl, trivial⟩, ha, hw⟩
        intro D σ w hall hJ
        obtain ⟨hv, ha, hw⟩ := hJ
        have ha2 : agree σ [(31, (.bool false)), (0, v0), (1, v1), (2, v2), (7, (.int .i64 ((k1 : Nat) : Int))), (8, (.pointer (some ⟨b65, 0, none⟩))), (12, v1), (13, (.int .i64 ((p1.length : Nat) : Int))), (14, (.int .i64 ((k1 : Nat) : Int)))] := ⟨hv.2.2.2.2.2.2.2.2.2.2.2.2.2.1 (hall 13 (by decide)), ha.1, ha.2.1, ha.2.2.1, ha.2.2.2.1, ha.2.2.2.2.1, ha.2.2.2.2.2.1, ha.2.2.2.2.2.2.1, ha.2.2.2.2.2.2.2.1, trivial⟩
        obtain ⟨τ, rfl⟩ := ha2.ups
        injection hj with hj; subst hj
        exact ⟨rfl, ⟨rfl, rfl, rfl, rfl, rfl, rfl, rfl, trivial⟩, hw.pick 6 [4, 5] (new := [rd v0 p0, rd v1 p1]) rfl rfl (by decide) (by decide)⟩
      replace hj := cT hg115 hj
      obtain ⟨x116, hx116, hj⟩ := bd hj
      refine RC.draw mixed rfl (fun (D : Nat → Bool) (σ : Nat → Value) (w : World) => ∃ v117 v118 : Value, doneV D σ [(0, 32, (.int .i64 ((k1 : Nat) : Int))), (1, 33, (.bool (decide (((k1 : Nat) : Int) > 0)))), (2, 34, (.bool (decide (((k1 : Nat) : Int) > 0)))), (3, 35, (.pointer (some ⟨b65, 0, none⟩))), (4, 36, (str x62.Name)), (5, 37, v1), (6, 38, (.int .i64 ((k1 : Nat) : Int))), (7, 39, (.int .i64 (IntKind.wrap .i64 (((k1 : Nat) : Int) - 1)))), (8, 40, v117), (9, 41, v118), (10, 42, (str x116.Name)), (11, 43, (.bool (x62.Name.ltb x116.Name || x62.Name.eqb x116.Name))), (12, 44, (.bool (x62.Name.ltb x116.Name || x62.Name.eqb x116.Name))), (13, 31, (.bool (x62.Name.ltb x116.Name || x62.Name.eqb x116.Name)))] ∧ agree σ [(0, v0), (1, v1), (2, v2), (7, (.int .i64 ((k1 : Nat) : Int))), (8, (.pointer (some ⟨b65, 0, none⟩))), (12, v1), (13, (.int .i64 ((p1.length : Nat) : Int))), (14, (.int .i64 ((k1 : Nat) : Int)))] ∧ Holds E w ([bif D 8 then (pt v117 x116) else junk, bif D 9 then (pt v118 x116.Name) else junk, rd (str x62.Name) x62.Name, bx 87 b65 x62, rd v64 x62, pt v63 x62, rd v0 p0, rd v1 p1] ++ Γ)) ?_ ⟨?_, ?_, ?_, ?_, ?_, ?_, ?_, ?_, ?_, ?_, ?_, ?_, ?_, ?_, trivial⟩ ?_
      · have hw := hw.drew
        have hw := hw.junk
        have hw := hw.junk
        exact ⟨undef, undef, ⟨(fun h => by cases h), (fun h => by cases h), (fun h => by cases h), (fun h => by cases h), (fun h => by cases h), (fun h => by cases h), (fun h => by cases h), (fun h => by cases h), (fun h => by cases h), (fun h => by cases h), (fun h => by cases h), (fun h => by cases h), (fun h => by cases h), (fun h => by cases h), trivial⟩, ⟨rfl, rfl, rfl, rfl, rfl, rfl, rfl, rfl, trivial⟩, hw⟩
      · intro D σ w hD hdep hJ
        obtain ⟨v117, v118, hv, ha, hw⟩ := hJ
        have ha2 : agree σ [(0, v0), (1, v1), (2, v2), (7, (.int .i64 ((k1 : Nat) : Int))), (8, (.pointer (some ⟨b65, 0, none⟩))), (12, v1), (13, (.int .i64 ((p1.length : Nat) : Int))), (14, (.int .i64 ((k1 : Nat) : Int)))] := ⟨ha.1, ha.2.1, ha.2.2.1, ha.2.2.2.1, ha.2.2.2.2.1, ha.2.2.2.2.2.1, ha.2.2.2.2.2.2.1, ha.2.2.2.2.2.2.2.1, trivial⟩
        obtain ⟨τ, rfl⟩ := ha2.ups
        refine RL.move (v := (.int .i64 ((k1 : Nat) : Int))) trivial rfl rfl ?_
        refine RL.nil ?_
        exact ⟨rfl, v117, v118, ⟨fun _ => rfl, hv.2.1, hv.2.2.1, hv.2.2.2.1, hv.2.2.2.2.1, hv.2.2.2.2.2.1, hv.2.2.2.2.2.2.1, hv.2.2.2.2.2.2.2.1, hv.2.2.2.2.2.2.2.2.1, hv.2.2.2.2.2.2.2.2.2.1, hv.2.2.2.2.2.2.2.2.2.2.1, hv.2.2.2.2.2.2.2.2.2.2.2.1, hv.2.2.2.2.2.2.2.2.2.2.2.2.1, hv.2.2.2.2.2.2.2.2.2.2.2.2.2.1, trivial⟩, ha, hw⟩
      · intro D σ w hD hdep hJ
        obtain ⟨v117, v118, hv, ha, hw⟩ := hJ
        have ha2 : agree σ [(32, (.int .i64 ((k1 : Nat) : Int))), (0, v0), (1, v1), (2, v2), (7, (.int .i64 ((k1 : Nat) : Int))), (8, (.pointer (some ⟨b65, 0, none⟩))), (12, v1), (13, (.int .i64 ((p1.length : Nat) : Int))), (14, (.int .i64 ((k1 : Nat) : Int)))] := ⟨hv.1 (hdep.1 rfl), ha.1, ha.2.1, ha.2.2.1, ha.2.2.2.1, ha.2.2.2.2.1, ha.2.2.2.2.2.1, ha.2.2.2.2.2.2.1, ha.2.2.2.2.2.2.2.1, trivial⟩
        obtain ⟨τ, rfl⟩ := ha2.ups
        refine RL.icmp (a := ((k1 : Nat) : Int)) (b := 0) trivial rfl rfl rfl rfl ?_
        refine RL.nil ?_
        exact ⟨rfl, v117, v118, ⟨hv.1, fun _ => rfl, hv.2.2.1, hv.2.2.2.1, hv.2.2.2.2.1, hv.2.2.2.2.2.1, hv.2.2.2.2.2.2.1, hv.2.2.2.2.2.2.2.1, hv.2.2.2.2.2.2.2.2.1, hv.2.2.2.2.2.2.2.2.2.1, hv.2.2.2.2.2.2.2.2.2.2.1, hv.2.2.2.2.2.2.2.2.2.2.2.1, hv.2.2.2.2.2.2.2.2.2.2.2.2.1, hv.2.2.2.2.2.2.2.2.2.2.2.2.2.1, trivial⟩, ha, hw⟩
      · intro D σ w hD hdep hJ
        obtain ⟨v117, v118, hv, ha, hw⟩ := hJ
        have ha2 : agree σ [(33, (.bool (decide (((k1 : Nat) : Int) > 0)))), (0, v0), (1, v1), (2, v2), (7, (.int .i64 ((k1 : Nat) : Int))), (8, (.pointer (some ⟨b65, 0, none⟩))), (12, v1), (13, (.int .i64 ((p1.length : Nat) : Int))), (14, (.int .i64 ((k1 : Nat) : Int)))] := ⟨hv.2.1 (hdep.1 rfl), ha.1, ha.2.1, ha.2.2.1, ha.2.2.2.1, ha.2.2.2.2.1, ha.2.2.2.2.2.1, ha.2.2.2.2.2.2.1, ha.2.2.2.2.2.2.2.1, trivial⟩
        obtain ⟨τ, rfl⟩ := ha2.ups
        refine RL.move (v := (.bool (decide (((k1 : Nat) : Int) > 0)))) trivial rfl rfl ?_
        refine RL.nil ?_
        exact ⟨rfl, v117, v118, ⟨hv.1, hv.2.1, fun _ => rfl, hv.2.2.2.1, hv.2.2.2.2.1, hv.2.2.2.2.2.1, hv.2.2.2.2.2.2.1, hv.2.2.2.2.2.2.2.1, hv.2.2.2.2.2.2.2.2.1, hv.2.2.2.2.2.2.2.2.2.1, hv.2.2.2.2.2.2.2.2.2.2.1, hv.2.2.2.2.2.2.2.2.2.2.2.1, hv.2.2.2.2.2.2.2.2.2.2.2.2.1, hv.2.2.2.2.2.2.2.2.2.2.2.2.2.1, trivial⟩, ha, hw⟩
      · intro D σ w hD hdep hJ
        obtain ⟨v117, v118, hv, ha, hw⟩ := hJ
        have ha2 : agree σ [(34, (.bool (decide (((k1 : Nat) : Int) > 0)))), (0, v0), (1, v1), (2, v2), (7, (.int .i64 ((k1 : Nat) : Int))), (8, (.pointer (some ⟨b65, 0, none⟩))), (12, v1), (13, (.int .i64 ((p1.length : Nat) : Int))), (14, (.int .i64 ((k1 : Nat) : Int)))] := ⟨hv.2.2.1 (hdep.1 rfl), ha.1, ha.2.1, ha.2.2.1, ha.2.2.2.1, ha.2.2.2.2.1, ha.2.2.2.2.2.1, ha.2.2.2.2.2.2.1, ha.2.2.2.2.2.2.2.1, trivial⟩
        obtain ⟨τ, rfl⟩ := ha2.ups
        refine RL.fa_b ⟨_, rfl, congrArg Value.bool hg115⟩ rfl rfl fa87_0 ?_
        refine RL.nil ?_
        exact ⟨rfl, v117, v118, ⟨hv.1, hv.2.1, hv.2.2.1, fun _ => rfl, hv.2.2.2.2.1, hv.2.2.2.2.2.1, hv.2.2.2.2.2.2.1, hv.2.2.2.2.2.2.2.1, hv.2.2.2.2.2.2.2.2.1, hv.2.2.2.2.2.2.2.2.2.1, hv.2.2.2.2.2.2.2.2.2.2.1, hv.2.2.2.2.2.2.2.2.2.2.2.1, hv.2.2.2.2.2.2.2.2.2.2.2.2.1, hv.2.2.2.2.2.2.2.2.2.2.2.2.2.1, trivial⟩, ha, hw⟩
      · intro D σ w hD hdep hJ
        obtain ⟨v117, v118, hv, ha, hw⟩ := hJ
        have ha2 : agree σ [(35, (.pointer (some ⟨b65, 0, none⟩))), (34, (.bool (decide (((k1 : Nat) : Int) > 0)))), (0, v0), (1, v1), (2, v2), (7, (.int .i64 ((k1 : Nat) : Int))), (8, (.pointer (some ⟨b65, 0, none⟩))), (12, v1), (13, (.int .i64 ((p1.length : Nat) : Int))), (14, (.int .i64 ((k1 : Nat) : Int)))] := ⟨hv.2.2.2.1 (hdep.1 rfl), hv.2.2.1 (hdep.2.1 rfl), ha.1, ha.2.1, ha.2.2.1, ha.2.2.2.1, ha.2.2.2.2.1, ha.2.2.2.2.2.1, ha.2.2.2.2.2.2.1, ha.2.2.2.2.2.2.2.1, trivial⟩
        obtain ⟨τ, rfl⟩ := ha2.ups
        refine RL.load_bfs (i := 3) (f := (fun x => x.Name)) ⟨_, rfl, congrArg Value.bool hg115⟩ rfl hw rfl rfl fd_Part_0 ty9 ?_
        refine RL.nil ?_
        exact ⟨rfl, v117, v118, ⟨hv.1, hv.2.1, hv.2.2.1, hv.2.2.2.1, fun _ => rfl, hv.2.2.2.2.2.1, hv.2.2.2.2.2.2.1, hv.2.2.2.2.2.2.2.1, hv.2.2.2.2.2.2.2.2.1, hv.2.2.2.2.2.2.2.2.2.1, hv.2.2.2.2.2.2.2.2.2.2.1, hv.2.2.2.2.2.2.2.2.2.2.2.1, hv.2.2.2.2.2.2.2.2.2.2.2.2.1, hv.2.2.2.2.2.2.2.2.2.2.2.2.2.1, trivial⟩, ha, hw⟩
      · intro D σ w hD hdep hJ
        obtain ⟨v117, v118, hv, ha, hw⟩ := hJ
        have ha2 : agree σ [(34, (.bool (decide (((k1 : Nat) : Int) > 0)))), (0, v0), (1, v1), (2, v2), (7, (.int .i64 ((k1 : Nat) : Int))), (8, (.pointer (some ⟨b65, 0, none⟩))), (12, v1), (13, (.int .i64 ((p1.length : Nat) : Int))), (14, (.int .i64 ((k1 : Nat) : Int)))] := ⟨hv.2.2.1 (hdep.1 rfl), ha.1, ha.2.1, ha.2.2.1, ha.2.2.2.1, ha.2.2.2.2.1, ha.2.2.2.2.2.1, ha.2.2.2.2.2.2.1, ha.2.2.2.2.2.2.2.1, trivial⟩
        obtain ⟨τ, rfl⟩ := ha2.ups
        refine RL.move (v := v1) ⟨_, rfl, congrArg Value.bool hg115⟩ rfl rfl ?_
        refine RL.nil ?_
        exact ⟨rfl, v117, v118, ⟨hv.1, hv.2.1, hv.2.2.1, hv.2.2.2.1, hv.2.2.2.2.1, fun _ => rfl, hv.2.2.2.2.2.2.1, hv.2.2.2.2.2.2.2.1, hv.2.2.2.2.2.2.2.2.1, hv.2.2.2.2.2.2.2.2.2.1, hv.2.2.2.2.2.2.2.2.2.2.1, hv.2.2.2.2.2.2.2.2.2.2.2.1, hv.2.2.2.2.2.2.2.2.2.2.2.2.1, hv.2.2.2.2.2.2.2.2.2.2.2.2.2.1, trivial⟩, ha, hw⟩
      · intro D σ w hD hdep hJ
        obtain ⟨v117, v118, hv, ha, hw⟩ := hJ
        have ha2 : agree σ [(34, (.bool (decide (((k1 : Nat) : Int) > 0)))), (0, v0), (1, v1), (2, v2), (7, (.int .i64 ((k1 : Nat) : Int))), (8, (.pointer (some ⟨b65, 0, none⟩))), (12, v1), (13, (.int .i64 ((p1.length : Nat) : Int))), (14, (.int .i64 ((k1 : Nat) : Int)))] := ⟨hv.2.2.1 (hdep.1 rfl), ha.1, ha.2.1, ha.2.2.1, ha.2.2.2.1, ha.2.2.2.2.1, ha.2.2.2.2.2.1, ha.2.2.2.2.2.2.1, ha.2.2.2.2.2.2.2.1, trivial⟩
        obtain ⟨τ, rfl⟩ := ha2.ups
        refine RL.move (v := (.int .i64 ((k1 : Nat) : Int))) ⟨_, rfl, congrArg Value.bool hg115⟩ rfl rfl ?_
        refine RL.nil ?_
        exact ⟨rfl, v117, v118, ⟨hv.1, hv.2.1, hv.2.2.1, hv.2.2.2.1, hv.2.2.2.2.1, hv.2.2.2.2.2.1, fun _ => rfl, hv.2.2.2.2.2.2.2.1, hv.2.2.2.2.2.2.2.2.1, hv.2.2.2.2.2.2.2.2.2.1, hv.2.2.2.2.2.2.2.2.2.2.1, hv.2.2.2.2.2.2.2.2.2.2.2.1, hv.2.2.2.2.2.2.2.2.2.2.2.2.1, hv.2.2.2.2.2.2.2.2.2.2.2.2.2.1, trivial⟩, ha, hw⟩
      · intro D σ w hD hdep hJ
        obtain ⟨v117, v118, hv, ha, hw⟩ := hJ
        have ha2 : agree σ [(38, (.int .i64 ((k1 : Nat) : Int))), (34, (.bool (decide (((k1 : Nat) : Int) > 0)))), (0, v0), (1, v1), (2, v2), (7, (.int .i64 ((k1 : Nat) : Int))), (8, (.pointer (some ⟨b65, 0, none⟩))), (12, v1), (13, (.int .i64 ((p1.length : Nat) : Int))), (14, (.int .i64 ((k1 : Nat) : Int)))] := ⟨hv.2.2.2.2.2.2.1 (hdep.1 rfl), hv.2.2.1 (hdep.2.1 rfl), ha.1, ha.2.1, ha.2.2.1, ha.2.2.2.1, ha.2.2.2.2.1, ha.2.2.2.2.2.1, ha.2.2.2.2.2.2.1, ha.2.2.2.2.2.2.2.1, trivial⟩
        obtain ⟨τ, rfl⟩ := ha2.ups
        refine RL.iar (a := ((k1 : Nat) : Int)) (b := 1) ⟨_, rfl, congrArg Value.bool hg115⟩ rfl rfl rfl rfl ?_
        refine RL.nil ?_
        exact ⟨rfl, v117, v118, ⟨hv.1, hv.2.1, hv.2.2.1, hv.2.2.2.1, hv.2.2.2.2.1, hv.2.2.2.2.2.1, hv.2.2.2.2.2.2.1, fun _ => rfl, hv.2.2.2.2.2.2.2.2.1, hv.2.2.2.2.2.2.2.2.2.1, hv.2.2.2.2.2.2.2.2.2.2.1, hv.2.2.2.2.2.2.2.2.2.2.2.1, hv.2.2.2.2.2.2.2.2.2.2.2.2.1, hv.2.2.2.2.2.2.2.2.2.2.2.2.2.1, trivial⟩, ha, hw⟩
      · intro D σ w hD hdep hJ
        obtain ⟨v117, v118, hv, ha, hw⟩ := hJ
        have ha2 : agree σ [(37, v1), (39, (.int .i64 (IntKind.wrap .i64 (((k1 : Nat) : Int) - 1)))), (34, (.bool (decide (((k1 : Nat) : Int) > 0)))), (0, v0), (1, v1), (2, v2), (7, (.int .i64 ((k1 : Nat) : Int))), (8, (.pointer (some ⟨b65, 0, none⟩))), (12, v1), (13, (.int .i64 ((p1.length : Nat) : Int))), (14, (.int .i64 ((k1 : Nat) : Int)))] := ⟨hv.2.2.2.2.2.1 (hdep.1 rfl), hv.2.2.2.2.2.2.2.1 (hdep.2.1 rfl), hv.2.2.1 (hdep.2.2.1 rfl), ha.1, ha.2.1, ha.2.2.1, ha.2.2.2.1, ha.2.2.2.2.1, ha.2.2.2.2.2.1, ha.2.2.2.2.2.2.1, ha.2.2.2.2.2.2.2.1, trivial⟩
        obtain ⟨τ, rfl⟩ := ha2.ups
        refine RL.ia_rd (i := 7) ⟨_, rfl, congrArg Value.bool hg115⟩ rfl hw rfl rfl rfl sl23 hx116 fun v119 hw => ?_
        have hw := hw.fillat 0 1 0 rfl rfl rfl (by simp)
        refine RL.nil ?_
        exact ⟨rfl, v119, v118, ⟨hv.1, hv.2.1, hv.2.2.1, hv.2.2.2.1, hv.2.2.2.2.1, hv.2.2.2.2.2.1, hv.2.2.2.2.2.2.1, hv.2.2.2.2.2.2.2.1, fun _ => rfl, hv.2.2.2.2.2.2.2.2.2.1, hv.2.2.2.2.2.2.2.2.2.2.1, hv.2.2.2.2.2.2.2.2.2.2.2.1, hv.2.2.2.2.2.2.2.2.2.2.2.2.1, hv.2.2.2.2.2.2.2.2.2.2.2.2.2.1, trivial⟩, ha, hw⟩
      · intro D σ w hD hdep hJ
        obtain ⟨v117, v118, hv, ha, hw⟩ := hJ
        have ha2 : agree σ [(40, v117), (34, (.bool (decide (((k1 : Nat) : Int) > 0)))), (0, v0), (1, v1), (2, v2), (7, (.int .i64 ((k1 : Nat) : Int))), (8, (.pointer (some ⟨b65, 0, none⟩))), (12, v1), (13, (.int .i64 ((p1.length : Nat) : Int))), (14, (.int .i64 ((k1 : Nat) : Int)))] := ⟨hv.2.2.2.2.2.2.2.2.1 (hdep.1 rfl), hv.2.2.1 (hdep.2.1 rfl), ha.1, ha.2.1, ha.2.2.1, ha.2.2.2.1, ha.2.2.2.2.1, ha.2.2.2.2.2.1, ha.2.2.2.2.2.2.1, ha.2.2.2.2.2.2.2.1, trivial⟩
        obtain ⟨τ, rfl⟩ := ha2.ups
        refine RL.fa_pt (i := 0) (f := fun (x : Part) => x.Name) ⟨_, rfl, congrArg Value.bool hg115⟩ rfl hw rfl (ent_t (hdep.1 rfl)) fa87_0 fd_Part_0 fun v120 hw => ?_
        have hw := hw.fillat 0 1 1 rfl rfl rfl (by simp)
        refine RL.nil ?_
        exact ⟨rfl, v117, v120, ⟨hv.1, hv.2.1, hv.2.2.1, hv.2.2.2.1, hv.2.2.2.2.1, hv.2.2.2.2.2.1, hv.2.2.2.2.2.2.1, hv.2.2.2.2.2.2.2.1, hv.2.2.2.2.2.2.2.2.1, fun _ => rfl, hv.2.2.2.2.2.2.2.2.2.2.1, hv.2.2.2.2.2.2.2.2.2.2.2.1, hv.2.2.2.2.2.2.2.2.2.2.2.2.1, hv.2.2.2.2.2.2.2.2.2.2.2.2.2.1, trivial⟩, ha, hw⟩
      · intro D σ w hD hdep hJ
        obtain ⟨v117, v118, hv, ha, hw⟩ := hJ
        have ha2 : agree σ [(41, v118), (34, (.bool (decide (((k1 : Nat) : Int) > 0)))), (0, v0), (1, v1), (2, v2), (7, (.int .i64 ((k1 : Nat) : Int))), (8, (.pointer (some ⟨b65, 0, none⟩))), (12, v1), (13, (.int .i64 ((p1.length : Nat) : Int))), (14, (.int .i64 ((k1 : Nat) : Int)))] := ⟨hv.2.2.2.2.2.2.2.2.2.1 (hdep.1 rfl), hv.2.2.1 (hdep.2.1 rfl), ha.1, ha.2.1, ha.2.2.1, ha.2.2.2.1, ha.2.2.2.2.1, ha.2.2.2.2.2.1, ha.2.2.2.2.2.2.1, ha.2.2.2.2.2.2.2.1, trivial⟩
        obtain ⟨τ, rfl⟩ := ha2.ups
        refine RL.load_pts (i := 1) (y := x116.Name) ⟨_, rfl, congrArg Value.bool hg115⟩ rfl hw rfl (ent_t (hdep.1 rfl)) ty9 ?_
        refine RL.nil ?_
        exact ⟨rfl, v117, v118, ⟨hv.1, hv.2.1, hv.2.2.1, hv.2.2.2.1, hv.2.2.2.2.1, hv.2.2.2.2.2.1, hv.2.2.2.2.2.2.1, hv.2.2.2.2.2.2.2.1, hv.2.2.2.2.2.2.2.2.1, hv.2.2.2.2.2.2.2.2.2.1, fun _ => rfl, hv.2.2.2.2.2.2.2.2.2.2.2.1, hv.2.2.2.2.2.2.2.2.2.2.2.2.1, hv.2.2.2.2.2.2.2.2.2.2.2.2.2.1, trivial⟩, ha, hw⟩
      · intro D σ w hD hdep hJ
        obtain ⟨v117, v118, hv, ha, hw⟩ := hJ
        have ha2 : agree σ [(36, (str x62.Name)), (42, (str x116.Name)), (34, (.bool (decide (((k1 : Nat) : Int) > 0)))), (0, v0), (1, v1), (2, v2), (7, (.int .i64 ((k1 : Nat) : Int))), (8, (.pointer (some ⟨b65, 0, none⟩))), (12, v1), (13, (.int .i64 ((p1.length : Nat) : Int))), (14, (.int .i64 ((k1 : Nat) : Int)))] := ⟨hv.2.2.2.2.1 (hdep.1 rfl), hv.2.2.2.2.2.2.2.2.2.2.1 (hdep.2.1 rfl), hv.2.2.1 (hdep.2.2.1 rfl), ha.1, ha.2.1, ha.2.2.1, ha.2.2.2.1, ha.2.2.2.2.1, ha.2.2.2.2.2.1, ha.2.2.2.2.2.2.1, ha.2.2.2.2.2.2.2.1, trivial⟩
        obtain ⟨τ, rfl⟩ := ha2.ups
        refine RL.scmp (a := x62.Name) (b := x116.Name) ⟨_, rfl, congrArg Value.bool hg115⟩ rfl rfl rfl rfl ?_
        refine RL.nil ?_
        exact ⟨rfl, v117, v118, ⟨hv.1, hv.2.1, hv.2.2.1, hv.2.2.2.1, hv.2.2.2.2.1, hv.2.2.2.2.2.1, hv.2.2.2.2.2.2.1, hv.2.2.2.2.2.2.2.1, hv.2.2.2.2.2.2.2.2.1, hv.2.2.2.2.2.2.2.2.2.1, hv.2.2.2.2.2.2.2.2.2.2.1, fun _ => rfl, hv.2.2.2.2.2.2.2.2.2.2.2.2.1, hv.2.2.2.2.2.2.2.2.2.2.2.2.2.1, trivial⟩, ha, hw⟩
      · intro D σ w hD hdep hJ
        obtain ⟨v117, v118, hv, ha, hw⟩ := hJ
        have ha2 : agree σ [(34, (.bool (decide (((k1 : Nat) : Int) > 0)))), (43, (.bool (x62.Name.ltb x116.Name || x62.Name.eqb x116.Name))), (0, v0), (1, v1), (2, v2), (7, (.int .i64 ((k1 : Nat) : Int))), (8, (.pointer (some ⟨b65, 0, none⟩))), (12, v1), (13, (.int .i64 ((p1.length : Nat) : Int))), (14, (.int .i64 ((k1 : Nat) : Int)))] := ⟨hv.2.2.1 (hdep.1 rfl), hv.2.2.2.2.2.2.2.2.2.2.2.1 (hdep.2.1 rfl), ha.1, ha.2.1, ha.2.2.1, ha.2.2.2.1, ha.2.2.2.2.1, ha.2.2.2.2.2.1, ha.2.2.2.2.2.2.1, ha.2.2.2.2.2.2.2.1, trivial⟩
        obtain ⟨τ, rfl⟩ := ha2.ups
        refine RL.pick (b := (decide (((k1 : Nat) : Int) > 0))) (v := (.bool (x62.Name.ltb x116.Name || x62.Name.eqb x116.Name))) trivial rfl rfl (by rw [hg115]; rfl) ?_
        refine RL.nil ?_
        exact ⟨rfl, v117, v118, ⟨hv.1, hv.2.1, hv.2.2.1, hv.2.2.2.1, hv.2.2.2.2.1, hv.2.2.2.2.2.1, hv.2.2.2.2.2.2.1, hv.2.2.2.2.2.2.2.1, hv.2.2.2.2.2.2.2.2.1, hv.2.2.2.2.2.2.2.2.2.1, hv.2.2.2.2.2.2.2.2.2.2.1, hv.2.2.2.2.2.2.2.2.2.2.2.1, fun _ => rfl, hv.2.2.2.2.2.2.2.2.2.2.2.2.2.1, trivial⟩, ha, hw⟩
      · intro D σ w hD hdep hJ
        obtain ⟨v117, v118, hv, ha, hw⟩ := hJ
        have ha2 : agree σ [(44, (.bool (x62.Name.ltb x116.Name || x62.Name.eqb x116.Name))), (34, (.bool (decide (((k1 : Nat) : Int) > 0)))), (0, v0), (1, v1), (2, v2), (7, (.int .i64 ((k1 : Nat) : Int))), (8, (.pointer (some ⟨b65, 0, none⟩))), (12, v1), (13, (.int .i64 ((p1.length : Nat) : Int))), (14, (.int .i64 ((k1 : Nat) : Int)))] := ⟨hv.2.2.2.2.2.2.2.2.2.2.2.2.1 (hdep.1 rfl), hv.2.2.1 (hdep.2.1 rfl), ha.1, ha.2.1, ha.2.2.1, ha.2.2.2.1, ha.2.2.2.2.1, ha.2.2.2.2.2.1, ha.2.2.2.2.2.2.1, ha.2.2.2.2.2.2.2.1, trivial⟩
        obtain ⟨τ, rfl⟩ := ha2.ups
        refine RL.assign (v := (.bool (x62.Name.ltb x116.Name || x62.Name.eqb x116.Name))) trivial rfl rfl ?_
        refine RL.nil ?_
        exact ⟨rfl, v117, v118, ⟨hv.1, hv.2.1, hv.2.2.1, hv.2.2.2.1, hv.2.2.2.2.1, hv.2.2.2.2.2.1, hv.2.2.2.2.2.2.1, hv.2.2.2.2.2.2.2.1, hv.2.2.2.2.2.2.2.2.1, hv.2.2.2.2.2.2.2.2.2.1, hv.2.2.2.2.2.2.2.2.2.2.1, hv.2.2.2.2.2.2.2.2.2.2.2.1, hv.2.2.2.2.2.2.2.2.2.2.2.2.1, fun _ => rfl, trivial⟩, ha, hw⟩
      intro D σ w hall hJ
      obtain ⟨v117, v118, hv, ha, hw⟩ := hJ
      rw [hall 8 (by decide)] at hw
      rw [hall 9 (by decide)] at hw
      have ha2 : agree σ [(31, (.bool (x62.Name.ltb x116.Name || x62.Name.eqb x116.Name))), (0, v0), (1, v1), (2, v2), (7, (.int .i64 ((k1 : Nat) : Int))), (8, (.pointer (some ⟨b65, 0, none⟩))), (12, v1), (13, (.int .i64 ((p1.length : Nat) : Int))), (14, (.int .i64 ((k1 : Nat) : Int)))] := ⟨hv.2.2.2.2.2.2.2.2.2.2.2.2.2.1 (hall 13 (by decide)), ha.1, ha.2.1, ha.2.2.1, ha.2.2.2.1, ha.2.2.2.2.1, ha.2.2.2.2.2.1, ha.2.2.2.2.2.2.1, ha.2.2.2.2.2.2.2.1, trivial⟩
      obtain ⟨τ, rfl⟩ := ha2.ups
      injection hj with hj; subst hj
      exact ⟨rfl, ⟨rfl, rfl, rfl, rfl, rfl, rfl, rfl, trivial⟩, hw.pick 8 [6, 7] (new := [rd v0 p0, rd v1 p1]) rfl rfl (by decide) (by decide)⟩
    rintro σ w ⟨ha, hw⟩
    obtain ⟨τ, rfl⟩ := ha.ups
    refine thenQ_n ?_
    refine RC.cond (b := s114) rfl (fun hc => ?_) (fun hc => ?_)
    rotate_left
    · replace hb := cF hc hb
      refine RC.skip ?_
      refine blkQ_n ?_
      refine blkQ_n ?_
      refine thenQ_n ?_
      refine RC.region ?_
      refine RL.inc trivial rfl hk hm rfl rfl ?_
      refine RL.move (v := (.int .i64 ((k1 + 1 : Nat) : Int))) trivial rfl rfl ?_
      refine RL.nil ?_
      injection hb with hb; subst hb
      exact ⟨rfl, ⟨rfl, rfl, rfl, rfl, rfl, rfl, trivial⟩, hw.pick 2 [0, 1] (new := [rd v0 p0, rd v1 p1]) rfl rfl (by decide) (by decide)⟩
    replace hb := cT hc hb
    refine RC.seq ?_
    refine RC.region ?_
    refine RL.assign (v := (.int .i64 8)) trivial rfl rfl ?_
    refine RL.nil ?_
    refine thenQ_n ?_
    refine RC.ret ?_
    refine blkQ_r ?_
    refine blkQ_r ?_
    refine thenQ_r ?_
    injection hb with hb; subst hb
    exact ⟨rfl, fin1 rfl rfl ⟨rfl, hw.drop 2 rfl⟩⟩
  · intro r σ w e hK
    subst e
    refine thenQ_r ?_
    injection hb with hb; subst hb
    exact hK
  intro s2 σ w e hJ
  subst e
  rw [Fo.cs_go] at hb
  obtain ⟨ha, hw⟩ := hJ
  obtain ⟨τ, rfl⟩ := ha.ups
  refine thenQ_n ?_
  refine RC.seq ?_
  refine RC.region ?_
  refine RL.assign (v := (.int .i64 0)) trivial rfl rfl ?_
  refine RL.nil ?_
  refine thenQ_n ?_
  refine RC.ret ?_
  injection hb with hb; subst hb
  exact fin1 rfl rfl ⟨rfl, hw.drop 2 rfl⟩
def stringslite_Index_R (E : World) (Γ : List HP) (res : Int) (v : Value) (w : World) : Prop := v = (.int .i64 res) ∧ Holds E w Γ
def stringslite_Index_K (E : World) (Γ : List HP) (r : Int) (σ : Nat → Value) (w : World) : Prop := finQ Tryd.prog 143 Tryd.f139 (stringslite_Index_R E Γ r) .ret σ w
theorem stringslite_Index_ok (N : Nat) {E w : World} {Γ : List HP} {p0 : Str} {p1 : Str} {res : Int} (hw : Holds E w Γ)  (hb : stringslite_Index N p0 p1 = some res) :
    Calls Tryd.prog 139 [(str p0), (str p1)].toArray w (Ret (stringslite_Index_R E Γ res)) := by
  unfold stringslite_Index at hb
  refine enter Tryd.func139 rfl rfl (Nat.le_of_ble_eq_true rfl) ?_
  refine RC.seq ?_
  refine RC.region ?_
  refine RL.assign (v := (.int .i64 0)) trivial rfl rfl ?_
  refine RL.nil ?_
  refine thenQ_n ?_
  refine RC.seq ?_
  refine RC.region ?_
  refine RL.move (v := (str p1)) trivial rfl rfl ?_
  refine RL.lens (s := p1) trivial rfl rfl un9 ?_
  refine RL.assign (v := (.int .i64 ((p1.toL.length : Nat) : Int))) trivial rfl rfl ?_
  refine RL.nil ?_
  refine thenQ_n ?_
  refine RC.seq ?_
  refine RC.block ?_
  refine RC.seq ?_
  refine RC.region ?_
  refine RL.move (v := (.int .i64 ((p1.toL.length : Nat) : Int))) trivial rfl rfl ?_
  refine RL.icmp (a := ((p1.toL.length : Nat) : Int)) (b := 0) trivial rfl rfl rfl rfl ?_
  refine RL.move (v := (.bool (((p1.toL.length : Nat) : Int) == 0))) trivial rfl rfl ?_
  refine RL.gs (c := true) (b := (((p1.toL.length : Nat) : Int) == 0)) (v := (str p1)) rfl rfl rfl (gs_move rfl (fun _ => rfl)) ?_
  refine RL.gs (c := true) (b := (((p1.toL.length : Nat) : Int) == 0)) (v := (str p0)) rfl rfl rfl (gs_move rfl (fun _ => rfl)) ?_
  refine RL.gs (c := true) (b := (((p1.toL.length : Nat) : Int) == 0)) (v := (.bool (p1.eqb p0))) rfl rfl rfl (gs_scmp (bop := .eql) (a := p1) (b := p0) rfl (fun h => by exact (cv_t h : cv (true && ((((p1.toL.length : Nat) : Int) == 0) == false)) (str p1) = (str p1))) (fun h => by exact (cv_t h : cv (true && ((((p1.toL.length : Nat) : Int) == 0) == false)) (str p0) = (str p0))) rfl) ?_
  refine RL.pick (b := (((p1.toL.length : Nat) : Int) == 0)) (v := (.bool ((((p1.toL.length : Nat) : Int) == 0) || (p1.eqb p0)))) trivial rfl rfl (pk_or (c := true) rfl) ?_
  refine RL.assign (v := (.bool ((((p1.toL.length : Nat) : Int) == 0) || (p1.eqb p0)))) trivial rfl rfl ?_
  refine RL.nil ?_
  refine thenQ_n ?_
  refine RC.cond (b := ((((p1.toL.length : Nat) : Int) == 0) || (p1.eqb p0))) rfl (fun hc => ?_) (fun hc => ?_)
  · replace hb := cT hc hb
    refine RC.seq ?_
    refine RC.region ?_
    refine RL.assign (v := (.int .i64 0)) trivial rfl rfl ?_
    refine RL.nil ?_
    refine thenQ_n ?_
    refine RC.ret ?_
    refine blkQ_r ?_
    refine thenQ_r ?_
    injection hb with hb; subst hb
    exact fin1 rfl rfl ⟨rfl, hw.drop 0 rfl⟩
  replace hb := cF hc hb
  refine RC.seq ?_
  refine RC.region ?_
  refine RL.move (v := (.int .i64 ((p1.toL.length : Nat) : Int))) trivial rfl rfl ?_
  refine RL.icmp (a := ((p1.toL.length : Nat) : Int)) (b := 1) trivial rfl rfl rfl rfl ?_
  refine RL.assign (v := (.bool (((p1.toL.length : Nat) : Int) == 1))) trivial rfl rfl ?_
  refine RL.nil ?_
  refine thenQ_n ?_
  refine RC.cond (b := (((p1.toL.length : Nat) : Int) == 1)) rfl (fun hc => ?_) (fun hc => ?_)
  · replace hb := cT hc hb
    refine RC.seq ?_
    refine RC.region ?_
    refine RL.move (v := (str p0)) trivial rfl rfl ?_
    refine RL.move (v := (str p1)) trivial rfl rfl ?_
    obtain ⟨x7, hx7, hb⟩ := bd hb
    refine RL.idxs (s := p1) (i := 0) (c := x7) trivial rfl rfl rfl un9 hx7 ?_
    obtain ⟨x8, hx8, hb⟩ := bd hb
    refine RL.call trivial rfl fn147 [(str p0), (.int .u8 ((x7.toNat : Nat) : Int))] rfl (Calls_ret (stringslite_IndexByte_ok N (p0 := p0) (p1 := ((x7.toNat : Nat) : Int))  hw  hx8) ?_)
    rintro _ w ⟨rfl, hw⟩
    refine RL.assign (v := (.int .i64 x8)) trivial rfl rfl ?_
    refine RL.nil ?_
    refine thenQ_n ?_
    refine RC.ret ?_
    refine blkQ_r ?_
    refine thenQ_r ?_
    injection hb with hb; subst hb
    exact fin1 rfl rfl ⟨rfl, hw.drop 0 rfl⟩
  replace hb := cF hc hb
  refine RC.seq ?_
  refine RC.region ?_
  refine RL.move (v := (.int .i64 ((p1.toL.length : Nat) : Int))) trivial rfl rfl ?_
  refine RL.move (v := (str p0)) trivial rfl rfl ?_
  refine RL.lens (s := p0) trivial rfl rfl un9 ?_
  refine RL.icmp (a := ((p1.toL.length : Nat) : Int)) (b := ((p0.toL.length : Nat) : Int)) trivial rfl rfl rfl rfl ?_
  refine RL.assign (v := (.bool (decide (((p1.toL.length : Nat) : Int) ≥ ((p0.toL.length : Nat) : Int))))) trivial rfl rfl ?_
  refine RL.nil ?_
  refine thenQ_n ?_
  refine RC.cond (b := (decide (((p1.toL.length : Nat) : Int) ≥ ((p0.toL.length : Nat) : Int)))) rfl (fun hc => ?_) (fun hc => ?_)
  rotate_left
  · replace hb := cF hc hb
    cases hb
  replace hb := cT hc hb
  refine RC.seq ?_
  refine RC.region ?_
  refine RL.assign (v := (.int .i64 (-1))) trivial rfl rfl ?_
  refine RL.nil ?_
  refine thenQ_n ?_
  refine RC.ret ?_
  refine blkQ_r ?_
  refine thenQ_r ?_
  injection hb with hb; subst hb
  exact fin1 rfl rfl ⟨rfl, hw.drop 0 rfl⟩
def strings_Index_R (E : World) (Γ : List HP) (res : Int) (v : Value) (w : World) : Prop := v = (.int .i64 res) ∧ Holds E w Γ
def strings_Index_K (E : World) (Γ : List HP) (r : Int) (σ : Nat → Value) (w : World) : Prop := finQ Tryd.prog 8 Tryd.f142 (strings_Index_R E Γ r) .ret σ w
theorem strings_Index_ok (N : Nat) {E w : World} {Γ : List HP} {p0 : Str} {p1 : Str} {res : Int} (hw : Holds E w Γ)  (hb : strings_Index N p0 p1 = some res) :
    Calls Tryd.prog 142 [(str p0), (str p1)].toArray w (Ret (strings_Index_R E Γ res)) := by
  unfold strings_Index at hb
  refine enter Tryd.func142 rfl rfl (Nat.le_of_ble_eq_true rfl) ?_
  refine RC.seq ?_
  refine RC.region ?_
  refine RL.assign (v := (.int .i64 0)) trivial rfl rfl ?_
  refine RL.nil ?_
  refine thenQ_n ?_
  refine RC.seq ?_
  refine RC.region ?_
  refine RL.move (v := (str p0)) trivial rfl rfl ?_
  refine RL.move (v := (str p1)) trivial rfl rfl ?_
  obtain ⟨x1, hx1, hb⟩ := bd hb
  refine RL.call trivial rfl fn139 [(str p0), (str p1)] rfl (Calls_ret (stringslite_Index_ok N (p0 := p0) (p1 := p1)  hw  hx1) ?_)
  rintro _ w ⟨rfl, hw⟩
  refine RL.assign (v := (.int .i64 x1)) trivial rfl rfl ?_
  refine RL.nil ?_
  refine thenQ_n ?_
  refine RC.ret ?_
  injection hb with hb; subst hb
  exact fin1 rfl rfl ⟨rfl, hw.drop 0 rfl⟩
def strings_Count_R (E : World) (Γ : List HP) (res : Int) (v : Value) (w : World) : Prop := v = (.int .i64 res) ∧ Holds E w Γ
def strings_Count_K (E : World) (Γ : List HP) (r : Int) (σ : Nat → Value) (w : World) : Prop := finQ Tryd.prog 34 Tryd.f141 (strings_Count_R E Γ r) .ret σ w
theorem strings_Count_ok (N : Nat) {E w : World} {Γ : List HP} {p0 : Str} {p1 : Str} {res : Int} (hw : Holds E w Γ)  (hb : strings_Count N p0 p1 = some res) :
    Calls Tryd.prog 141 [(str p0), (str p1)].toArray w (Ret (strings_Count_R E Γ res)) := by
  unfold strings_Count at hb
  refine enter Tryd.func141 rfl rfl (Nat.le_of_ble_eq_true rfl) ?_
  refine RC.seq ?_
  refine RC.region ?_
  refine RL.assign (v := (.int .i64 0)) trivial rfl rfl ?_
  refine RL.nil ?_
  refine thenQ_n ?_
  refine RC.seq ?_
  refine RC.seq ?_
  refine RC.region ?_
  refine RL.move (v := (str p1)) trivial rfl rfl ?_
  refine RL.lens (s := p1) trivial rfl rfl un9 ?_
  refine RL.icmp (a := ((p1.toL.length : Nat) : Int)) (b := 0) trivial rfl rfl rfl rfl ?_
  refine RL.nil ?_
  refine thenQ_n ?_
  refine RC.cond (b := (((p1.toL.length : Nat) : Int) == 0)) rfl (fun hc => ?_) (fun hc => ?_)
  · replace hb := cT hc hb
    cases hb
  replace hb := cF hc hb
  refine RC.skip ?_
  refine thenQ_n ?_
  refine RC.seq ?_
  refine RC.seq ?_
  refine RC.region ?_
  refine RL.move (v := (str p1)) trivial rfl rfl ?_
  refine RL.lens (s := p1) trivial rfl rfl un9 ?_
  refine RL.icmp (a := ((p1.toL.length : Nat) : Int)) (b := 1) trivial rfl rfl rfl rfl ?_
  refine RL.nil ?_
  refine thenQ_n ?_
  refine RC.cond (b := (((p1.toL.length : Nat) : Int) == 1)) rfl (fun hc => ?_) (fun hc => ?_)
  · replace hb := cT hc hb
    refine RC.seq ?_
    refine RC.region ?_
    refine RL.move (v := (str p0)) trivial rfl rfl ?_
    refine RL.move (v := (str p1)) trivial rfl rfl ?_
    obtain ⟨x2, hx2, hb⟩ := bd hb
    refine RL.idxs (s := p1) (i := 0) (c := x2) trivial rfl rfl rfl un9 hx2 ?_
    refine RL.xcall (v := (.int .i64 ((Lib.countByte p0.toL (Int.toNat ((x2.toNat : Nat) : Int)).toUInt8 : Nat) : Int))) trivial rfl [(str p0), (.int .u8 ((x2.toNat : Nat) : Int))] rfl (x156 p0 ((x2.toNat : Nat) : Int) w) ?_
    refine RL.assign (v := (.int .i64 ((Lib.countByte p0.toL (Int.toNat ((x2.toNat : Nat) : Int)).toUInt8 : Nat) : Int))) trivial rfl rfl ?_
    refine RL.nil ?_
    refine thenQ_n ?_
    refine RC.ret ?_
    refine thenQ_r ?_
    injection hb with hb; subst hb
    exact fin1 rfl rfl ⟨rfl, hw.drop 0 rfl⟩
  replace hb := cF hc hb
  refine RC.skip ?_
  refine thenQ_n ?_
  refine RC.seq ?_
  refine RC.region ?_
  refine RL.assign (v := (.int .i64 0)) trivial rfl rfl ?_
  refine RL.nil ?_
  refine thenQ_n ?_
  obtain ⟨o11, hN, hb⟩ := bd hb
  refine RC.iter (fun (s4 : Str × Int) (σ : Nat → Value) (w : World) => agree σ [(0, (str s4.1)), (1, (str p1)), (4, (.int .i64 0)), (5, (.int .i64 s4.2))] ∧ Holds E w ([] ++ Γ)) (fun (s4 : Str × Int) (σ : Nat → Value) (w : World) => agree σ [(4, (.int .i64 0))] ∧ Holds E w ([] ++ Γ)) (strings_Count_K E Γ) hN ?_ ?_ ?_ ?_ 
  · exact ⟨⟨rfl, rfl, rfl, rfl, trivial⟩, hw.pick 0 [] (new := []) rfl rfl (by decide) (by decide)⟩
  · intro s4 fl σ w hI hb
    obtain ⟨ha, hw⟩ := hI
    obtain ⟨τ, rfl⟩ := ha.ups
    refine RC.block ?_
    refine RC.seq ?_
    refine RC.region ?_
    refine RL.move (v := (str s4.1)) trivial rfl rfl ?_
    refine RL.move (v := (str p1)) trivial rfl rfl ?_
    obtain ⟨x9, hx9, hb⟩ := bd hb
    refine RL.call trivial rfl fn142 [(str s4.1), (str p1)] rfl (Calls_ret (strings_Index_ok N (p0 := s4.1) (p1 := p1)  hw  hx9) ?_)
    rintro _ w ⟨rfl, hw⟩
    refine RL.assign (v := (.int .i64 x9)) trivial rfl rfl ?_
    refine RL.nil ?_
    refine thenQ_n ?_
    refine RC.seq ?_
    refine RC.seq ?_
    refine RC.region ?_
    refine RL.move (v := (.int .i64 x9)) trivial rfl rfl ?_
    refine RL.icmp (a := x9) (b := (-1)) trivial rfl rfl rfl rfl ?_
    refine RL.nil ?_
    refine thenQ_n ?_
    refine RC.cond (b := (x9 == (-1))) rfl (fun hc => ?_) (fun hc => ?_)
    · replace hb := cT hc hb
      refine RC.seq ?_
      refine RC.region ?_
      refine RL.move (v := (.int .i64 s4.2)) trivial rfl rfl ?_
      refine RL.assign (v := (.int .i64 s4.2)) trivial rfl rfl ?_
      refine RL.nil ?_
      refine thenQ_n ?_
      refine RC.ret ?_
      refine thenQ_r ?_
      refine blkQ_r ?_
      injection hb with hb; subst hb
      exact ⟨rfl, fin1 rfl rfl ⟨rfl, hw.drop 0 rfl⟩⟩
    replace hb := cF hc hb
    refine RC.skip ?_
    refine thenQ_n ?_
    refine RC.seq ?_
    refine RC.region ?_
    refine RL.move (v := (.int .i64 s4.2)) trivial rfl rfl ?_
    refine RL.iar (a := s4.2) (b := 1) trivial rfl rfl rfl rfl ?_
    refine RL.assign (v := (.int .i64 (IntKind.wrap .i64 (s4.2 + 1)))) trivial rfl rfl ?_
    refine RL.nil ?_
    refine thenQ_n ?_
    refine RC.region ?_
    refine RL.move (v := (str s4.1)) trivial rfl rfl ?_
    refine RL.move (v := (.int .i64 x9)) trivial rfl rfl ?_
    refine RL.move (v := (str p1)) trivial rfl rfl ?_
    refine RL.lens (s := p1) trivial rfl rfl un9 ?_
    refine RL.iar (a := x9) (b := ((p1.toL.length : Nat) : Int)) trivial rfl rfl rfl rfl ?_
    obtain ⟨x10, hx10, hb⟩ := bd hb
    refine RL.scut (s := s4.1) trivial rfl rfl un9 (.inl rfl) (.inr ⟨rfl, rfl⟩) hx10 ?_
    refine RL.assign (v := (str x10)) trivial rfl rfl ?_
    refine RL.nil ?_
    refine blkQ_n ?_
    injection hb with hb; subst hb
    exact ⟨rfl, ⟨rfl, rfl, rfl, rfl, trivial⟩, hw.pick 0 [] (new := []) rfl rfl (by decide) (by decide)⟩
  · intro r σ w e hK
    subst e
    injection hb with hb; subst hb
    exact hK
  intro s4 σ w e hJ
  subst e
  rw [Fo.cs_go] at hb
  obtain ⟨ha, hw⟩ := hJ
  obtain ⟨τ, rfl⟩ := ha.ups
  injection hb with hb; subst hb
  refine fin_n ?_
  exact fin1 rfl rfl ⟨rfl, hw.drop 0 rfl⟩
def strings_genSplit_R (E : World) (Γ : List HP) (res : (List Str)) (v : Value) (w : World) : Prop := Holds E w (own 9 v res :: Γ)
def strings_genSplit_K (E : World) (Γ : List HP) (r : (List Str)) (σ : Nat → Value) (w : World) : Prop := finQ Tryd.prog 66 Tryd.f114 (strings_genSplit_R E Γ r) .ret σ w
theorem strings_genSplit_ok (N : Nat) {E w : World} {Γ : List HP} {p0 : Str} {p1 : Str} {p2 : Int} {p3 : Int} {res : (List Str)} (hw : Holds E w Γ)  (hb : strings_genSplit N p0 p1 p2 p3 = some res) :
    Calls Tryd.prog 114 [(str p0), (str p1), (.int .i64 p2), (.int .i64 p3)].toArray w (Ret (strings_genSplit_R E Γ res)) := by
  unfold strings_genSplit at hb
  refine enter Tryd.func114 rfl rfl (Nat.le_of_ble_eq_true rfl) ?_
  refine RC.seq ?_
  refine RC.region ?_
  refine RL.assign (v := (.slice none 0 0)) trivial rfl rfl ?_
  refine RL.nil ?_
  refine thenQ_n ?_
  refine RC.seq ?_
  refine RC.seq ?_
  refine RC.region ?_
  refine RL.move (v := (.int .i64 p3)) trivial rfl rfl ?_
  refine RL.icmp (a := p3) (b := 0) trivial rfl rfl rfl rfl ?_
  refine RL.nil ?_
  refine thenQ_n ?_
  refine RC.cond (b := (p3 == 0)) rfl (fun hc => ?_) (fun hc => ?_)
  · replace hb := cT hc hb
    refine RC.seq ?_
    refine RC.region ?_
    refine RL.assign (v := (.slice none 0 0)) trivial rfl rfl ?_
    refine RL.nil ?_
    refine thenQ_n ?_
    refine RC.ret ?_
    refine thenQ_r ?_
    injection hb with hb; subst hb
    have hw := hw.own_nil Str 9
    exact fin1 rfl rfl (hw.pick 1 [0] (new := [own 9 (.slice none 0 0) ([] : (List Str))]) rfl rfl (by decide) (by decide))
  replace hb := cF hc hb
  refine RC.skip ?_
  refine thenQ_n ?_
  refine RC.seq ?_
  refine RC.seq ?_
  refine RC.region ?_
  refine RL.move (v := (str p1)) trivial rfl rfl ?_
  refine RL.scmp (a := p1) (b := ⟨[]⟩) trivial rfl rfl rfl rfl ?_
  refine RL.nil ?_
  refine thenQ_n ?_
  refine RC.cond (b := (p1.eqb (⟨[]⟩))) rfl (fun hc => ?_) (fun hc => ?_)
  · replace hb := cT hc hb
    cases hb
  replace hb := cF hc hb
  refine RC.skip ?_
  refine thenQ_n ?_
  refine RC.seq ?_
  refine RC.seq ?_
  refine RC.region ?_
  refine RL.move (v := (.int .i64 p3)) trivial rfl rfl ?_
  refine RL.icmp (a := p3) (b := 0) trivial rfl rfl rfl rfl ?_
  refine RL.nil ?_
  refine thenQ_n ?_
  obtain ⟨s2, hj, hb⟩ := bd hb
  refine RC.jn (fun (s2 : Int) (σ : Nat → Value) (w : World) => agree σ [(0, (str p0)), (1, (str p1)), (2, (.int .i64 p2)), (3, (.int .i64 s2))] ∧ Holds E w ([] ++ Γ)) s2 ?_ ?_
  · refine RC.cond (b := (decide (p3 < 0))) rfl (fun hc => ?_) (fun hc => ?_)
    rotate_left
    · replace hj := cF hc hj
      refine RC.skip ?_
      injection hj with hj; subst hj
      exact ⟨rfl, ⟨rfl, rfl, rfl, rfl, trivial⟩, hw.pick 0 [] (new := []) rfl rfl (by decide) (by decide)⟩
    replace hj := cT hc hj
    refine RC.region ?_
    refine RL.move (v := (str p0)) trivial rfl rfl ?_
    refine RL.move (v := (str p1)) trivial rfl rfl ?_
    obtain ⟨x3, hx3, hj⟩ := bd hj
    refine RL.call trivial rfl fn141 [(str p0), (str p1)] rfl (Calls_ret (strings_Count_ok N (p0 := p0) (p1 := p1)  hw  hx3) ?_)
    rintro _ w ⟨rfl, hw⟩
    refine RL.iar (a := x3) (b := 1) trivial rfl rfl rfl rfl ?_
    refine RL.assign (v := (.int .i64 (IntKind.wrap .i64 (x3 + 1)))) trivial rfl rfl ?_
    refine RL.nil ?_
    injection hj with hj; subst hj
    exact ⟨rfl, ⟨rfl, rfl, rfl, rfl, trivial⟩, hw.pick 0 [] (new := []) rfl rfl (by decide) (by decide)⟩
  rintro σ w ⟨ha, hw⟩
  obtain ⟨τ, rfl⟩ := ha.ups
  refine thenQ_n ?_
  refine RC.seq ?_
  refine RC.region ?_
  refine RL.move (v := (.int .i64 s2)) trivial rfl rfl ?_
  refine RL.move (v := (str p0)) trivial rfl rfl ?_
  refine RL.lens (s := p0) trivial rfl rfl un9 ?_
  refine RL.iar (a := ((p0.toL.length : Nat) : Int)) (b := 1) trivial rfl rfl rfl rfl ?_
  refine RL.min (a := s2) (b := (IntKind.wrap .i64 (((p0.toL.length : Nat) : Int) + 1))) trivial rfl rfl rfl ?_
  refine RL.assign (v := (.int .i64 (if (IntKind.wrap .i64 (((p0.toL.length : Nat) : Int) + 1)) < s2 then (IntKind.wrap .i64 (((p0.toL.length : Nat) : Int) + 1)) else s2))) trivial rfl rfl ?_
  refine RL.nil ?_
  refine thenQ_n ?_
  refine RC.seq ?_
  refine RC.region ?_
  refine RL.move (v := (.int .i64 (if (IntKind.wrap .i64 (((p0.toL.length : Nat) : Int) + 1)) < s2 then (IntKind.wrap .i64 (((p0.toL.length : Nat) : Int) + 1)) else s2))) trivial rfl rfl ?_
  obtain ⟨x4, hx4, hb⟩ := bd hb
  refine RL.mk (k := (if (IntKind.wrap .i64 (((p0.toL.length : Nat) : Int) + 1)) < s2 then (IntKind.wrap .i64 (((p0.toL.length : Nat) : Int) + 1)) else s2)) trivial rfl hw rfl rfl el55 zd9 hx4 fun v5 w hw => ?_
  refine RL.assign (v := v5) trivial rfl rfl ?_
  refine RL.nil ?_
  refine thenQ_n ?_
  refine RC.seq ?_
  refine RC.region ?_
  refine RL.move (v := (.int .i64 (if (IntKind.wrap .i64 (((p0.toL.length : Nat) : Int) + 1)) < s2 then (IntKind.wrap .i64 (((p0.toL.length : Nat) : Int) + 1)) else s2))) trivial rfl rfl ?_
  refine RL.iar (a := (if (IntKind.wrap .i64 (((p0.toL.length : Nat) : Int) + 1)) < s2 then (IntKind.wrap .i64 (((p0.toL.length : Nat) : Int) + 1)) else s2)) (b := 1) trivial rfl rfl rfl rfl ?_
  refine RL.assign (v := (.int .i64 (IntKind.wrap .i64 ((if (IntKind.wrap .i64 (((p0.toL.length : Nat) : Int) + 1)) < s2 then (IntKind.wrap .i64 (((p0.toL.length : Nat) : Int) + 1)) else s2) - 1)))) trivial rfl rfl ?_
  refine RL.nil ?_
  refine thenQ_n ?_
  refine RC.seq ?_
  refine RC.region ?_
  refine RL.assign (v := (.int .i64 0)) trivial rfl rfl ?_
  refine RL.nil ?_
  refine thenQ_n ?_
  refine RC.seq ?_
  obtain ⟨o32, hN, hb⟩ := bd hb
  refine RC.iter (fun (s7 : Str × (List Str) × Int) (σ : Nat → Value) (w : World) => ∃ v20 : Value, agree σ [(0, (str s7.1)), (1, (str p1)), (2, (.int .i64 p2)), (3, (.int .i64 (IntKind.wrap .i64 ((if (IntKind.wrap .i64 (((p0.toL.length : Nat) : Int) + 1)) < s2 then (IntKind.wrap .i64 (((p0.toL.length : Nat) : Int) + 1)) else s2) - 1)))), (9, v20), (10, (.int .i64 s7.2.2))] ∧ Holds E w ([own 9 v20 s7.2.1] ++ Γ)) (fun (s7 : Str × (List Str) × Int) (σ : Nat → Value) (w : World) => ∃ v21 : Value, agree σ [(0, (str s7.1)), (9, v21), (10, (.int .i64 s7.2.2))] ∧ Holds E w ([own 9 v21 s7.2.1] ++ Γ)) (fun (r : Empty) (_ : Nat → Value) (_ : World) => r.elim) hN ?_ ?_ ?_ ?_ 
  · exact ⟨v5, ⟨rfl, rfl, rfl, rfl, rfl, rfl, trivial⟩, hw.pick 1 [0] (new := [own 9 v5 x4]) rfl rfl (by decide) (by decide)⟩
  · intro s7 fl σ w hI hb
    obtain ⟨v22, ha, hw⟩ := hI
    obtain ⟨τ, rfl⟩ := ha.ups
    refine RC.seq ?_
    refine RC.seq ?_
    refine RC.region ?_
    refine RL.move (v := (.int .i64 s7.2.2)) trivial rfl rfl ?_
    refine RL.move (v := (.int .i64 (IntKind.wrap .i64 ((if (IntKind.wrap .i64 (((p0.toL.length : Nat) : Int) + 1)) < s2 then (IntKind.wrap .i64 (((p0.toL.length : Nat) : Int) + 1)) else s2) - 1)))) trivial rfl rfl ?_
    refine RL.icmp (a := s7.2.2) (b := (IntKind.wrap .i64 ((if (IntKind.wrap .i64 (((p0.toL.length : Nat) : Int) + 1)) < s2 then (IntKind.wrap .i64 (((p0.toL.length : Nat) : Int) + 1)) else s2) - 1))) trivial rfl rfl rfl rfl ?_
    refine RL.nil ?_
    refine thenQ_n ?_
    refine RC.cond (b := (decide (s7.2.2 < (IntKind.wrap .i64 ((if (IntKind.wrap .i64 (((p0.toL.length : Nat) : Int) + 1)) < s2 then (IntKind.wrap .i64 (((p0.toL.length : Nat) : Int) + 1)) else s2) - 1))))) rfl (fun hc => ?_) (fun hc => ?_)
    rotate_left
    · replace hb := cF hc hb
      refine RC.exit ?_
      refine thenQ_x ?_
      injection hb with hb; subst hb
      exact ⟨rfl, v22, ⟨rfl, rfl, rfl, trivial⟩, hw.pick 1 [0] (new := [own 9 v22 s7.2.1]) rfl rfl (by decide) (by decide)⟩
    replace hb := cT hc hb
    refine RC.skip ?_
    refine thenQ_n ?_
    refine RC.block ?_
    refine RC.seq ?_
    refine RC.region ?_
    refine RL.move (v := (str s7.1)) trivial rfl rfl ?_
    refine RL.move (v := (str p1)) trivial rfl rfl ?_
    obtain ⟨x23, hx23, hb⟩ := bd hb
    refine RL.call trivial rfl fn142 [(str s7.1), (str p1)] rfl (Calls_ret (strings_Index_ok N (p0 := s7.1) (p1 := p1)  hw  hx23) ?_)
    rintro _ w ⟨rfl, hw⟩
    refine RL.assign (v := (.int .i64 x23)) trivial rfl rfl ?_
    refine RL.nil ?_
    refine thenQ_n ?_
    refine RC.seq ?_
    refine RC.seq ?_
    refine RC.region ?_
    refine RL.move (v := (.int .i64 x23)) trivial rfl rfl ?_
    refine RL.icmp (a := x23) (b := 0) trivial rfl rfl rfl rfl ?_
    refine RL.nil ?_
    refine thenQ_n ?_
    refine RC.cond (b := (decide (x23 < 0))) rfl (fun hc => ?_) (fun hc => ?_)
    · replace hb := cT hc hb
      refine RC.exit ?_
      refine thenQ_x ?_
      refine blkQ_x (by decide) ?_
      injection hb with hb; subst hb
      exact ⟨rfl, v22, ⟨rfl, rfl, rfl, trivial⟩, hw.pick 1 [0] (new := [own 9 v22 s7.2.1]) rfl rfl (by decide) (by decide)⟩
    replace hb := cF hc hb
    refine RC.skip ?_
    refine thenQ_n ?_
    refine RC.seq ?_
    refine RC.region ?_
    refine RL.move (v := v22) trivial rfl rfl ?_
    refine RL.move (v := (.int .i64 s7.2.2)) trivial rfl rfl ?_
    refine RL.move (v := (str s7.1)) trivial rfl rfl ?_
    refine RL.move (v := (.int .i64 x23)) trivial rfl rfl ?_
    refine RL.move (v := (.int .i64 p2)) trivial rfl rfl ?_
    refine RL.iar (a := x23) (b := p2) trivial rfl rfl rfl rfl ?_
    obtain ⟨x24, hx24, hb⟩ := bd hb
    refine RL.scut (s := s7.1) trivial rfl rfl un9 (.inr ⟨rfl, rfl⟩) (.inl rfl) hx24 ?_
    obtain ⟨x25, hx25, hb⟩ := bd hb
    refine RL.ia_own (i := 0) trivial rfl hw rfl rfl rfl sl55 hx25 fun p26 hp26 => ?_
    have hw := hw.sc (γ := Str) x24
    refine RL.store_el (i := 1) (j := 0) (f := (fun _ y => y)) trivial hw rfl rfl hp26 rfl (idx_some hx25).2.1 rfl Fs.self (by decide) ty9 fun w hw => ?_
    refine RL.nil ?_
    refine thenQ_n ?_
    refine RC.seq ?_
    refine RC.region ?_
    refine RL.move (v := (str s7.1)) trivial rfl rfl ?_
    refine RL.move (v := (.int .i64 x23)) trivial rfl rfl ?_
    refine RL.move (v := (str p1)) trivial rfl rfl ?_
    refine RL.lens (s := p1) trivial rfl rfl un9 ?_
    refine RL.iar (a := x23) (b := ((p1.toL.length : Nat) : Int)) trivial rfl rfl rfl rfl ?_
    obtain ⟨x27, hx27, hb⟩ := bd hb
    refine RL.scut (s := s7.1) trivial rfl rfl un9 (.inl rfl) (.inr ⟨rfl, rfl⟩) hx27 ?_
    refine RL.assign (v := (str x27)) trivial rfl rfl ?_
    refine RL.nil ?_
    refine thenQ_n ?_
    refine RC.region ?_
    refine RL.move (v := (.int .i64 s7.2.2)) trivial rfl rfl ?_
    refine RL.iar (a := s7.2.2) (b := 1) trivial rfl rfl rfl rfl ?_
    refine RL.assign (v := (.int .i64 (IntKind.wrap .i64 (s7.2.2 + 1)))) trivial rfl rfl ?_
    refine RL.nil ?_
    refine blkQ_n ?_
    injection hb with hb; subst hb
    exact ⟨rfl, v22, ⟨rfl, rfl, rfl, rfl, rfl, rfl, trivial⟩, hw.pick 2 [1] (new := [own 9 v22 (s7.2.1.set (Int.toNat s7.2.2) x24)]) rfl rfl (by decide) (by decide)⟩
  · intro r _ _ _ _
    exact r.elim
  intro s7 σ w e hJ
  subst e
  rw [Fo.cs_go] at hb
  obtain ⟨v21, ha, hw⟩ := hJ
  obtain ⟨τ, rfl⟩ := ha.ups
  refine thenQ_n ?_
  refine RC.seq ?_
  refine RC.region ?_
  refine RL.move (v := v21) trivial rfl rfl ?_
  refine RL.move (v := (.int .i64 s7.2.2)) trivial rfl rfl ?_
  refine RL.move (v := (str s7.1)) trivial rfl rfl ?_
  obtain ⟨x28, hx28, hb⟩ := bd hb
  refine RL.ia_own (i := 0) trivial rfl hw rfl rfl rfl sl55 hx28 fun p29 hp29 => ?_
  have hw := hw.sc (γ := Str) s7.1
  refine RL.store_el (i := 1) (j := 0) (f := (fun _ y => y)) trivial hw rfl rfl hp29 rfl (idx_some hx28).2.1 rfl Fs.self (by decide) ty9 fun w hw => ?_
  refine RL.nil ?_
  refine thenQ_n ?_
  refine RC.seq ?_
  refine RC.region ?_
  refine RL.move (v := v21) trivial rfl rfl ?_
  refine RL.move (v := (.int .i64 s7.2.2)) trivial rfl rfl ?_
  refine RL.iar (a := s7.2.2) (b := 1) trivial rfl rfl rfl rfl ?_
  obtain ⟨x30, hx30, hb⟩ := bd hb
  refine RL.cut_own (i := 1) trivial rfl hw rfl rfl sl55 (.inr ⟨rfl, rfl⟩) (.inl rfl) hx30 fun v31 hw => ?_
  refine RL.assign (v := v31) trivial rfl rfl ?_
  refine RL.nil ?_
  refine thenQ_n ?_
  refine RC.ret ?_
  injection hb with hb; subst hb
  exact fin1 rfl rfl (hw.pick 2 [1] (new := [own 9 v31 x30]) rfl rfl (by decide) (by decide))
def strings_Split_R (E : World) (Γ : List HP) (res : (List Str)) (v : Value) (w : World) : Prop := Holds E w (own 9 v res :: Γ)
def strings_Split_K (E : World) (Γ : List HP) (r : (List Str)) (σ : Nat → Value) (w : World) : Prop := finQ Tryd.prog 8 Tryd.f60 (strings_Split_R E Γ r) .ret σ w
theorem strings_Split_ok (N : Nat) {E w : World} {Γ : List HP} {p0 : Str} {p1 : Str} {res : (List Str)} (hw : Holds E w Γ)  (hb : strings_Split N p0 p1 = some res) :
    Calls Tryd.prog 60 [(str p0), (str p1)].toArray w (Ret (strings_Split_R E Γ res)) := by
  unfold strings_Split at hb
  refine enter Tryd.func60 rfl rfl (Nat.le_of_ble_eq_true rfl) ?_
  refine RC.seq ?_
  refine RC.region ?_
  refine RL.assign (v := (.slice none 0 0)) trivial rfl rfl ?_
  refine RL.nil ?_
  refine thenQ_n ?_
  refine RC.seq ?_
  refine RC.region ?_
  refine RL.move (v := (str p0)) trivial rfl rfl ?_
  refine RL.move (v := (str p1)) trivial rfl rfl ?_
  obtain ⟨x1, hx1, hb⟩ := bd hb
  refine RL.call trivial rfl fn114 [(str p0), (str p1), (.int .i64 0), (.int .i64 (-1))] rfl (Calls_ret (strings_genSplit_ok N (p0 := p0) (p1 := p1) (p2 := 0) (p3 := (-1))  hw  hx1) ?_)
  rintro v2 w hw
  refine RL.assign (v := v2) trivial rfl rfl ?_
  refine RL.nil ?_
  refine thenQ_n ?_
  refine RC.ret ?_
  injection hb with hb; subst hb
  exact fin1 rfl rfl (hw.pick 1 [0] (new := [own 9 v2 x1]) rfl rfl (by decide) (by decide))
def slices_IndexFunc_string_R (E : World) (Γ : List HP) (res : Int) (v : Value) (w : World) : Prop := v = (.int .i64 res) ∧ Holds E w Γ
def slices_IndexFunc_string_K (E : World) (Γ : List HP) (r : Int) (σ : Nat → Value) (w : World) : Prop := finQ Tryd.prog 19 Tryd.f134 (slices_IndexFunc_string_R E Γ r) .ret σ w
theorem slices_IndexFunc_string_ok (N : Nat) {E w : World} {Γ : List HP} {i0 : Nat} {v0 : Value} {p0 : (List Str)} {v1 : Value} {p1 : Str → Option Bool} {res : Int} (hw : Holds E w Γ) (h0 : Γ[i0]? = some (rd v0 p0)) (h1 : Fn1 Tryd.prog E Γ v1 p1 (fun (r : Bool) => Value.bool r)) (hb : slices_IndexFunc_string N p0 p1 = some res) :
    Calls Tryd.prog 134 [v0, v1].toArray w (Ret (slices_IndexFunc_string_R E Γ res)) := by
  unfold slices_IndexFunc_string at hb
  refine enter Tryd.func134 rfl rfl (Nat.le_of_ble_eq_true rfl) ?_
  have hw := hw.dup (i := i0 + 0) h0
  refine RC.seq ?_
  refine RC.region ?_
  refine RL.assign (v := (.int .i64 0)) trivial rfl rfl ?_
  refine RL.nil ?_
  refine thenQ_n ?_
  refine RC.seq ?_
  refine RC.seq ?_
  refine RC.region ?_
  refine RL.move (v := v0) trivial rfl rfl ?_
  refine RL.len_rd (i := 0) (l := p0) trivial rfl hw rfl rfl un55 ?_
  refine RL.move (v := (.int .i64 0)) trivial rfl rfl ?_
  refine RL.nil ?_
  refine thenQ_n ?_
  obtain ⟨o9, hN, hb⟩ := bd hb
  refine RC.range (fun (k1 : Nat) (s2 : Unit) (σ : Nat → Value) (w : World) => agree σ [(0, v0), (1, v1), (7, (.int .i64 ((p0.length : Nat) : Int))), (8, (.int .i64 ((k1 : Nat) : Int)))] ∧ Holds E w ([rd v0 p0] ++ Γ)) (fun (s2 : Unit) (σ : Nat → Value) (w : World) => agree σ [] ∧ Holds E w ([rd v0 p0] ++ Γ)) (slices_IndexFunc_string_K E Γ) hN ?_ ?_ ?_ ?_ ?_ 
  · exact ⟨⟨rfl, rfl, rfl, rfl, trivial⟩, hw.pick 1 [0] (new := [rd v0 p0]) rfl rfl (by decide) (by decide)⟩
  · intro hm s2 σ w hI
    obtain ⟨ha, hw⟩ := hI
    obtain ⟨τ, rfl⟩ := ha.ups
    refine RC.seq ?_
    refine RC.region ?_
    refine RL.icmp (a := ((p0.length : Nat) : Int)) (b := ((p0.length : Nat) : Int)) trivial rfl rfl rfl rfl ?_
    refine RL.nil ?_
    refine thenQ_n ?_
    refine RC.seq ?_
    refine RC.cond_f dge ?_
    refine RC.exit ?_
    refine thenQ_x ?_
    exact ⟨rfl, trivial, hw.pick 1 [0] (new := [rd v0 p0]) rfl rfl (by decide) (by decide)⟩
  · intro hm k1 s2 fl σ w hk hI hb
    obtain ⟨ha, hw⟩ := hI
    obtain ⟨τ, rfl⟩ := ha.ups
    refine RC.seq ?_
    refine RC.region ?_
    refine RL.icmp (a := ((k1 : Nat) : Int)) (b := ((p0.length : Nat) : Int)) trivial rfl rfl rfl rfl ?_
    refine RL.nil ?_
    refine thenQ_n ?_
    refine RC.seq ?_
    refine RC.cond_t (dlt hk) ?_
    refine RC.skip ?_
    refine thenQ_n ?_
    refine RC.seq ?_
    refine RC.block ?_
    refine RC.seq ?_
    refine RC.region ?_
    refine RL.move (v := (.int .i64 ((k1 : Nat) : Int))) trivial rfl rfl ?_
    refine RL.assign (v := (.int .i64 ((k1 : Nat) : Int))) trivial rfl rfl ?_
    refine RL.nil ?_
    refine thenQ_n ?_
    refine RC.seq ?_
    refine RC.region ?_
    refine RL.move (v := v1) trivial rfl rfl ?_
    refine RL.move (v := v0) trivial rfl rfl ?_
    refine RL.move (v := (.int .i64 ((k1 : Nat) : Int))) trivial rfl rfl ?_
    obtain ⟨x6, hx6, hb⟩ := bd hb
    refine RL.ia_rd (i := 0) trivial rfl hw rfl rfl rfl sl55 hx6 fun v7 hw => ?_
    refine RL.load_pts (i := 0) (y := x6) trivial rfl hw rfl rfl ty9 ?_
    have hw := hw.sc (γ := Str) x6
    obtain ⟨x8, hx8, hb⟩ := bd hb
    refine RL.callF1 (i := 0) trivial rfl hw rfl h1 3 rfl rfl rfl hx8 fun w hw => ?_
    refine RL.nil ?_
    refine thenQ_n ?_
    refine RC.cond (b := x8) rfl (fun hc => ?_) (fun hc => ?_)
    rotate_left
    · replace hb := cF hc hb
      refine RC.skip ?_
      refine blkQ_n ?_
      refine thenQ_n ?_
      refine RC.region ?_
      refine RL.inc trivial rfl hk hm rfl rfl ?_
      refine RL.move (v := (.int .i64 ((k1 + 1 : Nat) : Int))) trivial rfl rfl ?_
      refine RL.nil ?_
      injection hb with hb; subst hb
      exact ⟨rfl, ⟨rfl, rfl, rfl, rfl, trivial⟩, hw.pick 3 [2] (new := [rd v0 p0]) rfl rfl (by decide) (by decide)⟩
    replace hb := cT hc hb
    refine RC.seq ?_
    refine RC.region ?_
    refine RL.move (v := (.int .i64 ((k1 : Nat) : Int))) trivial rfl rfl ?_
    refine RL.assign (v := (.int .i64 ((k1 : Nat) : Int))) trivial rfl rfl ?_
    refine RL.nil ?_
    refine thenQ_n ?_
    refine RC.ret ?_
    refine blkQ_r ?_
    refine thenQ_r ?_
    injection hb with hb; subst hb
    exact ⟨rfl, fin1 rfl rfl ⟨rfl, hw.drop 3 rfl⟩⟩
  · intro r σ w e hK
    subst e
    refine thenQ_r ?_
    injection hb with hb; subst hb
    exact hK
  intro s2 σ w e hJ
  subst e
  rw [Fo.cs_go] at hb
  obtain ⟨ha, hw⟩ := hJ
  obtain ⟨τ, rfl⟩ := ha.ups
  refine thenQ_n ?_
  refine RC.seq ?_
  refine RC.region ?_
  refine RL.assign (v := (.int .i64 (-1))) trivial rfl rfl ?_
  refine RL.nil ?_
  refine thenQ_n ?_
  refine RC.ret ?_
  injection hb with hb; subst hb
  exact fin1 rfl rfl ⟨rfl, hw.drop 1 rfl⟩
def slices_ContainsFunc_string_R (E : World) (Γ : List HP) (res : Bool) (v : Value) (w : World) : Prop := v = (.bool res) ∧ Holds E w Γ
def slices_ContainsFunc_string_K (E : World) (Γ : List HP) (r : Bool) (σ : Nat → Value) (w : World) : Prop := finQ Tryd.prog 9 Tryd.f98 (slices_ContainsFunc_string_R E Γ r) .ret σ w
theorem slices_ContainsFunc_string_ok (N : Nat) {E w : World} {Γ : List HP} {i0 : Nat} {v0 : Value} {p0 : (List Str)} {v1 : Value} {p1 : Str → Option Bool} {res : Bool} (hw : Holds E w Γ) (h0 : Γ[i0]? = some (rd v0 p0)) (h1 : Fn1 Tryd.prog E Γ v1 p1 (fun (r : Bool) => Value.bool r)) (hb : slices_ContainsFunc_string N p0 p1 = some res) :
    Calls Tryd.prog 98 [v0, v1].toArray w (Ret (slices_ContainsFunc_string_R E Γ res)) := by
  unfold slices_ContainsFunc_string at hb
  refine enter Tryd.func98 rfl rfl (Nat.le_of_ble_eq_true rfl) ?_
  have hw := hw.dup (i := i0 + 0) h0
  refine RC.seq ?_
  refine RC.region ?_
  refine RL.assign (v := (.bool false)) trivial rfl rfl ?_
  refine RL.nil ?_
  refine thenQ_n ?_
  refine RC.seq ?_
  refine RC.region ?_
  refine RL.move (v := v0) trivial rfl rfl ?_
  refine RL.move (v := v1) trivial rfl rfl ?_
  obtain ⟨x1, hx1, hb⟩ := bd hb
  refine RL.call trivial rfl fn134 [v0, v1] rfl (Calls_ret (slices_IndexFunc_string_ok N  (i0 := 0) hw rfl (h1.lift 1 rfl) hx1) ?_)
  rintro _ w ⟨rfl, hw⟩
  refine RL.icmp (a := x1) (b := 0) trivial rfl rfl rfl rfl ?_
  refine RL.assign (v := (.bool (decide (x1 ≥ 0)))) trivial rfl rfl ?_
  refine RL.nil ?_
  refine thenQ_n ?_
  refine RC.ret ?_
  injection hb with hb; subst hb
  exact fin1 rfl rfl ⟨rfl, hw.drop 1 rfl⟩
def netlist_IsPath_c1_R (E : World) (Γ : List HP) (res : Bool) (v : Value) (w : World) : Prop := v = (.bool res) ∧ Holds E w Γ
def netlist_IsPath_c1_K (E : World) (Γ : List HP) (r : Bool) (σ : Nat → Value) (w : World) : Prop := finQ Tryd.prog 6 Tryd.f99 (netlist_IsPath_c1_R E Γ r) .ret σ w
theorem netlist_IsPath_c1_ok (N : Nat) {E w : World} {Γ : List HP} {p0 : Str} {res : Bool} (hw : Holds E w Γ)  (hb : netlist_IsPath_c1 N p0 = some res) :
    Calls Tryd.prog 99 [(str p0)].toArray w (Ret (netlist_IsPath_c1_R E Γ res)) := by
  unfold netlist_IsPath_c1 at hb
  refine enter Tryd.func99 rfl rfl (Nat.le_of_ble_eq_true rfl) ?_
  refine RC.seq ?_
  refine RC.region ?_
  refine RL.assign (v := (.bool false)) trivial rfl rfl ?_
  refine RL.nil ?_
  refine thenQ_n ?_
  refine RC.seq ?_
  refine RC.region ?_
  refine RL.move (v := (str p0)) trivial rfl rfl ?_
  obtain ⟨x1, hx1, hb⟩ := bd hb
  refine RL.call trivial rfl fn96 [(str p0)] rfl (Calls_ret (netlist_IsWord_ok N (p0 := p0)  hw  hx1) ?_)
  rintro _ w ⟨rfl, hw⟩
  refine RL.not (b := x1) trivial rfl rfl ?_
  refine RL.assign (v := (.bool (!x1))) trivial rfl rfl ?_
  refine RL.nil ?_
  refine thenQ_n ?_
  refine RC.ret ?_
  injection hb with hb; subst hb
  exact fin1 rfl rfl ⟨rfl, hw.drop 0 rfl⟩
def netlist_IsPath_R (E : World) (Γ : List HP) (res : Bool) (v : Value) (w : World) : Prop := v = (.bool res) ∧ Holds E w Γ
def netlist_IsPath_K (E : World) (Γ : List HP) (r : Bool) (σ : Nat → Value) (w : World) : Prop := finQ Tryd.prog 12 Tryd.f42 (netlist_IsPath_R E Γ r) .ret σ w
theorem netlist_IsPath_ok (N : Nat) {E w : World} {Γ : List HP} {p0 : Str} {res : Bool} (hw : Holds E w Γ)  (hb : netlist_IsPath N p0 = some res) :
    Calls Tryd.prog 42 [(str p0)].toArray w (Ret (netlist_IsPath_R E Γ res)) := by
  unfold netlist_IsPath at hb
  refine enter Tryd.func42 rfl rfl (Nat.le_of_ble_eq_true rfl) ?_
  refine RC.seq ?_
  refine RC.region ?_
  refine RL.assign (v := (.bool false)) trivial rfl rfl ?_
  refine RL.nil ?_
  refine thenQ_n ?_
  refine RC.seq ?_
  obtain ⟨s5, hj, hb⟩ := bd hb
  refine RC.jn (fun (s5 : Bool) (σ : Nat → Value) (w : World) => agree σ [(2, (.bool s5))] ∧ Holds E w ([] ++ Γ)) s5 ?_ ?_
  · refine RC.region ?_
    refine RL.move (v := (str p0)) trivial rfl rfl ?_
    refine RL.lens (s := p0) trivial rfl rfl un9 ?_
    refine RL.icmp (a := ((p0.toL.length : Nat) : Int)) (b := 200) trivial rfl rfl rfl rfl ?_
    refine RL.move (v := (.bool (decide (((p0.toL.length : Nat) : Int) ≤ 200)))) trivial rfl rfl ?_
    rcases Bool.eq_false_or_eq_true (decide (((p0.toL.length : Nat) : Int) ≤ 200)) with hg6 | hg6
    rotate_left
    · replace hj := cF hg6 hj
      refine RL.skip rfl (.inl (congrArg Value.bool hg6)) rfl ?_
      refine RL.skip rfl (.inl (congrArg Value.bool hg6)) rfl ?_
      refine RL.skip rfl (.inl (congrArg Value.bool hg6)) rfl ?_
      refine RL.skip rfl (.inl (congrArg Value.bool hg6)) rfl ?_
      refine RL.pick (b := (decide (((p0.toL.length : Nat) : Int) ≤ 200))) (v := (.bool false)) trivial rfl rfl (by rw [hg6]; rfl) ?_
      refine RL.assign (v := (.bool false)) trivial rfl rfl ?_
      refine RL.nil ?_
      injection hj with hj; subst hj
      exact ⟨rfl, ⟨rfl, trivial⟩, hw.pick 0 [] (new := []) rfl rfl (by decide) (by decide)⟩
    replace hj := cT hg6 hj
    refine RL.move (v := (str p0)) ⟨_, rfl, congrArg Value.bool hg6⟩ rfl rfl ?_
    obtain ⟨x7, hx7, hj⟩ := bd hj
    refine RL.call ⟨_, rfl, congrArg Value.bool hg6⟩ rfl fn60 [(str p0), (str ⟨[47]⟩)] rfl (Calls_ret (strings_Split_ok N (p0 := p0) (p1 := ⟨[47]⟩)  hw  hx7) ?_)
    rintro v8 w hw
    have hw := hw.freeze (i := 0) rfl
    obtain ⟨x9, hx9, hj⟩ := bd hj
    refine RL.call ⟨_, rfl, congrArg Value.bool hg6⟩ rfl fn98 [v8, (.func (.func 99) #[] #[])] rfl (Calls_ret (slices_ContainsFunc_string_ok N  (i0 := 0) hw rfl ⟨99, [], rfl, fn99, fun w Γl v y0 r i hw hi hr => by obtain rfl := hw.ofSc (γ := Str) hi; exact Calls_ret (netlist_IsPath_c1_ok N (p0 := y0) hw hr) fun _ _ h => h⟩ hx9) ?_)
    rintro _ w ⟨rfl, hw⟩
    refine RL.not (b := x9) ⟨_, rfl, congrArg Value.bool hg6⟩ rfl rfl ?_
    refine RL.pick (b := (decide (((p0.toL.length : Nat) : Int) ≤ 200))) (v := (.bool (!x9))) trivial rfl rfl (by rw [hg6]; rfl) ?_
    refine RL.assign (v := (.bool (!x9))) trivial rfl rfl ?_
    refine RL.nil ?_
    injection hj with hj; subst hj
    exact ⟨rfl, ⟨rfl, trivial⟩, hw.pick 1 [] (new := []) rfl rfl (by decide) (by decide)⟩
  rintro σ w ⟨ha, hw⟩
  obtain ⟨τ, rfl⟩ := ha.ups
  refine thenQ_n ?_
  refine RC.ret ?_
  injection hb with hb; subst hb
  exact fin1 rfl rfl ⟨rfl, hw.drop 0 rfl⟩
def slices_BinarySearchFunc_Part_string_R (E : World) (Γ : List HP) (res : Int × Bool) (v : Value) (w : World) : Prop := v = .tuple #[(.int .i64 res.1), (.bool res.2)] ∧ Holds E w Γ
def slices_BinarySearchFunc_Part_string_K (E : World) (Γ : List HP) (r : Int × Bool) (σ : Nat → Value) (w : World) : Prop := finQ Tryd.prog 49 Tryd.f108 (slices_BinarySearchFunc_Part_string_R E Γ r) .ret σ w
theorem slices_BinarySearchFunc_Part_string_ok (N : Nat) {E w : World} {Γ : List HP} {i0 : Nat} {v0 : Value} {p0 : (List Part)} {p1 : Str} {v2 : Value} {p2 : Part → Str → Option Int} {res : Int × Bool} (hw : Holds E w Γ) (h0 : Γ[i0]? = some (rd v0 p0)) (h2 : Fn2 Tryd.prog E Γ v2 p2 (fun (r : Int) => Value.int .i64 r)) (hb : slices_BinarySearchFunc_Part_string N p0 p1 p2 = some res) :
    Calls Tryd.prog 108 [v0, (str p1), v2].toArray w (Ret (slices_BinarySearchFunc_Part_string_R E Γ res)) := by
  unfold slices_BinarySearchFunc_Part_string at hb
  refine enter Tryd.func108 rfl rfl (Nat.le_of_ble_eq_true rfl) ?_
  have hw := hw.dup (i := i0 + 0) h0
  refine RC.seq ?_
  refine RC.region ?_
  refine RL.assign (v := (.int .i64 0)) trivial rfl rfl ?_
  refine RL.assign (v := (.bool false)) trivial rfl rfl ?_
  refine RL.nil ?_
  refine thenQ_n ?_
  refine RC.seq ?_
  refine RC.region ?_
  refine RL.move (v := v0) trivial rfl rfl ?_
  refine RL.len_rd (i := 0) (l := p0) trivial rfl hw rfl rfl un23 ?_
  refine RL.assign (v := (.int .i64 ((p0.length : Nat) : Int))) trivial rfl rfl ?_
  refine RL.nil ?_
  refine thenQ_n ?_
  refine RC.seq ?_
  refine RC.region ?_
  refine RL.move (v := (.int .i64 ((p0.length : Nat) : Int))) trivial rfl rfl ?_
  refine RL.assign (v := (.int .i64 0)) trivial rfl rfl ?_
  refine RL.assign (v := (.int .i64 ((p0.length : Nat) : Int))) trivial rfl rfl ?_
  refine RL.nil ?_
  refine thenQ_n ?_
  refine RC.seq ?_
  obtain ⟨o29, hN, hb⟩ := bd hb
  refine RC.iter (fun (s2 : Int × Int) (σ : Nat → Value) (w : World) => agree σ [(0, v0), (1, (str p1)), (2, v2), (8, (.int .i64 ((p0.length : Nat) : Int))), (9, (.int .i64 s2.1)), (10, (.int .i64 s2.2))] ∧ Holds E w ([rd v0 p0] ++ Γ)) (fun (s2 : Int × Int) (σ : Nat → Value) (w : World) => agree σ [(0, v0), (1, (str p1)), (2, v2), (8, (.int .i64 ((p0.length : Nat) : Int))), (9, (.int .i64 s2.1))] ∧ Holds E w ([rd v0 p0] ++ Γ)) (fun (r : Empty) (_ : Nat → Value) (_ : World) => r.elim) hN ?_ ?_ ?_ ?_ 
  · exact ⟨⟨rfl, rfl, rfl, rfl, rfl, rfl, trivial⟩, hw.pick 1 [0] (new := [rd v0 p0]) rfl rfl (by decide) (by decide)⟩
  · intro s2 fl σ w hI hb
    obtain ⟨ha, hw⟩ := hI
    obtain ⟨τ, rfl⟩ := ha.ups
    refine RC.seq ?_
    refine RC.seq ?_
    refine RC.region ?_
    refine RL.move (v := (.int .i64 s2.1)) trivial rfl rfl ?_
    refine RL.move (v := (.int .i64 s2.2)) trivial rfl rfl ?_
    refine RL.icmp (a := s2.1) (b := s2.2) trivial rfl rfl rfl rfl ?_
    refine RL.nil ?_
    refine thenQ_n ?_
    refine RC.cond (b := (decide (s2.1 < s2.2))) rfl (fun hc => ?_) (fun hc => ?_)
    rotate_left
    · replace hb := cF hc hb
      refine RC.exit ?_
      refine thenQ_x ?_
      injection hb with hb; subst hb
      exact ⟨rfl, ⟨rfl, rfl, rfl, rfl, rfl, trivial⟩, hw.pick 1 [0] (new := [rd v0 p0]) rfl rfl (by decide) (by decide)⟩
    replace hb := cT hc hb
    refine RC.skip ?_
    refine thenQ_n ?_
    refine RC.block ?_
    refine RC.seq ?_
    refine RC.region ?_
    refine RL.move (v := (.int .i64 s2.1)) trivial rfl rfl ?_
    refine RL.move (v := (.int .i64 s2.2)) trivial rfl rfl ?_
    refine RL.iar (a := s2.1) (b := s2.2) trivial rfl rfl rfl rfl ?_
    refine RL.conv (a := (IntKind.wrap .i64 (s2.1 + s2.2))) trivial rfl rfl ⟨_, un3⟩ un180 ?_
    refine RL.bin (v := (.int .u64 (IntKind.wrap .u64 (IntKind.wrap .i64 (s2.1 + s2.2))))) (v' := (.int .u64 1)) (u := (.int .u64 (Int.fdiv (IntKind.wrap .u64 (IntKind.wrap .i64 (s2.1 + s2.2))) 2))) trivial rfl rfl rfl (fun _ => rfl) (fun _ => rfl) ?_
    refine RL.conv (a := (Int.fdiv (IntKind.wrap .u64 (IntKind.wrap .i64 (s2.1 + s2.2))) 2)) trivial rfl rfl ⟨_, un180⟩ un3 ?_
    refine RL.assign (v := (.int .i64 (IntKind.wrap .i64 (Int.fdiv (IntKind.wrap .u64 (IntKind.wrap .i64 (s2.1 + s2.2))) 2)))) trivial rfl rfl ?_
    refine RL.nil ?_
    refine thenQ_n ?_
    refine RC.seq ?_
    refine RC.region ?_
    refine RL.move (v := v2) trivial rfl rfl ?_
    refine RL.move (v := v0) trivial rfl rfl ?_
    refine RL.move (v := (.int .i64 (IntKind.wrap .i64 (Int.fdiv (IntKind.wrap .u64 (IntKind.wrap .i64 (s2.1 + s2.2))) 2)))) trivial rfl rfl ?_
    obtain ⟨x13, hx13, hb⟩ := bd hb
    refine RL.ia_rd (i := 0) trivial rfl hw rfl rfl rfl sl23 hx13 fun v14 hw => ?_
    refine RL.load_pt (i := 0) (x := x13) trivial rfl hw rfl rfl ty87 fun v15 hw => ?_
    refine RL.move (v := (str p1)) trivial rfl rfl ?_
    have hw := hw.sc (γ := Str) p1
    obtain ⟨x16, hx16, hb⟩ := bd hb
    refine RL.callF2 (i := 1) (j := 0) trivial rfl hw rfl h2 4 rfl rfl rfl rfl rfl hx16 fun w hw => ?_
    refine RL.icmp (a := x16) (b := 0) trivial rfl rfl rfl rfl ?_
    refine RL.nil ?_
    refine thenQ_n ?_
    obtain ⟨s17, hj, hb⟩ := bd hb
    refine RC.jn (fun (s17 : Int × Int) (σ : Nat → Value) (w : World) => agree σ [(0, v0), (1, (str p1)), (2, v2), (8, (.int .i64 ((p0.length : Nat) : Int))), (9, (.int .i64 s17.1)), (10, (.int .i64 s17.2))] ∧ Holds E w ([rd v0 p0] ++ Γ)) s17 ?_ ?_
    · refine RC.cond (b := (decide (x16 < 0))) rfl (fun hc => ?_) (fun hc => ?_)
      rotate_left
      · replace hj := cF hc hj
        refine RC.region ?_
        refine RL.move (v := (.int .i64 (IntKind.wrap .i64 (Int.fdiv (IntKind.wrap .u64 (IntKind.wrap .i64 (s2.1 + s2.2))) 2)))) trivial rfl rfl ?_
        refine RL.assign (v := (.int .i64 (IntKind.wrap .i64 (Int.fdiv (IntKind.wrap .u64 (IntKind.wrap .i64 (s2.1 + s2.2))) 2)))) trivial rfl rfl ?_
        refine RL.nil ?_
        injection hj with hj; subst hj
        exact ⟨rfl, ⟨rfl, rfl, rfl, rfl, rfl, rfl, trivial⟩, hw.pick 4 [3] (new := [rd v0 p0]) rfl rfl (by decide) (by decide)⟩
      replace hj := cT hc hj
      refine RC.region ?_
      refine RL.move (v := (.int .i64 (IntKind.wrap .i64 (Int.fdiv (IntKind.wrap .u64 (IntKind.wrap .i64 (s2.1 + s2.2))) 2)))) trivial rfl rfl ?_
      refine RL.iar (a := (IntKind.wrap .i64 (Int.fdiv (IntKind.wrap .u64 (IntKind.wrap .i64 (s2.1 + s2.2))) 2))) (b := 1) trivial rfl rfl rfl rfl ?_
      refine RL.assign (v := (.int .i64 (IntKind.wrap .i64 ((IntKind.wrap .i64 (Int.fdiv (IntKind.wrap .u64 (IntKind.wrap .i64 (s2.1 + s2.2))) 2)) + 1)))) trivial rfl rfl ?_
      refine RL.nil ?_
      injection hj with hj; subst hj
      exact ⟨rfl, ⟨rfl, rfl, rfl, rfl, rfl, rfl, trivial⟩, hw.pick 4 [3] (new := [rd v0 p0]) rfl rfl (by decide) (by decide)⟩
    rintro σ w ⟨ha, hw⟩
    obtain ⟨τ, rfl⟩ := ha.ups
    refine blkQ_n ?_
    injection hb with hb; subst hb
    exact ⟨rfl, ⟨rfl, rfl, rfl, rfl, rfl, rfl, trivial⟩, hw.pick 1 [0] (new := [rd v0 p0]) rfl rfl (by decide) (by decide)⟩
  · intro r _ _ _ _
    exact r.elim
  intro s2 σ w e hJ
  subst e
  rw [Fo.cs_go] at hb
  obtain ⟨ha, hw⟩ := hJ
  obtain ⟨τ, rfl⟩ := ha.ups
  refine thenQ_n ?_
  refine RC.seq ?_
  obtain ⟨s23, hj, hb⟩ := bd hb
  refine RC.jn (fun (s23 : Bool) (σ : Nat → Value) (w : World) => agree σ [(6, (.int .i64 s2.1)), (7, (.bool s23))] ∧ Holds E w ([] ++ Γ)) s23 ?_ ?_
  · refine RC.region ?_
    refine RL.move (v := (.int .i64 s2.1)) trivial rfl rfl ?_
    refine RL.move (v := (.int .i64 s2.1)) trivial rfl rfl ?_
    refine RL.move (v := (.int .i64 ((p0.length : Nat) : Int))) trivial rfl rfl ?_
    refine RL.icmp (a := s2.1) (b := ((p0.length : Nat) : Int)) trivial rfl rfl rfl rfl ?_
    refine RL.move (v := (.bool (decide (s2.1 < ((p0.length : Nat) : Int))))) trivial rfl rfl ?_
    rcases Bool.eq_false_or_eq_true (decide (s2.1 < ((p0.length : Nat) : Int))) with hg24 | hg24
    rotate_left
    · replace hj := cF hg24 hj
      refine RL.skip rfl (.inl (congrArg Value.bool hg24)) rfl ?_
      refine RL.skip rfl (.inl (congrArg Value.bool hg24)) rfl ?_
      refine RL.skip rfl (.inl (congrArg Value.bool hg24)) rfl ?_
      refine RL.skip rfl (.inl (congrArg Value.bool hg24)) rfl ?_
      refine RL.skip rfl (.inl (congrArg Value.bool hg24)) rfl ?_
      refine RL.skip rfl (.inl (congrArg Value.bool hg24)) rfl ?_
      refine RL.skip rfl (.inl (congrArg Value.bool hg24)) rfl ?_
      refine RL.skip rfl (.inl (congrArg Value.bool hg24)) rfl ?_
      refine RL.pick (b := (decide (s2.1 < ((p0.length : Nat) : Int)))) (v := (.bool false)) trivial rfl rfl (by rw [hg24]; rfl) ?_
      refine RL.assign (v := (.int .i64 s2.1)) trivial rfl rfl ?_
      refine RL.assign (v := (.bool false)) trivial rfl rfl ?_
      refine RL.nil ?_
      injection hj with hj; subst hj
      exact ⟨rfl, ⟨rfl, rfl, trivial⟩, hw.pick 1 [] (new := []) rfl rfl (by decide) (by decide)⟩
    replace hj := cT hg24 hj
    refine RL.move (v := v2) ⟨_, rfl, congrArg Value.bool hg24⟩ rfl rfl ?_
    refine RL.move (v := v0) ⟨_, rfl, congrArg Value.bool hg24⟩ rfl rfl ?_
    refine RL.move (v := (.int .i64 s2.1)) ⟨_, rfl, congrArg Value.bool hg24⟩ rfl rfl ?_
    obtain ⟨x25, hx25, hj⟩ := bd hj
    refine RL.ia_rd (i := 0) ⟨_, rfl, congrArg Value.bool hg24⟩ rfl hw rfl rfl rfl sl23 hx25 fun v26 hw => ?_
    refine RL.load_pt (i := 0) (x := x25) ⟨_, rfl, congrArg Value.bool hg24⟩ rfl hw rfl rfl ty87 fun v27 hw => ?_
    refine RL.move (v := (str p1)) ⟨_, rfl, congrArg Value.bool hg24⟩ rfl rfl ?_
    have hw := hw.sc (γ := Str) p1
    obtain ⟨x28, hx28, hj⟩ := bd hj
    refine RL.callF2 (i := 1) (j := 0) ⟨_, rfl, congrArg Value.bool hg24⟩ rfl hw rfl h2 4 rfl rfl rfl rfl rfl hx28 fun w hw => ?_
    refine RL.icmp (a := x28) (b := 0) ⟨_, rfl, congrArg Value.bool hg24⟩ rfl rfl rfl rfl ?_
    refine RL.pick (b := (decide (s2.1 < ((p0.length : Nat) : Int)))) (v := (.bool (x28 == 0))) trivial rfl rfl (by rw [hg24]; rfl) ?_
    refine RL.assign (v := (.int .i64 s2.1)) trivial rfl rfl ?_
    refine RL.assign (v := (.bool (x28 == 0))) trivial rfl rfl ?_
    refine RL.nil ?_
    injection hj with hj; subst hj
    exact ⟨rfl, ⟨rfl, rfl, trivial⟩, hw.pick 4 [] (new := []) rfl rfl (by decide) (by decide)⟩
  rintro σ w ⟨ha, hw⟩
  obtain ⟨τ, rfl⟩ := ha.ups
  refine thenQ_n ?_
  refine RC.ret ?_
  injection hb with hb; subst hb
  exact fin2 rfl rfl rfl ⟨rfl, hw.drop 0 rfl⟩
end Go.Gk
