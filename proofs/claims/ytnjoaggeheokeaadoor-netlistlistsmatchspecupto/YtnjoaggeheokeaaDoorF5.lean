/-
  Printed by gen.py: Go functions as plain functions, and that they are.
-/
import Derived.Test.YtnjoaggeheokeaaDoorF4
set_option linter.unusedVariables false
set_option linter.unusedSimpArgs false
set_option linter.unusedSectionVars false
set_option maxRecDepth 100000
set_option maxHeartbeats 4000000

namespace Go.Gk
open Go Go.Proofs
def etchhouseref2_inNets_R (E : World) (Γ : List HP) (res : Bool) (v : Value) (w : World) : Prop := v = (.bool res) ∧ Holds E w Γ
def etchhouseref2_inNets_K (E : World) (Γ : List HP) (r : Bool) (σ : Nat → Value) (w : World) : Prop := finQ Tryd.prog 18 Tryd.f104 (etchhouseref2_inNets_R E Γ r) .ret σ w
theorem etchhouseref2_inNets_ok (N : Nat) {E w : World} {Γ : List HP} {i0 : Nat} {v0 : Value} {p0 : (List Net)} {i1 : Nat} {v1 : Value} {p1 : Pin} {res : Bool} (hw : Holds E w Γ) (h0 : Γ[i0]? = some (rd v0 p0)) (h1 : Γ[i1]? = some (rd v1 p1)) (hb : etchhouseref2_inNets N p0 p1 = some res) :
    Calls Tryd.prog 104 [v0, v1].toArray w (Ret (etchhouseref2_inNets_R E Γ res)) := by
  unfold etchhouseref2_inNets at hb
  refine enter Tryd.func104 rfl rfl (Nat.le_of_ble_eq_true rfl) ?_
  have hw := hw.dup (i := i0 + 0) h0
  have hw := hw.dup (i := i1 + 1) h1
  refine RC.seq ?_
  refine RC.region ?_
  refine RL.box_rd (i := 0) (v := v1) trivial rfl hw rfl rfl fun b1 w hw => ?_
  refine RL.assign (v := (.bool false)) trivial rfl rfl ?_
  refine RL.nil ?_
  refine thenQ_n ?_
  refine RC.seq ?_
  refine RC.seq ?_
  refine RC.region ?_
  refine RL.move (v := v0) trivial rfl rfl ?_
  refine RL.len_rd (i := 2) (l := p0) trivial rfl hw rfl rfl un24 ?_
  refine RL.move (v := (.int .i64 0)) trivial rfl rfl ?_
  refine RL.nil ?_
  refine thenQ_n ?_
  obtain ⟨o18, hN, hb⟩ := bd hb
  refine RC.range (fun (k2 : Nat) (s3 : Unit) (σ : Nat → Value) (w : World) => agree σ [(3, (.pointer (some ⟨b1, 0, none⟩))), (7, v0), (8, (.int .i64 ((p0.length : Nat) : Int))), (9, (.int .i64 ((k2 : Nat) : Int)))] ∧ Holds E w ([bx 28 b1 p1, rd v0 p0] ++ Γ)) (fun (s3 : Unit) (σ : Nat → Value) (w : World) => agree σ [] ∧ Holds E w ([bx 28 b1 p1, rd v0 p0] ++ Γ)) (etchhouseref2_inNets_K E Γ) hN ?_ ?_ ?_ ?_ ?_ 
  · exact ⟨⟨rfl, rfl, rfl, rfl, trivial⟩, hw.pick 3 [0, 2] (new := [bx 28 b1 p1, rd v0 p0]) rfl rfl (by decide) (by decide)⟩
  · intro hm s3 σ w hI
    obtain ⟨ha, hw⟩ := hI
    obtain ⟨τ, rfl⟩ := ha.ups
    refine RC.seq ?_
    refine RC.region ?_
    refine RL.icmp (a := ((p0.length : Nat) : Int)) (b := ((p0.length : Nat) : Int)) trivial rfl rfl rfl rfl ?_
    refine RL.nil ?_
    refine thenQ_n ?_
    refine RC.seq ?_
    refine RC.cond_f dge ?_
    refine RC.exit ?_
    refine thenQ_x ?_
    exact ⟨rfl, trivial, hw.pick 2 [0, 1] (new := [bx 28 b1 p1, rd v0 p0]) rfl rfl (by decide) (by decide)⟩
  · intro hm k2 s3 fl σ w hk hI hb
    obtain ⟨ha, hw⟩ := hI
    obtain ⟨τ, rfl⟩ := ha.ups
    refine RC.seq ?_
    refine RC.region ?_
    refine RL.icmp (a := ((k2 : Nat) : Int)) (b := ((p0.length : Nat) : Int)) trivial rfl rfl rfl rfl ?_
    refine RL.nil ?_
    refine thenQ_n ?_
    refine RC.seq ?_
    refine RC.cond_t (dlt hk) ?_
    refine RC.skip ?_
    refine thenQ_n ?_
    refine RC.seq ?_
    refine RC.block ?_
    refine RC.seq ?_
    refine RC.region ?_
    obtain ⟨x11, hx11, hb⟩ := bd hb
    refine RL.ia_rd (i := 1) trivial rfl hw rfl rfl rfl sl24 hx11 fun v12 hw => ?_
    refine RL.load_pt (i := 0) (x := x11) trivial rfl hw rfl rfl ty64 fun v13 hw => ?_
    refine RL.alloc trivial rfl hw ze64.z fun b14 w hw => ?_
    refine RL.store_raw (i := 0) (j := 1) trivial hw rfl rfl rfl rfl ty64 rfl fun w hw => ?_
    refine RL.nil ?_
    refine thenQ_n ?_
    refine RC.seq ?_
    refine RC.region ?_
    refine RL.fa_b trivial rfl rfl fa64_1 ?_
    refine RL.load_bf (i := 0) (f := (fun x => x.Pins)) trivial rfl hw rfl rfl fd_Net_1 ty33 fun v15 hw => ?_
    refine RL.load_bf (i := 4) (f := (fun x => x)) trivial rfl hw rfl rfl Fd.self ty28 fun v16 hw => ?_
    obtain ⟨x17, hx17, hb⟩ := bd hb
    refine RL.call trivial rfl fn95 [v15, v16] rfl (Calls_ret (slices_Contains_Pin_ok N  (i0 := 1) (i1 := 0) hw rfl rfl hx17) ?_)
    rintro _ w ⟨rfl, hw⟩
    refine RL.nil ?_
    refine thenQ_n ?_
    refine RC.cond (b := x17) rfl (fun hc => ?_) (fun hc => ?_)
    rotate_left
    · replace hb := cF hc hb
      refine RC.skip ?_
      refine blkQ_n ?_
      refine thenQ_n ?_
      refine RC.region ?_
      refine RL.inc trivial rfl hk hm rfl rfl ?_
      refine RL.move (v := (.int .i64 ((k2 + 1 : Nat) : Int))) trivial rfl rfl ?_
      refine RL.nil ?_
      injection hb with hb; subst hb
      exact ⟨rfl, ⟨rfl, rfl, rfl, rfl, trivial⟩, hw.pick 7 [5, 6] (new := [bx 28 b1 p1, rd v0 p0]) rfl rfl (by decide) (by decide)⟩
    replace hb := cT hc hb
    refine RC.seq ?_
    refine RC.region ?_
    refine RL.assign (v := (.bool true)) trivial rfl rfl ?_
    refine RL.nil ?_
    refine thenQ_n ?_
    refine RC.ret ?_
    refine blkQ_r ?_
    refine thenQ_r ?_
    injection hb with hb; subst hb
    exact ⟨rfl, fin1 rfl rfl ⟨rfl, hw.drop 7 rfl⟩⟩
  · intro r σ w e hK
    subst e
    refine thenQ_r ?_
    injection hb with hb; subst hb
    exact hK
  intro s3 σ w e hJ
  subst e
  rw [Fo.cs_go] at hb
  obtain ⟨ha, hw⟩ := hJ
  obtain ⟨τ, rfl⟩ := ha.ups
  refine thenQ_n ?_
  refine RC.seq ?_
  refine RC.region ?_
  refine RL.assign (v := (.bool false)) trivial rfl rfl ?_
  refine RL.nil ?_
  refine thenQ_n ?_
  refine RC.ret ?_
  injection hb with hb; subst hb
  exact fin1 rfl rfl ⟨rfl, hw.drop 2 rfl⟩
def etchhouseref2_checkList_R (E : World) (Γ : List HP) (res : Int) (v : Value) (w : World) : Prop := v = (.int .i64 res) ∧ Holds E w Γ
def etchhouseref2_checkList_K (E : World) (Γ : List HP) (r : Int) (σ : Nat → Value) (w : World) : Prop := finQ Tryd.prog 132 Tryd.f46 (etchhouseref2_checkList_R E Γ r) .ret σ w
theorem etchhouseref2_checkList_ok (N : Nat) {E w : World} {Γ : List HP} {i0 : Nat} {v0 : Value} {p0 : (List PartType)} {i1 : Nat} {v1 : Value} {p1 : Netlist} {res : Int} (hw : Holds E w Γ) (h0 : Γ[i0]? = some (rd v0 p0)) (h1 : Γ[i1]? = some (rd v1 p1)) (hb : etchhouseref2_checkList N p0 p1 = some res) :
    Calls Tryd.prog 46 [v0, v1].toArray w (Ret (etchhouseref2_checkList_R E Γ res)) := by
  unfold etchhouseref2_checkList at hb
  refine enter Tryd.func46 rfl rfl (Nat.le_of_ble_eq_true rfl) ?_
  have hw := hw.dup (i := i0 + 0) h0
  have hw := hw.dup (i := i1 + 1) h1
  refine RC.seq ?_
  refine RC.region ?_
  refine RL.box_rd (i := 0) (v := v1) trivial rfl hw rfl rfl fun b1 w hw => ?_
  refine RL.assign (v := (.int .i64 0)) trivial rfl rfl ?_
  refine RL.nil ?_
  refine thenQ_n ?_
  refine RC.seq ?_
  refine RC.seq ?_
  refine RC.region ?_
  refine RL.fa_b trivial rfl rfl fa26_0 ?_
  refine RL.load_bf (i := 0) (f := (fun x => x.Parts)) trivial rfl hw rfl rfl fd_Netlist_0 ty23 fun v2 hw => ?_
  refine RL.len_rd (i := 0) (l := p1.Parts) trivial rfl hw rfl rfl un23 ?_
  refine RL.icmp (a := ((p1.Parts.length : Nat) : Int)) (b := 1000) trivial rfl rfl rfl rfl ?_
  refine RL.nil ?_
  refine thenQ_n ?_
  refine RC.cond (b := (decide (((p1.Parts.length : Nat) : Int) > 1000))) rfl (fun hc => ?_) (fun hc => ?_)
  · replace hb := cT hc hb
    refine RC.seq ?_
    refine RC.region ?_
    refine RL.assign (v := (.int .i64 2)) trivial rfl rfl ?_
    refine RL.nil ?_
    refine thenQ_n ?_
    refine RC.ret ?_
    refine thenQ_r ?_
    injection hb with hb; subst hb
    exact fin1 rfl rfl ⟨rfl, hw.drop 4 rfl⟩
  replace hb := cF hc hb
  refine RC.skip ?_
  refine thenQ_n ?_
  refine RC.seq ?_
  refine RC.seq ?_
  refine RC.region ?_
  refine RL.fa_b trivial rfl rfl fa26_0 ?_
  refine RL.load_bf (i := 1) (f := (fun x => x.Parts)) trivial rfl hw rfl rfl fd_Netlist_0 ty23 fun v3 hw => ?_
  refine RL.len_rd (i := 0) (l := p1.Parts) trivial rfl hw rfl rfl un23 ?_
  refine RL.move (v := (.int .i64 0)) trivial rfl rfl ?_
  refine RL.nil ?_
  refine thenQ_n ?_
  obtain ⟨o567, hN, hb⟩ := bd hb
  refine RC.range (fun (k4 : Nat) (s5 : Unit) (σ : Nat → Value) (w : World) => agree σ [(0, v0), (3, (.pointer (some ⟨b1, 0, none⟩))), (16, v3), (17, (.int .i64 ((p1.Parts.length : Nat) : Int))), (18, (.int .i64 ((k4 : Nat) : Int)))] ∧ Holds E w ([rd v0 p0, bx 26 b1 p1, rd v3 p1.Parts] ++ Γ)) (fun (s5 : Unit) (σ : Nat → Value) (w : World) => agree σ [(0, v0), (3, (.pointer (some ⟨b1, 0, none⟩)))] ∧ Holds E w ([rd v0 p0, bx 26 b1 p1, rd v3 p1.Parts] ++ Γ)) (etchhouseref2_checkList_K E Γ) hN ?_ ?_ ?_ ?_ ?_ 
  · exact ⟨⟨rfl, rfl, rfl, rfl, rfl, trivial⟩, hw.pick 5 [4, 2, 0] (new := [rd v0 p0, bx 26 b1 p1, rd v3 p1.Parts]) rfl rfl (by decide) (by decide)⟩
  · intro hm s5 σ w hI
    obtain ⟨ha, hw⟩ := hI
    obtain ⟨τ, rfl⟩ := ha.ups
    refine RC.seq ?_
    refine RC.region ?_
    refine RL.icmp (a := ((p1.Parts.length : Nat) : Int)) (b := ((p1.Parts.length : Nat) : Int)) trivial rfl rfl rfl rfl ?_
    refine RL.nil ?_
    refine thenQ_n ?_
    refine RC.seq ?_
    refine RC.cond_f dge ?_
    refine RC.exit ?_
    refine thenQ_x ?_
    exact ⟨rfl, ⟨rfl, rfl, trivial⟩, hw.pick 3 [0, 1, 2] (new := [rd v0 p0, bx 26 b1 p1, rd v3 p1.Parts]) rfl rfl (by decide) (by decide)⟩
  · intro hm k4 s5 fl σ w hk hI hb
    obtain ⟨ha, hw⟩ := hI
    obtain ⟨τ, rfl⟩ := ha.ups
    refine RC.seq ?_
    refine RC.region ?_
    refine RL.icmp (a := ((k4 : Nat) : Int)) (b := ((p1.Parts.length : Nat) : Int)) trivial rfl rfl rfl rfl ?_
    refine RL.nil ?_
    refine thenQ_n ?_
    refine RC.seq ?_
    refine RC.cond_t (dlt hk) ?_
    refine RC.skip ?_
    refine thenQ_n ?_
    refine RC.seq ?_
    refine RC.block ?_
    refine RC.seq ?_
    refine RC.region ?_
    refine RL.move (v := (.int .i64 ((k4 : Nat) : Int))) trivial rfl rfl ?_
    obtain ⟨x81, hx81, hb⟩ := bd hb
    refine RL.ia_rd (i := 2) trivial rfl hw rfl rfl rfl sl23 hx81 fun v82 hw => ?_
    refine RL.load_pt (i := 0) (x := x81) trivial rfl hw rfl rfl ty87 fun v83 hw => ?_
    refine RL.alloc trivial rfl hw ze87.z fun b84 w hw => ?_
    refine RL.assign (v := (.int .i64 ((k4 : Nat) : Int))) trivial rfl rfl ?_
    refine RL.store_raw (i := 0) (j := 1) trivial hw rfl rfl rfl rfl ty87 rfl fun w hw => ?_
    refine RL.nil ?_
    refine thenQ_n ?_
    refine RC.block ?_
    refine RC.seq ?_
    refine RC.region ?_
    refine RL.fa_b trivial rfl rfl fa87_0 ?_
    refine RL.load_bfs (i := 0) (f := (fun x => x.Name)) trivial rfl hw rfl rfl fd_Part_0 ty9 ?_
    obtain ⟨x85, hx85, hb⟩ := bd hb
    refine RL.call trivial rfl fn102 [(str x81.Name)] rfl (Calls_ret (etchhouseref2_IsPath_ok N (p0 := x81.Name)  hw  hx85) ?_)
    rintro _ w ⟨rfl, hw⟩
    refine RL.not (b := x85) trivial rfl rfl ?_
    refine RL.assign (v := (.bool (!x85))) trivial rfl rfl ?_
    refine RL.nil ?_
    refine thenQ_n ?_
    refine RC.cond (b := (!x85)) rfl (fun hc => ?_) (fun hc => ?_)
    · replace hb := cT hc hb
      refine RC.seq ?_
      refine RC.region ?_
      refine RL.assign (v := (.int .i64 5)) trivial rfl rfl ?_
      refine RL.nil ?_
      refine thenQ_n ?_
      refine RC.ret ?_
      refine blkQ_r ?_
      refine blkQ_r ?_
      refine thenQ_r ?_
      injection hb with hb; subst hb
      exact ⟨rfl, fin1 rfl rfl ⟨rfl, hw.drop 6 rfl⟩⟩
    replace hb := cF hc hb
    refine RC.seq ?_
    refine RC.region ?_
    refine RL.move (v := v0) trivial rfl rfl ?_
    refine RL.fa_b trivial rfl rfl fa87_1 ?_
    refine RL.load_bfs (i := 0) (f := (fun x => x.Type_)) trivial rfl hw rfl rfl fd_Part_1 ty9 ?_
    obtain ⟨x121, hx121, hb⟩ := bd hb
    refine RL.call trivial rfl fn69 [v0, (str x81.Type_)] rfl (Calls_ret (etchhouseref2_typeOf_ok N (p1 := x81.Type_) (i0 := 3) hw rfl hx121) ?_)
    rintro _ w ⟨rfl, hw⟩
    refine RL.icmp (a := x121) (b := 0) trivial rfl rfl rfl rfl ?_
    refine RL.assign (v := (.bool (decide (x121 < 0)))) trivial rfl rfl ?_
    refine RL.nil ?_
    refine thenQ_n ?_
    refine RC.cond (b := (decide (x121 < 0))) rfl (fun hc => ?_) (fun hc => ?_)
    · replace hb := cT hc hb
      refine RC.seq ?_
      refine RC.region ?_
      refine RL.assign (v := (.int .i64 9)) trivial rfl rfl ?_
      refine RL.nil ?_
      refine thenQ_n ?_
      refine RC.ret ?_
      refine blkQ_r ?_
      refine blkQ_r ?_
      refine thenQ_r ?_
      injection hb with hb; subst hb
      exact ⟨rfl, fin1 rfl rfl ⟨rfl, hw.drop 6 rfl⟩⟩
    replace hb := cF hc hb
    refine RC.seq ?_
    obtain ⟨s147, hj, hb⟩ := bd hb
    refine RC.jn (fun (s147 : Bool) (σ : Nat → Value) (w : World) => agree σ [(0, v0), (3, (.pointer (some ⟨b1, 0, none⟩))), (16, v3), (17, (.int .i64 ((p1.Parts.length : Nat) : Int))), (18, (.int .i64 ((k4 : Nat) : Int))), (34, (.bool s147))] ∧ Holds E w ([rd v0 p0, bx 26 b1 p1, rd v3 p1.Parts] ++ Γ)) s147 ?_ ?_
    · rcases Bool.eq_false_or_eq_true (decide (((k4 : Nat) : Int) > 0)) with hg148 | hg148
      rotate_left
      · replace hj := cF hg148 hj
        refine RC.draw mixed rfl (fun (D : Nat → Bool) (σ : Nat → Value) (w : World) => doneV D σ [(0, 35, (.int .i64 ((k4 : Nat) : Int))), (1, 36, (.bool (decide (((k4 : Nat) : Int) > 0)))), (2, 37, (.bool (decide (((k4 : Nat) : Int) > 0)))), (3, 38, undef), (4, 39, undef), (5, 40, undef), (6, 41, undef), (7, 42, undef), (8, 43, undef), (9, 44, undef), (10, 45, undef), (11, 46, undef), (12, 47, undef), (13, 48, (.bool false)), (14, 34, (.bool false))] ∧ agree σ [(0, v0), (3, (.pointer (some ⟨b1, 0, none⟩))), (5, (.int .i64 ((k4 : Nat) : Int))), (6, (.pointer (some ⟨b84, 0, none⟩))), (16, v3), (17, (.int .i64 ((p1.Parts.length : Nat) : Int))), (18, (.int .i64 ((k4 : Nat) : Int)))] ∧ Holds E w ([bx 87 b84 x81, rd v83 x81, pt v82 x81, rd v0 p0, bx 26 b1 p1, rd v3 p1.Parts] ++ Γ)) ?_ ⟨?_, ?_, ?_, ?_, ?_, ?_, ?_, ?_, ?_, ?_, ?_, ?_, ?_, ?_, ?_, trivial⟩ ?_
        · have hw := hw.drew
          exact ⟨⟨(fun h => by cases h), (fun h => by cases h), (fun h => by cases h), (fun h => by cases h), (fun h => by cases h), (fun h => by cases h), (fun h => by cases h), (fun h => by cases h), (fun h => by cases h), (fun h => by cases h), (fun h => by cases h), (fun h => by cases h), (fun h => by cases h), (fun h => by cases h), (fun h => by cases h), trivial⟩, ⟨rfl, rfl, rfl, rfl, rfl, rfl, rfl, trivial⟩, hw⟩
        · intro D σ w hD hdep hJ
          obtain ⟨hv, ha, hw⟩ := hJ
          have ha2 : agree σ [(0, v0), (3, (.pointer (some ⟨b1, 0, none⟩))), (5, (.int .i64 ((k4 : Nat) : Int))), (6, (.pointer (some ⟨b84, 0, none⟩))), (16, v3), (17, (.int .i64 ((p1.Parts.length : Nat) : Int))), (18, (.int .i64 ((k4 : Nat) : Int)))] := ⟨ha.1, ha.2.1, ha.2.2.1, ha.2.2.2.1, ha.2.2.2.2.1, ha.2.2.2.2.2.1, ha.2.2.2.2.2.2.1, trivial⟩
          obtain ⟨τ, rfl⟩ := ha2.ups
          refine RL.move (v := (.int .i64 ((k4 : Nat) : Int))) trivial rfl rfl ?_
          refine RL.nil ?_
          exact ⟨rfl, ⟨fun _ => rfl, hv.2.1, hv.2.2.1, hv.2.2.2.1, hv.2.2.2.2.1, hv.2.2.2.2.2.1, hv.2.2.2.2.2.2.1, hv.2.2.2.2.2.2.2.1, hv.2.2.2.2.2.2.2.2.1, hv.2.2.2.2.2.2.2.2.2.1, hv.2.2.2.2.2.2.2.2.2.2.1, hv.2.2.2.2.2.2.2.2.2.2.2.1, hv.2.2.2.2.2.2.2.2.2.2.2.2.1, hv.2.2.2.2.2.2.2.2.2.2.2.2.2.1, hv.2.2.2.2.2.2.2.2.2.2.2.2.2.2.1, trivial⟩, ha, hw⟩
        · intro D σ w hD hdep hJ
          obtain ⟨hv, ha, hw⟩ := hJ
          have ha2 : agree σ [(35, (.int .i64 ((k4 : Nat) : Int))), (0, v0), (3, (.pointer (some ⟨b1, 0, none⟩))), (5, (.int .i64 ((k4 : Nat) : Int))), (6, (.pointer (some ⟨b84, 0, none⟩))), (16, v3), (17, (.int .i64 ((p1.Parts.length : Nat) : Int))), (18, (.int .i64 ((k4 : Nat) : Int)))] := ⟨hv.1 (hdep.1 rfl), ha.1, ha.2.1, ha.2.2.1, ha.2.2.2.1, ha.2.2.2.2.1, ha.2.2.2.2.2.1, ha.2.2.2.2.2.2.1, trivial⟩
          obtain ⟨τ, rfl⟩ := ha2.ups
          refine RL.icmp (a := ((k4 : Nat) : Int)) (b := 0) trivial rfl rfl rfl rfl ?_
          refine RL.nil ?_
          exact ⟨rfl, ⟨hv.1, fun _ => rfl, hv.2.2.1, hv.2.2.2.1, hv.2.2.2.2.1, hv.2.2.2.2.2.1, hv.2.2.2.2.2.2.1, hv.2.2.2.2.2.2.2.1, hv.2.2.2.2.2.2.2.2.1, hv.2.2.2.2.2.2.2.2.2.1, hv.2.2.2.2.2.2.2.2.2.2.1, hv.2.2.2.2.2.2.2.2.2.2.2.1, hv.2.2.2.2.2.2.2.2.2.2.2.2.1, hv.2.2.2.2.2.2.2.2.2.2.2.2.2.1, hv.2.2.2.2.2.2.2.2.2.2.2.2.2.2.1, trivial⟩, ha, hw⟩
        · intro D σ w hD hdep hJ
          obtain ⟨hv, ha, hw⟩ := hJ
          have ha2 : agree σ [(36, (.bool (decide (((k4 : Nat) : Int) > 0)))), (0, v0), (3, (.pointer (some ⟨b1, 0, none⟩))), (5, (.int .i64 ((k4 : Nat) : Int))), (6, (.pointer (some ⟨b84, 0, none⟩))), (16, v3), (17, (.int .i64 ((p1.Parts.length : Nat) : Int))), (18, (.int .i64 ((k4 : Nat) : Int)))] := ⟨hv.2.1 (hdep.1 rfl), ha.1, ha.2.1, ha.2.2.1, ha.2.2.2.1, ha.2.2.2.2.1, ha.2.2.2.2.2.1, ha.2.2.2.2.2.2.1, trivial⟩
          obtain ⟨τ, rfl⟩ := ha2.ups
          refine RL.move (v := (.bool (decide (((k4 : Nat) : Int) > 0)))) trivial rfl rfl ?_
          refine RL.nil ?_
          exact ⟨rfl, ⟨hv.1, hv.2.1, fun _ => rfl, hv.2.2.2.1, hv.2.2.2.2.1, hv.2.2.2.2.2.1, hv.2.2.2.2.2.2.1, hv.2.2.2.2.2.2.2.1, hv.2.2.2.2.2.2.2.2.1, hv.2.2.2.2.2.2.2.2.2.1, hv.2.2.2.2.2.2.2.2.2.2.1, hv.2.2.2.2.2.2.2.2.2.2.2.1, hv.2.2.2.2.2.2.2.2.2.2.2.2.1, hv.2.2.2.2.2.2.2.2.2.2.2.2.2.1, hv.2.2.2.2.2.2.2.2.2.2.2.2.2.2.1, trivial⟩, ha, hw⟩
        · intro D σ w hD hdep hJ
          obtain ⟨hv, ha, hw⟩ := hJ
          have ha2 : agree σ [(37, (.bool (decide (((k4 : Nat) : Int) > 0)))), (0, v0), (3, (.pointer (some ⟨b1, 0, none⟩))), (5, (.int .i64 ((k4 : Nat) : Int))), (6, (.pointer (some ⟨b84, 0, none⟩))), (16, v3), (17, (.int .i64 ((p1.Parts.length : Nat) : Int))), (18, (.int .i64 ((k4 : Nat) : Int)))] := ⟨hv.2.2.1 (hdep.1 rfl), ha.1, ha.2.1, ha.2.2.1, ha.2.2.2.1, ha.2.2.2.2.1, ha.2.2.2.2.2.1, ha.2.2.2.2.2.2.1, trivial⟩
          obtain ⟨τ, rfl⟩ := ha2.ups
          refine RL.skip rfl (.inl (congrArg Value.bool hg148)) rfl ?_
          refine RL.nil ?_
          exact ⟨rfl, ⟨hv.1, hv.2.1, hv.2.2.1, fun _ => rfl, hv.2.2.2.2.1, hv.2.2.2.2.2.1, hv.2.2.2.2.2.2.1, hv.2.2.2.2.2.2.2.1, hv.2.2.2.2.2.2.2.2.1, hv.2.2.2.2.2.2.2.2.2.1, hv.2.2.2.2.2.2.2.2.2.2.1, hv.2.2.2.2.2.2.2.2.2.2.2.1, hv.2.2.2.2.2.2.2.2.2.2.2.2.1, hv.2.2.2.2.2.2.2.2.2.2.2.2.2.1, hv.2.2.2.2.2.2.2.2.2.2.2.2.2.2.1, trivial⟩, ha, hw⟩
        · intro D σ w hD hdep hJ
          obtain ⟨hv, ha, hw⟩ := hJ
          have ha2 : agree σ [(38, undef), (37, (.bool (decide (((k4 : Nat) : Int) > 0)))), (0, v0), (3, (.pointer (some ⟨b1, 0, none⟩))), (5, (.int .i64 ((k4 : Nat) : Int))), (6, (.pointer (some ⟨b84, 0, none⟩))), (16, v3), (17, (.int .i64 ((p1.Parts.length : Nat) : Int))), (18, (.int .i64 ((k4 : Nat) : Int)))] := ⟨hv.2.2.2.1 (hdep.1 rfl), hv.2.2.1 (hdep.2.1 rfl), ha.1, ha.2.1, ha.2.2.1, ha.2.2.2.1, ha.2.2.2.2.1, ha.2.2.2.2.2.1, ha.2.2.2.2.2.2.1, trivial⟩
          obtain ⟨τ, rfl⟩ := ha2.ups
          refine RL.skip rfl (.inl (congrArg Value.bool hg148)) rfl ?_
          refine RL.nil ?_
          exact ⟨rfl, ⟨hv.1, hv.2.1, hv.2.2.1, hv.2.2.2.1, fun _ => rfl, hv.2.2.2.2.2.1, hv.2.2.2.2.2.2.1, hv.2.2.2.2.2.2.2.1, hv.2.2.2.2.2.2.2.2.1, hv.2.2.2.2.2.2.2.2.2.1, hv.2.2.2.2.2.2.2.2.2.2.1, hv.2.2.2.2.2.2.2.2.2.2.2.1, hv.2.2.2.2.2.2.2.2.2.2.2.2.1, hv.2.2.2.2.2.2.2.2.2.2.2.2.2.1, hv.2.2.2.2.2.2.2.2.2.2.2.2.2.2.1, trivial⟩, ha, hw⟩
        · intro D σ w hD hdep hJ
          obtain ⟨hv, ha, hw⟩ := hJ
          have ha2 : agree σ [(37, (.bool (decide (((k4 : Nat) : Int) > 0)))), (0, v0), (3, (.pointer (some ⟨b1, 0, none⟩))), (5, (.int .i64 ((k4 : Nat) : Int))), (6, (.pointer (some ⟨b84, 0, none⟩))), (16, v3), (17, (.int .i64 ((p1.Parts.length : Nat) : Int))), (18, (.int .i64 ((k4 : Nat) : Int)))] := ⟨hv.2.2.1 (hdep.1 rfl), ha.1, ha.2.1, ha.2.2.1, ha.2.2.2.1, ha.2.2.2.2.1, ha.2.2.2.2.2.1, ha.2.2.2.2.2.2.1, trivial⟩
          obtain ⟨τ, rfl⟩ := ha2.ups
          refine RL.skip rfl (.inl (congrArg Value.bool hg148)) rfl ?_
          refine RL.nil ?_
          exact ⟨rfl, ⟨hv.1, hv.2.1, hv.2.2.1, hv.2.2.2.1, hv.2.2.2.2.1, fun _ => rfl, hv.2.2.2.2.2.2.1, hv.2.2.2.2.2.2.2.1, hv.2.2.2.2.2.2.2.2.1, hv.2.2.2.2.2.2.2.2.2.1, hv.2.2.2.2.2.2.2.2.2.2.1, hv.2.2.2.2.2.2.2.2.2.2.2.1, hv.2.2.2.2.2.2.2.2.2.2.2.2.1, hv.2.2.2.2.2.2.2.2.2.2.2.2.2.1, hv.2.2.2.2.2.2.2.2.2.2.2.2.2.2.1, trivial⟩, ha, hw⟩
        · intro D σ w hD hdep hJ
          obtain ⟨hv, ha, hw⟩ := hJ
          have ha2 : agree σ [(40, undef), (37, (.bool (decide (((k4 : Nat) : Int) > 0)))), (0, v0), (3, (.pointer (some ⟨b1, 0, none⟩))), (5, (.int .i64 ((k4 : Nat) : Int))), (6, (.pointer (some ⟨b84, 0, none⟩))), (16, v3), (17, (.int .i64 ((p1.Parts.length : Nat) : Int))), (18, (.int .i64 ((k4 : Nat) : Int)))] := ⟨hv.2.2.2.2.2.1 (hdep.1 rfl), hv.2.2.1 (hdep.2.1 rfl), ha.1, ha.2.1, ha.2.2.1, ha.2.2.2.1, ha.2.2.2.2.1, ha.2.2.2.2.2.1, ha.2.2.2.2.2.2.1, trivial⟩
          obtain ⟨τ, rfl⟩ := ha2.ups
          refine RL.skip rfl (.inl (congrArg Value.bool hg148)) rfl ?_
          refine RL.nil ?_
          exact ⟨rfl, ⟨hv.1, hv.2.1, hv.2.2.1, hv.2.2.2.1, hv.2.2.2.2.1, hv.2.2.2.2.2.1, fun _ => rfl, hv.2.2.2.2.2.2.2.1, hv.2.2.2.2.2.2.2.2.1, hv.2.2.2.2.2.2.2.2.2.1, hv.2.2.2.2.2.2.2.2.2.2.1, hv.2.2.2.2.2.2.2.2.2.2.2.1, hv.2.2.2.2.2.2.2.2.2.2.2.2.1, hv.2.2.2.2.2.2.2.2.2.2.2.2.2.1, hv.2.2.2.2.2.2.2.2.2.2.2.2.2.2.1, trivial⟩, ha, hw⟩
        · intro D σ w hD hdep hJ
          obtain ⟨hv, ha, hw⟩ := hJ
          have ha2 : agree σ [(37, (.bool (decide (((k4 : Nat) : Int) > 0)))), (0, v0), (3, (.pointer (some ⟨b1, 0, none⟩))), (5, (.int .i64 ((k4 : Nat) : Int))), (6, (.pointer (some ⟨b84, 0, none⟩))), (16, v3), (17, (.int .i64 ((p1.Parts.length : Nat) : Int))), (18, (.int .i64 ((k4 : Nat) : Int)))] := ⟨hv.2.2.1 (hdep.1 rfl), ha.1, ha.2.1, ha.2.2.1, ha.2.2.2.1, ha.2.2.2.2.1, ha.2.2.2.2.2.1, ha.2.2.2.2.2.2.1, trivial⟩
          obtain ⟨τ, rfl⟩ := ha2.ups
          refine RL.skip rfl (.inl (congrArg Value.bool hg148)) rfl ?_
          refine RL.nil ?_
          exact ⟨rfl, ⟨hv.1, hv.2.1, hv.2.2.1, hv.2.2.2.1, hv.2.2.2.2.1, hv.2.2.2.2.2.1, hv.2.2.2.2.2.2.1, fun _ => rfl, hv.2.2.2.2.2.2.2.2.1, hv.2.2.2.2.2.2.2.2.2.1, hv.2.2.2.2.2.2.2.2.2.2.1, hv.2.2.2.2.2.2.2.2.2.2.2.1, hv.2.2.2.2.2.2.2.2.2.2.2.2.1, hv.2.2.2.2.2.2.2.2.2.2.2.2.2.1, hv.2.2.2.2.2.2.2.2.2.2.2.2.2.2.1, trivial⟩, ha, hw⟩
        · intro D σ w hD hdep hJ
          obtain ⟨hv, ha, hw⟩ := hJ
          have ha2 : agree σ [(42, undef), (37, (.bool (decide (((k4 : Nat) : Int) > 0)))), (0, v0), (3, (.pointer (some ⟨b1, 0, none⟩))), (5, (.int .i64 ((k4 : Nat) : Int))), (6, (.pointer (some ⟨b84, 0, none⟩))), (16, v3), (17, (.int .i64 ((p1.Parts.length : Nat) : Int))), (18, (.int .i64 ((k4 : Nat) : Int)))] := ⟨hv.2.2.2.2.2.2.2.1 (hdep.1 rfl), hv.2.2.1 (hdep.2.1 rfl), ha.1, ha.2.1, ha.2.2.1, ha.2.2.2.1, ha.2.2.2.2.1, ha.2.2.2.2.2.1, ha.2.2.2.2.2.2.1, trivial⟩
          obtain ⟨τ, rfl⟩ := ha2.ups
          refine RL.skip rfl (.inl (congrArg Value.bool hg148)) rfl ?_
          refine RL.nil ?_
          exact ⟨rfl, ⟨hv.1, hv.2.1, hv.2.2.1, hv.2.2.2.1, hv.2.2.2.2.1, hv.2.2.2.2.2.1, hv.2.2.2.2.2.2.1, hv.2.2.2.2.2.2.2.1, fun _ => rfl, hv.2.2.2.2.2.2.2.2.2.1, hv.2.2.2.2.2.2.2.2.2.2.1, hv.2.2.2.2.2.2.2.2.2.2.2.1, hv.2.2.2.2.2.2.2.2.2.2.2.2.1, hv.2.2.2.2.2.2.2.2.2.2.2.2.2.1, hv.2.2.2.2.2.2.2.2.2.2.2.2.2.2.1, trivial⟩, ha, hw⟩
        · intro D σ w hD hdep hJ
          obtain ⟨hv, ha, hw⟩ := hJ
          have ha2 : agree σ [(41, undef), (43, undef), (37, (.bool (decide (((k4 : Nat) : Int) > 0)))), (0, v0), (3, (.pointer (some ⟨b1, 0, none⟩))), (5, (.int .i64 ((k4 : Nat) : Int))), (6, (.pointer (some ⟨b84, 0, none⟩))), (16, v3), (17, (.int .i64 ((p1.Parts.length : Nat) : Int))), (18, (.int .i64 ((k4 : Nat) : Int)))] := ⟨hv.2.2.2.2.2.2.1 (hdep.1 rfl), hv.2.2.2.2.2.2.2.2.1 (hdep.2.1 rfl), hv.2.2.1 (hdep.2.2.1 rfl), ha.1, ha.2.1, ha.2.2.1, ha.2.2.2.1, ha.2.2.2.2.1, ha.2.2.2.2.2.1, ha.2.2.2.2.2.2.1, trivial⟩
          obtain ⟨τ, rfl⟩ := ha2.ups
          refine RL.skip rfl (.inl (congrArg Value.bool hg148)) rfl ?_
          refine RL.nil ?_
          exact ⟨rfl, ⟨hv.1, hv.2.1, hv.2.2.1, hv.2.2.2.1, hv.2.2.2.2.1, hv.2.2.2.2.2.1, hv.2.2.2.2.2.2.1, hv.2.2.2.2.2.2.2.1, hv.2.2.2.2.2.2.2.2.1, fun _ => rfl, hv.2.2.2.2.2.2.2.2.2.2.1, hv.2.2.2.2.2.2.2.2.2.2.2.1, hv.2.2.2.2.2.2.2.2.2.2.2.2.1, hv.2.2.2.2.2.2.2.2.2.2.2.2.2.1, hv.2.2.2.2.2.2.2.2.2.2.2.2.2.2.1, trivial⟩, ha, hw⟩
        · intro D σ w hD hdep hJ
          obtain ⟨hv, ha, hw⟩ := hJ
          have ha2 : agree σ [(44, undef), (37, (.bool (decide (((k4 : Nat) : Int) > 0)))), (0, v0), (3, (.pointer (some ⟨b1, 0, none⟩))), (5, (.int .i64 ((k4 : Nat) : Int))), (6, (.pointer (some ⟨b84, 0, none⟩))), (16, v3), (17, (.int .i64 ((p1.Parts.length : Nat) : Int))), (18, (.int .i64 ((k4 : Nat) : Int)))] := ⟨hv.2.2.2.2.2.2.2.2.2.1 (hdep.1 rfl), hv.2.2.1 (hdep.2.1 rfl), ha.1, ha.2.1, ha.2.2.1, ha.2.2.2.1, ha.2.2.2.2.1, ha.2.2.2.2.2.1, ha.2.2.2.2.2.2.1, trivial⟩
          obtain ⟨τ, rfl⟩ := ha2.ups
          refine RL.skip rfl (.inl (congrArg Value.bool hg148)) rfl ?_
          refine RL.nil ?_
          exact ⟨rfl, ⟨hv.1, hv.2.1, hv.2.2.1, hv.2.2.2.1, hv.2.2.2.2.1, hv.2.2.2.2.2.1, hv.2.2.2.2.2.2.1, hv.2.2.2.2.2.2.2.1, hv.2.2.2.2.2.2.2.2.1, hv.2.2.2.2.2.2.2.2.2.1, fun _ => rfl, hv.2.2.2.2.2.2.2.2.2.2.2.1, hv.2.2.2.2.2.2.2.2.2.2.2.2.1, hv.2.2.2.2.2.2.2.2.2.2.2.2.2.1, hv.2.2.2.2.2.2.2.2.2.2.2.2.2.2.1, trivial⟩, ha, hw⟩
        · intro D σ w hD hdep hJ
          obtain ⟨hv, ha, hw⟩ := hJ
          have ha2 : agree σ [(45, undef), (37, (.bool (decide (((k4 : Nat) : Int) > 0)))), (0, v0), (3, (.pointer (some ⟨b1, 0, none⟩))), (5, (.int .i64 ((k4 : Nat) : Int))), (6, (.pointer (some ⟨b84, 0, none⟩))), (16, v3), (17, (.int .i64 ((p1.Parts.length : Nat) : Int))), (18, (.int .i64 ((k4 : Nat) : Int)))] := ⟨hv.2.2.2.2.2.2.2.2.2.2.1 (hdep.1 rfl), hv.2.2.1 (hdep.2.1 rfl), ha.1, ha.2.1, ha.2.2.1, ha.2.2.2.1, ha.2.2.2.2.1, ha.2.2.2.2.2.1, ha.2.2.2.2.2.2.1, trivial⟩
          obtain ⟨τ, rfl⟩ := ha2.ups
          refine RL.skip rfl (.inl (congrArg Value.bool hg148)) rfl ?_
          refine RL.nil ?_
          exact ⟨rfl, ⟨hv.1, hv.2.1, hv.2.2.1, hv.2.2.2.1, hv.2.2.2.2.1, hv.2.2.2.2.2.1, hv.2.2.2.2.2.2.1, hv.2.2.2.2.2.2.2.1, hv.2.2.2.2.2.2.2.2.1, hv.2.2.2.2.2.2.2.2.2.1, hv.2.2.2.2.2.2.2.2.2.2.1, fun _ => rfl, hv.2.2.2.2.2.2.2.2.2.2.2.2.1, hv.2.2.2.2.2.2.2.2.2.2.2.2.2.1, hv.2.2.2.2.2.2.2.2.2.2.2.2.2.2.1, trivial⟩, ha, hw⟩
        · intro D σ w hD hdep hJ
          obtain ⟨hv, ha, hw⟩ := hJ
          have ha2 : agree σ [(39, undef), (46, undef), (37, (.bool (decide (((k4 : Nat) : Int) > 0)))), (0, v0), (3, (.pointer (some ⟨b1, 0, none⟩))), (5, (.int .i64 ((k4 : Nat) : Int))), (6, (.pointer (some ⟨b84, 0, none⟩))), (16, v3), (17, (.int .i64 ((p1.Parts.length : Nat) : Int))), (18, (.int .i64 ((k4 : Nat) : Int)))] := ⟨hv.2.2.2.2.1 (hdep.1 rfl), hv.2.2.2.2.2.2.2.2.2.2.2.1 (hdep.2.1 rfl), hv.2.2.1 (hdep.2.2.1 rfl), ha.1, ha.2.1, ha.2.2.1, ha.2.2.2.1, ha.2.2.2.2.1, ha.2.2.2.2.2.1, ha.2.2.2.2.2.2.1, trivial⟩
          obtain ⟨τ, rfl⟩ := ha2.ups
          refine RL.skip rfl (.inl (congrArg Value.bool hg148)) rfl ?_
          refine RL.nil ?_
          exact ⟨rfl, ⟨hv.1, hv.2.1, hv.2.2.1, hv.2.2.2.1, hv.2.2.2.2.1, hv.2.2.2.2.2.1, hv.2.2.2.2.2.2.1, hv.2.2.2.2.2.2.2.1, hv.2.2.2.2.2.2.2.2.1, hv.2.2.2.2.2.2.2.2.2.1, hv.2.2.2.2.2.2.2.2.2.2.1, hv.2.2.2.2.2.2.2.2.2.2.2.1, fun _ => rfl, hv.2.2.2.2.2.2.2.2.2.2.2.2.2.1, hv.2.2.2.2.2.2.2.2.2.2.2.2.2.2.1, trivial⟩, ha, hw⟩
        · intro D σ w hD hdep hJ
          obtain ⟨hv, ha, hw⟩ := hJ
          have ha2 : agree σ [(37, (.bool (decide (((k4 : Nat) : Int) > 0)))), (47, undef), (0, v0), (3, (.pointer (some ⟨b1, 0, none⟩))), (5, (.int .i64 ((k4 : Nat) : Int))), (6, (.pointer (some ⟨b84, 0, none⟩))), (16, v3), (17, (.int .i64 ((p1.Parts.length : Nat) : Int))), (18, (.int .i64 ((k4 : Nat) : Int)))] := ⟨hv.2.2.1 (hdep.1 rfl), hv.2.2.2.2.2.2.2.2.2.2.2.2.1 (hdep.2.1 rfl), ha.1, ha.2.1, ha.2.2.1, ha.2.2.2.1, ha.2.2.2.2.1, ha.2.2.2.2.2.1, ha.2.2.2.2.2.2.1, trivial⟩
          obtain ⟨τ, rfl⟩ := ha2.ups
          refine RL.pick (b := (decide (((k4 : Nat) : Int) > 0))) (v := (.bool false)) trivial rfl rfl (by rw [hg148]; rfl) ?_
          refine RL.nil ?_
          exact ⟨rfl, ⟨hv.1, hv.2.1, hv.2.2.1, hv.2.2.2.1, hv.2.2.2.2.1, hv.2.2.2.2.2.1, hv.2.2.2.2.2.2.1, hv.2.2.2.2.2.2.2.1, hv.2.2.2.2.2.2.2.2.1, hv.2.2.2.2.2.2.2.2.2.1, hv.2.2.2.2.2.2.2.2.2.2.1, hv.2.2.2.2.2.2.2.2.2.2.2.1, hv.2.2.2.2.2.2.2.2.2.2.2.2.1, fun _ => rfl, hv.2.2.2.2.2.2.2.2.2.2.2.2.2.2.1, trivial⟩, ha, hw⟩
        · intro D σ w hD hdep hJ
          obtain ⟨hv, ha, hw⟩ := hJ
          have ha2 : agree σ [(48, (.bool false)), (37, (.bool (decide (((k4 : Nat) : Int) > 0)))), (0, v0), (3, (.pointer (some ⟨b1, 0, none⟩))), (5, (.int .i64 ((k4 : Nat) : Int))), (6, (.pointer (some ⟨b84, 0, none⟩))), (16, v3), (17, (.int .i64 ((p1.Parts.length : Nat) : Int))), (18, (.int .i64 ((k4 : Nat) : Int)))] := ⟨hv.2.2.2.2.2.2.2.2.2.2.2.2.2.1 (hdep.1 rfl), hv.2.2.1 (hdep.2.1 rfl), ha.1, ha.2.1, ha.2.2.1, ha.2.2.2.1, ha.2.2.2.2.1, ha.2.2.2.2.2.1, ha.2.2.2.2.2.2.1, trivial⟩
          obtain ⟨τ, rfl⟩ := ha2.ups
          refine RL.assign (v := (.bool false)) trivial rfl rfl ?_
          refine RL.nil ?_
          exact ⟨rfl, ⟨hv.1, hv.2.1, hv.2.2.1, hv.2.2.2.1, hv.2.2.2.2.1, hv.2.2.2.2.2.1, hv.2.2.2.2.2.2.1, hv.2.2.2.2.2.2.2.1, hv.2.2.2.2.2.2.2.2.1, hv.2.2.2.2.2.2.2.2.2.1, hv.2.2.2.2.2.2.2.2.2.2.1, hv.2.2.2.2.2.2.2.2.2.2.2.1, hv.2.2.2.2.2.2.2.2.2.2.2.2.1, hv.2.2.2.2.2.2.2.2.2.2.2.2.2.1, fun _ => rfl, trivial⟩, ha, hw⟩
        intro D σ w hall hJ
        obtain ⟨hv, ha, hw⟩ := hJ
        have ha2 : agree σ [(34, (.bool false)), (0, v0), (3, (.pointer (some ⟨b1, 0, none⟩))), (5, (.int .i64 ((k4 : Nat) : Int))), (6, (.pointer (some ⟨b84, 0, none⟩))), (16, v3), (17, (.int .i64 ((p1.Parts.length : Nat) : Int))), (18, (.int .i64 ((k4 : Nat) : Int)))] := ⟨hv.2.2.2.2.2.2.2.2.2.2.2.2.2.2.1 (hall 14 (by decide)), ha.1, ha.2.1, ha.2.2.1, ha.2.2.2.1, ha.2.2.2.2.1, ha.2.2.2.2.2.1, ha.2.2.2.2.2.2.1, trivial⟩
        obtain ⟨τ, rfl⟩ := ha2.ups
        injection hj with hj; subst hj
        exact ⟨rfl, ⟨rfl, rfl, rfl, rfl, rfl, rfl, trivial⟩, hw.pick 6 [3, 4, 5] (new := [rd v0 p0, bx 26 b1 p1, rd v3 p1.Parts]) rfl rfl (by decide) (by decide)⟩
      replace hj := cT hg148 hj
      obtain ⟨x150, hx150, hj⟩ := bd hj
      refine RC.draw mixed rfl (fun (D : Nat → Bool) (σ : Nat → Value) (w : World) => ∃ v149 v151 v152 : Value, doneV D σ [(0, 35, (.int .i64 ((k4 : Nat) : Int))), (1, 36, (.bool (decide (((k4 : Nat) : Int) > 0)))), (2, 37, (.bool (decide (((k4 : Nat) : Int) > 0)))), (3, 38, (.pointer (some ⟨b84, 0, none⟩))), (4, 39, (str x81.Name)), (5, 40, (.pointer (some ⟨b1, 0, none⟩))), (6, 41, v149), (7, 42, (.int .i64 ((k4 : Nat) : Int))), (8, 43, (.int .i64 (IntKind.wrap .i64 (((k4 : Nat) : Int) - 1)))), (9, 44, v151), (10, 45, v152), (11, 46, (str x150.Name)), (12, 47, (.bool (x81.Name.ltb x150.Name || x81.Name.eqb x150.Name))), (13, 48, (.bool (x81.Name.ltb x150.Name || x81.Name.eqb x150.Name))), (14, 34, (.bool (x81.Name.ltb x150.Name || x81.Name.eqb x150.Name)))] ∧ agree σ [(0, v0), (3, (.pointer (some ⟨b1, 0, none⟩))), (5, (.int .i64 ((k4 : Nat) : Int))), (6, (.pointer (some ⟨b84, 0, none⟩))), (16, v3), (17, (.int .i64 ((p1.Parts.length : Nat) : Int))), (18, (.int .i64 ((k4 : Nat) : Int)))] ∧ Holds E w ([bif D 6 then (rd v149 p1.Parts) else junk, bif D 9 then (pt v151 x150) else junk, bif D 10 then (pt v152 x150.Name) else junk, bx 87 b84 x81, rd v83 x81, pt v82 x81, rd v0 p0, bx 26 b1 p1, rd v3 p1.Parts] ++ Γ)) ?_ ⟨?_, ?_, ?_, ?_, ?_, ?_, ?_, ?_, ?_, ?_, ?_, ?_, ?_, ?_, ?_, trivial⟩ ?_
      · have hw := hw.drew
        have hw := hw.junk
        have hw := hw.junk
        have hw := hw.junk
        exact ⟨undef, undef, undef, ⟨(fun h => by cases h), (fun h => by cases h), (fun h => by cases h), (fun h => by cases h), (fun h => by cases h), (fun h => by cases h), (fun h => by cases h), (fun h => by cases h), (fun h => by cases h), (fun h => by cases h), (fun h => by cases h), (fun h => by cases h), (fun h => by cases h), (fun h => by cases h), (fun h => by cases h), trivial⟩, ⟨rfl, rfl, rfl, rfl, rfl, rfl, rfl, trivial⟩, hw⟩
      · intro D σ w hD hdep hJ
        obtain ⟨v149, v151, v152, hv, ha, hw⟩ := hJ
        have ha2 : agree σ [(0, v0), (3, (.pointer (some ⟨b1, 0, none⟩))), (5, (.int .i64 ((k4 : Nat) : Int))), (6, (.pointer (some ⟨b84, 0, none⟩))), (16, v3), (17, (.int .i64 ((p1.Parts.length : Nat) : Int))), (18, (.int .i64 ((k4 : Nat) : Int)))] := ⟨ha.1, ha.2.1, ha.2.2.1, ha.2.2.2.1, ha.2.2.2.2.1, ha.2.2.2.2.2.1, ha.2.2.2.2.2.2.1, trivial⟩
        obtain ⟨τ, rfl⟩ := ha2.ups
        refine RL.move (v := (.int .i64 ((k4 : Nat) : Int))) trivial rfl rfl ?_
        refine RL.nil ?_
        exact ⟨rfl, v149, v151, v152, ⟨fun _ => rfl, hv.2.1, hv.2.2.1, hv.2.2.2.1, hv.2.2.2.2.1, hv.2.2.2.2.2.1, hv.2.2.2.2.2.2.1, hv.2.2.2.2.2.2.2.1, hv.2.2.2.2.2.2.2.2.1, hv.2.2.2.2.2.2.2.2.2.1, hv.2.2.2.2.2.2.2.2.2.2.1, hv.2.2.2.2.2.2.2.2.2.2.2.1, hv.2.2.2.2.2.2.2.2.2.2.2.2.1, hv.2.2.2.2.2.2.2.2.2.2.2.2.2.1, hv.2.2.2.2.2.2.2.2.2.2.2.2.2.2.1, trivial⟩, ha, hw⟩
      · intro D σ w hD hdep hJ
        obtain ⟨v149, v151, v152, hv, ha, hw⟩ := hJ
        have ha2 : agree σ [(35, (.int .i64 ((k4 : Nat) : Int))), (0, v0), (3, (.pointer (some ⟨b1, 0, none⟩))), (5, (.int .i64 ((k4 : Nat) : Int))), (6, (.pointer (some ⟨b84, 0, none⟩))), (16, v3), (17, (.int .i64 ((p1.Parts.length : Nat) : Int))), (18, (.int .i64 ((k4 : Nat) : Int)))] := ⟨hv.1 (hdep.1 rfl), ha.1, ha.2.1, ha.2.2.1, ha.2.2.2.1, ha.2.2.2.2.1, ha.2.2.2.2.2.1, ha.2.2.2.2.2.2.1, trivial⟩
        obtain ⟨τ, rfl⟩ := ha2.ups
        refine RL.icmp (a := ((k4 : Nat) : Int)) (b := 0) trivial rfl rfl rfl rfl ?_
        refine RL.nil ?_
        exact ⟨rfl, v149, v151, v152, ⟨hv.1, fun _ => rfl, hv.2.2.1, hv.2.2.2.1, hv.2.2.2.2.1, hv.2.2.2.2.2.1, hv.2.2.2.2.2.2.1, hv.2.2.2.2.2.2.2.1, hv.2.2.2.2.2.2.2.2.1, hv.2.2.2.2.2.2.2.2.2.1, hv.2.2.2.2.2.2.2.2.2.2.1, hv.2.2.2.2.2.2.2.2.2.2.2.1, hv.2.2.2.2.2.2.2.2.2.2.2.2.1, hv.2.2.2.2.2.2.2.2.2.2.2.2.2.1, hv.2.2.2.2.2.2.2.2.2.2.2.2.2.2.1, trivial⟩, ha, hw⟩
      · intro D σ w hD hdep hJ
        obtain ⟨v149, v151, v152, hv, ha, hw⟩ := hJ
        have ha2 : agree σ [(36, (.bool (decide (((k4 : Nat) : Int) > 0)))), (0, v0), (3, (.pointer (some ⟨b1, 0, none⟩))), (5, (.int .i64 ((k4 : Nat) : Int))), (6, (.pointer (some ⟨b84, 0, none⟩))), (16, v3), (17, (.int .i64 ((p1.Parts.length : Nat) : Int))), (18, (.int .i64 ((k4 : Nat) : Int)))] := ⟨hv.2.1 (hdep.1 rfl), ha.1, ha.2.1, ha.2.2.1, ha.2.2.2.1, ha.2.2.2.2.1, ha.2.2.2.2.2.1, ha.2.2.2.2.2.2.1, trivial⟩
        obtain ⟨τ, rfl⟩ := ha2.ups
        refine RL.move (v := (.bool (decide (((k4 : Nat) : Int) > 0)))) trivial rfl rfl ?_
        refine RL.nil ?_
        exact ⟨rfl, v149, v151, v152, ⟨hv.1, hv.2.1, fun _ => rfl, hv.2.2.2.1, hv.2.2.2.2.1, hv.2.2.2.2.2.1, hv.2.2.2.2.2.2.1, hv.2.2.2.2.2.2.2.1, hv.2.2.2.2.2.2.2.2.1, hv.2.2.2.2.2.2.2.2.2.1, hv.2.2.2.2.2.2.2.2.2.2.1, hv.2.2.2.2.2.2.2.2.2.2.2.1, hv.2.2.2.2.2.2.2.2.2.2.2.2.1, hv.2.2.2.2.2.2.2.2.2.2.2.2.2.1, hv.2.2.2.2.2.2.2.2.2.2.2.2.2.2.1, trivial⟩, ha, hw⟩
      · intro D σ w hD hdep hJ
        obtain ⟨v149, v151, v152, hv, ha, hw⟩ := hJ
        have ha2 : agree σ [(37, (.bool (decide (((k4 : Nat) : Int) > 0)))), (0, v0), (3, (.pointer (some ⟨b1, 0, none⟩))), (5, (.int .i64 ((k4 : Nat) : Int))), (6, (.pointer (some ⟨b84, 0, none⟩))), (16, v3), (17, (.int .i64 ((p1.Parts.length : Nat) : Int))), (18, (.int .i64 ((k4 : Nat) : Int)))] := ⟨hv.2.2.1 (hdep.1 rfl), ha.1, ha.2.1, ha.2.2.1, ha.2.2.2.1, ha.2.2.2.2.1, ha.2.2.2.2.2.1, ha.2.2.2.2.2.2.1, trivial⟩
        obtain ⟨τ, rfl⟩ := ha2.ups
        refine RL.fa_b ⟨_, rfl, congrArg Value.bool hg148⟩ rfl rfl fa87_0 ?_
        refine RL.nil ?_
        exact ⟨rfl, v149, v151, v152, ⟨hv.1, hv.2.1, hv.2.2.1, fun _ => rfl, hv.2.2.2.2.1, hv.2.2.2.2.2.1, hv.2.2.2.2.2.2.1, hv.2.2.2.2.2.2.2.1, hv.2.2.2.2.2.2.2.2.1, hv.2.2.2.2.2.2.2.2.2.1, hv.2.2.2.2.2.2.2.2.2.2.1, hv.2.2.2.2.2.2.2.2.2.2.2.1, hv.2.2.2.2.2.2.2.2.2.2.2.2.1, hv.2.2.2.2.2.2.2.2.2.2.2.2.2.1, hv.2.2.2.2.2.2.2.2.2.2.2.2.2.2.1, trivial⟩, ha, hw⟩
      · intro D σ w hD hdep hJ
        obtain ⟨v149, v151, v152, hv, ha, hw⟩ := hJ
        have ha2 : agree σ [(38, (.pointer (some ⟨b84, 0, none⟩))), (37, (.bool (decide (((k4 : Nat) : Int) > 0)))), (0, v0), (3, (.pointer (some ⟨b1, 0, none⟩))), (5, (.int .i64 ((k4 : Nat) : Int))), (6, (.pointer (some ⟨b84, 0, none⟩))), (16, v3), (17, (.int .i64 ((p1.Parts.length : Nat) : Int))), (18, (.int .i64 ((k4 : Nat) : Int)))] := ⟨hv.2.2.2.1 (hdep.1 rfl), hv.2.2.1 (hdep.2.1 rfl), ha.1, ha.2.1, ha.2.2.1, ha.2.2.2.1, ha.2.2.2.2.1, ha.2.2.2.2.2.1, ha.2.2.2.2.2.2.1, trivial⟩
        obtain ⟨τ, rfl⟩ := ha2.ups
        refine RL.load_bfs (i := 3) (f := (fun x => x.Name)) ⟨_, rfl, congrArg Value.bool hg148⟩ rfl hw rfl rfl fd_Part_0 ty9 ?_
        refine RL.nil ?_
        exact ⟨rfl, v149, v151, v152, ⟨hv.1, hv.2.1, hv.2.2.1, hv.2.2.2.1, fun _ => rfl, hv.2.2.2.2.2.1, hv.2.2.2.2.2.2.1, hv.2.2.2.2.2.2.2.1, hv.2.2.2.2.2.2.2.2.1, hv.2.2.2.2.2.2.2.2.2.1, hv.2.2.2.2.2.2.2.2.2.2.1, hv.2.2.2.2.2.2.2.2.2.2.2.1, hv.2.2.2.2.2.2.2.2.2.2.2.2.1, hv.2.2.2.2.2.2.2.2.2.2.2.2.2.1, hv.2.2.2.2.2.2.2.2.2.2.2.2.2.2.1, trivial⟩, ha, hw⟩
      · intro D σ w hD hdep hJ
        obtain ⟨v149, v151, v152, hv, ha, hw⟩ := hJ
        have ha2 : agree σ [(37, (.bool (decide (((k4 : Nat) : Int) > 0)))), (0, v0), (3, (.pointer (some ⟨b1, 0, none⟩))), (5, (.int .i64 ((k4 : Nat) : Int))), (6, (.pointer (some ⟨b84, 0, none⟩))), (16, v3), (17, (.int .i64 ((p1.Parts.length : Nat) : Int))), (18, (.int .i64 ((k4 : Nat) : Int)))] := ⟨hv.2.2.1 (hdep.1 rfl), ha.1, ha.2.1, ha.2.2.1, ha.2.2.2.1, ha.2.2.2.2.1, ha.2.2.2.2.2.1, ha.2.2.2.2.2.2.1, trivial⟩
        obtain ⟨τ, rfl⟩ := ha2.ups
        refine RL.fa_b ⟨_, rfl, congrArg Value.bool hg148⟩ rfl rfl fa26_0 ?_
        refine RL.nil ?_
        exact ⟨rfl, v149, v151, v152, ⟨hv.1, hv.2.1, hv.2.2.1, hv.2.2.2.1, hv.2.2.2.2.1, fun _ => rfl, hv.2.2.2.2.2.2.1, hv.2.2.2.2.2.2.2.1, hv.2.2.2.2.2.2.2.2.1, hv.2.2.2.2.2.2.2.2.2.1, hv.2.2.2.2.2.2.2.2.2.2.1, hv.2.2.2.2.2.2.2.2.2.2.2.1, hv.2.2.2.2.2.2.2.2.2.2.2.2.1, hv.2.2.2.2.2.2.2.2.2.2.2.2.2.1, hv.2.2.2.2.2.2.2.2.2.2.2.2.2.2.1, trivial⟩, ha, hw⟩
      · intro D σ w hD hdep hJ
        obtain ⟨v149, v151, v152, hv, ha, hw⟩ := hJ
        have ha2 : agree σ [(40, (.pointer (some ⟨b1, 0, none⟩))), (37, (.bool (decide (((k4 : Nat) : Int) > 0)))), (0, v0), (3, (.pointer (some ⟨b1, 0, none⟩))), (5, (.int .i64 ((k4 : Nat) : Int))), (6, (.pointer (some ⟨b84, 0, none⟩))), (16, v3), (17, (.int .i64 ((p1.Parts.length : Nat) : Int))), (18, (.int .i64 ((k4 : Nat) : Int)))] := ⟨hv.2.2.2.2.2.1 (hdep.1 rfl), hv.2.2.1 (hdep.2.1 rfl), ha.1, ha.2.1, ha.2.2.1, ha.2.2.2.1, ha.2.2.2.2.1, ha.2.2.2.2.2.1, ha.2.2.2.2.2.2.1, trivial⟩
        obtain ⟨τ, rfl⟩ := ha2.ups
        refine RL.load_bf (i := 7) (f := (fun x => x.Parts)) ⟨_, rfl, congrArg Value.bool hg148⟩ rfl hw rfl rfl fd_Netlist_0 ty23 fun v153 hw => ?_
        have hw := hw.fillat 0 1 0 rfl rfl rfl (by simp)
        refine RL.nil ?_
        exact ⟨rfl, v153, v151, v152, ⟨hv.1, hv.2.1, hv.2.2.1, hv.2.2.2.1, hv.2.2.2.2.1, hv.2.2.2.2.2.1, fun _ => rfl, hv.2.2.2.2.2.2.2.1, hv.2.2.2.2.2.2.2.2.1, hv.2.2.2.2.2.2.2.2.2.1, hv.2.2.2.2.2.2.2.2.2.2.1, hv.2.2.2.2.2.2.2.2.2.2.2.1, hv.2.2.2.2.2.2.2.2.2.2.2.2.1, hv.2.2.2.2.2.2.2.2.2.2.2.2.2.1, hv.2.2.2.2.2.2.2.2.2.2.2.2.2.2.1, trivial⟩, ha, hw⟩
      · intro D σ w hD hdep hJ
        obtain ⟨v149, v151, v152, hv, ha, hw⟩ := hJ
        have ha2 : agree σ [(37, (.bool (decide (((k4 : Nat) : Int) > 0)))), (0, v0), (3, (.pointer (some ⟨b1, 0, none⟩))), (5, (.int .i64 ((k4 : Nat) : Int))), (6, (.pointer (some ⟨b84, 0, none⟩))), (16, v3), (17, (.int .i64 ((p1.Parts.length : Nat) : Int))), (18, (.int .i64 ((k4 : Nat) : Int)))] := ⟨hv.2.2.1 (hdep.1 rfl), ha.1, ha.2.1, ha.2.2.1, ha.2.2.2.1, ha.2.2.2.2.1, ha.2.2.2.2.2.1, ha.2.2.2.2.2.2.1, trivial⟩
        obtain ⟨τ, rfl⟩ := ha2.ups
        refine RL.move (v := (.int .i64 ((k4 : Nat) : Int))) ⟨_, rfl, congrArg Value.bool hg148⟩ rfl rfl ?_
        refine RL.nil ?_
        exact ⟨rfl, v149, v151, v152, ⟨hv.1, hv.2.1, hv.2.2.1, hv.2.2.2.1, hv.2.2.2.2.1, hv.2.2.2.2.2.1, hv.2.2.2.2.2.2.1, fun _ => rfl, hv.2.2.2.2.2.2.2.2.1, hv.2.2.2.2.2.2.2.2.2.1, hv.2.2.2.2.2.2.2.2.2.2.1, hv.2.2.2.2.2.2.2.2.2.2.2.1, hv.2.2.2.2.2.2.2.2.2.2.2.2.1, hv.2.2.2.2.2.2.2.2.2.2.2.2.2.1, hv.2.2.2.2.2.2.2.2.2.2.2.2.2.2.1, trivial⟩, ha, hw⟩
      · intro D σ w hD hdep hJ
        obtain ⟨v149, v151, v152, hv, ha, hw⟩ := hJ
        have ha2 : agree σ [(42, (.int .i64 ((k4 : Nat) : Int))), (37, (.bool (decide (((k4 : Nat) : Int) > 0)))), (0, v0), (3, (.pointer (some ⟨b1, 0, none⟩))), (5, (.int .i64 ((k4 : Nat) : Int))), (6, (.pointer (some ⟨b84, 0, none⟩))), (16, v3), (17, (.int .i64 ((p1.Parts.length : Nat) : Int))), (18, (.int .i64 ((k4 : Nat) : Int)))] := ⟨hv.2.2.2.2.2.2.2.1 (hdep.1 rfl), hv.2.2.1 (hdep.2.1 rfl), ha.1, ha.2.1, ha.2.2.1, ha.2.2.2.1, ha.2.2.2.2.1, ha.2.2.2.2.2.1, ha.2.2.2.2.2.2.1, trivial⟩
        obtain ⟨τ, rfl⟩ := ha2.ups
        refine RL.iar (a := ((k4 : Nat) : Int)) (b := 1) ⟨_, rfl, congrArg Value.bool hg148⟩ rfl rfl rfl rfl ?_
        refine RL.nil ?_
        exact ⟨rfl, v149, v151, v152, ⟨hv.1, hv.2.1, hv.2.2.1, hv.2.2.2.1, hv.2.2.2.2.1, hv.2.2.2.2.2.1, hv.2.2.2.2.2.2.1, hv.2.2.2.2.2.2.2.1, fun _ => rfl, hv.2.2.2.2.2.2.2.2.2.1, hv.2.2.2.2.2.2.2.2.2.2.1, hv.2.2.2.2.2.2.2.2.2.2.2.1, hv.2.2.2.2.2.2.2.2.2.2.2.2.1, hv.2.2.2.2.2.2.2.2.2.2.2.2.2.1, hv.2.2.2.2.2.2.2.2.2.2.2.2.2.2.1, trivial⟩, ha, hw⟩
      · intro D σ w hD hdep hJ
        obtain ⟨v149, v151, v152, hv, ha, hw⟩ := hJ
        have ha2 : agree σ [(41, v149), (43, (.int .i64 (IntKind.wrap .i64 (((k4 : Nat) : Int) - 1)))), (37, (.bool (decide (((k4 : Nat) : Int) > 0)))), (0, v0), (3, (.pointer (some ⟨b1, 0, none⟩))), (5, (.int .i64 ((k4 : Nat) : Int))), (6, (.pointer (some ⟨b84, 0, none⟩))), (16, v3), (17, (.int .i64 ((p1.Parts.length : Nat) : Int))), (18, (.int .i64 ((k4 : Nat) : Int)))] := ⟨hv.2.2.2.2.2.2.1 (hdep.1 rfl), hv.2.2.2.2.2.2.2.2.1 (hdep.2.1 rfl), hv.2.2.1 (hdep.2.2.1 rfl), ha.1, ha.2.1, ha.2.2.1, ha.2.2.2.1, ha.2.2.2.2.1, ha.2.2.2.2.2.1, ha.2.2.2.2.2.2.1, trivial⟩
        obtain ⟨τ, rfl⟩ := ha2.ups
        refine RL.ia_rd (i := 0) ⟨_, rfl, congrArg Value.bool hg148⟩ rfl hw rfl rfl (ent_t (hdep.1 rfl)) sl23 hx150 fun v154 hw => ?_
        have hw := hw.fillat 0 1 1 rfl rfl rfl (by simp)
        refine RL.nil ?_
        exact ⟨rfl, v149, v154, v152, ⟨hv.1, hv.2.1, hv.2.2.1, hv.2.2.2.1, hv.2.2.2.2.1, hv.2.2.2.2.2.1, hv.2.2.2.2.2.2.1, hv.2.2.2.2.2.2.2.1, hv.2.2.2.2.2.2.2.2.1, fun _ => rfl, hv.2.2.2.2.2.2.2.2.2.2.1, hv.2.2.2.2.2.2.2.2.2.2.2.1, hv.2.2.2.2.2.2.2.2.2.2.2.2.1, hv.2.2.2.2.2.2.2.2.2.2.2.2.2.1, hv.2.2.2.2.2.2.2.2.2.2.2.2.2.2.1, trivial⟩, ha, hw⟩
      · intro D σ w hD hdep hJ
        obtain ⟨v149, v151, v152, hv, ha, hw⟩ := hJ
        have ha2 : agree σ [(44, v151), (37, (.bool (decide (((k4 : Nat) : Int) > 0)))), (0, v0), (3, (.pointer (some ⟨b1, 0, none⟩))), (5, (.int .i64 ((k4 : Nat) : Int))), (6, (.pointer (some ⟨b84, 0, none⟩))), (16, v3), (17, (.int .i64 ((p1.Parts.length : Nat) : Int))), (18, (.int .i64 ((k4 : Nat) : Int)))] := ⟨hv.2.2.2.2.2.2.2.2.2.1 (hdep.1 rfl), hv.2.2.1 (hdep.2.1 rfl), ha.1, ha.2.1, ha.2.2.1, ha.2.2.2.1, ha.2.2.2.2.1, ha.2.2.2.2.2.1, ha.2.2.2.2.2.2.1, trivial⟩
        obtain ⟨τ, rfl⟩ := ha2.ups
        refine RL.fa_pt (i := 1) (f := fun (x : Part) => x.Name) ⟨_, rfl, congrArg Value.bool hg148⟩ rfl hw rfl (ent_t (hdep.1 rfl)) fa87_0 fd_Part_0 fun v155 hw => ?_
        have hw := hw.fillat 0 1 2 rfl rfl rfl (by simp)
        refine RL.nil ?_
        exact ⟨rfl, v149, v151, v155, ⟨hv.1, hv.2.1, hv.2.2.1, hv.2.2.2.1, hv.2.2.2.2.1, hv.2.2.2.2.2.1, hv.2.2.2.2.2.2.1, hv.2.2.2.2.2.2.2.1, hv.2.2.2.2.2.2.2.2.1, hv.2.2.2.2.2.2.2.2.2.1, fun _ => rfl, hv.2.2.2.2.2.2.2.2.2.2.2.1, hv.2.2.2.2.2.2.2.2.2.2.2.2.1, hv.2.2.2.2.2.2.2.2.2.2.2.2.2.1, hv.2.2.2.2.2.2.2.2.2.2.2.2.2.2.1, trivial⟩, ha, hw⟩
      · intro D σ w hD hdep hJ
        obtain ⟨v149, v151, v152, hv, ha, hw⟩ := hJ
        have ha2 : agree σ [(45, v152), (37, (.bool (decide (((k4 : Nat) : Int) > 0)))), (0, v0), (3, (.pointer (some ⟨b1, 0, none⟩))), (5, (.int .i64 ((k4 : Nat) : Int))), (6, (.pointer (some ⟨b84, 0, none⟩))), (16, v3), (17, (.int .i64 ((p1.Parts.length : Nat) : Int))), (18, (.int .i64 ((k4 : Nat) : Int)))] := ⟨hv.2.2.2.2.2.2.2.2.2.2.1 (hdep.1 rfl), hv.2.2.1 (hdep.2.1 rfl), ha.1, ha.2.1, ha.2.2.1, ha.2.2.2.1, ha.2.2.2.2.1, ha.2.2.2.2.2.1, ha.2.2.2.2.2.2.1, trivial⟩
        obtain ⟨τ, rfl⟩ := ha2.ups
        refine RL.load_pts (i := 2) (y := x150.Name) ⟨_, rfl, congrArg Value.bool hg148⟩ rfl hw rfl (ent_t (hdep.1 rfl)) ty9 ?_
        refine RL.nil ?_
        exact ⟨rfl, v149, v151, v152, ⟨hv.1, hv.2.1, hv.2.2.1, hv.2.2.2.1, hv.2.2.2.2.1, hv.2.2.2.2.2.1, hv.2.2.2.2.2.2.1, hv.2.2.2.2.2.2.2.1, hv.2.2.2.2.2.2.2.2.1, hv.2.2.2.2.2.2.2.2.2.1, hv.2.2.2.2.2.2.2.2.2.2.1, fun _ => rfl, hv.2.2.2.2.2.2.2.2.2.2.2.2.1, hv.2.2.2.2.2.2.2.2.2.2.2.2.2.1, hv.2.2.2.2.2.2.2.2.2.2.2.2.2.2.1, trivial⟩, ha, hw⟩
      · intro D σ w hD hdep hJ
        obtain ⟨v149, v151, v152, hv, ha, hw⟩ := hJ
        have ha2 : agree σ [(39, (str x81.Name)), (46, (str x150.Name)), (37, (.bool (decide (((k4 : Nat) : Int) > 0)))), (0, v0), (3, (.pointer (some ⟨b1, 0, none⟩))), (5, (.int .i64 ((k4 : Nat) : Int))), (6, (.pointer (some ⟨b84, 0, none⟩))), (16, v3), (17, (.int .i64 ((p1.Parts.length : Nat) : Int))), (18, (.int .i64 ((k4 : Nat) : Int)))] := ⟨hv.2.2.2.2.1 (hdep.1 rfl), hv.2.2.2.2.2.2.2.2.2.2.2.1 (hdep.2.1 rfl), hv.2.2.1 (hdep.2.2.1 rfl), ha.1, ha.2.1, ha.2.2.1, ha.2.2.2.1, ha.2.2.2.2.1, ha.2.2.2.2.2.1, ha.2.2.2.2.2.2.1, trivial⟩
        obtain ⟨τ, rfl⟩ := ha2.ups
        refine RL.scmp (a := x81.Name) (b := x150.Name) ⟨_, rfl, congrArg Value.bool hg148⟩ rfl rfl rfl rfl ?_
        refine RL.nil ?_
        exact ⟨rfl, v149, v151, v152, ⟨hv.1, hv.2.1, hv.2.2.1, hv.2.2.2.1, hv.2.2.2.2.1, hv.2.2.2.2.2.1, hv.2.2.2.2.2.2.1, hv.2.2.2.2.2.2.2.1, hv.2.2.2.2.2.2.2.2.1, hv.2.2.2.2.2.2.2.2.2.1, hv.2.2.2.2.2.2.2.2.2.2.1, hv.2.2.2.2.2.2.2.2.2.2.2.1, fun _ => rfl, hv.2.2.2.2.2.2.2.2.2.2.2.2.2.1, hv.2.2.2.2.2.2.2.2.2.2.2.2.2.2.1, trivial⟩, ha, hw⟩
      · intro D σ w hD hdep hJ
        obtain ⟨v149, v151, v152, hv, ha, hw⟩ := hJ
        have ha2 : agree σ [(37, (.bool (decide (((k4 : Nat) : Int) > 0)))), (47, (.bool (x81.Name.ltb x150.Name || x81.Name.eqb x150.Name))), (0, v0), (3, (.pointer (some ⟨b1, 0, none⟩))), (5, (.int .i64 ((k4 : Nat) : Int))), (6, (.pointer (some ⟨b84, 0, none⟩))), (16, v3), (17, (.int .i64 ((p1.Parts.length : Nat) : Int))), (18, (.int .i64 ((k4 : Nat) : Int)))] := ⟨hv.2.2.1 (hdep.1 rfl), hv.2.2.2.2.2.2.2.2.2.2.2.2.1 (hdep.2.1 rfl), ha.1, ha.2.1, ha.2.2.1, ha.2.2.2.1, ha.2.2.2.2.1, ha.2.2.2.2.2.1, ha.2.2.2.2.2.2.1, trivial⟩
        obtain ⟨τ, rfl⟩ := ha2.ups
        refine RL.pick (b := (decide (((k4 : Nat) : Int) > 0))) (v := (.bool (x81.Name.ltb x150.Name || x81.Name.eqb x150.Name))) trivial rfl rfl (by rw [hg148]; rfl) ?_
        refine RL.nil ?_
        exact ⟨rfl, v149, v151, v152, ⟨hv.1, hv.2.1, hv.2.2.1, hv.2.2.2.1, hv.2.2.2.2.1, hv.2.2.2.2.2.1, hv.2.2.2.2.2.2.1, hv.2.2.2.2.2.2.2.1, hv.2.2.2.2.2.2.2.2.1, hv.2.2.2.2.2.2.2.2.2.1, hv.2.2.2.2.2.2.2.2.2.2.1, hv.2.2.2.2.2.2.2.2.2.2.2.1, hv.2.2.2.2.2.2.2.2.2.2.2.2.1, fun _ => rfl, hv.2.2.2.2.2.2.2.2.2.2.2.2.2.2.1, trivial⟩, ha, hw⟩
      · intro D σ w hD hdep hJ
        obtain ⟨v149, v151, v152, hv, ha, hw⟩ := hJ
        have ha2 : agree σ [(48, (.bool (x81.Name.ltb x150.Name || x81.Name.eqb x150.Name))), (37, (.bool (decide (((k4 : Nat) : Int) > 0)))), (0, v0), (3, (.pointer (some ⟨b1, 0, none⟩))), (5, (.int .i64 ((k4 : Nat) : Int))), (6, (.pointer (some ⟨b84, 0, none⟩))), (16, v3), (17, (.int .i64 ((p1.Parts.length : Nat) : Int))), (18, (.int .i64 ((k4 : Nat) : Int)))] := ⟨hv.2.2.2.2.2.2.2.2.2.2.2.2.2.1 (hdep.1 rfl), hv.2.2.1 (hdep.2.1 rfl), ha.1, ha.2.1, ha.2.2.1, ha.2.2.2.1, ha.2.2.2.2.1, ha.2.2.2.2.2.1, ha.2.2.2.2.2.2.1, trivial⟩
        obtain ⟨τ, rfl⟩ := ha2.ups
        refine RL.assign (v := (.bool (x81.Name.ltb x150.Name || x81.Name.eqb x150.Name))) trivial rfl rfl ?_
        refine RL.nil ?_
        exact ⟨rfl, v149, v151, v152, ⟨hv.1, hv.2.1, hv.2.2.1, hv.2.2.2.1, hv.2.2.2.2.1, hv.2.2.2.2.2.1, hv.2.2.2.2.2.2.1, hv.2.2.2.2.2.2.2.1, hv.2.2.2.2.2.2.2.2.1, hv.2.2.2.2.2.2.2.2.2.1, hv.2.2.2.2.2.2.2.2.2.2.1, hv.2.2.2.2.2.2.2.2.2.2.2.1, hv.2.2.2.2.2.2.2.2.2.2.2.2.1, hv.2.2.2.2.2.2.2.2.2.2.2.2.2.1, fun _ => rfl, trivial⟩, ha, hw⟩
      intro D σ w hall hJ
      obtain ⟨v149, v151, v152, hv, ha, hw⟩ := hJ
      rw [hall 6 (by decide)] at hw
      rw [hall 9 (by decide)] at hw
      rw [hall 10 (by decide)] at hw
      have ha2 : agree σ [(34, (.bool (x81.Name.ltb x150.Name || x81.Name.eqb x150.Name))), (0, v0), (3, (.pointer (some ⟨b1, 0, none⟩))), (5, (.int .i64 ((k4 : Nat) : Int))), (6, (.pointer (some ⟨b84, 0, none⟩))), (16, v3), (17, (.int .i64 ((p1.Parts.length : Nat) : Int))), (18, (.int .i64 ((k4 : Nat) : Int)))] := ⟨hv.2.2.2.2.2.2.2.2.2.2.2.2.2.2.1 (hall 14 (by decide)), ha.1, ha.2.1, ha.2.2.1, ha.2.2.2.1, ha.2.2.2.2.1, ha.2.2.2.2.2.1, ha.2.2.2.2.2.2.1, trivial⟩
      obtain ⟨τ, rfl⟩ := ha2.ups
      injection hj with hj; subst hj
      exact ⟨rfl, ⟨rfl, rfl, rfl, rfl, rfl, rfl, trivial⟩, hw.pick 9 [6, 7, 8] (new := [rd v0 p0, bx 26 b1 p1, rd v3 p1.Parts]) rfl rfl (by decide) (by decide)⟩
    rintro σ w ⟨ha, hw⟩
    obtain ⟨τ, rfl⟩ := ha.ups
    refine thenQ_n ?_
    refine RC.cond (b := s147) rfl (fun hc => ?_) (fun hc => ?_)
    rotate_left
    · replace hb := cF hc hb
      refine RC.skip ?_
      refine blkQ_n ?_
      refine blkQ_n ?_
      refine thenQ_n ?_
      refine RC.region ?_
      refine RL.inc trivial rfl hk hm rfl rfl ?_
      refine RL.move (v := (.int .i64 ((k4 + 1 : Nat) : Int))) trivial rfl rfl ?_
      refine RL.nil ?_
      injection hb with hb; subst hb
      exact ⟨rfl, ⟨rfl, rfl, rfl, rfl, rfl, trivial⟩, hw.pick 3 [0, 1, 2] (new := [rd v0 p0, bx 26 b1 p1, rd v3 p1.Parts]) rfl rfl (by decide) (by decide)⟩
    replace hb := cT hc hb
    refine RC.seq ?_
    refine RC.region ?_
    refine RL.assign (v := (.int .i64 8)) trivial rfl rfl ?_
    refine RL.nil ?_
    refine thenQ_n ?_
    refine RC.ret ?_
    refine blkQ_r ?_
    refine blkQ_r ?_
    refine thenQ_r ?_
    injection hb with hb; subst hb
    exact ⟨rfl, fin1 rfl rfl ⟨rfl, hw.drop 3 rfl⟩⟩
  · intro r σ w e hK
    subst e
    refine thenQ_r ?_
    injection hb with hb; subst hb
    exact hK
  intro s5 σ w e hJ
  subst e
  rw [Fo.cs_go] at hb
  obtain ⟨ha, hw⟩ := hJ
  obtain ⟨τ, rfl⟩ := ha.ups
  refine thenQ_n ?_
  refine RC.seq ?_
  refine RC.seq ?_
  refine RC.region ?_
  refine RL.fa_b trivial rfl rfl fa26_1 ?_
  refine RL.load_bf (i := 1) (f := (fun x => x.Nets)) trivial rfl hw rfl rfl fd_Netlist_1 ty24 fun v156 hw => ?_
  refine RL.len_rd (i := 0) (l := p1.Nets) trivial rfl hw rfl rfl un24 ?_
  refine RL.icmp (a := ((p1.Nets.length : Nat) : Int)) (b := 1000) trivial rfl rfl rfl rfl ?_
  refine RL.nil ?_
  refine thenQ_n ?_
  refine RC.cond (b := (decide (((p1.Nets.length : Nat) : Int) > 1000))) rfl (fun hc => ?_) (fun hc => ?_)
  · replace hb := cT hc hb
    refine RC.seq ?_
    refine RC.region ?_
    refine RL.assign (v := (.int .i64 2)) trivial rfl rfl ?_
    refine RL.nil ?_
    refine thenQ_n ?_
    refine RC.ret ?_
    refine thenQ_r ?_
    injection hb with hb; subst hb
    exact fin1 rfl rfl ⟨rfl, hw.drop 4 rfl⟩
  replace hb := cF hc hb
  refine RC.skip ?_
  refine thenQ_n ?_
  refine RC.seq ?_
  refine RC.seq ?_
  refine RC.region ?_
  refine RL.fa_b trivial rfl rfl fa26_1 ?_
  refine RL.load_bf (i := 2) (f := (fun x => x.Nets)) trivial rfl hw rfl rfl fd_Netlist_1 ty24 fun v157 hw => ?_
  refine RL.len_rd (i := 0) (l := p1.Nets) trivial rfl hw rfl rfl un24 ?_
  refine RL.move (v := (.int .i64 0)) trivial rfl rfl ?_
  refine RL.nil ?_
  refine thenQ_n ?_
  obtain ⟨o566, hN, hb⟩ := bd hb
  refine RC.range (fun (k158 : Nat) (s159 : Unit) (σ : Nat → Value) (w : World) => agree σ [(0, v0), (3, (.pointer (some ⟨b1, 0, none⟩))), (55, v157), (56, (.int .i64 ((p1.Nets.length : Nat) : Int))), (57, (.int .i64 ((k158 : Nat) : Int)))] ∧ Holds E w ([rd v0 p0, bx 26 b1 p1, rd v157 p1.Nets] ++ Γ)) (fun (s159 : Unit) (σ : Nat → Value) (w : World) => agree σ [] ∧ Holds E w ([rd v0 p0, bx 26 b1 p1, rd v157 p1.Nets] ++ Γ)) (etchhouseref2_checkList_K E Γ) hN ?_ ?_ ?_ ?_ ?_ 
  · exact ⟨⟨rfl, rfl, rfl, rfl, rfl, trivial⟩, hw.pick 5 [2, 3, 0] (new := [rd v0 p0, bx 26 b1 p1, rd v157 p1.Nets]) rfl rfl (by decide) (by decide)⟩
  · intro hm s159 σ w hI
    obtain ⟨ha, hw⟩ := hI
    obtain ⟨τ, rfl⟩ := ha.ups
    refine RC.seq ?_
    refine RC.region ?_
    refine RL.icmp (a := ((p1.Nets.length : Nat) : Int)) (b := ((p1.Nets.length : Nat) : Int)) trivial rfl rfl rfl rfl ?_
    refine RL.nil ?_
    refine thenQ_n ?_
    refine RC.seq ?_
    refine RC.cond_f dge ?_
    refine RC.exit ?_
    refine thenQ_x ?_
    exact ⟨rfl, trivial, hw.pick 3 [0, 1, 2] (new := [rd v0 p0, bx 26 b1 p1, rd v157 p1.Nets]) rfl rfl (by decide) (by decide)⟩
  · intro hm k158 s159 fl σ w hk hI hb
    obtain ⟨ha, hw⟩ := hI
    obtain ⟨τ, rfl⟩ := ha.ups
    refine RC.seq ?_
    refine RC.region ?_
    refine RL.icmp (a := ((k158 : Nat) : Int)) (b := ((p1.Nets.length : Nat) : Int)) trivial rfl rfl rfl rfl ?_
    refine RL.nil ?_
    refine thenQ_n ?_
    refine RC.seq ?_
    refine RC.cond_t (dlt hk) ?_
    refine RC.skip ?_
    refine thenQ_n ?_
    refine RC.seq ?_
    refine RC.block ?_
    refine RC.seq ?_
    refine RC.region ?_
    refine RL.move (v := (.int .i64 ((k158 : Nat) : Int))) trivial rfl rfl ?_
    obtain ⟨x363, hx363, hb⟩ := bd hb
    refine RL.ia_rd (i := 2) trivial rfl hw rfl rfl rfl sl24 hx363 fun v364 hw => ?_
    refine RL.load_pt (i := 0) (x := x363) trivial rfl hw rfl rfl ty64 fun v365 hw => ?_
    refine RL.alloc trivial rfl hw ze64.z fun b366 w hw => ?_
    refine RL.assign (v := (.int .i64 ((k158 : Nat) : Int))) trivial rfl rfl ?_
    refine RL.store_raw (i := 0) (j := 1) trivial hw rfl rfl rfl rfl ty64 rfl fun w hw => ?_
    refine RL.nil ?_
    refine thenQ_n ?_
    refine RC.seq ?_
    refine RC.block ?_
    refine RC.seq ?_
    refine RC.region ?_
    refine RL.fa_b trivial rfl rfl fa64_0 ?_
    refine RL.load_bfs (i := 0) (f := (fun x => x.Name)) trivial rfl hw rfl rfl fd_Net_0 ty9 ?_
    obtain ⟨x367, hx367, hb⟩ := bd hb
    refine RL.call trivial rfl fn102 [(str x363.Name)] rfl (Calls_ret (etchhouseref2_IsPath_ok N (p0 := x363.Name)  hw  hx367) ?_)
    rintro _ w ⟨rfl, hw⟩
    refine RL.not (b := x367) trivial rfl rfl ?_
    refine RL.assign (v := (.bool (!x367))) trivial rfl rfl ?_
    refine RL.nil ?_
    refine thenQ_n ?_
    refine RC.cond (b := (!x367)) rfl (fun hc => ?_) (fun hc => ?_)
    · replace hb := cT hc hb
      refine RC.seq ?_
      refine RC.region ?_
      refine RL.assign (v := (.int .i64 5)) trivial rfl rfl ?_
      refine RL.nil ?_
      refine thenQ_n ?_
      refine RC.ret ?_
      refine blkQ_r ?_
      refine thenQ_r ?_
      refine blkQ_r ?_
      refine thenQ_r ?_
      injection hb with hb; subst hb
      exact ⟨rfl, fin1 rfl rfl ⟨rfl, hw.drop 6 rfl⟩⟩
    replace hb := cF hc hb
    refine RC.seq ?_
    refine RC.region ?_
    refine RL.fa_b trivial rfl rfl fa64_1 ?_
    refine RL.load_bf (i := 0) (f := (fun x => x.Pins)) trivial rfl hw rfl rfl fd_Net_1 ty33 fun v371 hw => ?_
    refine RL.len_rd (i := 0) (l := x363.Pins) trivial rfl hw rfl rfl un33 ?_
    refine RL.icmp (a := ((x363.Pins.length : Nat) : Int)) (b := 0) trivial rfl rfl rfl rfl ?_
    refine RL.assign (v := (.bool (((x363.Pins.length : Nat) : Int) == 0))) trivial rfl rfl ?_
    refine RL.nil ?_
    refine thenQ_n ?_
    refine RC.cond (b := (((x363.Pins.length : Nat) : Int) == 0)) rfl (fun hc => ?_) (fun hc => ?_)
    · replace hb := cT hc hb
      refine RC.seq ?_
      refine RC.region ?_
      refine RL.assign (v := (.int .i64 9)) trivial rfl rfl ?_
      refine RL.nil ?_
      refine thenQ_n ?_
      refine RC.ret ?_
      refine blkQ_r ?_
      refine thenQ_r ?_
      refine blkQ_r ?_
      refine thenQ_r ?_
      injection hb with hb; subst hb
      exact ⟨rfl, fin1 rfl rfl ⟨rfl, hw.drop 7 rfl⟩⟩
    replace hb := cF hc hb
    refine RC.seq ?_
    refine RC.region ?_
    refine RL.fa_b trivial rfl rfl fa64_1 ?_
    refine RL.load_bf (i := 1) (f := (fun x => x.Pins)) trivial rfl hw rfl rfl fd_Net_1 ty33 fun v373 hw => ?_
    refine RL.len_rd (i := 0) (l := x363.Pins) trivial rfl hw rfl rfl un33 ?_
    refine RL.icmp (a := ((x363.Pins.length : Nat) : Int)) (b := 500) trivial rfl rfl rfl rfl ?_
    refine RL.assign (v := (.bool (decide (((x363.Pins.length : Nat) : Int) > 500)))) trivial rfl rfl ?_
    refine RL.nil ?_
    refine thenQ_n ?_
    refine RC.cond (b := (decide (((x363.Pins.length : Nat) : Int) > 500))) rfl (fun hc => ?_) (fun hc => ?_)
    · replace hb := cT hc hb
      refine RC.seq ?_
      refine RC.region ?_
      refine RL.assign (v := (.int .i64 2)) trivial rfl rfl ?_
      refine RL.nil ?_
      refine thenQ_n ?_
      refine RC.ret ?_
      refine blkQ_r ?_
      refine thenQ_r ?_
      refine blkQ_r ?_
      refine thenQ_r ?_
      injection hb with hb; subst hb
      exact ⟨rfl, fin1 rfl rfl ⟨rfl, hw.drop 8 rfl⟩⟩
    replace hb := cF hc hb
    refine RC.skip ?_
    refine blkQ_n ?_
    refine thenQ_n ?_
    refine RC.seq ?_
    refine RC.seq ?_
    refine RC.region ?_
    refine RL.fa_b trivial rfl rfl fa64_1 ?_
    refine RL.load_bf (i := 2) (f := (fun x => x.Pins)) trivial rfl hw rfl rfl fd_Net_1 ty33 fun v374 hw => ?_
    refine RL.len_rd (i := 0) (l := x363.Pins) trivial rfl hw rfl rfl un33 ?_
    refine RL.move (v := (.int .i64 0)) trivial rfl rfl ?_
    refine RL.nil ?_
    refine thenQ_n ?_
    obtain ⟨o565, hN, hb⟩ := bd hb
    refine RC.range (fun (k375 : Nat) (s376 : Unit) (σ : Nat → Value) (w : World) => agree σ [(0, v0), (3, (.pointer (some ⟨b1, 0, none⟩))), (7, (.int .i64 ((k158 : Nat) : Int))), (8, (.pointer (some ⟨b366, 0, none⟩))), (55, v157), (56, (.int .i64 ((p1.Nets.length : Nat) : Int))), (57, (.int .i64 ((k158 : Nat) : Int))), (78, v374), (79, (.int .i64 ((x363.Pins.length : Nat) : Int))), (80, (.int .i64 ((k375 : Nat) : Int)))] ∧ Holds E w ([rd v0 p0, bx 26 b1 p1, bx 64 b366 x363, rd v157 p1.Nets, rd v374 x363.Pins] ++ Γ)) (fun (s376 : Unit) (σ : Nat → Value) (w : World) => agree σ [(0, v0), (3, (.pointer (some ⟨b1, 0, none⟩))), (7, (.int .i64 ((k158 : Nat) : Int))), (8, (.pointer (some ⟨b366, 0, none⟩))), (55, v157), (56, (.int .i64 ((p1.Nets.length : Nat) : Int))), (57, (.int .i64 ((k158 : Nat) : Int)))] ∧ Holds E w ([rd v0 p0, bx 26 b1 p1, bx 64 b366 x363, rd v157 p1.Nets, rd v374 x363.Pins] ++ Γ)) (etchhouseref2_checkList_K E Γ) hN ?_ ?_ ?_ ?_ ?_ 
    · exact ⟨⟨rfl, rfl, rfl, rfl, rfl, rfl, rfl, rfl, rfl, rfl, trivial⟩, hw.pick 9 [6, 7, 3, 8, 0] (new := [rd v0 p0, bx 26 b1 p1, bx 64 b366 x363, rd v157 p1.Nets, rd v374 x363.Pins]) rfl rfl (by decide) (by decide)⟩
    · intro hm s376 σ w hI
      obtain ⟨ha, hw⟩ := hI
      obtain ⟨τ, rfl⟩ := ha.ups
      refine RC.seq ?_
      refine RC.region ?_
      refine RL.icmp (a := ((x363.Pins.length : Nat) : Int)) (b := ((x363.Pins.length : Nat) : Int)) trivial rfl rfl rfl rfl ?_
      refine RL.nil ?_
      refine thenQ_n ?_
      refine RC.seq ?_
      refine RC.cond_f dge ?_
      refine RC.exit ?_
      refine thenQ_x ?_
      exact ⟨rfl, ⟨rfl, rfl, rfl, rfl, rfl, rfl, rfl, trivial⟩, hw.pick 5 [0, 1, 2, 3, 4] (new := [rd v0 p0, bx 26 b1 p1, bx 64 b366 x363, rd v157 p1.Nets, rd v374 x363.Pins]) rfl rfl (by decide) (by decide)⟩
    · intro hm k375 s376 fl σ w hk hI hb
      obtain ⟨ha, hw⟩ := hI
      obtain ⟨τ, rfl⟩ := ha.ups
      refine RC.seq ?_
      refine RC.region ?_
      refine RL.icmp (a := ((k375 : Nat) : Int)) (b := ((x363.Pins.length : Nat) : Int)) trivial rfl rfl rfl rfl ?_
      refine RL.nil ?_
      refine thenQ_n ?_
      refine RC.seq ?_
      refine RC.cond_t (dlt hk) ?_
      refine RC.skip ?_
      refine thenQ_n ?_
      refine RC.seq ?_
      refine RC.block ?_
      refine RC.seq ?_
      refine RC.region ?_
      refine RL.move (v := (.int .i64 ((k375 : Nat) : Int))) trivial rfl rfl ?_
      obtain ⟨x462, hx462, hb⟩ := bd hb
      refine RL.ia_rd (i := 4) trivial rfl hw rfl rfl rfl sl33 hx462 fun v463 hw => ?_
      refine RL.load_pt (i := 0) (x := x462) trivial rfl hw rfl rfl ty28 fun v464 hw => ?_
      refine RL.alloc trivial rfl hw ze28.z fun b465 w hw => ?_
      refine RL.assign (v := (.int .i64 ((k375 : Nat) : Int))) trivial rfl rfl ?_
      refine RL.store_raw (i := 0) (j := 1) trivial hw rfl rfl rfl rfl ty28 rfl fun w hw => ?_
      refine RL.nil ?_
      refine thenQ_n ?_
      refine RC.block ?_
      refine RC.seq ?_
      refine RC.region ?_
      refine RL.move (v := v0) trivial rfl rfl ?_
      refine RL.load_bf (i := 4) (f := (fun x => x)) trivial rfl hw rfl rfl Fd.self ty26 fun v466 hw => ?_
      refine RL.load_bf (i := 1) (f := (fun x => x)) trivial rfl hw rfl rfl Fd.self ty28 fun v467 hw => ?_
      obtain ⟨x468, hx468, hb⟩ := bd hb
      refine RL.call trivial rfl fn38 [v0, v466, v467] rfl (Calls_ret (etchhouseref2_HasPin_ok N  (i0 := 5) (i1 := 1) (i2 := 0) hw rfl rfl rfl hx468) ?_)
      rintro _ w ⟨rfl, hw⟩
      refine RL.not (b := x468) trivial rfl rfl ?_
      refine RL.assign (v := (.bool (!x468))) trivial rfl rfl ?_
      refine RL.nil ?_
      refine thenQ_n ?_
      refine RC.cond (b := (!x468)) rfl (fun hc => ?_) (fun hc => ?_)
      · replace hb := cT hc hb
        refine RC.seq ?_
        refine RC.region ?_
        refine RL.assign (v := (.int .i64 9)) trivial rfl rfl ?_
        refine RL.nil ?_
        refine thenQ_n ?_
        refine RC.ret ?_
        refine blkQ_r ?_
        refine blkQ_r ?_
        refine thenQ_r ?_
        injection hb with hb; subst hb
        exact ⟨rfl, fin1 rfl rfl ⟨rfl, hw.drop 10 rfl⟩⟩
      replace hb := cF hc hb
      refine RC.seq ?_
      obtain ⟨s519, hj, hb⟩ := bd hb
      refine RC.jn (fun (s519 : Bool) (σ : Nat → Value) (w : World) => agree σ [(0, v0), (3, (.pointer (some ⟨b1, 0, none⟩))), (7, (.int .i64 ((k158 : Nat) : Int))), (8, (.pointer (some ⟨b366, 0, none⟩))), (10, (.pointer (some ⟨b465, 0, none⟩))), (55, v157), (56, (.int .i64 ((p1.Nets.length : Nat) : Int))), (57, (.int .i64 ((k158 : Nat) : Int))), (78, v374), (79, (.int .i64 ((x363.Pins.length : Nat) : Int))), (80, (.int .i64 ((k375 : Nat) : Int))), (91, (.bool s519))] ∧ Holds E w ([rd v0 p0, bx 26 b1 p1, bx 64 b366 x363, bx 28 b465 x462, rd v157 p1.Nets, rd v374 x363.Pins] ++ Γ)) s519 ?_ ?_
      · rcases Bool.eq_false_or_eq_true (decide (((k375 : Nat) : Int) > 0)) with hg520 | hg520
        rotate_left
        · replace hj := cF hg520 hj
          refine RC.draw mixed rfl (fun (D : Nat → Bool) (σ : Nat → Value) (w : World) => doneV D σ [(0, 92, (.int .i64 ((k375 : Nat) : Int))), (1, 93, (.bool (decide (((k375 : Nat) : Int) > 0)))), (2, 94, (.bool (decide (((k375 : Nat) : Int) > 0)))), (3, 95, undef), (4, 96, undef), (5, 97, undef), (6, 98, undef), (7, 99, undef), (8, 100, undef), (9, 101, undef), (10, 102, undef), (11, 103, undef), (12, 104, (.bool false)), (13, 91, (.bool false))] ∧ agree σ [(0, v0), (3, (.pointer (some ⟨b1, 0, none⟩))), (7, (.int .i64 ((k158 : Nat) : Int))), (8, (.pointer (some ⟨b366, 0, none⟩))), (9, (.int .i64 ((k375 : Nat) : Int))), (10, (.pointer (some ⟨b465, 0, none⟩))), (55, v157), (56, (.int .i64 ((p1.Nets.length : Nat) : Int))), (57, (.int .i64 ((k158 : Nat) : Int))), (78, v374), (79, (.int .i64 ((x363.Pins.length : Nat) : Int))), (80, (.int .i64 ((k375 : Nat) : Int)))] ∧ Holds E w ([rd v467 x462, rd v466 p1, bx 28 b465 x462, rd v464 x462, pt v463 x462, rd v0 p0, bx 26 b1 p1, bx 64 b366 x363, rd v157 p1.Nets, rd v374 x363.Pins] ++ Γ)) ?_ ⟨?_, ?_, ?_, ?_, ?_, ?_, ?_, ?_, ?_, ?_, ?_, ?_, ?_, ?_, trivial⟩ ?_
          · have hw := hw.drew
            exact ⟨⟨(fun h => by cases h), (fun h => by cases h), (fun h => by cases h), (fun h => by cases h), (fun h => by cases h), (fun h => by cases h), (fun h => by cases h), (fun h => by cases h), (fun h => by cases h), (fun h => by cases h), (fun h => by cases h), (fun h => by cases h), (fun h => by cases h), (fun h => by cases h), trivial⟩, ⟨rfl, rfl, rfl, rfl, rfl, rfl, rfl, rfl, rfl, rfl, rfl, rfl, trivial⟩, hw⟩
          · intro D σ w hD hdep hJ
            obtain ⟨hv, ha, hw⟩ := hJ
            have ha2 : agree σ [(0, v0), (3, (.pointer (some ⟨b1, 0, none⟩))), (7, (.int .i64 ((k158 : Nat) : Int))), (8, (.pointer (some ⟨b366, 0, none⟩))), (9, (.int .i64 ((k375 : Nat) : Int))), (10, (.pointer (some ⟨b465, 0, none⟩))), (55, v157), (56, (.int .i64 ((p1.Nets.length : Nat) : Int))), (57, (.int .i64 ((k158 : Nat) : Int))), (78, v374), (79, (.int .i64 ((x363.Pins.length : Nat) : Int))), (80, (.int .i64 ((k375 : Nat) : Int)))] := ⟨ha.1, ha.2.1, ha.2.2.1, ha.2.2.2.1, ha.2.2.2.2.1, ha.2.2.2.2.2.1, ha.2.2.2.2.2.2.1, ha.2.2.2.2.2.2.2.1, ha.2.2.2.2.2.2.2.2.1, ha.2.2.2.2.2.2.2.2.2.1, ha.2.2.2.2.2.2.2.2.2.2.1, ha.2.2.2.2.2.2.2.2.2.2.2.1, trivial⟩
            obtain ⟨τ, rfl⟩ := ha2.ups
            refine RL.move (v := (.int .i64 ((k375 : Nat) : Int))) trivial rfl rfl ?_
            refine RL.nil ?_
            exact ⟨rfl, ⟨fun _ => rfl, hv.2.1, hv.2.2.1, hv.2.2.2.1, hv.2.2.2.2.1, hv.2.2.2.2.2.1, hv.2.2.2.2.2.2.1, hv.2.2.2.2.2.2.2.1, hv.2.2.2.2.2.2.2.2.1, hv.2.2.2.2.2.2.2.2.2.1, hv.2.2.2.2.2.2.2.2.2.2.1, hv.2.2.2.2.2.2.2.2.2.2.2.1, hv.2.2.2.2.2.2.2.2.2.2.2.2.1, hv.2.2.2.2.2.2.2.2.2.2.2.2.2.1, trivial⟩, ha, hw⟩
          · intro D σ w hD hdep hJ
            obtain ⟨hv, ha, hw⟩ := hJ
            have ha2 : agree σ [(92, (.int .i64 ((k375 : Nat) : Int))), (0, v0), (3, (.pointer (some ⟨b1, 0, none⟩))), (7, (.int .i64 ((k158 : Nat) : Int))), (8, (.pointer (some ⟨b366, 0, none⟩))), (9, (.int .i64 ((k375 : Nat) : Int))), (10, (.pointer (some ⟨b465, 0, none⟩))), (55, v157), (56, (.int .i64 ((p1.Nets.length : Nat) : Int))), (57, (.int .i64 ((k158 : Nat) : Int))), (78, v374), (79, (.int .i64 ((x363.Pins.length : Nat) : Int))), (80, (.int .i64 ((k375 : Nat) : Int)))] := ⟨hv.1 (hdep.1 rfl), ha.1, ha.2.1, ha.2.2.1, ha.2.2.2.1, ha.2.2.2.2.1, ha.2.2.2.2.2.1, ha.2.2.2.2.2.2.1, ha.2.2.2.2.2.2.2.1, ha.2.2.2.2.2.2.2.2.1, ha.2.2.2.2.2.2.2.2.2.1, ha.2.2.2.2.2.2.2.2.2.2.1, ha.2.2.2.2.2.2.2.2.2.2.2.1, trivial⟩
            obtain ⟨τ, rfl⟩ := ha2.ups
            refine RL.icmp (a := ((k375 : Nat) : Int)) (b := 0) trivial rfl rfl rfl rfl ?_
            refine RL.nil ?_
            exact ⟨rfl, ⟨hv.1, fun _ => rfl, hv.2.2.1, hv.2.2.2.1, hv.2.2.2.2.1, hv.2.2.2.2.2.1, hv.2.2.2.2.2.2.1, hv.2.2.2.2.2.2.2.1, hv.2.2.2.2.2.2.2.2.1, hv.2.2.2.2.2.2.2.2.2.1, hv.2.2.2.2.2.2.2.2.2.2.1, hv.2.2.2.2.2.2.2.2.2.2.2.1, hv.2.2.2.2.2.2.2.2.2.2.2.2.1, hv.2.2.2.2.2.2.2.2.2.2.2.2.2.1, trivial⟩, ha, hw⟩
          · intro D σ w hD hdep hJ
            obtain ⟨hv, ha, hw⟩ := hJ
            have ha2 : agree σ [(93, (.bool (decide (((k375 : Nat) : Int) > 0)))), (0, v0), (3, (.pointer (some ⟨b1, 0, none⟩))), (7, (.int .i64 ((k158 : Nat) : Int))), (8, (.pointer (some ⟨b366, 0, none⟩))), (9, (.int .i64 ((k375 : Nat) : Int))), (10, (.pointer (some ⟨b465, 0, none⟩))), (55, v157), (56, (.int .i64 ((p1.Nets.length : Nat) : Int))), (57, (.int .i64 ((k158 : Nat) : Int))), (78, v374), (79, (.int .i64 ((x363.Pins.length : Nat) : Int))), (80, (.int .i64 ((k375 : Nat) : Int)))] := ⟨hv.2.1 (hdep.1 rfl), ha.1, ha.2.1, ha.2.2.1, ha.2.2.2.1, ha.2.2.2.2.1, ha.2.2.2.2.2.1, ha.2.2.2.2.2.2.1, ha.2.2.2.2.2.2.2.1, ha.2.2.2.2.2.2.2.2.1, ha.2.2.2.2.2.2.2.2.2.1, ha.2.2.2.2.2.2.2.2.2.2.1, ha.2.2.2.2.2.2.2.2.2.2.2.1, trivial⟩
            obtain ⟨τ, rfl⟩ := ha2.ups
            refine RL.move (v := (.bool (decide (((k375 : Nat) : Int) > 0)))) trivial rfl rfl ?_
            refine RL.nil ?_
            exact ⟨rfl, ⟨hv.1, hv.2.1, fun _ => rfl, hv.2.2.2.1, hv.2.2.2.2.1, hv.2.2.2.2.2.1, hv.2.2.2.2.2.2.1, hv.2.2.2.2.2.2.2.1, hv.2.2.2.2.2.2.2.2.1, hv.2.2.2.2.2.2.2.2.2.1, hv.2.2.2.2.2.2.2.2.2.2.1, hv.2.2.2.2.2.2.2.2.2.2.2.1, hv.2.2.2.2.2.2.2.2.2.2.2.2.1, hv.2.2.2.2.2.2.2.2.2.2.2.2.2.1, trivial⟩, ha, hw⟩
          · intro D σ w hD hdep hJ
            obtain ⟨hv, ha, hw⟩ := hJ
            have ha2 : agree σ [(94, (.bool (decide (((k375 : Nat) : Int) > 0)))), (0, v0), (3, (.pointer (some ⟨b1, 0, none⟩))), (7, (.int .i64 ((k158 : Nat) : Int))), (8, (.pointer (some ⟨b366, 0, none⟩))), (9, (.int .i64 ((k375 : Nat) : Int))), (10, (.pointer (some ⟨b465, 0, none⟩))), (55, v157), (56, (.int .i64 ((p1.Nets.length : Nat) : Int))), (57, (.int .i64 ((k158 : Nat) : Int))), (78, v374), (79, (.int .i64 ((x363.Pins.length : Nat) : Int))), (80, (.int .i64 ((k375 : Nat) : Int)))] := ⟨hv.2.2.1 (hdep.1 rfl), ha.1, ha.2.1, ha.2.2.1, ha.2.2.2.1, ha.2.2.2.2.1, ha.2.2.2.2.2.1, ha.2.2.2.2.2.2.1, ha.2.2.2.2.2.2.2.1, ha.2.2.2.2.2.2.2.2.1, ha.2.2.2.2.2.2.2.2.2.1, ha.2.2.2.2.2.2.2.2.2.2.1, ha.2.2.2.2.2.2.2.2.2.2.2.1, trivial⟩
            obtain ⟨τ, rfl⟩ := ha2.ups
            refine RL.skip rfl (.inl (congrArg Value.bool hg520)) rfl ?_
            refine RL.nil ?_
            exact ⟨rfl, ⟨hv.1, hv.2.1, hv.2.2.1, fun _ => rfl, hv.2.2.2.2.1, hv.2.2.2.2.2.1, hv.2.2.2.2.2.2.1, hv.2.2.2.2.2.2.2.1, hv.2.2.2.2.2.2.2.2.1, hv.2.2.2.2.2.2.2.2.2.1, hv.2.2.2.2.2.2.2.2.2.2.1, hv.2.2.2.2.2.2.2.2.2.2.2.1, hv.2.2.2.2.2.2.2.2.2.2.2.2.1, hv.2.2.2.2.2.2.2.2.2.2.2.2.2.1, trivial⟩, ha, hw⟩
          · intro D σ w hD hdep hJ
            obtain ⟨hv, ha, hw⟩ := hJ
            have ha2 : agree σ [(95, undef), (94, (.bool (decide (((k375 : Nat) : Int) > 0)))), (0, v0), (3, (.pointer (some ⟨b1, 0, none⟩))), (7, (.int .i64 ((k158 : Nat) : Int))), (8, (.pointer (some ⟨b366, 0, none⟩))), (9, (.int .i64 ((k375 : Nat) : Int))), (10, (.pointer (some ⟨b465, 0, none⟩))), (55, v157), (56, (.int .i64 ((p1.Nets.length : Nat) : Int))), (57, (.int .i64 ((k158 : Nat) : Int))), (78, v374), (79, (.int .i64 ((x363.Pins.length : Nat) : Int))), (80, (.int .i64 ((k375 : Nat) : Int)))] := ⟨hv.2.2.2.1 (hdep.1 rfl), hv.2.2.1 (hdep.2.1 rfl), ha.1, ha.2.1, ha.2.2.1, ha.2.2.2.1, ha.2.2.2.2.1, ha.2.2.2.2.2.1, ha.2.2.2.2.2.2.1, ha.2.2.2.2.2.2.2.1, ha.2.2.2.2.2.2.2.2.1, ha.2.2.2.2.2.2.2.2.2.1, ha.2.2.2.2.2.2.2.2.2.2.1, ha.2.2.2.2.2.2.2.2.2.2.2.1, trivial⟩
            obtain ⟨τ, rfl⟩ := ha2.ups
            refine RL.skip rfl (.inl (congrArg Value.bool hg520)) rfl ?_
            refine RL.nil ?_
            exact ⟨rfl, ⟨hv.1, hv.2.1, hv.2.2.1, hv.2.2.2.1, fun _ => rfl, hv.2.2.2.2.2.1, hv.2.2.2.2.2.2.1, hv.2.2.2.2.2.2.2.1, hv.2.2.2.2.2.2.2.2.1, hv.2.2.2.2.2.2.2.2.2.1, hv.2.2.2.2.2.2.2.2.2.2.1, hv.2.2.2.2.2.2.2.2.2.2.2.1, hv.2.2.2.2.2.2.2.2.2.2.2.2.1, hv.2.2.2.2.2.2.2.2.2.2.2.2.2.1, trivial⟩, ha, hw⟩
          · intro D σ w hD hdep hJ
            obtain ⟨hv, ha, hw⟩ := hJ
            have ha2 : agree σ [(94, (.bool (decide (((k375 : Nat) : Int) > 0)))), (0, v0), (3, (.pointer (some ⟨b1, 0, none⟩))), (7, (.int .i64 ((k158 : Nat) : Int))), (8, (.pointer (some ⟨b366, 0, none⟩))), (9, (.int .i64 ((k375 : Nat) : Int))), (10, (.pointer (some ⟨b465, 0, none⟩))), (55, v157), (56, (.int .i64 ((p1.Nets.length : Nat) : Int))), (57, (.int .i64 ((k158 : Nat) : Int))), (78, v374), (79, (.int .i64 ((x363.Pins.length : Nat) : Int))), (80, (.int .i64 ((k375 : Nat) : Int)))] := ⟨hv.2.2.1 (hdep.1 rfl), ha.1, ha.2.1, ha.2.2.1, ha.2.2.2.1, ha.2.2.2.2.1, ha.2.2.2.2.2.1, ha.2.2.2.2.2.2.1, ha.2.2.2.2.2.2.2.1, ha.2.2.2.2.2.2.2.2.1, ha.2.2.2.2.2.2.2.2.2.1, ha.2.2.2.2.2.2.2.2.2.2.1, ha.2.2.2.2.2.2.2.2.2.2.2.1, trivial⟩
            obtain ⟨τ, rfl⟩ := ha2.ups
            refine RL.skip rfl (.inl (congrArg Value.bool hg520)) rfl ?_
            refine RL.nil ?_
            exact ⟨rfl, ⟨hv.1, hv.2.1, hv.2.2.1, hv.2.2.2.1, hv.2.2.2.2.1, fun _ => rfl, hv.2.2.2.2.2.2.1, hv.2.2.2.2.2.2.2.1, hv.2.2.2.2.2.2.2.2.1, hv.2.2.2.2.2.2.2.2.2.1, hv.2.2.2.2.2.2.2.2.2.2.1, hv.2.2.2.2.2.2.2.2.2.2.2.1, hv.2.2.2.2.2.2.2.2.2.2.2.2.1, hv.2.2.2.2.2.2.2.2.2.2.2.2.2.1, trivial⟩, ha, hw⟩
          · intro D σ w hD hdep hJ
            obtain ⟨hv, ha, hw⟩ := hJ
            have ha2 : agree σ [(97, undef), (94, (.bool (decide (((k375 : Nat) : Int) > 0)))), (0, v0), (3, (.pointer (some ⟨b1, 0, none⟩))), (7, (.int .i64 ((k158 : Nat) : Int))), (8, (.pointer (some ⟨b366, 0, none⟩))), (9, (.int .i64 ((k375 : Nat) : Int))), (10, (.pointer (some ⟨b465, 0, none⟩))), (55, v157), (56, (.int .i64 ((p1.Nets.length : Nat) : Int))), (57, (.int .i64 ((k158 : Nat) : Int))), (78, v374), (79, (.int .i64 ((x363.Pins.length : Nat) : Int))), (80, (.int .i64 ((k375 : Nat) : Int)))] := ⟨hv.2.2.2.2.2.1 (hdep.1 rfl), hv.2.2.1 (hdep.2.1 rfl), ha.1, ha.2.1, ha.2.2.1, ha.2.2.2.1, ha.2.2.2.2.1, ha.2.2.2.2.2.1, ha.2.2.2.2.2.2.1, ha.2.2.2.2.2.2.2.1, ha.2.2.2.2.2.2.2.2.1, ha.2.2.2.2.2.2.2.2.2.1, ha.2.2.2.2.2.2.2.2.2.2.1, ha.2.2.2.2.2.2.2.2.2.2.2.1, trivial⟩
            obtain ⟨τ, rfl⟩ := ha2.ups
            refine RL.skip rfl (.inl (congrArg Value.bool hg520)) rfl ?_
            refine RL.nil ?_
            exact ⟨rfl, ⟨hv.1, hv.2.1, hv.2.2.1, hv.2.2.2.1, hv.2.2.2.2.1, hv.2.2.2.2.2.1, fun _ => rfl, hv.2.2.2.2.2.2.2.1, hv.2.2.2.2.2.2.2.2.1, hv.2.2.2.2.2.2.2.2.2.1, hv.2.2.2.2.2.2.2.2.2.2.1, hv.2.2.2.2.2.2.2.2.2.2.2.1, hv.2.2.2.2.2.2.2.2.2.2.2.2.1, hv.2.2.2.2.2.2.2.2.2.2.2.2.2.1, trivial⟩, ha, hw⟩
          · intro D σ w hD hdep hJ
            obtain ⟨hv, ha, hw⟩ := hJ
            have ha2 : agree σ [(96, undef), (98, undef), (94, (.bool (decide (((k375 : Nat) : Int) > 0)))), (0, v0), (3, (.pointer (some ⟨b1, 0, none⟩))), (7, (.int .i64 ((k158 : Nat) : Int))), (8, (.pointer (some ⟨b366, 0, none⟩))), (9, (.int .i64 ((k375 : Nat) : Int))), (10, (.pointer (some ⟨b465, 0, none⟩))), (55, v157), (56, (.int .i64 ((p1.Nets.length : Nat) : Int))), (57, (.int .i64 ((k158 : Nat) : Int))), (78, v374), (79, (.int .i64 ((x363.Pins.length : Nat) : Int))), (80, (.int .i64 ((k375 : Nat) : Int)))] := ⟨hv.2.2.2.2.1 (hdep.1 rfl), hv.2.2.2.2.2.2.1 (hdep.2.1 rfl), hv.2.2.1 (hdep.2.2.1 rfl), ha.1, ha.2.1, ha.2.2.1, ha.2.2.2.1, ha.2.2.2.2.1, ha.2.2.2.2.2.1, ha.2.2.2.2.2.2.1, ha.2.2.2.2.2.2.2.1, ha.2.2.2.2.2.2.2.2.1, ha.2.2.2.2.2.2.2.2.2.1, ha.2.2.2.2.2.2.2.2.2.2.1, ha.2.2.2.2.2.2.2.2.2.2.2.1, trivial⟩
            obtain ⟨τ, rfl⟩ := ha2.ups
            refine RL.skip rfl (.inl (congrArg Value.bool hg520)) rfl ?_
            refine RL.nil ?_
            exact ⟨rfl, ⟨hv.1, hv.2.1, hv.2.2.1, hv.2.2.2.1, hv.2.2.2.2.1, hv.2.2.2.2.2.1, hv.2.2.2.2.2.2.1, fun _ => rfl, hv.2.2.2.2.2.2.2.2.1, hv.2.2.2.2.2.2.2.2.2.1, hv.2.2.2.2.2.2.2.2.2.2.1, hv.2.2.2.2.2.2.2.2.2.2.2.1, hv.2.2.2.2.2.2.2.2.2.2.2.2.1, hv.2.2.2.2.2.2.2.2.2.2.2.2.2.1, trivial⟩, ha, hw⟩
          · intro D σ w hD hdep hJ
            obtain ⟨hv, ha, hw⟩ := hJ
            have ha2 : agree σ [(99, undef), (94, (.bool (decide (((k375 : Nat) : Int) > 0)))), (0, v0), (3, (.pointer (some ⟨b1, 0, none⟩))), (7, (.int .i64 ((k158 : Nat) : Int))), (8, (.pointer (some ⟨b366, 0, none⟩))), (9, (.int .i64 ((k375 : Nat) : Int))), (10, (.pointer (some ⟨b465, 0, none⟩))), (55, v157), (56, (.int .i64 ((p1.Nets.length : Nat) : Int))), (57, (.int .i64 ((k158 : Nat) : Int))), (78, v374), (79, (.int .i64 ((x363.Pins.length : Nat) : Int))), (80, (.int .i64 ((k375 : Nat) : Int)))] := ⟨hv.2.2.2.2.2.2.2.1 (hdep.1 rfl), hv.2.2.1 (hdep.2.1 rfl), ha.1, ha.2.1, ha.2.2.1, ha.2.2.2.1, ha.2.2.2.2.1, ha.2.2.2.2.2.1, ha.2.2.2.2.2.2.1, ha.2.2.2.2.2.2.2.1, ha.2.2.2.2.2.2.2.2.1, ha.2.2.2.2.2.2.2.2.2.1, ha.2.2.2.2.2.2.2.2.2.2.1, ha.2.2.2.2.2.2.2.2.2.2.2.1, trivial⟩
            obtain ⟨τ, rfl⟩ := ha2.ups
            refine RL.skip rfl (.inl (congrArg Value.bool hg520)) rfl ?_
            refine RL.nil ?_
            exact ⟨rfl, ⟨hv.1, hv.2.1, hv.2.2.1, hv.2.2.2.1, hv.2.2.2.2.1, hv.2.2.2.2.2.1, hv.2.2.2.2.2.2.1, hv.2.2.2.2.2.2.2.1, fun _ => rfl, hv.2.2.2.2.2.2.2.2.2.1, hv.2.2.2.2.2.2.2.2.2.2.1, hv.2.2.2.2.2.2.2.2.2.2.2.1, hv.2.2.2.2.2.2.2.2.2.2.2.2.1, hv.2.2.2.2.2.2.2.2.2.2.2.2.2.1, trivial⟩, ha, hw⟩
          · intro D σ w hD hdep hJ
            obtain ⟨hv, ha, hw⟩ := hJ
            have ha2 : agree σ [(94, (.bool (decide (((k375 : Nat) : Int) > 0)))), (0, v0), (3, (.pointer (some ⟨b1, 0, none⟩))), (7, (.int .i64 ((k158 : Nat) : Int))), (8, (.pointer (some ⟨b366, 0, none⟩))), (9, (.int .i64 ((k375 : Nat) : Int))), (10, (.pointer (some ⟨b465, 0, none⟩))), (55, v157), (56, (.int .i64 ((p1.Nets.length : Nat) : Int))), (57, (.int .i64 ((k158 : Nat) : Int))), (78, v374), (79, (.int .i64 ((x363.Pins.length : Nat) : Int))), (80, (.int .i64 ((k375 : Nat) : Int)))] := ⟨hv.2.2.1 (hdep.1 rfl), ha.1, ha.2.1, ha.2.2.1, ha.2.2.2.1, ha.2.2.2.2.1, ha.2.2.2.2.2.1, ha.2.2.2.2.2.2.1, ha.2.2.2.2.2.2.2.1, ha.2.2.2.2.2.2.2.2.1, ha.2.2.2.2.2.2.2.2.2.1, ha.2.2.2.2.2.2.2.2.2.2.1, ha.2.2.2.2.2.2.2.2.2.2.2.1, trivial⟩
            obtain ⟨τ, rfl⟩ := ha2.ups
            refine RL.skip rfl (.inl (congrArg Value.bool hg520)) rfl ?_
            refine RL.nil ?_
            exact ⟨rfl, ⟨hv.1, hv.2.1, hv.2.2.1, hv.2.2.2.1, hv.2.2.2.2.1, hv.2.2.2.2.2.1, hv.2.2.2.2.2.2.1, hv.2.2.2.2.2.2.2.1, hv.2.2.2.2.2.2.2.2.1, fun _ => rfl, hv.2.2.2.2.2.2.2.2.2.2.1, hv.2.2.2.2.2.2.2.2.2.2.2.1, hv.2.2.2.2.2.2.2.2.2.2.2.2.1, hv.2.2.2.2.2.2.2.2.2.2.2.2.2.1, trivial⟩, ha, hw⟩
          · intro D σ w hD hdep hJ
            obtain ⟨hv, ha, hw⟩ := hJ
            have ha2 : agree σ [(100, undef), (101, undef), (94, (.bool (decide (((k375 : Nat) : Int) > 0)))), (0, v0), (3, (.pointer (some ⟨b1, 0, none⟩))), (7, (.int .i64 ((k158 : Nat) : Int))), (8, (.pointer (some ⟨b366, 0, none⟩))), (9, (.int .i64 ((k375 : Nat) : Int))), (10, (.pointer (some ⟨b465, 0, none⟩))), (55, v157), (56, (.int .i64 ((p1.Nets.length : Nat) : Int))), (57, (.int .i64 ((k158 : Nat) : Int))), (78, v374), (79, (.int .i64 ((x363.Pins.length : Nat) : Int))), (80, (.int .i64 ((k375 : Nat) : Int)))] := ⟨hv.2.2.2.2.2.2.2.2.1 (hdep.1 rfl), hv.2.2.2.2.2.2.2.2.2.1 (hdep.2.1 rfl), hv.2.2.1 (hdep.2.2.1 rfl), ha.1, ha.2.1, ha.2.2.1, ha.2.2.2.1, ha.2.2.2.2.1, ha.2.2.2.2.2.1, ha.2.2.2.2.2.2.1, ha.2.2.2.2.2.2.2.1, ha.2.2.2.2.2.2.2.2.1, ha.2.2.2.2.2.2.2.2.2.1, ha.2.2.2.2.2.2.2.2.2.2.1, ha.2.2.2.2.2.2.2.2.2.2.2.1, trivial⟩
            obtain ⟨τ, rfl⟩ := ha2.ups
            refine RL.skip rfl (.inl (congrArg Value.bool hg520)) rfl ?_
            refine RL.nil ?_
            exact ⟨rfl, ⟨hv.1, hv.2.1, hv.2.2.1, hv.2.2.2.1, hv.2.2.2.2.1, hv.2.2.2.2.2.1, hv.2.2.2.2.2.2.1, hv.2.2.2.2.2.2.2.1, hv.2.2.2.2.2.2.2.2.1, hv.2.2.2.2.2.2.2.2.2.1, fun _ => rfl, hv.2.2.2.2.2.2.2.2.2.2.2.1, hv.2.2.2.2.2.2.2.2.2.2.2.2.1, hv.2.2.2.2.2.2.2.2.2.2.2.2.2.1, trivial⟩, ha, hw⟩
          · intro D σ w hD hdep hJ
            obtain ⟨hv, ha, hw⟩ := hJ
            have ha2 : agree σ [(102, undef), (94, (.bool (decide (((k375 : Nat) : Int) > 0)))), (0, v0), (3, (.pointer (some ⟨b1, 0, none⟩))), (7, (.int .i64 ((k158 : Nat) : Int))), (8, (.pointer (some ⟨b366, 0, none⟩))), (9, (.int .i64 ((k375 : Nat) : Int))), (10, (.pointer (some ⟨b465, 0, none⟩))), (55, v157), (56, (.int .i64 ((p1.Nets.length : Nat) : Int))), (57, (.int .i64 ((k158 : Nat) : Int))), (78, v374), (79, (.int .i64 ((x363.Pins.length : Nat) : Int))), (80, (.int .i64 ((k375 : Nat) : Int)))] := ⟨hv.2.2.2.2.2.2.2.2.2.2.1 (hdep.1 rfl), hv.2.2.1 (hdep.2.1 rfl), ha.1, ha.2.1, ha.2.2.1, ha.2.2.2.1, ha.2.2.2.2.1, ha.2.2.2.2.2.1, ha.2.2.2.2.2.2.1, ha.2.2.2.2.2.2.2.1, ha.2.2.2.2.2.2.2.2.1, ha.2.2.2.2.2.2.2.2.2.1, ha.2.2.2.2.2.2.2.2.2.2.1, ha.2.2.2.2.2.2.2.2.2.2.2.1, trivial⟩
            obtain ⟨τ, rfl⟩ := ha2.ups
            refine RL.skip rfl (.inl (congrArg Value.bool hg520)) rfl ?_
            refine RL.nil ?_
            exact ⟨rfl, ⟨hv.1, hv.2.1, hv.2.2.1, hv.2.2.2.1, hv.2.2.2.2.1, hv.2.2.2.2.2.1, hv.2.2.2.2.2.2.1, hv.2.2.2.2.2.2.2.1, hv.2.2.2.2.2.2.2.2.1, hv.2.2.2.2.2.2.2.2.2.1, hv.2.2.2.2.2.2.2.2.2.2.1, fun _ => rfl, hv.2.2.2.2.2.2.2.2.2.2.2.2.1, hv.2.2.2.2.2.2.2.2.2.2.2.2.2.1, trivial⟩, ha, hw⟩
          · intro D σ w hD hdep hJ
            obtain ⟨hv, ha, hw⟩ := hJ
            have ha2 : agree σ [(94, (.bool (decide (((k375 : Nat) : Int) > 0)))), (103, undef), (0, v0), (3, (.pointer (some ⟨b1, 0, none⟩))), (7, (.int .i64 ((k158 : Nat) : Int))), (8, (.pointer (some ⟨b366, 0, none⟩))), (9, (.int .i64 ((k375 : Nat) : Int))), (10, (.pointer (some ⟨b465, 0, none⟩))), (55, v157), (56, (.int .i64 ((p1.Nets.length : Nat) : Int))), (57, (.int .i64 ((k158 : Nat) : Int))), (78, v374), (79, (.int .i64 ((x363.Pins.length : Nat) : Int))), (80, (.int .i64 ((k375 : Nat) : Int)))] := ⟨hv.2.2.1 (hdep.1 rfl), hv.2.2.2.2.2.2.2.2.2.2.2.1 (hdep.2.1 rfl), ha.1, ha.2.1, ha.2.2.1, ha.2.2.2.1, ha.2.2.2.2.1, ha.2.2.2.2.2.1, ha.2.2.2.2.2.2.1, ha.2.2.2.2.2.2.2.1, ha.2.2.2.2.2.2.2.2.1, ha.2.2.2.2.2.2.2.2.2.1, ha.2.2.2.2.2.2.2.2.2.2.1, ha.2.2.2.2.2.2.2.2.2.2.2.1, trivial⟩
            obtain ⟨τ, rfl⟩ := ha2.ups
            refine RL.pick (b := (decide (((k375 : Nat) : Int) > 0))) (v := (.bool false)) trivial rfl rfl (by rw [hg520]; rfl) ?_
            refine RL.nil ?_
            exact ⟨rfl, ⟨hv.1, hv.2.1, hv.2.2.1, hv.2.2.2.1, hv.2.2.2.2.1, hv.2.2.2.2.2.1, hv.2.2.2.2.2.2.1, hv.2.2.2.2.2.2.2.1, hv.2.2.2.2.2.2.2.2.1, hv.2.2.2.2.2.2.2.2.2.1, hv.2.2.2.2.2.2.2.2.2.2.1, hv.2.2.2.2.2.2.2.2.2.2.2.1, fun _ => rfl, hv.2.2.2.2.2.2.2.2.2.2.2.2.2.1, trivial⟩, ha, hw⟩
          · intro D σ w hD hdep hJ
            obtain ⟨hv, ha, hw⟩ := hJ
            have ha2 : agree σ [(104, (.bool false)), (102, undef), (0, v0), (3, (.pointer (some ⟨b1, 0, none⟩))), (7, (.int .i64 ((k158 : Nat) : Int))), (8, (.pointer (some ⟨b366, 0, none⟩))), (9, (.int .i64 ((k375 : Nat) : Int))), (10, (.pointer (some ⟨b465, 0, none⟩))), (55, v157), (56, (.int .i64 ((p1.Nets.length : Nat) : Int))), (57, (.int .i64 ((k158 : Nat) : Int))), (78, v374), (79, (.int .i64 ((x363.Pins.length : Nat) : Int))), (80, (.int .i64 ((k375 : Nat) : Int)))] := ⟨hv.2.2.2.2.2.2.2.2.2.2.2.2.1 (hdep.1 rfl), hv.2.2.2.2.2.2.2.2.2.2.1 (hdep.2.1 rfl), ha.1, ha.2.1, ha.2.2.1, ha.2.2.2.1, ha.2.2.2.2.1, ha.2.2.2.2.2.1, ha.2.2.2.2.2.2.1, ha.2.2.2.2.2.2.2.1, ha.2.2.2.2.2.2.2.2.1, ha.2.2.2.2.2.2.2.2.2.1, ha.2.2.2.2.2.2.2.2.2.2.1, ha.2.2.2.2.2.2.2.2.2.2.2.1, trivial⟩
            obtain ⟨τ, rfl⟩ := ha2.ups
            refine RL.assign (v := (.bool false)) trivial rfl rfl ?_
            refine RL.nil ?_
            exact ⟨rfl, ⟨hv.1, hv.2.1, hv.2.2.1, hv.2.2.2.1, hv.2.2.2.2.1, hv.2.2.2.2.2.1, hv.2.2.2.2.2.2.1, hv.2.2.2.2.2.2.2.1, hv.2.2.2.2.2.2.2.2.1, hv.2.2.2.2.2.2.2.2.2.1, hv.2.2.2.2.2.2.2.2.2.2.1, hv.2.2.2.2.2.2.2.2.2.2.2.1, hv.2.2.2.2.2.2.2.2.2.2.2.2.1, fun _ => rfl, trivial⟩, ha, hw⟩
          intro D σ w hall hJ
          obtain ⟨hv, ha, hw⟩ := hJ
          have ha2 : agree σ [(91, (.bool false)), (0, v0), (3, (.pointer (some ⟨b1, 0, none⟩))), (7, (.int .i64 ((k158 : Nat) : Int))), (8, (.pointer (some ⟨b366, 0, none⟩))), (9, (.int .i64 ((k375 : Nat) : Int))), (10, (.pointer (some ⟨b465, 0, none⟩))), (55, v157), (56, (.int .i64 ((p1.Nets.length : Nat) : Int))), (57, (.int .i64 ((k158 : Nat) : Int))), (78, v374), (79, (.int .i64 ((x363.Pins.length : Nat) : Int))), (80, (.int .i64 ((k375 : Nat) : Int)))] := ⟨hv.2.2.2.2.2.2.2.2.2.2.2.2.2.1 (hall 13 (by decide)), ha.1, ha.2.1, ha.2.2.1, ha.2.2.2.1, ha.2.2.2.2.1, ha.2.2.2.2.2.1, ha.2.2.2.2.2.2.1, ha.2.2.2.2.2.2.2.1, ha.2.2.2.2.2.2.2.2.1, ha.2.2.2.2.2.2.2.2.2.1, ha.2.2.2.2.2.2.2.2.2.2.1, ha.2.2.2.2.2.2.2.2.2.2.2.1, trivial⟩
          obtain ⟨τ, rfl⟩ := ha2.ups
          injection hj with hj; subst hj
          exact ⟨rfl, ⟨rfl, rfl, rfl, rfl, rfl, rfl, rfl, rfl, rfl, rfl, rfl, rfl, trivial⟩, hw.pick 10 [5, 6, 7, 2, 8, 9] (new := [rd v0 p0, bx 26 b1 p1, bx 64 b366 x363, bx 28 b465 x462, rd v157 p1.Nets, rd v374 x363.Pins]) rfl rfl (by decide) (by decide)⟩
        replace hj := cT hg520 hj
        obtain ⟨x522, hx522, hj⟩ := bd hj
        obtain ⟨x526, hx526, hj⟩ := bd hj
        refine RC.draw mixed rfl (fun (D : Nat → Bool) (σ : Nat → Value) (w : World) => ∃ v521 v523 v524 v525 : Value, doneV D σ [(0, 92, (.int .i64 ((k375 : Nat) : Int))), (1, 93, (.bool (decide (((k375 : Nat) : Int) > 0)))), (2, 94, (.bool (decide (((k375 : Nat) : Int) > 0)))), (3, 95, (.pointer (some ⟨b366, 1, none⟩))), (4, 96, v521), (5, 97, (.int .i64 ((k375 : Nat) : Int))), (6, 98, (.int .i64 (IntKind.wrap .i64 (((k375 : Nat) : Int) - 1)))), (7, 99, v523), (8, 100, v524), (9, 101, v525), (10, 102, (.bool x526)), (11, 103, (.bool (!x526))), (12, 104, (.bool (!x526))), (13, 91, (.bool (!x526)))] ∧ agree σ [(0, v0), (3, (.pointer (some ⟨b1, 0, none⟩))), (7, (.int .i64 ((k158 : Nat) : Int))), (8, (.pointer (some ⟨b366, 0, none⟩))), (9, (.int .i64 ((k375 : Nat) : Int))), (10, (.pointer (some ⟨b465, 0, none⟩))), (55, v157), (56, (.int .i64 ((p1.Nets.length : Nat) : Int))), (57, (.int .i64 ((k158 : Nat) : Int))), (78, v374), (79, (.int .i64 ((x363.Pins.length : Nat) : Int))), (80, (.int .i64 ((k375 : Nat) : Int)))] ∧ Holds E w ([bif D 4 then (rd v521 x363.Pins) else junk, bif D 7 then (pt v523 x522) else junk, bif D 8 then (rd v524 x522) else junk, bif D 9 then (rd v525 x462) else junk, rd v467 x462, rd v466 p1, bx 28 b465 x462, rd v464 x462, pt v463 x462, rd v0 p0, bx 26 b1 p1, bx 64 b366 x363, rd v157 p1.Nets, rd v374 x363.Pins] ++ Γ)) ?_ ⟨?_, ?_, ?_, ?_, ?_, ?_, ?_, ?_, ?_, ?_, ?_, ?_, ?_, ?_, trivial⟩ ?_
        · have hw := hw.drew
          have hw := hw.junk
          have hw := hw.junk
          have hw := hw.junk
          have hw := hw.junk
          exact ⟨undef, undef, undef, undef, ⟨(fun h => by cases h), (fun h => by cases h), (fun h => by cases h), (fun h => by cases h), (fun h => by cases h), (fun h => by cases h), (fun h => by cases h), (fun h => by cases h), (fun h => by cases h), (fun h => by cases h), (fun h => by cases h), (fun h => by cases h), (fun h => by cases h), (fun h => by cases h), trivial⟩, ⟨rfl, rfl, rfl, rfl, rfl, rfl, rfl, rfl, rfl, rfl, rfl, rfl, trivial⟩, hw⟩
        · intro D σ w hD hdep hJ
          obtain ⟨v521, v523, v524, v525, hv, ha, hw⟩ := hJ
          have ha2 : agree σ [(0, v0), (3, (.pointer (some ⟨b1, 0, none⟩))), (7, (.int .i64 ((k158 : Nat) : Int))), (8, (.pointer (some ⟨b366, 0, none⟩))), (9, (.int .i64 ((k375 : Nat) : Int))), (10, (.pointer (some ⟨b465, 0, none⟩))), (55, v157), (56, (.int .i64 ((p1.Nets.length : Nat) : Int))), (57, (.int .i64 ((k158 : Nat) : Int))), (78, v374), (79, (.int .i64 ((x363.Pins.length : Nat) : Int))), (80, (.int .i64 ((k375 : Nat) : Int)))] := ⟨ha.1, ha.2.1, ha.2.2.1, ha.2.2.2.1, ha.2.2.2.2.1, ha.2.2.2.2.2.1, ha.2.2.2.2.2.2.1, ha.2.2.2.2.2.2.2.1, ha.2.2.2.2.2.2.2.2.1, ha.2.2.2.2.2.2.2.2.2.1, ha.2.2.2.2.2.2.2.2.2.2.1, ha.2.2.2.2.2.2.2.2.2.2.2.1, trivial⟩
          obtain ⟨τ, rfl⟩ := ha2.ups
          refine RL.move (v := (.int .i64 ((k375 : Nat) : Int))) trivial rfl rfl ?_
          refine RL.nil ?_
          exact ⟨rfl, v521, v523, v524, v525, ⟨fun _ => rfl, hv.2.1, hv.2.2.1, hv.2.2.2.1, hv.2.2.2.2.1, hv.2.2.2.2.2.1, hv.2.2.2.2.2.2.1, hv.2.2.2.2.2.2.2.1, hv.2.2.2.2.2.2.2.2.1, hv.2.2.2.2.2.2.2.2.2.1, hv.2.2.2.2.2.2.2.2.2.2.1, hv.2.2.2.2.2.2.2.2.2.2.2.1, hv.2.2.2.2.2.2.2.2.2.2.2.2.1, hv.2.2.2.2.2.2.2.2.2.2.2.2.2.1, trivial⟩, ha, hw⟩
        · intro D σ w hD hdep hJ
          obtain ⟨v521, v523, v524, v525, hv, ha, hw⟩ := hJ
          have ha2 : agree σ [(92, (.int .i64 ((k375 : Nat) : Int))), (0, v0), (3, (.pointer (some ⟨b1, 0, none⟩))), (7, (.int .i64 ((k158 : Nat) : Int))), (8, (.pointer (some ⟨b366, 0, none⟩))), (9, (.int .i64 ((k375 : Nat) : Int))), (10, (.pointer (some ⟨b465, 0, none⟩))), (55, v157), (56, (.int .i64 ((p1.Nets.length : Nat) : Int))), (57, (.int .i64 ((k158 : Nat) : Int))), (78, v374), (79, (.int .i64 ((x363.Pins.length : Nat) : Int))), (80, (.int .i64 ((k375 : Nat) : Int)))] := ⟨hv.1 (hdep.1 rfl), ha.1, ha.2.1, ha.2.2.1, ha.2.2.2.1, ha.2.2.2.2.1, ha.2.2.2.2.2.1, ha.2.2.2.2.2.2.1, ha.2.2.2.2.2.2.2.1, ha.2.2.2.2.2.2.2.2.1, ha.2.2.2.2.2.2.2.2.2.1, ha.2.2.2.2.2.2.2.2.2.2.1, ha.2.2.2.2.2.2.2.2.2.2.2.1, trivial⟩
          obtain ⟨τ, rfl⟩ := ha2.ups
          refine RL.icmp (a := ((k375 : Nat) : Int)) (b := 0) trivial rfl rfl rfl rfl ?_
          refine RL.nil ?_
          exact ⟨rfl, v521, v523, v524, v525, ⟨hv.1, fun _ => rfl, hv.2.2.1, hv.2.2.2.1, hv.2.2.2.2.1, hv.2.2.2.2.2.1, hv.2.2.2.2.2.2.1, hv.2.2.2.2.2.2.2.1, hv.2.2.2.2.2.2.2.2.1, hv.2.2.2.2.2.2.2.2.2.1, hv.2.2.2.2.2.2.2.2.2.2.1, hv.2.2.2.2.2.2.2.2.2.2.2.1, hv.2.2.2.2.2.2.2.2.2.2.2.2.1, hv.2.2.2.2.2.2.2.2.2.2.2.2.2.1, trivial⟩, ha, hw⟩
        · intro D σ w hD hdep hJ
          obtain ⟨v521, v523, v524, v525, hv, ha, hw⟩ := hJ
          have ha2 : agree σ [(93, (.bool (decide (((k375 : Nat) : Int) > 0)))), (0, v0), (3, (.pointer (some ⟨b1, 0, none⟩))), (7, (.int .i64 ((k158 : Nat) : Int))), (8, (.pointer (some ⟨b366, 0, none⟩))), (9, (.int .i64 ((k375 : Nat) : Int))), (10, (.pointer (some ⟨b465, 0, none⟩))), (55, v157), (56, (.int .i64 ((p1.Nets.length : Nat) : Int))), (57, (.int .i64 ((k158 : Nat) : Int))), (78, v374), (79, (.int .i64 ((x363.Pins.length : Nat) : Int))), (80, (.int .i64 ((k375 : Nat) : Int)))] := ⟨hv.2.1 (hdep.1 rfl), ha.1, ha.2.1, ha.2.2.1, ha.2.2.2.1, ha.2.2.2.2.1, ha.2.2.2.2.2.1, ha.2.2.2.2.2.2.1, ha.2.2.2.2.2.2.2.1, ha.2.2.2.2.2.2.2.2.1, ha.2.2.2.2.2.2.2.2.2.1, ha.2.2.2.2.2.2.2.2.2.2.1, ha.2.2.2.2.2.2.2.2.2.2.2.1, trivial⟩
          obtain ⟨τ, rfl⟩ := ha2.ups
          refine RL.move (v := (.bool (decide (((k375 : Nat) : Int) > 0)))) trivial rfl rfl ?_
          refine RL.nil ?_
          exact ⟨rfl, v521, v523, v524, v525, ⟨hv.1, hv.2.1, fun _ => rfl, hv.2.2.2.1, hv.2.2.2.2.1, hv.2.2.2.2.2.1, hv.2.2.2.2.2.2.1, hv.2.2.2.2.2.2.2.1, hv.2.2.2.2.2.2.2.2.1, hv.2.2.2.2.2.2.2.2.2.1, hv.2.2.2.2.2.2.2.2.2.2.1, hv.2.2.2.2.2.2.2.2.2.2.2.1, hv.2.2.2.2.2.2.2.2.2.2.2.2.1, hv.2.2.2.2.2.2.2.2.2.2.2.2.2.1, trivial⟩, ha, hw⟩
        · intro D σ w hD hdep hJ
          obtain ⟨v521, v523, v524, v525, hv, ha, hw⟩ := hJ
          have ha2 : agree σ [(94, (.bool (decide (((k375 : Nat) : Int) > 0)))), (0, v0), (3, (.pointer (some ⟨b1, 0, none⟩))), (7, (.int .i64 ((k158 : Nat) : Int))), (8, (.pointer (some ⟨b366, 0, none⟩))), (9, (.int .i64 ((k375 : Nat) : Int))), (10, (.pointer (some ⟨b465, 0, none⟩))), (55, v157), (56, (.int .i64 ((p1.Nets.length : Nat) : Int))), (57, (.int .i64 ((k158 : Nat) : Int))), (78, v374), (79, (.int .i64 ((x363.Pins.length : Nat) : Int))), (80, (.int .i64 ((k375 : Nat) : Int)))] := ⟨hv.2.2.1 (hdep.1 rfl), ha.1, ha.2.1, ha.2.2.1, ha.2.2.2.1, ha.2.2.2.2.1, ha.2.2.2.2.2.1, ha.2.2.2.2.2.2.1, ha.2.2.2.2.2.2.2.1, ha.2.2.2.2.2.2.2.2.1, ha.2.2.2.2.2.2.2.2.2.1, ha.2.2.2.2.2.2.2.2.2.2.1, ha.2.2.2.2.2.2.2.2.2.2.2.1, trivial⟩
          obtain ⟨τ, rfl⟩ := ha2.ups
          refine RL.fa_b ⟨_, rfl, congrArg Value.bool hg520⟩ rfl rfl fa64_1 ?_
          refine RL.nil ?_
          exact ⟨rfl, v521, v523, v524, v525, ⟨hv.1, hv.2.1, hv.2.2.1, fun _ => rfl, hv.2.2.2.2.1, hv.2.2.2.2.2.1, hv.2.2.2.2.2.2.1, hv.2.2.2.2.2.2.2.1, hv.2.2.2.2.2.2.2.2.1, hv.2.2.2.2.2.2.2.2.2.1, hv.2.2.2.2.2.2.2.2.2.2.1, hv.2.2.2.2.2.2.2.2.2.2.2.1, hv.2.2.2.2.2.2.2.2.2.2.2.2.1, hv.2.2.2.2.2.2.2.2.2.2.2.2.2.1, trivial⟩, ha, hw⟩
        · intro D σ w hD hdep hJ
          obtain ⟨v521, v523, v524, v525, hv, ha, hw⟩ := hJ
          have ha2 : agree σ [(95, (.pointer (some ⟨b366, 1, none⟩))), (94, (.bool (decide (((k375 : Nat) : Int) > 0)))), (0, v0), (3, (.pointer (some ⟨b1, 0, none⟩))), (7, (.int .i64 ((k158 : Nat) : Int))), (8, (.pointer (some ⟨b366, 0, none⟩))), (9, (.int .i64 ((k375 : Nat) : Int))), (10, (.pointer (some ⟨b465, 0, none⟩))), (55, v157), (56, (.int .i64 ((p1.Nets.length : Nat) : Int))), (57, (.int .i64 ((k158 : Nat) : Int))), (78, v374), (79, (.int .i64 ((x363.Pins.length : Nat) : Int))), (80, (.int .i64 ((k375 : Nat) : Int)))] := ⟨hv.2.2.2.1 (hdep.1 rfl), hv.2.2.1 (hdep.2.1 rfl), ha.1, ha.2.1, ha.2.2.1, ha.2.2.2.1, ha.2.2.2.2.1, ha.2.2.2.2.2.1, ha.2.2.2.2.2.2.1, ha.2.2.2.2.2.2.2.1, ha.2.2.2.2.2.2.2.2.1, ha.2.2.2.2.2.2.2.2.2.1, ha.2.2.2.2.2.2.2.2.2.2.1, ha.2.2.2.2.2.2.2.2.2.2.2.1, trivial⟩
          obtain ⟨τ, rfl⟩ := ha2.ups
          refine RL.load_bf (i := 11) (f := (fun x => x.Pins)) ⟨_, rfl, congrArg Value.bool hg520⟩ rfl hw rfl rfl fd_Net_1 ty33 fun v527 hw => ?_
          have hw := hw.fillat 0 1 0 rfl rfl rfl (by simp)
          refine RL.nil ?_
          exact ⟨rfl, v527, v523, v524, v525, ⟨hv.1, hv.2.1, hv.2.2.1, hv.2.2.2.1, fun _ => rfl, hv.2.2.2.2.2.1, hv.2.2.2.2.2.2.1, hv.2.2.2.2.2.2.2.1, hv.2.2.2.2.2.2.2.2.1, hv.2.2.2.2.2.2.2.2.2.1, hv.2.2.2.2.2.2.2.2.2.2.1, hv.2.2.2.2.2.2.2.2.2.2.2.1, hv.2.2.2.2.2.2.2.2.2.2.2.2.1, hv.2.2.2.2.2.2.2.2.2.2.2.2.2.1, trivial⟩, ha, hw⟩
        · intro D σ w hD hdep hJ
          obtain ⟨v521, v523, v524, v525, hv, ha, hw⟩ := hJ
          have ha2 : agree σ [(94, (.bool (decide (((k375 : Nat) : Int) > 0)))), (0, v0), (3, (.pointer (some ⟨b1, 0, none⟩))), (7, (.int .i64 ((k158 : Nat) : Int))), (8, (.pointer (some ⟨b366, 0, none⟩))), (9, (.int .i64 ((k375 : Nat) : Int))), (10, (.pointer (some ⟨b465, 0, none⟩))), (55, v157), (56, (.int .i64 ((p1.Nets.length : Nat) : Int))), (57, (.int .i64 ((k158 : Nat) : Int))), (78, v374), (79, (.int .i64 ((x363.Pins.length : Nat) : Int))), (80, (.int .i64 ((k375 : Nat) : Int)))] := ⟨hv.2.2.1 (hdep.1 rfl), ha.1, ha.2.1, ha.2.2.1, ha.2.2.2.1, ha.2.2.2.2.1, ha.2.2.2.2.2.1, ha.2.2.2.2.2.2.1, ha.2.2.2.2.2.2.2.1, ha.2.2.2.2.2.2.2.2.1, ha.2.2.2.2.2.2.2.2.2.1, ha.2.2.2.2.2.2.2.2.2.2.1, ha.2.2.2.2.2.2.2.2.2.2.2.1, trivial⟩
          obtain ⟨τ, rfl⟩ := ha2.ups
          refine RL.move (v := (.int .i64 ((k375 : Nat) : Int))) ⟨_, rfl, congrArg Value.bool hg520⟩ rfl rfl ?_
          refine RL.nil ?_
          exact ⟨rfl, v521, v523, v524, v525, ⟨hv.1, hv.2.1, hv.2.2.1, hv.2.2.2.1, hv.2.2.2.2.1, fun _ => rfl, hv.2.2.2.2.2.2.1, hv.2.2.2.2.2.2.2.1, hv.2.2.2.2.2.2.2.2.1, hv.2.2.2.2.2.2.2.2.2.1, hv.2.2.2.2.2.2.2.2.2.2.1, hv.2.2.2.2.2.2.2.2.2.2.2.1, hv.2.2.2.2.2.2.2.2.2.2.2.2.1, hv.2.2.2.2.2.2.2.2.2.2.2.2.2.1, trivial⟩, ha, hw⟩
        · intro D σ w hD hdep hJ
          obtain ⟨v521, v523, v524, v525, hv, ha, hw⟩ := hJ
          have ha2 : agree σ [(97, (.int .i64 ((k375 : Nat) : Int))), (94, (.bool (decide (((k375 : Nat) : Int) > 0)))), (0, v0), (3, (.pointer (some ⟨b1, 0, none⟩))), (7, (.int .i64 ((k158 : Nat) : Int))), (8, (.pointer (some ⟨b366, 0, none⟩))), (9, (.int .i64 ((k375 : Nat) : Int))), (10, (.pointer (some ⟨b465, 0, none⟩))), (55, v157), (56, (.int .i64 ((p1.Nets.length : Nat) : Int))), (57, (.int .i64 ((k158 : Nat) : Int))), (78, v374), (79, (.int .i64 ((x363.Pins.length : Nat) : Int))), (80, (.int .i64 ((k375 : Nat) : Int)))] := ⟨hv.2.2.2.2.2.1 (hdep.1 rfl), hv.2.2.1 (hdep.2.1 rfl), ha.1, ha.2.1, ha.2.2.1, ha.2.2.2.1, ha.2.2.2.2.1, ha.2.2.2.2.2.1, ha.2.2.2.2.2.2.1, ha.2.2.2.2.2.2.2.1, ha.2.2.2.2.2.2.2.2.1, ha.2.2.2.2.2.2.2.2.2.1, ha.2.2.2.2.2.2.2.2.2.2.1, ha.2.2.2.2.2.2.2.2.2.2.2.1, trivial⟩
          obtain ⟨τ, rfl⟩ := ha2.ups
          refine RL.iar (a := ((k375 : Nat) : Int)) (b := 1) ⟨_, rfl, congrArg Value.bool hg520⟩ rfl rfl rfl rfl ?_
          refine RL.nil ?_
          exact ⟨rfl, v521, v523, v524, v525, ⟨hv.1, hv.2.1, hv.2.2.1, hv.2.2.2.1, hv.2.2.2.2.1, hv.2.2.2.2.2.1, fun _ => rfl, hv.2.2.2.2.2.2.2.1, hv.2.2.2.2.2.2.2.2.1, hv.2.2.2.2.2.2.2.2.2.1, hv.2.2.2.2.2.2.2.2.2.2.1, hv.2.2.2.2.2.2.2.2.2.2.2.1, hv.2.2.2.2.2.2.2.2.2.2.2.2.1, hv.2.2.2.2.2.2.2.2.2.2.2.2.2.1, trivial⟩, ha, hw⟩
        · intro D σ w hD hdep hJ
          obtain ⟨v521, v523, v524, v525, hv, ha, hw⟩ := hJ
          have ha2 : agree σ [(96, v521), (98, (.int .i64 (IntKind.wrap .i64 (((k375 : Nat) : Int) - 1)))), (94, (.bool (decide (((k375 : Nat) : Int) > 0)))), (0, v0), (3, (.pointer (some ⟨b1, 0, none⟩))), (7, (.int .i64 ((k158 : Nat) : Int))), (8, (.pointer (some ⟨b366, 0, none⟩))), (9, (.int .i64 ((k375 : Nat) : Int))), (10, (.pointer (some ⟨b465, 0, none⟩))), (55, v157), (56, (.int .i64 ((p1.Nets.length : Nat) : Int))), (57, (.int .i64 ((k158 : Nat) : Int))), (78, v374), (79, (.int .i64 ((x363.Pins.length : Nat) : Int))), (80, (.int .i64 ((k375 : Nat) : Int)))] := ⟨hv.2.2.2.2.1 (hdep.1 rfl), hv.2.2.2.2.2.2.1 (hdep.2.1 rfl), hv.2.2.1 (hdep.2.2.1 rfl), ha.1, ha.2.1, ha.2.2.1, ha.2.2.2.1, ha.2.2.2.2.1, ha.2.2.2.2.2.1, ha.2.2.2.2.2.2.1, ha.2.2.2.2.2.2.2.1, ha.2.2.2.2.2.2.2.2.1, ha.2.2.2.2.2.2.2.2.2.1, ha.2.2.2.2.2.2.2.2.2.2.1, ha.2.2.2.2.2.2.2.2.2.2.2.1, trivial⟩
          obtain ⟨τ, rfl⟩ := ha2.ups
          refine RL.ia_rd (i := 0) ⟨_, rfl, congrArg Value.bool hg520⟩ rfl hw rfl rfl (ent_t (hdep.1 rfl)) sl33 hx522 fun v528 hw => ?_
          have hw := hw.fillat 0 1 1 rfl rfl rfl (by simp)
          refine RL.nil ?_
          exact ⟨rfl, v521, v528, v524, v525, ⟨hv.1, hv.2.1, hv.2.2.1, hv.2.2.2.1, hv.2.2.2.2.1, hv.2.2.2.2.2.1, hv.2.2.2.2.2.2.1, fun _ => rfl, hv.2.2.2.2.2.2.2.2.1, hv.2.2.2.2.2.2.2.2.2.1, hv.2.2.2.2.2.2.2.2.2.2.1, hv.2.2.2.2.2.2.2.2.2.2.2.1, hv.2.2.2.2.2.2.2.2.2.2.2.2.1, hv.2.2.2.2.2.2.2.2.2.2.2.2.2.1, trivial⟩, ha, hw⟩
        · intro D σ w hD hdep hJ
          obtain ⟨v521, v523, v524, v525, hv, ha, hw⟩ := hJ
          have ha2 : agree σ [(99, v523), (94, (.bool (decide (((k375 : Nat) : Int) > 0)))), (0, v0), (3, (.pointer (some ⟨b1, 0, none⟩))), (7, (.int .i64 ((k158 : Nat) : Int))), (8, (.pointer (some ⟨b366, 0, none⟩))), (9, (.int .i64 ((k375 : Nat) : Int))), (10, (.pointer (some ⟨b465, 0, none⟩))), (55, v157), (56, (.int .i64 ((p1.Nets.length : Nat) : Int))), (57, (.int .i64 ((k158 : Nat) : Int))), (78, v374), (79, (.int .i64 ((x363.Pins.length : Nat) : Int))), (80, (.int .i64 ((k375 : Nat) : Int)))] := ⟨hv.2.2.2.2.2.2.2.1 (hdep.1 rfl), hv.2.2.1 (hdep.2.1 rfl), ha.1, ha.2.1, ha.2.2.1, ha.2.2.2.1, ha.2.2.2.2.1, ha.2.2.2.2.2.1, ha.2.2.2.2.2.2.1, ha.2.2.2.2.2.2.2.1, ha.2.2.2.2.2.2.2.2.1, ha.2.2.2.2.2.2.2.2.2.1, ha.2.2.2.2.2.2.2.2.2.2.1, ha.2.2.2.2.2.2.2.2.2.2.2.1, trivial⟩
          obtain ⟨τ, rfl⟩ := ha2.ups
          refine RL.load_pt (i := 1) (x := x522) ⟨_, rfl, congrArg Value.bool hg520⟩ rfl hw rfl (ent_t (hdep.1 rfl)) ty28 fun v529 hw => ?_
          have hw := hw.fillat 0 1 2 rfl rfl rfl (by simp)
          refine RL.nil ?_
          exact ⟨rfl, v521, v523, v529, v525, ⟨hv.1, hv.2.1, hv.2.2.1, hv.2.2.2.1, hv.2.2.2.2.1, hv.2.2.2.2.2.1, hv.2.2.2.2.2.2.1, hv.2.2.2.2.2.2.2.1, fun _ => rfl, hv.2.2.2.2.2.2.2.2.2.1, hv.2.2.2.2.2.2.2.2.2.2.1, hv.2.2.2.2.2.2.2.2.2.2.2.1, hv.2.2.2.2.2.2.2.2.2.2.2.2.1, hv.2.2.2.2.2.2.2.2.2.2.2.2.2.1, trivial⟩, ha, hw⟩
        · intro D σ w hD hdep hJ
          obtain ⟨v521, v523, v524, v525, hv, ha, hw⟩ := hJ
          have ha2 : agree σ [(94, (.bool (decide (((k375 : Nat) : Int) > 0)))), (0, v0), (3, (.pointer (some ⟨b1, 0, none⟩))), (7, (.int .i64 ((k158 : Nat) : Int))), (8, (.pointer (some ⟨b366, 0, none⟩))), (9, (.int .i64 ((k375 : Nat) : Int))), (10, (.pointer (some ⟨b465, 0, none⟩))), (55, v157), (56, (.int .i64 ((p1.Nets.length : Nat) : Int))), (57, (.int .i64 ((k158 : Nat) : Int))), (78, v374), (79, (.int .i64 ((x363.Pins.length : Nat) : Int))), (80, (.int .i64 ((k375 : Nat) : Int)))] := ⟨hv.2.2.1 (hdep.1 rfl), ha.1, ha.2.1, ha.2.2.1, ha.2.2.2.1, ha.2.2.2.2.1, ha.2.2.2.2.2.1, ha.2.2.2.2.2.2.1, ha.2.2.2.2.2.2.2.1, ha.2.2.2.2.2.2.2.2.1, ha.2.2.2.2.2.2.2.2.2.1, ha.2.2.2.2.2.2.2.2.2.2.1, ha.2.2.2.2.2.2.2.2.2.2.2.1, trivial⟩
          obtain ⟨τ, rfl⟩ := ha2.ups
          refine RL.load_bf (i := 6) (f := (fun x => x)) ⟨_, rfl, congrArg Value.bool hg520⟩ rfl hw rfl rfl Fd.self ty28 fun v530 hw => ?_
          have hw := hw.fillat 0 1 3 rfl rfl rfl (by simp)
          refine RL.nil ?_
          exact ⟨rfl, v521, v523, v524, v530, ⟨hv.1, hv.2.1, hv.2.2.1, hv.2.2.2.1, hv.2.2.2.2.1, hv.2.2.2.2.2.1, hv.2.2.2.2.2.2.1, hv.2.2.2.2.2.2.2.1, hv.2.2.2.2.2.2.2.2.1, fun _ => rfl, hv.2.2.2.2.2.2.2.2.2.2.1, hv.2.2.2.2.2.2.2.2.2.2.2.1, hv.2.2.2.2.2.2.2.2.2.2.2.2.1, hv.2.2.2.2.2.2.2.2.2.2.2.2.2.1, trivial⟩, ha, hw⟩
        · intro D σ w hD hdep hJ
          obtain ⟨v521, v523, v524, v525, hv, ha, hw⟩ := hJ
          have ha2 : agree σ [(100, v524), (101, v525), (94, (.bool (decide (((k375 : Nat) : Int) > 0)))), (0, v0), (3, (.pointer (some ⟨b1, 0, none⟩))), (7, (.int .i64 ((k158 : Nat) : Int))), (8, (.pointer (some ⟨b366, 0, none⟩))), (9, (.int .i64 ((k375 : Nat) : Int))), (10, (.pointer (some ⟨b465, 0, none⟩))), (55, v157), (56, (.int .i64 ((p1.Nets.length : Nat) : Int))), (57, (.int .i64 ((k158 : Nat) : Int))), (78, v374), (79, (.int .i64 ((x363.Pins.length : Nat) : Int))), (80, (.int .i64 ((k375 : Nat) : Int)))] := ⟨hv.2.2.2.2.2.2.2.2.1 (hdep.1 rfl), hv.2.2.2.2.2.2.2.2.2.1 (hdep.2.1 rfl), hv.2.2.1 (hdep.2.2.1 rfl), ha.1, ha.2.1, ha.2.2.1, ha.2.2.2.1, ha.2.2.2.2.1, ha.2.2.2.2.2.1, ha.2.2.2.2.2.2.1, ha.2.2.2.2.2.2.2.1, ha.2.2.2.2.2.2.2.2.1, ha.2.2.2.2.2.2.2.2.2.1, ha.2.2.2.2.2.2.2.2.2.2.1, ha.2.2.2.2.2.2.2.2.2.2.2.1, trivial⟩
          obtain ⟨τ, rfl⟩ := ha2.ups
          refine RL.call ⟨_, rfl, congrArg Value.bool hg520⟩ rfl fn103 [v524, v525] rfl (Calls_ret (etchhouseref2_before_ok N  (i0 := 2) (i1 := 3) hw (ent_t (hdep.1 rfl)) (ent_t (hdep.2.1 rfl)) hx526) ?_)
          rintro _ w ⟨rfl, hw⟩
          refine RL.nil ?_
          exact ⟨rfl, v521, v523, v524, v525, ⟨hv.1, hv.2.1, hv.2.2.1, hv.2.2.2.1, hv.2.2.2.2.1, hv.2.2.2.2.2.1, hv.2.2.2.2.2.2.1, hv.2.2.2.2.2.2.2.1, hv.2.2.2.2.2.2.2.2.1, hv.2.2.2.2.2.2.2.2.2.1, fun _ => rfl, hv.2.2.2.2.2.2.2.2.2.2.2.1, hv.2.2.2.2.2.2.2.2.2.2.2.2.1, hv.2.2.2.2.2.2.2.2.2.2.2.2.2.1, trivial⟩, ha, hw⟩
        · intro D σ w hD hdep hJ
          obtain ⟨v521, v523, v524, v525, hv, ha, hw⟩ := hJ
          have ha2 : agree σ [(102, (.bool x526)), (94, (.bool (decide (((k375 : Nat) : Int) > 0)))), (0, v0), (3, (.pointer (some ⟨b1, 0, none⟩))), (7, (.int .i64 ((k158 : Nat) : Int))), (8, (.pointer (some ⟨b366, 0, none⟩))), (9, (.int .i64 ((k375 : Nat) : Int))), (10, (.pointer (some ⟨b465, 0, none⟩))), (55, v157), (56, (.int .i64 ((p1.Nets.length : Nat) : Int))), (57, (.int .i64 ((k158 : Nat) : Int))), (78, v374), (79, (.int .i64 ((x363.Pins.length : Nat) : Int))), (80, (.int .i64 ((k375 : Nat) : Int)))] := ⟨hv.2.2.2.2.2.2.2.2.2.2.1 (hdep.1 rfl), hv.2.2.1 (hdep.2.1 rfl), ha.1, ha.2.1, ha.2.2.1, ha.2.2.2.1, ha.2.2.2.2.1, ha.2.2.2.2.2.1, ha.2.2.2.2.2.2.1, ha.2.2.2.2.2.2.2.1, ha.2.2.2.2.2.2.2.2.1, ha.2.2.2.2.2.2.2.2.2.1, ha.2.2.2.2.2.2.2.2.2.2.1, ha.2.2.2.2.2.2.2.2.2.2.2.1, trivial⟩
          obtain ⟨τ, rfl⟩ := ha2.ups
          refine RL.not (b := x526) ⟨_, rfl, congrArg Value.bool hg520⟩ rfl rfl ?_
          refine RL.nil ?_
          exact ⟨rfl, v521, v523, v524, v525, ⟨hv.1, hv.2.1, hv.2.2.1, hv.2.2.2.1, hv.2.2.2.2.1, hv.2.2.2.2.2.1, hv.2.2.2.2.2.2.1, hv.2.2.2.2.2.2.2.1, hv.2.2.2.2.2.2.2.2.1, hv.2.2.2.2.2.2.2.2.2.1, hv.2.2.2.2.2.2.2.2.2.2.1, fun _ => rfl, hv.2.2.2.2.2.2.2.2.2.2.2.2.1, hv.2.2.2.2.2.2.2.2.2.2.2.2.2.1, trivial⟩, ha, hw⟩
        · intro D σ w hD hdep hJ
          obtain ⟨v521, v523, v524, v525, hv, ha, hw⟩ := hJ
          have ha2 : agree σ [(94, (.bool (decide (((k375 : Nat) : Int) > 0)))), (103, (.bool (!x526))), (0, v0), (3, (.pointer (some ⟨b1, 0, none⟩))), (7, (.int .i64 ((k158 : Nat) : Int))), (8, (.pointer (some ⟨b366, 0, none⟩))), (9, (.int .i64 ((k375 : Nat) : Int))), (10, (.pointer (some ⟨b465, 0, none⟩))), (55, v157), (56, (.int .i64 ((p1.Nets.length : Nat) : Int))), (57, (.int .i64 ((k158 : Nat) : Int))), (78, v374), (79, (.int .i64 ((x363.Pins.length : Nat) : Int))), (80, (.int .i64 ((k375 : Nat) : Int)))] := ⟨hv.2.2.1 (hdep.1 rfl), hv.2.2.2.2.2.2.2.2.2.2.2.1 (hdep.2.1 rfl), ha.1, ha.2.1, ha.2.2.1, ha.2.2.2.1, ha.2.2.2.2.1, ha.2.2.2.2.2.1, ha.2.2.2.2.2.2.1, ha.2.2.2.2.2.2.2.1, ha.2.2.2.2.2.2.2.2.1, ha.2.2.2.2.2.2.2.2.2.1, ha.2.2.2.2.2.2.2.2.2.2.1, ha.2.2.2.2.2.2.2.2.2.2.2.1, trivial⟩
          obtain ⟨τ, rfl⟩ := ha2.ups
          refine RL.pick (b := (decide (((k375 : Nat) : Int) > 0))) (v := (.bool (!x526))) trivial rfl rfl (by rw [hg520]; rfl) ?_
          refine RL.nil ?_
          exact ⟨rfl, v521, v523, v524, v525, ⟨hv.1, hv.2.1, hv.2.2.1, hv.2.2.2.1, hv.2.2.2.2.1, hv.2.2.2.2.2.1, hv.2.2.2.2.2.2.1, hv.2.2.2.2.2.2.2.1, hv.2.2.2.2.2.2.2.2.1, hv.2.2.2.2.2.2.2.2.2.1, hv.2.2.2.2.2.2.2.2.2.2.1, hv.2.2.2.2.2.2.2.2.2.2.2.1, fun _ => rfl, hv.2.2.2.2.2.2.2.2.2.2.2.2.2.1, trivial⟩, ha, hw⟩
        · intro D σ w hD hdep hJ
          obtain ⟨v521, v523, v524, v525, hv, ha, hw⟩ := hJ
          have ha2 : agree σ [(104, (.bool (!x526))), (102, (.bool x526)), (0, v0), (3, (.pointer (some ⟨b1, 0, none⟩))), (7, (.int .i64 ((k158 : Nat) : Int))), (8, (.pointer (some ⟨b366, 0, none⟩))), (9, (.int .i64 ((k375 : Nat) : Int))), (10, (.pointer (some ⟨b465, 0, none⟩))), (55, v157), (56, (.int .i64 ((p1.Nets.length : Nat) : Int))), (57, (.int .i64 ((k158 : Nat) : Int))), (78, v374), (79, (.int .i64 ((x363.Pins.length : Nat) : Int))), (80, (.int .i64 ((k375 : Nat) : Int)))] := ⟨hv.2.2.2.2.2.2.2.2.2.2.2.2.1 (hdep.1 rfl), hv.2.2.2.2.2.2.2.2.2.2.1 (hdep.2.1 rfl), ha.1, ha.2.1, ha.2.2.1, ha.2.2.2.1, ha.2.2.2.2.1, ha.2.2.2.2.2.1, ha.2.2.2.2.2.2.1, ha.2.2.2.2.2.2.2.1, ha.2.2.2.2.2.2.2.2.1, ha.2.2.2.2.2.2.2.2.2.1, ha.2.2.2.2.2.2.2.2.2.2.1, ha.2.2.2.2.2.2.2.2.2.2.2.1, trivial⟩
          obtain ⟨τ, rfl⟩ := ha2.ups
          refine RL.assign (v := (.bool (!x526))) trivial rfl rfl ?_
          refine RL.nil ?_
          exact ⟨rfl, v521, v523, v524, v525, ⟨hv.1, hv.2.1, hv.2.2.1, hv.2.2.2.1, hv.2.2.2.2.1, hv.2.2.2.2.2.1, hv.2.2.2.2.2.2.1, hv.2.2.2.2.2.2.2.1, hv.2.2.2.2.2.2.2.2.1, hv.2.2.2.2.2.2.2.2.2.1, hv.2.2.2.2.2.2.2.2.2.2.1, hv.2.2.2.2.2.2.2.2.2.2.2.1, hv.2.2.2.2.2.2.2.2.2.2.2.2.1, fun _ => rfl, trivial⟩, ha, hw⟩
        intro D σ w hall hJ
        obtain ⟨v521, v523, v524, v525, hv, ha, hw⟩ := hJ
        rw [hall 4 (by decide)] at hw
        rw [hall 7 (by decide)] at hw
        rw [hall 8 (by decide)] at hw
        rw [hall 9 (by decide)] at hw
        have ha2 : agree σ [(91, (.bool (!x526))), (0, v0), (3, (.pointer (some ⟨b1, 0, none⟩))), (7, (.int .i64 ((k158 : Nat) : Int))), (8, (.pointer (some ⟨b366, 0, none⟩))), (9, (.int .i64 ((k375 : Nat) : Int))), (10, (.pointer (some ⟨b465, 0, none⟩))), (55, v157), (56, (.int .i64 ((p1.Nets.length : Nat) : Int))), (57, (.int .i64 ((k158 : Nat) : Int))), (78, v374), (79, (.int .i64 ((x363.Pins.length : Nat) : Int))), (80, (.int .i64 ((k375 : Nat) : Int)))] := ⟨hv.2.2.2.2.2.2.2.2.2.2.2.2.2.1 (hall 13 (by decide)), ha.1, ha.2.1, ha.2.2.1, ha.2.2.2.1, ha.2.2.2.2.1, ha.2.2.2.2.2.1, ha.2.2.2.2.2.2.1, ha.2.2.2.2.2.2.2.1, ha.2.2.2.2.2.2.2.2.1, ha.2.2.2.2.2.2.2.2.2.1, ha.2.2.2.2.2.2.2.2.2.2.1, ha.2.2.2.2.2.2.2.2.2.2.2.1, trivial⟩
        obtain ⟨τ, rfl⟩ := ha2.ups
        injection hj with hj; subst hj
        exact ⟨rfl, ⟨rfl, rfl, rfl, rfl, rfl, rfl, rfl, rfl, rfl, rfl, rfl, rfl, trivial⟩, hw.pick 14 [9, 10, 11, 6, 12, 13] (new := [rd v0 p0, bx 26 b1 p1, bx 64 b366 x363, bx 28 b465 x462, rd v157 p1.Nets, rd v374 x363.Pins]) rfl rfl (by decide) (by decide)⟩
      rintro σ w ⟨ha, hw⟩
      obtain ⟨τ, rfl⟩ := ha.ups
      refine thenQ_n ?_
      refine RC.cond (b := s519) rfl (fun hc => ?_) (fun hc => ?_)
      · replace hb := cT hc hb
        refine RC.seq ?_
        refine RC.region ?_
        refine RL.assign (v := (.int .i64 8)) trivial rfl rfl ?_
        refine RL.nil ?_
        refine thenQ_n ?_
        refine RC.ret ?_
        refine blkQ_r ?_
        refine blkQ_r ?_
        refine thenQ_r ?_
        injection hb with hb; subst hb
        exact ⟨rfl, fin1 rfl rfl ⟨rfl, hw.drop 6 rfl⟩⟩
      replace hb := cF hc hb
      refine RC.seq ?_
      obtain ⟨x540, hx540, hb⟩ := bd hb
      obtain ⟨x543, hx543, hb⟩ := bd hb
      refine RC.draw mixed rfl (fun (D : Nat → Bool) (σ : Nat → Value) (w : World) => ∃ v539 v541 v542 : Value, doneV D σ [(0, 106, (.pointer (some ⟨b1, 1, none⟩))), (1, 107, v539), (2, 108, (.int .i64 ((k158 : Nat) : Int))), (3, 109, v541), (4, 110, v542), (5, 111, (.bool x543)), (6, 105, (.bool x543))] ∧ agree σ [(0, v0), (3, (.pointer (some ⟨b1, 0, none⟩))), (7, (.int .i64 ((k158 : Nat) : Int))), (8, (.pointer (some ⟨b366, 0, none⟩))), (10, (.pointer (some ⟨b465, 0, none⟩))), (55, v157), (56, (.int .i64 ((p1.Nets.length : Nat) : Int))), (57, (.int .i64 ((k158 : Nat) : Int))), (78, v374), (79, (.int .i64 ((x363.Pins.length : Nat) : Int))), (80, (.int .i64 ((k375 : Nat) : Int)))] ∧ Holds E w ([bif D 1 then (rd v539 p1.Nets) else junk, bif D 3 then (rd v541 x540) else junk, bif D 4 then (rd v542 x462) else junk, rd v0 p0, bx 26 b1 p1, bx 64 b366 x363, bx 28 b465 x462, rd v157 p1.Nets, rd v374 x363.Pins] ++ Γ)) ?_ ⟨?_, ?_, ?_, ?_, ?_, ?_, ?_, trivial⟩ ?_
      · have hw := hw.drew
        have hw := hw.junk
        have hw := hw.junk
        have hw := hw.junk
        exact ⟨undef, undef, undef, ⟨(fun h => by cases h), (fun h => by cases h), (fun h => by cases h), (fun h => by cases h), (fun h => by cases h), (fun h => by cases h), (fun h => by cases h), trivial⟩, ⟨rfl, rfl, rfl, rfl, rfl, rfl, rfl, rfl, rfl, rfl, rfl, trivial⟩, hw⟩
      · intro D σ w hD hdep hJ
        obtain ⟨v539, v541, v542, hv, ha, hw⟩ := hJ
        have ha2 : agree σ [(0, v0), (3, (.pointer (some ⟨b1, 0, none⟩))), (7, (.int .i64 ((k158 : Nat) : Int))), (8, (.pointer (some ⟨b366, 0, none⟩))), (10, (.pointer (some ⟨b465, 0, none⟩))), (55, v157), (56, (.int .i64 ((p1.Nets.length : Nat) : Int))), (57, (.int .i64 ((k158 : Nat) : Int))), (78, v374), (79, (.int .i64 ((x363.Pins.length : Nat) : Int))), (80, (.int .i64 ((k375 : Nat) : Int)))] := ⟨ha.1, ha.2.1, ha.2.2.1, ha.2.2.2.1, ha.2.2.2.2.1, ha.2.2.2.2.2.1, ha.2.2.2.2.2.2.1, ha.2.2.2.2.2.2.2.1, ha.2.2.2.2.2.2.2.2.1, ha.2.2.2.2.2.2.2.2.2.1, ha.2.2.2.2.2.2.2.2.2.2.1, trivial⟩
        obtain ⟨τ, rfl⟩ := ha2.ups
        refine RL.fa_b trivial rfl rfl fa26_1 ?_
        refine RL.nil ?_
        exact ⟨rfl, v539, v541, v542, ⟨fun _ => rfl, hv.2.1, hv.2.2.1, hv.2.2.2.1, hv.2.2.2.2.1, hv.2.2.2.2.2.1, hv.2.2.2.2.2.2.1, trivial⟩, ha, hw⟩
      · intro D σ w hD hdep hJ
        obtain ⟨v539, v541, v542, hv, ha, hw⟩ := hJ
        have ha2 : agree σ [(106, (.pointer (some ⟨b1, 1, none⟩))), (0, v0), (3, (.pointer (some ⟨b1, 0, none⟩))), (7, (.int .i64 ((k158 : Nat) : Int))), (8, (.pointer (some ⟨b366, 0, none⟩))), (10, (.pointer (some ⟨b465, 0, none⟩))), (55, v157), (56, (.int .i64 ((p1.Nets.length : Nat) : Int))), (57, (.int .i64 ((k158 : Nat) : Int))), (78, v374), (79, (.int .i64 ((x363.Pins.length : Nat) : Int))), (80, (.int .i64 ((k375 : Nat) : Int)))] := ⟨hv.1 (hdep.1 rfl), ha.1, ha.2.1, ha.2.2.1, ha.2.2.2.1, ha.2.2.2.2.1, ha.2.2.2.2.2.1, ha.2.2.2.2.2.2.1, ha.2.2.2.2.2.2.2.1, ha.2.2.2.2.2.2.2.2.1, ha.2.2.2.2.2.2.2.2.2.1, ha.2.2.2.2.2.2.2.2.2.2.1, trivial⟩
        obtain ⟨τ, rfl⟩ := ha2.ups
        refine RL.load_bf (i := 4) (f := (fun x => x.Nets)) trivial rfl hw rfl rfl fd_Netlist_1 ty24 fun v544 hw => ?_
        have hw := hw.fillat 0 1 0 rfl rfl rfl (by simp)
        refine RL.nil ?_
        exact ⟨rfl, v544, v541, v542, ⟨hv.1, fun _ => rfl, hv.2.2.1, hv.2.2.2.1, hv.2.2.2.2.1, hv.2.2.2.2.2.1, hv.2.2.2.2.2.2.1, trivial⟩, ha, hw⟩
      · intro D σ w hD hdep hJ
        obtain ⟨v539, v541, v542, hv, ha, hw⟩ := hJ
        have ha2 : agree σ [(0, v0), (3, (.pointer (some ⟨b1, 0, none⟩))), (7, (.int .i64 ((k158 : Nat) : Int))), (8, (.pointer (some ⟨b366, 0, none⟩))), (10, (.pointer (some ⟨b465, 0, none⟩))), (55, v157), (56, (.int .i64 ((p1.Nets.length : Nat) : Int))), (57, (.int .i64 ((k158 : Nat) : Int))), (78, v374), (79, (.int .i64 ((x363.Pins.length : Nat) : Int))), (80, (.int .i64 ((k375 : Nat) : Int)))] := ⟨ha.1, ha.2.1, ha.2.2.1, ha.2.2.2.1, ha.2.2.2.2.1, ha.2.2.2.2.2.1, ha.2.2.2.2.2.2.1, ha.2.2.2.2.2.2.2.1, ha.2.2.2.2.2.2.2.2.1, ha.2.2.2.2.2.2.2.2.2.1, ha.2.2.2.2.2.2.2.2.2.2.1, trivial⟩
        obtain ⟨τ, rfl⟩ := ha2.ups
        refine RL.move (v := (.int .i64 ((k158 : Nat) : Int))) trivial rfl rfl ?_
        refine RL.nil ?_
        exact ⟨rfl, v539, v541, v542, ⟨hv.1, hv.2.1, fun _ => rfl, hv.2.2.2.1, hv.2.2.2.2.1, hv.2.2.2.2.2.1, hv.2.2.2.2.2.2.1, trivial⟩, ha, hw⟩
      · intro D σ w hD hdep hJ
        obtain ⟨v539, v541, v542, hv, ha, hw⟩ := hJ
        have ha2 : agree σ [(107, v539), (108, (.int .i64 ((k158 : Nat) : Int))), (0, v0), (3, (.pointer (some ⟨b1, 0, none⟩))), (7, (.int .i64 ((k158 : Nat) : Int))), (8, (.pointer (some ⟨b366, 0, none⟩))), (10, (.pointer (some ⟨b465, 0, none⟩))), (55, v157), (56, (.int .i64 ((p1.Nets.length : Nat) : Int))), (57, (.int .i64 ((k158 : Nat) : Int))), (78, v374), (79, (.int .i64 ((x363.Pins.length : Nat) : Int))), (80, (.int .i64 ((k375 : Nat) : Int)))] := ⟨hv.2.1 (hdep.1 rfl), hv.2.2.1 (hdep.2.1 rfl), ha.1, ha.2.1, ha.2.2.1, ha.2.2.2.1, ha.2.2.2.2.1, ha.2.2.2.2.2.1, ha.2.2.2.2.2.2.1, ha.2.2.2.2.2.2.2.1, ha.2.2.2.2.2.2.2.2.1, ha.2.2.2.2.2.2.2.2.2.1, ha.2.2.2.2.2.2.2.2.2.2.1, trivial⟩
        obtain ⟨τ, rfl⟩ := ha2.ups
        refine RL.cut (i := 0) trivial rfl hw rfl (ent_t (hdep.1 rfl)) sl24 (.inr ⟨rfl, rfl⟩) (.inl rfl) hx540 fun v545 hw => ?_
        have hw := hw.fillat 0 1 1 rfl rfl rfl (by simp)
        refine RL.nil ?_
        exact ⟨rfl, v539, v545, v542, ⟨hv.1, hv.2.1, hv.2.2.1, fun _ => rfl, hv.2.2.2.2.1, hv.2.2.2.2.2.1, hv.2.2.2.2.2.2.1, trivial⟩, ha, hw⟩
      · intro D σ w hD hdep hJ
        obtain ⟨v539, v541, v542, hv, ha, hw⟩ := hJ
        have ha2 : agree σ [(0, v0), (3, (.pointer (some ⟨b1, 0, none⟩))), (7, (.int .i64 ((k158 : Nat) : Int))), (8, (.pointer (some ⟨b366, 0, none⟩))), (10, (.pointer (some ⟨b465, 0, none⟩))), (55, v157), (56, (.int .i64 ((p1.Nets.length : Nat) : Int))), (57, (.int .i64 ((k158 : Nat) : Int))), (78, v374), (79, (.int .i64 ((x363.Pins.length : Nat) : Int))), (80, (.int .i64 ((k375 : Nat) : Int)))] := ⟨ha.1, ha.2.1, ha.2.2.1, ha.2.2.2.1, ha.2.2.2.2.1, ha.2.2.2.2.2.1, ha.2.2.2.2.2.2.1, ha.2.2.2.2.2.2.2.1, ha.2.2.2.2.2.2.2.2.1, ha.2.2.2.2.2.2.2.2.2.1, ha.2.2.2.2.2.2.2.2.2.2.1, trivial⟩
        obtain ⟨τ, rfl⟩ := ha2.ups
        refine RL.load_bf (i := 6) (f := (fun x => x)) trivial rfl hw rfl rfl Fd.self ty28 fun v546 hw => ?_
        have hw := hw.fillat 0 1 2 rfl rfl rfl (by simp)
        refine RL.nil ?_
        exact ⟨rfl, v539, v541, v546, ⟨hv.1, hv.2.1, hv.2.2.1, hv.2.2.2.1, fun _ => rfl, hv.2.2.2.2.2.1, hv.2.2.2.2.2.2.1, trivial⟩, ha, hw⟩
      · intro D σ w hD hdep hJ
        obtain ⟨v539, v541, v542, hv, ha, hw⟩ := hJ
        have ha2 : agree σ [(109, v541), (110, v542), (0, v0), (3, (.pointer (some ⟨b1, 0, none⟩))), (7, (.int .i64 ((k158 : Nat) : Int))), (8, (.pointer (some ⟨b366, 0, none⟩))), (10, (.pointer (some ⟨b465, 0, none⟩))), (55, v157), (56, (.int .i64 ((p1.Nets.length : Nat) : Int))), (57, (.int .i64 ((k158 : Nat) : Int))), (78, v374), (79, (.int .i64 ((x363.Pins.length : Nat) : Int))), (80, (.int .i64 ((k375 : Nat) : Int)))] := ⟨hv.2.2.2.1 (hdep.1 rfl), hv.2.2.2.2.1 (hdep.2.1 rfl), ha.1, ha.2.1, ha.2.2.1, ha.2.2.2.1, ha.2.2.2.2.1, ha.2.2.2.2.2.1, ha.2.2.2.2.2.2.1, ha.2.2.2.2.2.2.2.1, ha.2.2.2.2.2.2.2.2.1, ha.2.2.2.2.2.2.2.2.2.1, ha.2.2.2.2.2.2.2.2.2.2.1, trivial⟩
        obtain ⟨τ, rfl⟩ := ha2.ups
        refine RL.call trivial rfl fn104 [v541, v542] rfl (Calls_ret (etchhouseref2_inNets_ok N  (i0 := 1) (i1 := 2) hw (ent_t (hdep.1 rfl)) (ent_t (hdep.2.1 rfl)) hx543) ?_)
        rintro _ w ⟨rfl, hw⟩
        refine RL.nil ?_
        exact ⟨rfl, v539, v541, v542, ⟨hv.1, hv.2.1, hv.2.2.1, hv.2.2.2.1, hv.2.2.2.2.1, fun _ => rfl, hv.2.2.2.2.2.2.1, trivial⟩, ha, hw⟩
      · intro D σ w hD hdep hJ
        obtain ⟨v539, v541, v542, hv, ha, hw⟩ := hJ
        have ha2 : agree σ [(111, (.bool x543)), (0, v0), (3, (.pointer (some ⟨b1, 0, none⟩))), (7, (.int .i64 ((k158 : Nat) : Int))), (8, (.pointer (some ⟨b366, 0, none⟩))), (10, (.pointer (some ⟨b465, 0, none⟩))), (55, v157), (56, (.int .i64 ((p1.Nets.length : Nat) : Int))), (57, (.int .i64 ((k158 : Nat) : Int))), (78, v374), (79, (.int .i64 ((x363.Pins.length : Nat) : Int))), (80, (.int .i64 ((k375 : Nat) : Int)))] := ⟨hv.2.2.2.2.2.1 (hdep.1 rfl), ha.1, ha.2.1, ha.2.2.1, ha.2.2.2.1, ha.2.2.2.2.1, ha.2.2.2.2.2.1, ha.2.2.2.2.2.2.1, ha.2.2.2.2.2.2.2.1, ha.2.2.2.2.2.2.2.2.1, ha.2.2.2.2.2.2.2.2.2.1, ha.2.2.2.2.2.2.2.2.2.2.1, trivial⟩
        obtain ⟨τ, rfl⟩ := ha2.ups
        refine RL.assign (v := (.bool x543)) trivial rfl rfl ?_
        refine RL.nil ?_
        exact ⟨rfl, v539, v541, v542, ⟨hv.1, hv.2.1, hv.2.2.1, hv.2.2.2.1, hv.2.2.2.2.1, hv.2.2.2.2.2.1, fun _ => rfl, trivial⟩, ha, hw⟩
      intro D σ w hall hJ
      obtain ⟨v539, v541, v542, hv, ha, hw⟩ := hJ
      rw [hall 1 (by decide)] at hw
      rw [hall 3 (by decide)] at hw
      rw [hall 4 (by decide)] at hw
      have ha2 : agree σ [(105, (.bool x543)), (0, v0), (3, (.pointer (some ⟨b1, 0, none⟩))), (7, (.int .i64 ((k158 : Nat) : Int))), (8, (.pointer (some ⟨b366, 0, none⟩))), (10, (.pointer (some ⟨b465, 0, none⟩))), (55, v157), (56, (.int .i64 ((p1.Nets.length : Nat) : Int))), (57, (.int .i64 ((k158 : Nat) : Int))), (78, v374), (79, (.int .i64 ((x363.Pins.length : Nat) : Int))), (80, (.int .i64 ((k375 : Nat) : Int)))] := ⟨hv.2.2.2.2.2.2.1 (hall 6 (by decide)), ha.1, ha.2.1, ha.2.2.1, ha.2.2.2.1, ha.2.2.2.2.1, ha.2.2.2.2.2.1, ha.2.2.2.2.2.2.1, ha.2.2.2.2.2.2.2.1, ha.2.2.2.2.2.2.2.2.1, ha.2.2.2.2.2.2.2.2.2.1, ha.2.2.2.2.2.2.2.2.2.2.1, trivial⟩
      obtain ⟨τ, rfl⟩ := ha2.ups
      refine thenQ_n ?_
      refine RC.cond (b := x543) rfl (fun hc => ?_) (fun hc => ?_)
      rotate_left
      · replace hb := cF hc hb
        refine RC.skip ?_
        refine blkQ_n ?_
        refine blkQ_n ?_
        refine thenQ_n ?_
        refine RC.region ?_
        refine RL.inc trivial rfl hk hm rfl rfl ?_
        refine RL.move (v := (.int .i64 ((k375 + 1 : Nat) : Int))) trivial rfl rfl ?_
        refine RL.nil ?_
        injection hb with hb; subst hb
        exact ⟨rfl, ⟨rfl, rfl, rfl, rfl, rfl, rfl, rfl, rfl, rfl, rfl, trivial⟩, hw.pick 9 [3, 4, 5, 7, 8] (new := [rd v0 p0, bx 26 b1 p1, bx 64 b366 x363, rd v157 p1.Nets, rd v374 x363.Pins]) rfl rfl (by decide) (by decide)⟩
      replace hb := cT hc hb
      refine RC.seq ?_
      refine RC.region ?_
      refine RL.assign (v := (.int .i64 7)) trivial rfl rfl ?_
      refine RL.nil ?_
      refine thenQ_n ?_
      refine RC.ret ?_
      refine blkQ_r ?_
      refine blkQ_r ?_
      refine thenQ_r ?_
      injection hb with hb; subst hb
      exact ⟨rfl, fin1 rfl rfl ⟨rfl, hw.drop 9 rfl⟩⟩
    · intro r σ w e hK
      subst e
      refine thenQ_r ?_
      refine blkQ_r ?_
      refine thenQ_r ?_
      injection hb with hb; subst hb
      exact ⟨rfl, hK⟩
    intro s376 σ w e hJ
    subst e
    rw [Fo.cs_go] at hb
    obtain ⟨ha, hw⟩ := hJ
    obtain ⟨τ, rfl⟩ := ha.ups
    refine thenQ_n ?_
    refine RC.seq ?_
    refine RC.seq ?_
    refine RC.region ?_
    refine RL.fa_b trivial rfl rfl fa64_2 ?_
    refine RL.load_bf (i := 2) (f := (fun x => x.Ports)) trivial rfl hw rfl rfl fd_Net_2 ty55 fun v547 hw => ?_
    refine RL.len_rd (i := 0) (l := x363.Ports) trivial rfl hw rfl rfl un55 ?_
    refine RL.icmp (a := ((x363.Ports.length : Nat) : Int)) (b := 0) trivial rfl rfl rfl rfl ?_
    refine RL.nil ?_
    refine thenQ_n ?_
    refine RC.cond (b := (decide (((x363.Ports.length : Nat) : Int) > 0))) rfl (fun hc => ?_) (fun hc => ?_)
    · replace hb := cT hc hb
      refine RC.seq ?_
      refine RC.region ?_
      refine RL.assign (v := (.int .i64 3)) trivial rfl rfl ?_
      refine RL.nil ?_
      refine thenQ_n ?_
      refine RC.ret ?_
      refine thenQ_r ?_
      refine blkQ_r ?_
      refine thenQ_r ?_
      injection hb with hb; subst hb
      exact ⟨rfl, fin1 rfl rfl ⟨rfl, hw.drop 6 rfl⟩⟩
    replace hb := cF hc hb
    refine RC.skip ?_
    refine thenQ_n ?_
    refine RC.seq ?_
    obtain ⟨s556, hj, hb⟩ := bd hb
    refine RC.jn (fun (s556 : Bool) (σ : Nat → Value) (w : World) => agree σ [(0, v0), (3, (.pointer (some ⟨b1, 0, none⟩))), (55, v157), (56, (.int .i64 ((p1.Nets.length : Nat) : Int))), (57, (.int .i64 ((k158 : Nat) : Int))), (130, (.bool s556))] ∧ Holds E w ([rd v0 p0, bx 26 b1 p1, rd v157 p1.Nets] ++ Γ)) s556 ?_ ?_
    · rcases Bool.eq_false_or_eq_true (decide (((k158 : Nat) : Int) > 0)) with hg557 | hg557
      rotate_left
      · replace hj := cF hg557 hj
        refine RC.draw mixed rfl (fun (D : Nat → Bool) (σ : Nat → Value) (w : World) => doneV D σ [(0, 117, (.int .i64 ((k158 : Nat) : Int))), (1, 118, (.bool (decide (((k158 : Nat) : Int) > 0)))), (2, 119, (.bool (decide (((k158 : Nat) : Int) > 0)))), (3, 120, undef), (4, 121, undef), (5, 122, undef), (6, 123, undef), (7, 124, undef), (8, 125, undef), (9, 126, undef), (10, 127, undef), (11, 128, undef), (12, 129, undef), (13, 130, (.bool false))] ∧ agree σ [(0, v0), (3, (.pointer (some ⟨b1, 0, none⟩))), (7, (.int .i64 ((k158 : Nat) : Int))), (8, (.pointer (some ⟨b366, 0, none⟩))), (55, v157), (56, (.int .i64 ((p1.Nets.length : Nat) : Int))), (57, (.int .i64 ((k158 : Nat) : Int)))] ∧ Holds E w ([rd v547 x363.Ports, rd v0 p0, bx 26 b1 p1, bx 64 b366 x363, rd v157 p1.Nets, rd v374 x363.Pins] ++ Γ)) ?_ ⟨?_, ?_, ?_, ?_, ?_, ?_, ?_, ?_, ?_, ?_, ?_, ?_, ?_, ?_, trivial⟩ ?_
        · have hw := hw.drew
          exact ⟨⟨(fun h => by cases h), (fun h => by cases h), (fun h => by cases h), (fun h => by cases h), (fun h => by cases h), (fun h => by cases h), (fun h => by cases h), (fun h => by cases h), (fun h => by cases h), (fun h => by cases h), (fun h => by cases h), (fun h => by cases h), (fun h => by cases h), (fun h => by cases h), trivial⟩, ⟨rfl, rfl, rfl, rfl, rfl, rfl, rfl, trivial⟩, hw⟩
        · intro D σ w hD hdep hJ
          obtain ⟨hv, ha, hw⟩ := hJ
          have ha2 : agree σ [(0, v0), (3, (.pointer (some ⟨b1, 0, none⟩))), (7, (.int .i64 ((k158 : Nat) : Int))), (8, (.pointer (some ⟨b366, 0, none⟩))), (55, v157), (56, (.int .i64 ((p1.Nets.length : Nat) : Int))), (57, (.int .i64 ((k158 : Nat) : Int)))] := ⟨ha.1, ha.2.1, ha.2.2.1, ha.2.2.2.1, ha.2.2.2.2.1, ha.2.2.2.2.2.1, ha.2.2.2.2.2.2.1, trivial⟩
          obtain ⟨τ, rfl⟩ := ha2.ups
          refine RL.move (v := (.int .i64 ((k158 : Nat) : Int))) trivial rfl rfl ?_
          refine RL.nil ?_
          exact ⟨rfl, ⟨fun _ => rfl, hv.2.1, hv.2.2.1, hv.2.2.2.1, hv.2.2.2.2.1, hv.2.2.2.2.2.1, hv.2.2.2.2.2.2.1, hv.2.2.2.2.2.2.2.1, hv.2.2.2.2.2.2.2.2.1, hv.2.2.2.2.2.2.2.2.2.1, hv.2.2.2.2.2.2.2.2.2.2.1, hv.2.2.2.2.2.2.2.2.2.2.2.1, hv.2.2.2.2.2.2.2.2.2.2.2.2.1, hv.2.2.2.2.2.2.2.2.2.2.2.2.2.1, trivial⟩, ha, hw⟩
        · intro D σ w hD hdep hJ
          obtain ⟨hv, ha, hw⟩ := hJ
          have ha2 : agree σ [(117, (.int .i64 ((k158 : Nat) : Int))), (0, v0), (3, (.pointer (some ⟨b1, 0, none⟩))), (7, (.int .i64 ((k158 : Nat) : Int))), (8, (.pointer (some ⟨b366, 0, none⟩))), (55, v157), (56, (.int .i64 ((p1.Nets.length : Nat) : Int))), (57, (.int .i64 ((k158 : Nat) : Int)))] := ⟨hv.1 (hdep.1 rfl), ha.1, ha.2.1, ha.2.2.1, ha.2.2.2.1, ha.2.2.2.2.1, ha.2.2.2.2.2.1, ha.2.2.2.2.2.2.1, trivial⟩
          obtain ⟨τ, rfl⟩ := ha2.ups
          refine RL.icmp (a := ((k158 : Nat) : Int)) (b := 0) trivial rfl rfl rfl rfl ?_
          refine RL.nil ?_
          exact ⟨rfl, ⟨hv.1, fun _ => rfl, hv.2.2.1, hv.2.2.2.1, hv.2.2.2.2.1, hv.2.2.2.2.2.1, hv.2.2.2.2.2.2.1, hv.2.2.2.2.2.2.2.1, hv.2.2.2.2.2.2.2.2.1, hv.2.2.2.2.2.2.2.2.2.1, hv.2.2.2.2.2.2.2.2.2.2.1, hv.2.2.2.2.2.2.2.2.2.2.2.1, hv.2.2.2.2.2.2.2.2.2.2.2.2.1, hv.2.2.2.2.2.2.2.2.2.2.2.2.2.1, trivial⟩, ha, hw⟩
        · intro D σ w hD hdep hJ
          obtain ⟨hv, ha, hw⟩ := hJ
          have ha2 : agree σ [(118, (.bool (decide (((k158 : Nat) : Int) > 0)))), (0, v0), (3, (.pointer (some ⟨b1, 0, none⟩))), (7, (.int .i64 ((k158 : Nat) : Int))), (8, (.pointer (some ⟨b366, 0, none⟩))), (55, v157), (56, (.int .i64 ((p1.Nets.length : Nat) : Int))), (57, (.int .i64 ((k158 : Nat) : Int)))] := ⟨hv.2.1 (hdep.1 rfl), ha.1, ha.2.1, ha.2.2.1, ha.2.2.2.1, ha.2.2.2.2.1, ha.2.2.2.2.2.1, ha.2.2.2.2.2.2.1, trivial⟩
          obtain ⟨τ, rfl⟩ := ha2.ups
          refine RL.move (v := (.bool (decide (((k158 : Nat) : Int) > 0)))) trivial rfl rfl ?_
          refine RL.nil ?_
          exact ⟨rfl, ⟨hv.1, hv.2.1, fun _ => rfl, hv.2.2.2.1, hv.2.2.2.2.1, hv.2.2.2.2.2.1, hv.2.2.2.2.2.2.1, hv.2.2.2.2.2.2.2.1, hv.2.2.2.2.2.2.2.2.1, hv.2.2.2.2.2.2.2.2.2.1, hv.2.2.2.2.2.2.2.2.2.2.1, hv.2.2.2.2.2.2.2.2.2.2.2.1, hv.2.2.2.2.2.2.2.2.2.2.2.2.1, hv.2.2.2.2.2.2.2.2.2.2.2.2.2.1, trivial⟩, ha, hw⟩
        · intro D σ w hD hdep hJ
          obtain ⟨hv, ha, hw⟩ := hJ
          have ha2 : agree σ [(119, (.bool (decide (((k158 : Nat) : Int) > 0)))), (0, v0), (3, (.pointer (some ⟨b1, 0, none⟩))), (7, (.int .i64 ((k158 : Nat) : Int))), (8, (.pointer (some ⟨b366, 0, none⟩))), (55, v157), (56, (.int .i64 ((p1.Nets.length : Nat) : Int))), (57, (.int .i64 ((k158 : Nat) : Int)))] := ⟨hv.2.2.1 (hdep.1 rfl), ha.1, ha.2.1, ha.2.2.1, ha.2.2.2.1, ha.2.2.2.2.1, ha.2.2.2.2.2.1, ha.2.2.2.2.2.2.1, trivial⟩
          obtain ⟨τ, rfl⟩ := ha2.ups
          refine RL.skip rfl (.inl (congrArg Value.bool hg557)) rfl ?_
          refine RL.nil ?_
          exact ⟨rfl, ⟨hv.1, hv.2.1, hv.2.2.1, fun _ => rfl, hv.2.2.2.2.1, hv.2.2.2.2.2.1, hv.2.2.2.2.2.2.1, hv.2.2.2.2.2.2.2.1, hv.2.2.2.2.2.2.2.2.1, hv.2.2.2.2.2.2.2.2.2.1, hv.2.2.2.2.2.2.2.2.2.2.1, hv.2.2.2.2.2.2.2.2.2.2.2.1, hv.2.2.2.2.2.2.2.2.2.2.2.2.1, hv.2.2.2.2.2.2.2.2.2.2.2.2.2.1, trivial⟩, ha, hw⟩
        · intro D σ w hD hdep hJ
          obtain ⟨hv, ha, hw⟩ := hJ
          have ha2 : agree σ [(120, undef), (119, (.bool (decide (((k158 : Nat) : Int) > 0)))), (0, v0), (3, (.pointer (some ⟨b1, 0, none⟩))), (7, (.int .i64 ((k158 : Nat) : Int))), (8, (.pointer (some ⟨b366, 0, none⟩))), (55, v157), (56, (.int .i64 ((p1.Nets.length : Nat) : Int))), (57, (.int .i64 ((k158 : Nat) : Int)))] := ⟨hv.2.2.2.1 (hdep.1 rfl), hv.2.2.1 (hdep.2.1 rfl), ha.1, ha.2.1, ha.2.2.1, ha.2.2.2.1, ha.2.2.2.2.1, ha.2.2.2.2.2.1, ha.2.2.2.2.2.2.1, trivial⟩
          obtain ⟨τ, rfl⟩ := ha2.ups
          refine RL.skip rfl (.inl (congrArg Value.bool hg557)) rfl ?_
          refine RL.nil ?_
          exact ⟨rfl, ⟨hv.1, hv.2.1, hv.2.2.1, hv.2.2.2.1, fun _ => rfl, hv.2.2.2.2.2.1, hv.2.2.2.2.2.2.1, hv.2.2.2.2.2.2.2.1, hv.2.2.2.2.2.2.2.2.1, hv.2.2.2.2.2.2.2.2.2.1, hv.2.2.2.2.2.2.2.2.2.2.1, hv.2.2.2.2.2.2.2.2.2.2.2.1, hv.2.2.2.2.2.2.2.2.2.2.2.2.1, hv.2.2.2.2.2.2.2.2.2.2.2.2.2.1, trivial⟩, ha, hw⟩
        · intro D σ w hD hdep hJ
          obtain ⟨hv, ha, hw⟩ := hJ
          have ha2 : agree σ [(119, (.bool (decide (((k158 : Nat) : Int) > 0)))), (0, v0), (3, (.pointer (some ⟨b1, 0, none⟩))), (7, (.int .i64 ((k158 : Nat) : Int))), (8, (.pointer (some ⟨b366, 0, none⟩))), (55, v157), (56, (.int .i64 ((p1.Nets.length : Nat) : Int))), (57, (.int .i64 ((k158 : Nat) : Int)))] := ⟨hv.2.2.1 (hdep.1 rfl), ha.1, ha.2.1, ha.2.2.1, ha.2.2.2.1, ha.2.2.2.2.1, ha.2.2.2.2.2.1, ha.2.2.2.2.2.2.1, trivial⟩
          obtain ⟨τ, rfl⟩ := ha2.ups
          refine RL.skip rfl (.inl (congrArg Value.bool hg557)) rfl ?_
          refine RL.nil ?_
          exact ⟨rfl, ⟨hv.1, hv.2.1, hv.2.2.1, hv.2.2.2.1, hv.2.2.2.2.1, fun _ => rfl, hv.2.2.2.2.2.2.1, hv.2.2.2.2.2.2.2.1, hv.2.2.2.2.2.2.2.2.1, hv.2.2.2.2.2.2.2.2.2.1, hv.2.2.2.2.2.2.2.2.2.2.1, hv.2.2.2.2.2.2.2.2.2.2.2.1, hv.2.2.2.2.2.2.2.2.2.2.2.2.1, hv.2.2.2.2.2.2.2.2.2.2.2.2.2.1, trivial⟩, ha, hw⟩
        · intro D σ w hD hdep hJ
          obtain ⟨hv, ha, hw⟩ := hJ
          have ha2 : agree σ [(122, undef), (119, (.bool (decide (((k158 : Nat) : Int) > 0)))), (0, v0), (3, (.pointer (some ⟨b1, 0, none⟩))), (7, (.int .i64 ((k158 : Nat) : Int))), (8, (.pointer (some ⟨b366, 0, none⟩))), (55, v157), (56, (.int .i64 ((p1.Nets.length : Nat) : Int))), (57, (.int .i64 ((k158 : Nat) : Int)))] := ⟨hv.2.2.2.2.2.1 (hdep.1 rfl), hv.2.2.1 (hdep.2.1 rfl), ha.1, ha.2.1, ha.2.2.1, ha.2.2.2.1, ha.2.2.2.2.1, ha.2.2.2.2.2.1, ha.2.2.2.2.2.2.1, trivial⟩
          obtain ⟨τ, rfl⟩ := ha2.ups
          refine RL.skip rfl (.inl (congrArg Value.bool hg557)) rfl ?_
          refine RL.nil ?_
          exact ⟨rfl, ⟨hv.1, hv.2.1, hv.2.2.1, hv.2.2.2.1, hv.2.2.2.2.1, hv.2.2.2.2.2.1, fun _ => rfl, hv.2.2.2.2.2.2.2.1, hv.2.2.2.2.2.2.2.2.1, hv.2.2.2.2.2.2.2.2.2.1, hv.2.2.2.2.2.2.2.2.2.2.1, hv.2.2.2.2.2.2.2.2.2.2.2.1, hv.2.2.2.2.2.2.2.2.2.2.2.2.1, hv.2.2.2.2.2.2.2.2.2.2.2.2.2.1, trivial⟩, ha, hw⟩
        · intro D σ w hD hdep hJ
          obtain ⟨hv, ha, hw⟩ := hJ
          have ha2 : agree σ [(119, (.bool (decide (((k158 : Nat) : Int) > 0)))), (0, v0), (3, (.pointer (some ⟨b1, 0, none⟩))), (7, (.int .i64 ((k158 : Nat) : Int))), (8, (.pointer (some ⟨b366, 0, none⟩))), (55, v157), (56, (.int .i64 ((p1.Nets.length : Nat) : Int))), (57, (.int .i64 ((k158 : Nat) : Int)))] := ⟨hv.2.2.1 (hdep.1 rfl), ha.1, ha.2.1, ha.2.2.1, ha.2.2.2.1, ha.2.2.2.2.1, ha.2.2.2.2.2.1, ha.2.2.2.2.2.2.1, trivial⟩
          obtain ⟨τ, rfl⟩ := ha2.ups
          refine RL.skip rfl (.inl (congrArg Value.bool hg557)) rfl ?_
          refine RL.nil ?_
          exact ⟨rfl, ⟨hv.1, hv.2.1, hv.2.2.1, hv.2.2.2.1, hv.2.2.2.2.1, hv.2.2.2.2.2.1, hv.2.2.2.2.2.2.1, fun _ => rfl, hv.2.2.2.2.2.2.2.2.1, hv.2.2.2.2.2.2.2.2.2.1, hv.2.2.2.2.2.2.2.2.2.2.1, hv.2.2.2.2.2.2.2.2.2.2.2.1, hv.2.2.2.2.2.2.2.2.2.2.2.2.1, hv.2.2.2.2.2.2.2.2.2.2.2.2.2.1, trivial⟩, ha, hw⟩
        · intro D σ w hD hdep hJ
          obtain ⟨hv, ha, hw⟩ := hJ
          have ha2 : agree σ [(124, undef), (119, (.bool (decide (((k158 : Nat) : Int) > 0)))), (0, v0), (3, (.pointer (some ⟨b1, 0, none⟩))), (7, (.int .i64 ((k158 : Nat) : Int))), (8, (.pointer (some ⟨b366, 0, none⟩))), (55, v157), (56, (.int .i64 ((p1.Nets.length : Nat) : Int))), (57, (.int .i64 ((k158 : Nat) : Int)))] := ⟨hv.2.2.2.2.2.2.2.1 (hdep.1 rfl), hv.2.2.1 (hdep.2.1 rfl), ha.1, ha.2.1, ha.2.2.1, ha.2.2.2.1, ha.2.2.2.2.1, ha.2.2.2.2.2.1, ha.2.2.2.2.2.2.1, trivial⟩
          obtain ⟨τ, rfl⟩ := ha2.ups
          refine RL.skip rfl (.inl (congrArg Value.bool hg557)) rfl ?_
          refine RL.nil ?_
          exact ⟨rfl, ⟨hv.1, hv.2.1, hv.2.2.1, hv.2.2.2.1, hv.2.2.2.2.1, hv.2.2.2.2.2.1, hv.2.2.2.2.2.2.1, hv.2.2.2.2.2.2.2.1, fun _ => rfl, hv.2.2.2.2.2.2.2.2.2.1, hv.2.2.2.2.2.2.2.2.2.2.1, hv.2.2.2.2.2.2.2.2.2.2.2.1, hv.2.2.2.2.2.2.2.2.2.2.2.2.1, hv.2.2.2.2.2.2.2.2.2.2.2.2.2.1, trivial⟩, ha, hw⟩
        · intro D σ w hD hdep hJ
          obtain ⟨hv, ha, hw⟩ := hJ
          have ha2 : agree σ [(123, undef), (125, undef), (119, (.bool (decide (((k158 : Nat) : Int) > 0)))), (0, v0), (3, (.pointer (some ⟨b1, 0, none⟩))), (7, (.int .i64 ((k158 : Nat) : Int))), (8, (.pointer (some ⟨b366, 0, none⟩))), (55, v157), (56, (.int .i64 ((p1.Nets.length : Nat) : Int))), (57, (.int .i64 ((k158 : Nat) : Int)))] := ⟨hv.2.2.2.2.2.2.1 (hdep.1 rfl), hv.2.2.2.2.2.2.2.2.1 (hdep.2.1 rfl), hv.2.2.1 (hdep.2.2.1 rfl), ha.1, ha.2.1, ha.2.2.1, ha.2.2.2.1, ha.2.2.2.2.1, ha.2.2.2.2.2.1, ha.2.2.2.2.2.2.1, trivial⟩
          obtain ⟨τ, rfl⟩ := ha2.ups
          refine RL.skip rfl (.inl (congrArg Value.bool hg557)) rfl ?_
          refine RL.nil ?_
          exact ⟨rfl, ⟨hv.1, hv.2.1, hv.2.2.1, hv.2.2.2.1, hv.2.2.2.2.1, hv.2.2.2.2.2.1, hv.2.2.2.2.2.2.1, hv.2.2.2.2.2.2.2.1, hv.2.2.2.2.2.2.2.2.1, fun _ => rfl, hv.2.2.2.2.2.2.2.2.2.2.1, hv.2.2.2.2.2.2.2.2.2.2.2.1, hv.2.2.2.2.2.2.2.2.2.2.2.2.1, hv.2.2.2.2.2.2.2.2.2.2.2.2.2.1, trivial⟩, ha, hw⟩
        · intro D σ w hD hdep hJ
          obtain ⟨hv, ha, hw⟩ := hJ
          have ha2 : agree σ [(126, undef), (119, (.bool (decide (((k158 : Nat) : Int) > 0)))), (0, v0), (3, (.pointer (some ⟨b1, 0, none⟩))), (7, (.int .i64 ((k158 : Nat) : Int))), (8, (.pointer (some ⟨b366, 0, none⟩))), (55, v157), (56, (.int .i64 ((p1.Nets.length : Nat) : Int))), (57, (.int .i64 ((k158 : Nat) : Int)))] := ⟨hv.2.2.2.2.2.2.2.2.2.1 (hdep.1 rfl), hv.2.2.1 (hdep.2.1 rfl), ha.1, ha.2.1, ha.2.2.1, ha.2.2.2.1, ha.2.2.2.2.1, ha.2.2.2.2.2.1, ha.2.2.2.2.2.2.1, trivial⟩
          obtain ⟨τ, rfl⟩ := ha2.ups
          refine RL.skip rfl (.inl (congrArg Value.bool hg557)) rfl ?_
          refine RL.nil ?_
          exact ⟨rfl, ⟨hv.1, hv.2.1, hv.2.2.1, hv.2.2.2.1, hv.2.2.2.2.1, hv.2.2.2.2.2.1, hv.2.2.2.2.2.2.1, hv.2.2.2.2.2.2.2.1, hv.2.2.2.2.2.2.2.2.1, hv.2.2.2.2.2.2.2.2.2.1, fun _ => rfl, hv.2.2.2.2.2.2.2.2.2.2.2.1, hv.2.2.2.2.2.2.2.2.2.2.2.2.1, hv.2.2.2.2.2.2.2.2.2.2.2.2.2.1, trivial⟩, ha, hw⟩
        · intro D σ w hD hdep hJ
          obtain ⟨hv, ha, hw⟩ := hJ
          have ha2 : agree σ [(127, undef), (119, (.bool (decide (((k158 : Nat) : Int) > 0)))), (0, v0), (3, (.pointer (some ⟨b1, 0, none⟩))), (7, (.int .i64 ((k158 : Nat) : Int))), (8, (.pointer (some ⟨b366, 0, none⟩))), (55, v157), (56, (.int .i64 ((p1.Nets.length : Nat) : Int))), (57, (.int .i64 ((k158 : Nat) : Int)))] := ⟨hv.2.2.2.2.2.2.2.2.2.2.1 (hdep.1 rfl), hv.2.2.1 (hdep.2.1 rfl), ha.1, ha.2.1, ha.2.2.1, ha.2.2.2.1, ha.2.2.2.2.1, ha.2.2.2.2.2.1, ha.2.2.2.2.2.2.1, trivial⟩
          obtain ⟨τ, rfl⟩ := ha2.ups
          refine RL.skip rfl (.inl (congrArg Value.bool hg557)) rfl ?_
          refine RL.nil ?_
          exact ⟨rfl, ⟨hv.1, hv.2.1, hv.2.2.1, hv.2.2.2.1, hv.2.2.2.2.1, hv.2.2.2.2.2.1, hv.2.2.2.2.2.2.1, hv.2.2.2.2.2.2.2.1, hv.2.2.2.2.2.2.2.2.1, hv.2.2.2.2.2.2.2.2.2.1, hv.2.2.2.2.2.2.2.2.2.2.1, fun _ => rfl, hv.2.2.2.2.2.2.2.2.2.2.2.2.1, hv.2.2.2.2.2.2.2.2.2.2.2.2.2.1, trivial⟩, ha, hw⟩
        · intro D σ w hD hdep hJ
          obtain ⟨hv, ha, hw⟩ := hJ
          have ha2 : agree σ [(121, undef), (128, undef), (119, (.bool (decide (((k158 : Nat) : Int) > 0)))), (0, v0), (3, (.pointer (some ⟨b1, 0, none⟩))), (7, (.int .i64 ((k158 : Nat) : Int))), (8, (.pointer (some ⟨b366, 0, none⟩))), (55, v157), (56, (.int .i64 ((p1.Nets.length : Nat) : Int))), (57, (.int .i64 ((k158 : Nat) : Int)))] := ⟨hv.2.2.2.2.1 (hdep.1 rfl), hv.2.2.2.2.2.2.2.2.2.2.2.1 (hdep.2.1 rfl), hv.2.2.1 (hdep.2.2.1 rfl), ha.1, ha.2.1, ha.2.2.1, ha.2.2.2.1, ha.2.2.2.2.1, ha.2.2.2.2.2.1, ha.2.2.2.2.2.2.1, trivial⟩
          obtain ⟨τ, rfl⟩ := ha2.ups
          refine RL.skip rfl (.inl (congrArg Value.bool hg557)) rfl ?_
          refine RL.nil ?_
          exact ⟨rfl, ⟨hv.1, hv.2.1, hv.2.2.1, hv.2.2.2.1, hv.2.2.2.2.1, hv.2.2.2.2.2.1, hv.2.2.2.2.2.2.1, hv.2.2.2.2.2.2.2.1, hv.2.2.2.2.2.2.2.2.1, hv.2.2.2.2.2.2.2.2.2.1, hv.2.2.2.2.2.2.2.2.2.2.1, hv.2.2.2.2.2.2.2.2.2.2.2.1, fun _ => rfl, hv.2.2.2.2.2.2.2.2.2.2.2.2.2.1, trivial⟩, ha, hw⟩
        · intro D σ w hD hdep hJ
          obtain ⟨hv, ha, hw⟩ := hJ
          have ha2 : agree σ [(119, (.bool (decide (((k158 : Nat) : Int) > 0)))), (129, undef), (0, v0), (3, (.pointer (some ⟨b1, 0, none⟩))), (7, (.int .i64 ((k158 : Nat) : Int))), (8, (.pointer (some ⟨b366, 0, none⟩))), (55, v157), (56, (.int .i64 ((p1.Nets.length : Nat) : Int))), (57, (.int .i64 ((k158 : Nat) : Int)))] := ⟨hv.2.2.1 (hdep.1 rfl), hv.2.2.2.2.2.2.2.2.2.2.2.2.1 (hdep.2.1 rfl), ha.1, ha.2.1, ha.2.2.1, ha.2.2.2.1, ha.2.2.2.2.1, ha.2.2.2.2.2.1, ha.2.2.2.2.2.2.1, trivial⟩
          obtain ⟨τ, rfl⟩ := ha2.ups
          refine RL.pick (b := (decide (((k158 : Nat) : Int) > 0))) (v := (.bool false)) trivial rfl rfl (by rw [hg557]; rfl) ?_
          refine RL.nil ?_
          exact ⟨rfl, ⟨hv.1, hv.2.1, hv.2.2.1, hv.2.2.2.1, hv.2.2.2.2.1, hv.2.2.2.2.2.1, hv.2.2.2.2.2.2.1, hv.2.2.2.2.2.2.2.1, hv.2.2.2.2.2.2.2.2.1, hv.2.2.2.2.2.2.2.2.2.1, hv.2.2.2.2.2.2.2.2.2.2.1, hv.2.2.2.2.2.2.2.2.2.2.2.1, hv.2.2.2.2.2.2.2.2.2.2.2.2.1, fun _ => rfl, trivial⟩, ha, hw⟩
        intro D σ w hall hJ
        obtain ⟨hv, ha, hw⟩ := hJ
        have ha2 : agree σ [(130, (.bool false)), (0, v0), (3, (.pointer (some ⟨b1, 0, none⟩))), (7, (.int .i64 ((k158 : Nat) : Int))), (8, (.pointer (some ⟨b366, 0, none⟩))), (55, v157), (56, (.int .i64 ((p1.Nets.length : Nat) : Int))), (57, (.int .i64 ((k158 : Nat) : Int)))] := ⟨hv.2.2.2.2.2.2.2.2.2.2.2.2.2.1 (hall 13 (by decide)), ha.1, ha.2.1, ha.2.2.1, ha.2.2.2.1, ha.2.2.2.2.1, ha.2.2.2.2.2.1, ha.2.2.2.2.2.2.1, trivial⟩
        obtain ⟨τ, rfl⟩ := ha2.ups
        injection hj with hj; subst hj
        exact ⟨rfl, ⟨rfl, rfl, rfl, rfl, rfl, rfl, trivial⟩, hw.pick 6 [1, 2, 4] (new := [rd v0 p0, bx 26 b1 p1, rd v157 p1.Nets]) rfl rfl (by decide) (by decide)⟩
      replace hj := cT hg557 hj
      obtain ⟨x559, hx559, hj⟩ := bd hj
      refine RC.draw mixed rfl (fun (D : Nat → Bool) (σ : Nat → Value) (w : World) => ∃ v558 v560 v561 : Value, doneV D σ [(0, 117, (.int .i64 ((k158 : Nat) : Int))), (1, 118, (.bool (decide (((k158 : Nat) : Int) > 0)))), (2, 119, (.bool (decide (((k158 : Nat) : Int) > 0)))), (3, 120, (.pointer (some ⟨b366, 0, none⟩))), (4, 121, (str x363.Name)), (5, 122, (.pointer (some ⟨b1, 1, none⟩))), (6, 123, v558), (7, 124, (.int .i64 ((k158 : Nat) : Int))), (8, 125, (.int .i64 (IntKind.wrap .i64 (((k158 : Nat) : Int) - 1)))), (9, 126, v560), (10, 127, v561), (11, 128, (str x559.Name)), (12, 129, (.bool (x363.Name.ltb x559.Name || x363.Name.eqb x559.Name))), (13, 130, (.bool (x363.Name.ltb x559.Name || x363.Name.eqb x559.Name)))] ∧ agree σ [(0, v0), (3, (.pointer (some ⟨b1, 0, none⟩))), (7, (.int .i64 ((k158 : Nat) : Int))), (8, (.pointer (some ⟨b366, 0, none⟩))), (55, v157), (56, (.int .i64 ((p1.Nets.length : Nat) : Int))), (57, (.int .i64 ((k158 : Nat) : Int)))] ∧ Holds E w ([bif D 6 then (rd v558 p1.Nets) else junk, bif D 9 then (pt v560 x559) else junk, bif D 10 then (pt v561 x559.Name) else junk, rd v547 x363.Ports, rd v0 p0, bx 26 b1 p1, bx 64 b366 x363, rd v157 p1.Nets, rd v374 x363.Pins] ++ Γ)) ?_ ⟨?_, ?_, ?_, ?_, ?_, ?_, ?_, ?_, ?_, ?_, ?_, ?_, ?_, ?_, trivial⟩ ?_
      · have hw := hw.drew
        have hw := hw.junk
        have hw := hw.junk
        have hw := hw.junk
        exact ⟨undef, undef, undef, ⟨(fun h => by cases h), (fun h => by cases h), (fun h => by cases h), (fun h => by cases h), (fun h => by cases h), (fun h => by cases h), (fun h => by cases h), (fun h => by cases h), (fun h => by cases h), (fun h => by cases h), (fun h => by cases h), (fun h => by cases h), (fun h => by cases h), (fun h => by cases h), trivial⟩, ⟨rfl, rfl, rfl, rfl, rfl, rfl, rfl, trivial⟩, hw⟩
      · intro D σ w hD hdep hJ
        obtain ⟨v558, v560, v561, hv, ha, hw⟩ := hJ
        have ha2 : agree σ [(0, v0), (3, (.pointer (some ⟨b1, 0, none⟩))), (7, (.int .i64 ((k158 : Nat) : Int))), (8, (.pointer (some ⟨b366, 0, none⟩))), (55, v157), (56, (.int .i64 ((p1.Nets.length : Nat) : Int))), (57, (.int .i64 ((k158 : Nat) : Int)))] := ⟨ha.1, ha.2.1, ha.2.2.1, ha.2.2.2.1, ha.2.2.2.2.1, ha.2.2.2.2.2.1, ha.2.2.2.2.2.2.1, trivial⟩
        obtain ⟨τ, rfl⟩ := ha2.ups
        refine RL.move (v := (.int .i64 ((k158 : Nat) : Int))) trivial rfl rfl ?_
        refine RL.nil ?_
        exact ⟨rfl, v558, v560, v561, ⟨fun _ => rfl, hv.2.1, hv.2.2.1, hv.2.2.2.1, hv.2.2.2.2.1, hv.2.2.2.2.2.1, hv.2.2.2.2.2.2.1, hv.2.2.2.2.2.2.2.1, hv.2.2.2.2.2.2.2.2.1, hv.2.2.2.2.2.2.2.2.2.1, hv.2.2.2.2.2.2.2.2.2.2.1, hv.2.2.2.2.2.2.2.2.2.2.2.1, hv.2.2.2.2.2.2.2.2.2.2.2.2.1, hv.2.2.2.2.2.2.2.2.2.2.2.2.2.1, trivial⟩, ha, hw⟩
      · intro D σ w hD hdep hJ
        obtain ⟨v558, v560, v561, hv, ha, hw⟩ := hJ
        have ha2 : agree σ [(117, (.int .i64 ((k158 : Nat) : Int))), (0, v0), (3, (.pointer (some ⟨b1, 0, none⟩))), (7, (.int .i64 ((k158 : Nat) : Int))), (8, (.pointer (some ⟨b366, 0, none⟩))), (55, v157), (56, (.int .i64 ((p1.Nets.length : Nat) : Int))), (57, (.int .i64 ((k158 : Nat) : Int)))] := ⟨hv.1 (hdep.1 rfl), ha.1, ha.2.1, ha.2.2.1, ha.2.2.2.1, ha.2.2.2.2.1, ha.2.2.2.2.2.1, ha.2.2.2.2.2.2.1, trivial⟩
        obtain ⟨τ, rfl⟩ := ha2.ups
        refine RL.icmp (a := ((k158 : Nat) : Int)) (b := 0) trivial rfl rfl rfl rfl ?_
        refine RL.nil ?_
        exact ⟨rfl, v558, v560, v561, ⟨hv.1, fun _ => rfl, hv.2.2.1, hv.2.2.2.1, hv.2.2.2.2.1, hv.2.2.2.2.2.1, hv.2.2.2.2.2.2.1, hv.2.2.2.2.2.2.2.1, hv.2.2.2.2.2.2.2.2.1, hv.2.2.2.2.2.2.2.2.2.1, hv.2.2.2.2.2.2.2.2.2.2.1, hv.2.2.2.2.2.2.2.2.2.2.2.1, hv.2.2.2.2.2.2.2.2.2.2.2.2.1, hv.2.2.2.2.2.2.2.2.2.2.2.2.2.1, trivial⟩, ha, hw⟩
      · intro D σ w hD hdep hJ
        obtain ⟨v558, v560, v561, hv, ha, hw⟩ := hJ
        have ha2 : agree σ [(118, (.bool (decide (((k158 : Nat) : Int) > 0)))), (0, v0), (3, (.pointer (some ⟨b1, 0, none⟩))), (7, (.int .i64 ((k158 : Nat) : Int))), (8, (.pointer (some ⟨b366, 0, none⟩))), (55, v157), (56, (.int .i64 ((p1.Nets.length : Nat) : Int))), (57, (.int .i64 ((k158 : Nat) : Int)))] := ⟨hv.2.1 (hdep.1 rfl), ha.1, ha.2.1, ha.2.2.1, ha.2.2.2.1, ha.2.2.2.2.1, ha.2.2.2.2.2.1, ha.2.2.2.2.2.2.1, trivial⟩
        obtain ⟨τ, rfl⟩ := ha2.ups
        refine RL.move (v := (.bool (decide (((k158 : Nat) : Int) > 0)))) trivial rfl rfl ?_
        refine RL.nil ?_
        exact ⟨rfl, v558, v560, v561, ⟨hv.1, hv.2.1, fun _ => rfl, hv.2.2.2.1, hv.2.2.2.2.1, hv.2.2.2.2.2.1, hv.2.2.2.2.2.2.1, hv.2.2.2.2.2.2.2.1, hv.2.2.2.2.2.2.2.2.1, hv.2.2.2.2.2.2.2.2.2.1, hv.2.2.2.2.2.2.2.2.2.2.1, hv.2.2.2.2.2.2.2.2.2.2.2.1, hv.2.2.2.2.2.2.2.2.2.2.2.2.1, hv.2.2.2.2.2.2.2.2.2.2.2.2.2.1, trivial⟩, ha, hw⟩
      · intro D σ w hD hdep hJ
        obtain ⟨v558, v560, v561, hv, ha, hw⟩ := hJ
        have ha2 : agree σ [(119, (.bool (decide (((k158 : Nat) : Int) > 0)))), (0, v0), (3, (.pointer (some ⟨b1, 0, none⟩))), (7, (.int .i64 ((k158 : Nat) : Int))), (8, (.pointer (some ⟨b366, 0, none⟩))), (55, v157), (56, (.int .i64 ((p1.Nets.length : Nat) : Int))), (57, (.int .i64 ((k158 : Nat) : Int)))] := ⟨hv.2.2.1 (hdep.1 rfl), ha.1, ha.2.1, ha.2.2.1, ha.2.2.2.1, ha.2.2.2.2.1, ha.2.2.2.2.2.1, ha.2.2.2.2.2.2.1, trivial⟩
        obtain ⟨τ, rfl⟩ := ha2.ups
        refine RL.fa_b ⟨_, rfl, congrArg Value.bool hg557⟩ rfl rfl fa64_0 ?_
        refine RL.nil ?_
        exact ⟨rfl, v558, v560, v561, ⟨hv.1, hv.2.1, hv.2.2.1, fun _ => rfl, hv.2.2.2.2.1, hv.2.2.2.2.2.1, hv.2.2.2.2.2.2.1, hv.2.2.2.2.2.2.2.1, hv.2.2.2.2.2.2.2.2.1, hv.2.2.2.2.2.2.2.2.2.1, hv.2.2.2.2.2.2.2.2.2.2.1, hv.2.2.2.2.2.2.2.2.2.2.2.1, hv.2.2.2.2.2.2.2.2.2.2.2.2.1, hv.2.2.2.2.2.2.2.2.2.2.2.2.2.1, trivial⟩, ha, hw⟩
      · intro D σ w hD hdep hJ
        obtain ⟨v558, v560, v561, hv, ha, hw⟩ := hJ
        have ha2 : agree σ [(120, (.pointer (some ⟨b366, 0, none⟩))), (119, (.bool (decide (((k158 : Nat) : Int) > 0)))), (0, v0), (3, (.pointer (some ⟨b1, 0, none⟩))), (7, (.int .i64 ((k158 : Nat) : Int))), (8, (.pointer (some ⟨b366, 0, none⟩))), (55, v157), (56, (.int .i64 ((p1.Nets.length : Nat) : Int))), (57, (.int .i64 ((k158 : Nat) : Int)))] := ⟨hv.2.2.2.1 (hdep.1 rfl), hv.2.2.1 (hdep.2.1 rfl), ha.1, ha.2.1, ha.2.2.1, ha.2.2.2.1, ha.2.2.2.2.1, ha.2.2.2.2.2.1, ha.2.2.2.2.2.2.1, trivial⟩
        obtain ⟨τ, rfl⟩ := ha2.ups
        refine RL.load_bfs (i := 6) (f := (fun x => x.Name)) ⟨_, rfl, congrArg Value.bool hg557⟩ rfl hw rfl rfl fd_Net_0 ty9 ?_
        refine RL.nil ?_
        exact ⟨rfl, v558, v560, v561, ⟨hv.1, hv.2.1, hv.2.2.1, hv.2.2.2.1, fun _ => rfl, hv.2.2.2.2.2.1, hv.2.2.2.2.2.2.1, hv.2.2.2.2.2.2.2.1, hv.2.2.2.2.2.2.2.2.1, hv.2.2.2.2.2.2.2.2.2.1, hv.2.2.2.2.2.2.2.2.2.2.1, hv.2.2.2.2.2.2.2.2.2.2.2.1, hv.2.2.2.2.2.2.2.2.2.2.2.2.1, hv.2.2.2.2.2.2.2.2.2.2.2.2.2.1, trivial⟩, ha, hw⟩
      · intro D σ w hD hdep hJ
        obtain ⟨v558, v560, v561, hv, ha, hw⟩ := hJ
        have ha2 : agree σ [(119, (.bool (decide (((k158 : Nat) : Int) > 0)))), (0, v0), (3, (.pointer (some ⟨b1, 0, none⟩))), (7, (.int .i64 ((k158 : Nat) : Int))), (8, (.pointer (some ⟨b366, 0, none⟩))), (55, v157), (56, (.int .i64 ((p1.Nets.length : Nat) : Int))), (57, (.int .i64 ((k158 : Nat) : Int)))] := ⟨hv.2.2.1 (hdep.1 rfl), ha.1, ha.2.1, ha.2.2.1, ha.2.2.2.1, ha.2.2.2.2.1, ha.2.2.2.2.2.1, ha.2.2.2.2.2.2.1, trivial⟩
        obtain ⟨τ, rfl⟩ := ha2.ups
        refine RL.fa_b ⟨_, rfl, congrArg Value.bool hg557⟩ rfl rfl fa26_1 ?_
        refine RL.nil ?_
        exact ⟨rfl, v558, v560, v561, ⟨hv.1, hv.2.1, hv.2.2.1, hv.2.2.2.1, hv.2.2.2.2.1, fun _ => rfl, hv.2.2.2.2.2.2.1, hv.2.2.2.2.2.2.2.1, hv.2.2.2.2.2.2.2.2.1, hv.2.2.2.2.2.2.2.2.2.1, hv.2.2.2.2.2.2.2.2.2.2.1, hv.2.2.2.2.2.2.2.2.2.2.2.1, hv.2.2.2.2.2.2.2.2.2.2.2.2.1, hv.2.2.2.2.2.2.2.2.2.2.2.2.2.1, trivial⟩, ha, hw⟩
      · intro D σ w hD hdep hJ
        obtain ⟨v558, v560, v561, hv, ha, hw⟩ := hJ
        have ha2 : agree σ [(122, (.pointer (some ⟨b1, 1, none⟩))), (119, (.bool (decide (((k158 : Nat) : Int) > 0)))), (0, v0), (3, (.pointer (some ⟨b1, 0, none⟩))), (7, (.int .i64 ((k158 : Nat) : Int))), (8, (.pointer (some ⟨b366, 0, none⟩))), (55, v157), (56, (.int .i64 ((p1.Nets.length : Nat) : Int))), (57, (.int .i64 ((k158 : Nat) : Int)))] := ⟨hv.2.2.2.2.2.1 (hdep.1 rfl), hv.2.2.1 (hdep.2.1 rfl), ha.1, ha.2.1, ha.2.2.1, ha.2.2.2.1, ha.2.2.2.2.1, ha.2.2.2.2.2.1, ha.2.2.2.2.2.2.1, trivial⟩
        obtain ⟨τ, rfl⟩ := ha2.ups
        refine RL.load_bf (i := 5) (f := (fun x => x.Nets)) ⟨_, rfl, congrArg Value.bool hg557⟩ rfl hw rfl rfl fd_Netlist_1 ty24 fun v562 hw => ?_
        have hw := hw.fillat 0 1 0 rfl rfl rfl (by simp)
        refine RL.nil ?_
        exact ⟨rfl, v562, v560, v561, ⟨hv.1, hv.2.1, hv.2.2.1, hv.2.2.2.1, hv.2.2.2.2.1, hv.2.2.2.2.2.1, fun _ => rfl, hv.2.2.2.2.2.2.2.1, hv.2.2.2.2.2.2.2.2.1, hv.2.2.2.2.2.2.2.2.2.1, hv.2.2.2.2.2.2.2.2.2.2.1, hv.2.2.2.2.2.2.2.2.2.2.2.1, hv.2.2.2.2.2.2.2.2.2.2.2.2.1, hv.2.2.2.2.2.2.2.2.2.2.2.2.2.1, trivial⟩, ha, hw⟩
      · intro D σ w hD hdep hJ
        obtain ⟨v558, v560, v561, hv, ha, hw⟩ := hJ
        have ha2 : agree σ [(119, (.bool (decide (((k158 : Nat) : Int) > 0)))), (0, v0), (3, (.pointer (some ⟨b1, 0, none⟩))), (7, (.int .i64 ((k158 : Nat) : Int))), (8, (.pointer (some ⟨b366, 0, none⟩))), (55, v157), (56, (.int .i64 ((p1.Nets.length : Nat) : Int))), (57, (.int .i64 ((k158 : Nat) : Int)))] := ⟨hv.2.2.1 (hdep.1 rfl), ha.1, ha.2.1, ha.2.2.1, ha.2.2.2.1, ha.2.2.2.2.1, ha.2.2.2.2.2.1, ha.2.2.2.2.2.2.1, trivial⟩
        obtain ⟨τ, rfl⟩ := ha2.ups
        refine RL.move (v := (.int .i64 ((k158 : Nat) : Int))) ⟨_, rfl, congrArg Value.bool hg557⟩ rfl rfl ?_
        refine RL.nil ?_
        exact ⟨rfl, v558, v560, v561, ⟨hv.1, hv.2.1, hv.2.2.1, hv.2.2.2.1, hv.2.2.2.2.1, hv.2.2.2.2.2.1, hv.2.2.2.2.2.2.1, fun _ => rfl, hv.2.2.2.2.2.2.2.2.1, hv.2.2.2.2.2.2.2.2.2.1, hv.2.2.2.2.2.2.2.2.2.2.1, hv.2.2.2.2.2.2.2.2.2.2.2.1, hv.2.2.2.2.2.2.2.2.2.2.2.2.1, hv.2.2.2.2.2.2.2.2.2.2.2.2.2.1, trivial⟩, ha, hw⟩
      · intro D σ w hD hdep hJ
        obtain ⟨v558, v560, v561, hv, ha, hw⟩ := hJ
        have ha2 : agree σ [(124, (.int .i64 ((k158 : Nat) : Int))), (119, (.bool (decide (((k158 : Nat) : Int) > 0)))), (0, v0), (3, (.pointer (some ⟨b1, 0, none⟩))), (7, (.int .i64 ((k158 : Nat) : Int))), (8, (.pointer (some ⟨b366, 0, none⟩))), (55, v157), (56, (.int .i64 ((p1.Nets.length : Nat) : Int))), (57, (.int .i64 ((k158 : Nat) : Int)))] := ⟨hv.2.2.2.2.2.2.2.1 (hdep.1 rfl), hv.2.2.1 (hdep.2.1 rfl), ha.1, ha.2.1, ha.2.2.1, ha.2.2.2.1, ha.2.2.2.2.1, ha.2.2.2.2.2.1, ha.2.2.2.2.2.2.1, trivial⟩
        obtain ⟨τ, rfl⟩ := ha2.ups
        refine RL.iar (a := ((k158 : Nat) : Int)) (b := 1) ⟨_, rfl, congrArg Value.bool hg557⟩ rfl rfl rfl rfl ?_
        refine RL.nil ?_
        exact ⟨rfl, v558, v560, v561, ⟨hv.1, hv.2.1, hv.2.2.1, hv.2.2.2.1, hv.2.2.2.2.1, hv.2.2.2.2.2.1, hv.2.2.2.2.2.2.1, hv.2.2.2.2.2.2.2.1, fun _ => rfl, hv.2.2.2.2.2.2.2.2.2.1, hv.2.2.2.2.2.2.2.2.2.2.1, hv.2.2.2.2.2.2.2.2.2.2.2.1, hv.2.2.2.2.2.2.2.2.2.2.2.2.1, hv.2.2.2.2.2.2.2.2.2.2.2.2.2.1, trivial⟩, ha, hw⟩
      · intro D σ w hD hdep hJ
        obtain ⟨v558, v560, v561, hv, ha, hw⟩ := hJ
        have ha2 : agree σ [(123, v558), (125, (.int .i64 (IntKind.wrap .i64 (((k158 : Nat) : Int) - 1)))), (119, (.bool (decide (((k158 : Nat) : Int) > 0)))), (0, v0), (3, (.pointer (some ⟨b1, 0, none⟩))), (7, (.int .i64 ((k158 : Nat) : Int))), (8, (.pointer (some ⟨b366, 0, none⟩))), (55, v157), (56, (.int .i64 ((p1.Nets.length : Nat) : Int))), (57, (.int .i64 ((k158 : Nat) : Int)))] := ⟨hv.2.2.2.2.2.2.1 (hdep.1 rfl), hv.2.2.2.2.2.2.2.2.1 (hdep.2.1 rfl), hv.2.2.1 (hdep.2.2.1 rfl), ha.1, ha.2.1, ha.2.2.1, ha.2.2.2.1, ha.2.2.2.2.1, ha.2.2.2.2.2.1, ha.2.2.2.2.2.2.1, trivial⟩
        obtain ⟨τ, rfl⟩ := ha2.ups
        refine RL.ia_rd (i := 0) ⟨_, rfl, congrArg Value.bool hg557⟩ rfl hw rfl rfl (ent_t (hdep.1 rfl)) sl24 hx559 fun v563 hw => ?_
        have hw := hw.fillat 0 1 1 rfl rfl rfl (by simp)
        refine RL.nil ?_
        exact ⟨rfl, v558, v563, v561, ⟨hv.1, hv.2.1, hv.2.2.1, hv.2.2.2.1, hv.2.2.2.2.1, hv.2.2.2.2.2.1, hv.2.2.2.2.2.2.1, hv.2.2.2.2.2.2.2.1, hv.2.2.2.2.2.2.2.2.1, fun _ => rfl, hv.2.2.2.2.2.2.2.2.2.2.1, hv.2.2.2.2.2.2.2.2.2.2.2.1, hv.2.2.2.2.2.2.2.2.2.2.2.2.1, hv.2.2.2.2.2.2.2.2.2.2.2.2.2.1, trivial⟩, ha, hw⟩
      · intro D σ w hD hdep hJ
        obtain ⟨v558, v560, v561, hv, ha, hw⟩ := hJ
        have ha2 : agree σ [(126, v560), (119, (.bool (decide (((k158 : Nat) : Int) > 0)))), (0, v0), (3, (.pointer (some ⟨b1, 0, none⟩))), (7, (.int .i64 ((k158 : Nat) : Int))), (8, (.pointer (some ⟨b366, 0, none⟩))), (55, v157), (56, (.int .i64 ((p1.Nets.length : Nat) : Int))), (57, (.int .i64 ((k158 : Nat) : Int)))] := ⟨hv.2.2.2.2.2.2.2.2.2.1 (hdep.1 rfl), hv.2.2.1 (hdep.2.1 rfl), ha.1, ha.2.1, ha.2.2.1, ha.2.2.2.1, ha.2.2.2.2.1, ha.2.2.2.2.2.1, ha.2.2.2.2.2.2.1, trivial⟩
        obtain ⟨τ, rfl⟩ := ha2.ups
        refine RL.fa_pt (i := 1) (f := fun (x : Net) => x.Name) ⟨_, rfl, congrArg Value.bool hg557⟩ rfl hw rfl (ent_t (hdep.1 rfl)) fa64_0 fd_Net_0 fun v564 hw => ?_
        have hw := hw.fillat 0 1 2 rfl rfl rfl (by simp)
        refine RL.nil ?_
        exact ⟨rfl, v558, v560, v564, ⟨hv.1, hv.2.1, hv.2.2.1, hv.2.2.2.1, hv.2.2.2.2.1, hv.2.2.2.2.2.1, hv.2.2.2.2.2.2.1, hv.2.2.2.2.2.2.2.1, hv.2.2.2.2.2.2.2.2.1, hv.2.2.2.2.2.2.2.2.2.1, fun _ => rfl, hv.2.2.2.2.2.2.2.2.2.2.2.1, hv.2.2.2.2.2.2.2.2.2.2.2.2.1, hv.2.2.2.2.2.2.2.2.2.2.2.2.2.1, trivial⟩, ha, hw⟩
      · intro D σ w hD hdep hJ
        obtain ⟨v558, v560, v561, hv, ha, hw⟩ := hJ
        have ha2 : agree σ [(127, v561), (119, (.bool (decide (((k158 : Nat) : Int) > 0)))), (0, v0), (3, (.pointer (some ⟨b1, 0, none⟩))), (7, (.int .i64 ((k158 : Nat) : Int))), (8, (.pointer (some ⟨b366, 0, none⟩))), (55, v157), (56, (.int .i64 ((p1.Nets.length : Nat) : Int))), (57, (.int .i64 ((k158 : Nat) : Int)))] := ⟨hv.2.2.2.2.2.2.2.2.2.2.1 (hdep.1 rfl), hv.2.2.1 (hdep.2.1 rfl), ha.1, ha.2.1, ha.2.2.1, ha.2.2.2.1, ha.2.2.2.2.1, ha.2.2.2.2.2.1, ha.2.2.2.2.2.2.1, trivial⟩
        obtain ⟨τ, rfl⟩ := ha2.ups
        refine RL.load_pts (i := 2) (y := x559.Name) ⟨_, rfl, congrArg Value.bool hg557⟩ rfl hw rfl (ent_t (hdep.1 rfl)) ty9 ?_
        refine RL.nil ?_
        exact ⟨rfl, v558, v560, v561, ⟨hv.1, hv.2.1, hv.2.2.1, hv.2.2.2.1, hv.2.2.2.2.1, hv.2.2.2.2.2.1, hv.2.2.2.2.2.2.1, hv.2.2.2.2.2.2.2.1, hv.2.2.2.2.2.2.2.2.1, hv.2.2.2.2.2.2.2.2.2.1, hv.2.2.2.2.2.2.2.2.2.2.1, fun _ => rfl, hv.2.2.2.2.2.2.2.2.2.2.2.2.1, hv.2.2.2.2.2.2.2.2.2.2.2.2.2.1, trivial⟩, ha, hw⟩
      · intro D σ w hD hdep hJ
        obtain ⟨v558, v560, v561, hv, ha, hw⟩ := hJ
        have ha2 : agree σ [(121, (str x363.Name)), (128, (str x559.Name)), (119, (.bool (decide (((k158 : Nat) : Int) > 0)))), (0, v0), (3, (.pointer (some ⟨b1, 0, none⟩))), (7, (.int .i64 ((k158 : Nat) : Int))), (8, (.pointer (some ⟨b366, 0, none⟩))), (55, v157), (56, (.int .i64 ((p1.Nets.length : Nat) : Int))), (57, (.int .i64 ((k158 : Nat) : Int)))] := ⟨hv.2.2.2.2.1 (hdep.1 rfl), hv.2.2.2.2.2.2.2.2.2.2.2.1 (hdep.2.1 rfl), hv.2.2.1 (hdep.2.2.1 rfl), ha.1, ha.2.1, ha.2.2.1, ha.2.2.2.1, ha.2.2.2.2.1, ha.2.2.2.2.2.1, ha.2.2.2.2.2.2.1, trivial⟩
        obtain ⟨τ, rfl⟩ := ha2.ups
        refine RL.scmp (a := x363.Name) (b := x559.Name) ⟨_, rfl, congrArg Value.bool hg557⟩ rfl rfl rfl rfl ?_
        refine RL.nil ?_
        exact ⟨rfl, v558, v560, v561, ⟨hv.1, hv.2.1, hv.2.2.1, hv.2.2.2.1, hv.2.2.2.2.1, hv.2.2.2.2.2.1, hv.2.2.2.2.2.2.1, hv.2.2.2.2.2.2.2.1, hv.2.2.2.2.2.2.2.2.1, hv.2.2.2.2.2.2.2.2.2.1, hv.2.2.2.2.2.2.2.2.2.2.1, hv.2.2.2.2.2.2.2.2.2.2.2.1, fun _ => rfl, hv.2.2.2.2.2.2.2.2.2.2.2.2.2.1, trivial⟩, ha, hw⟩
      · intro D σ w hD hdep hJ
        obtain ⟨v558, v560, v561, hv, ha, hw⟩ := hJ
        have ha2 : agree σ [(119, (.bool (decide (((k158 : Nat) : Int) > 0)))), (129, (.bool (x363.Name.ltb x559.Name || x363.Name.eqb x559.Name))), (0, v0), (3, (.pointer (some ⟨b1, 0, none⟩))), (7, (.int .i64 ((k158 : Nat) : Int))), (8, (.pointer (some ⟨b366, 0, none⟩))), (55, v157), (56, (.int .i64 ((p1.Nets.length : Nat) : Int))), (57, (.int .i64 ((k158 : Nat) : Int)))] := ⟨hv.2.2.1 (hdep.1 rfl), hv.2.2.2.2.2.2.2.2.2.2.2.2.1 (hdep.2.1 rfl), ha.1, ha.2.1, ha.2.2.1, ha.2.2.2.1, ha.2.2.2.2.1, ha.2.2.2.2.2.1, ha.2.2.2.2.2.2.1, trivial⟩
        obtain ⟨τ, rfl⟩ := ha2.ups
        refine RL.pick (b := (decide (((k158 : Nat) : Int) > 0))) (v := (.bool (x363.Name.ltb x559.Name || x363.Name.eqb x559.Name))) trivial rfl rfl (by rw [hg557]; rfl) ?_
        refine RL.nil ?_
        exact ⟨rfl, v558, v560, v561, ⟨hv.1, hv.2.1, hv.2.2.1, hv.2.2.2.1, hv.2.2.2.2.1, hv.2.2.2.2.2.1, hv.2.2.2.2.2.2.1, hv.2.2.2.2.2.2.2.1, hv.2.2.2.2.2.2.2.2.1, hv.2.2.2.2.2.2.2.2.2.1, hv.2.2.2.2.2.2.2.2.2.2.1, hv.2.2.2.2.2.2.2.2.2.2.2.1, hv.2.2.2.2.2.2.2.2.2.2.2.2.1, fun _ => rfl, trivial⟩, ha, hw⟩
      intro D σ w hall hJ
      obtain ⟨v558, v560, v561, hv, ha, hw⟩ := hJ
      rw [hall 6 (by decide)] at hw
      rw [hall 9 (by decide)] at hw
      rw [hall 10 (by decide)] at hw
      have ha2 : agree σ [(130, (.bool (x363.Name.ltb x559.Name || x363.Name.eqb x559.Name))), (0, v0), (3, (.pointer (some ⟨b1, 0, none⟩))), (7, (.int .i64 ((k158 : Nat) : Int))), (8, (.pointer (some ⟨b366, 0, none⟩))), (55, v157), (56, (.int .i64 ((p1.Nets.length : Nat) : Int))), (57, (.int .i64 ((k158 : Nat) : Int)))] := ⟨hv.2.2.2.2.2.2.2.2.2.2.2.2.2.1 (hall 13 (by decide)), ha.1, ha.2.1, ha.2.2.1, ha.2.2.2.1, ha.2.2.2.2.1, ha.2.2.2.2.2.1, ha.2.2.2.2.2.2.1, trivial⟩
      obtain ⟨τ, rfl⟩ := ha2.ups
      injection hj with hj; subst hj
      exact ⟨rfl, ⟨rfl, rfl, rfl, rfl, rfl, rfl, trivial⟩, hw.pick 9 [4, 5, 7] (new := [rd v0 p0, bx 26 b1 p1, rd v157 p1.Nets]) rfl rfl (by decide) (by decide)⟩
    rintro σ w ⟨ha, hw⟩
    obtain ⟨τ, rfl⟩ := ha.ups
    refine thenQ_n ?_
    refine RC.cond (b := s556) rfl (fun hc => ?_) (fun hc => ?_)
    rotate_left
    · replace hb := cF hc hb
      refine RC.skip ?_
      refine blkQ_n ?_
      refine thenQ_n ?_
      refine RC.region ?_
      refine RL.inc trivial rfl hk hm rfl rfl ?_
      refine RL.move (v := (.int .i64 ((k158 + 1 : Nat) : Int))) trivial rfl rfl ?_
      refine RL.nil ?_
      injection hb with hb; subst hb
      exact ⟨rfl, ⟨rfl, rfl, rfl, rfl, rfl, trivial⟩, hw.pick 3 [0, 1, 2] (new := [rd v0 p0, bx 26 b1 p1, rd v157 p1.Nets]) rfl rfl (by decide) (by decide)⟩
    replace hb := cT hc hb
    refine RC.seq ?_
    refine RC.region ?_
    refine RL.assign (v := (.int .i64 8)) trivial rfl rfl ?_
    refine RL.nil ?_
    refine thenQ_n ?_
    refine RC.ret ?_
    refine blkQ_r ?_
    refine thenQ_r ?_
    injection hb with hb; subst hb
    exact ⟨rfl, fin1 rfl rfl ⟨rfl, hw.drop 3 rfl⟩⟩
  · intro r σ w e hK
    subst e
    refine thenQ_r ?_
    injection hb with hb; subst hb
    exact hK
  intro s159 σ w e hJ
  subst e
  rw [Fo.cs_go] at hb
  obtain ⟨ha, hw⟩ := hJ
  obtain ⟨τ, rfl⟩ := ha.ups
  refine thenQ_n ?_
  refine RC.seq ?_
  refine RC.region ?_
  refine RL.assign (v := (.int .i64 0)) trivial rfl rfl ?_
  refine RL.nil ?_
  refine thenQ_n ?_
  refine RC.ret ?_
  injection hb with hb; subst hb
  exact fin1 rfl rfl ⟨rfl, hw.drop 3 rfl⟩
def etchhouseref2_CheckList_R (E : World) (Γ : List HP) (res : Int) (v : Value) (w : World) : Prop := v = (.int .i64 res) ∧ Holds E w Γ
def etchhouseref2_CheckList_K (E : World) (Γ : List HP) (r : Int) (σ : Nat → Value) (w : World) : Prop := finQ Tryd.prog 14 Tryd.f14 (etchhouseref2_CheckList_R E Γ r) .ret σ w
theorem etchhouseref2_CheckList_ok (N : Nat) {E w : World} {Γ : List HP} {i0 : Nat} {v0 : Value} {p0 : (List PartType)} {i1 : Nat} {v1 : Value} {p1 : Netlist} {res : Int} (hw : Holds E w Γ) (h0 : Γ[i0]? = some (rd v0 p0)) (h1 : Γ[i1]? = some (rd v1 p1)) (hb : etchhouseref2_CheckList N p0 p1 = some res) :
    Calls Tryd.prog 14 [v0, v1].toArray w (Ret (etchhouseref2_CheckList_R E Γ res)) := by
  unfold etchhouseref2_CheckList at hb
  refine enter Tryd.func14 rfl rfl (Nat.le_of_ble_eq_true rfl) ?_
  have hw := hw.dup (i := i0 + 0) h0
  have hw := hw.dup (i := i1 + 1) h1
  refine RC.seq ?_
  refine RC.region ?_
  refine RL.box_rd (i := 0) (v := v1) trivial rfl hw rfl rfl fun b1 w hw => ?_
  refine RL.assign (v := (.int .i64 0)) trivial rfl rfl ?_
  refine RL.nil ?_
  refine thenQ_n ?_
  refine RC.seq ?_
  refine RC.seq ?_
  refine RC.region ?_
  refine RL.move (v := v0) trivial rfl rfl ?_
  obtain ⟨x2, hx2, hb⟩ := bd hb
  refine RL.call trivial rfl fn45 [v0] rfl (Calls_ret (etchhouseref2_CheckTypes_ok N  (i0 := 2) hw rfl hx2) ?_)
  rintro _ w ⟨rfl, hw⟩
  refine RL.assign (v := (.int .i64 x2)) trivial rfl rfl ?_
  refine RL.nil ?_
  refine thenQ_n ?_
  refine RC.seq ?_
  refine RC.region ?_
  refine RL.move (v := (.int .i64 x2)) trivial rfl rfl ?_
  refine RL.icmp (a := x2) (b := 0) trivial rfl rfl rfl rfl ?_
  refine RL.nil ?_
  refine thenQ_n ?_
  refine RC.cond (b := (x2 != 0)) rfl (fun hc => ?_) (fun hc => ?_)
  · replace hb := cT hc hb
    refine RC.seq ?_
    refine RC.region ?_
    refine RL.move (v := (.int .i64 x2)) trivial rfl rfl ?_
    refine RL.assign (v := (.int .i64 x2)) trivial rfl rfl ?_
    refine RL.nil ?_
    refine thenQ_n ?_
    refine RC.ret ?_
    refine thenQ_r ?_
    injection hb with hb; subst hb
    exact fin1 rfl rfl ⟨rfl, hw.drop 3 rfl⟩
  replace hb := cF hc hb
  refine RC.skip ?_
  refine thenQ_n ?_
  refine RC.seq ?_
  refine RC.region ?_
  refine RL.move (v := v0) trivial rfl rfl ?_
  refine RL.load_bf (i := 0) (f := (fun x => x)) trivial rfl hw rfl rfl Fd.self ty26 fun v3 hw => ?_
  obtain ⟨x4, hx4, hb⟩ := bd hb
  refine RL.call trivial rfl fn46 [v0, v3] rfl (Calls_ret (etchhouseref2_checkList_ok N  (i0 := 3) (i1 := 0) hw rfl rfl hx4) ?_)
  rintro _ w ⟨rfl, hw⟩
  refine RL.assign (v := (.int .i64 x4)) trivial rfl rfl ?_
  refine RL.nil ?_
  refine thenQ_n ?_
  refine RC.ret ?_
  injection hb with hb; subst hb
  exact fin1 rfl rfl ⟨rfl, hw.drop 4 rfl⟩
def etchhouseref2_netOf_R (E : World) (Γ : List HP) (res : Int) (v : Value) (w : World) : Prop := v = (.int .i64 res) ∧ Holds E w Γ
def etchhouseref2_netOf_K (E : World) (Γ : List HP) (r : Int) (σ : Nat → Value) (w : World) : Prop := finQ Tryd.prog 21 Tryd.f39 (etchhouseref2_netOf_R E Γ r) .ret σ w
theorem etchhouseref2_netOf_ok (N : Nat) {E w : World} {Γ : List HP} {i0 : Nat} {v0 : Value} {p0 : Netlist} {i1 : Nat} {v1 : Value} {p1 : Pin} {res : Int} (hw : Holds E w Γ) (h0 : Γ[i0]? = some (rd v0 p0)) (h1 : Γ[i1]? = some (rd v1 p1)) (hb : etchhouseref2_netOf N p0 p1 = some res) :
    Calls Tryd.prog 39 [v0, v1].toArray w (Ret (etchhouseref2_netOf_R E Γ res)) := by
  unfold etchhouseref2_netOf at hb
  refine enter Tryd.func39 rfl rfl (Nat.le_of_ble_eq_true rfl) ?_
  have hw := hw.dup (i := i0 + 0) h0
  have hw := hw.dup (i := i1 + 1) h1
  refine RC.seq ?_
  refine RC.region ?_
  refine RL.box_rd (i := 1) (v := v0) trivial rfl hw rfl rfl fun b1 w hw => ?_
  refine RL.box_rd (i := 1) (v := v1) trivial rfl hw rfl rfl fun b2 w hw => ?_
  refine RL.assign (v := (.int .i64 0)) trivial rfl rfl ?_
  refine RL.nil ?_
  refine thenQ_n ?_
  refine RC.seq ?_
  refine RC.seq ?_
  refine RC.region ?_
  refine RL.fa_b trivial rfl rfl fa26_1 ?_
  refine RL.load_bf (i := 1) (f := (fun x => x.Nets)) trivial rfl hw rfl rfl fd_Netlist_1 ty24 fun v3 hw => ?_
  refine RL.len_rd (i := 0) (l := p0.Nets) trivial rfl hw rfl rfl un24 ?_
  refine RL.move (v := (.int .i64 0)) trivial rfl rfl ?_
  refine RL.nil ?_
  refine thenQ_n ?_
  obtain ⟨o20, hN, hb⟩ := bd hb
  refine RC.range (fun (k4 : Nat) (s5 : Unit) (σ : Nat → Value) (w : World) => agree σ [(3, (.pointer (some ⟨b2, 0, none⟩))), (8, v3), (9, (.int .i64 ((p0.Nets.length : Nat) : Int))), (10, (.int .i64 ((k4 : Nat) : Int)))] ∧ Holds E w ([bx 28 b2 p1, rd v3 p0.Nets] ++ Γ)) (fun (s5 : Unit) (σ : Nat → Value) (w : World) => agree σ [] ∧ Holds E w ([bx 28 b2 p1, rd v3 p0.Nets] ++ Γ)) (etchhouseref2_netOf_K E Γ) hN ?_ ?_ ?_ ?_ ?_ 
  · exact ⟨⟨rfl, rfl, rfl, rfl, trivial⟩, hw.pick 5 [1, 0] (new := [bx 28 b2 p1, rd v3 p0.Nets]) rfl rfl (by decide) (by decide)⟩
  · intro hm s5 σ w hI
    obtain ⟨ha, hw⟩ := hI
    obtain ⟨τ, rfl⟩ := ha.ups
    refine RC.seq ?_
    refine RC.region ?_
    refine RL.icmp (a := ((p0.Nets.length : Nat) : Int)) (b := ((p0.Nets.length : Nat) : Int)) trivial rfl rfl rfl rfl ?_
    refine RL.nil ?_
    refine thenQ_n ?_
    refine RC.seq ?_
    refine RC.cond_f dge ?_
    refine RC.exit ?_
    refine thenQ_x ?_
    exact ⟨rfl, trivial, hw.pick 2 [0, 1] (new := [bx 28 b2 p1, rd v3 p0.Nets]) rfl rfl (by decide) (by decide)⟩
  · intro hm k4 s5 fl σ w hk hI hb
    obtain ⟨ha, hw⟩ := hI
    obtain ⟨τ, rfl⟩ := ha.ups
    refine RC.seq ?_
    refine RC.region ?_
    refine RL.icmp (a := ((k4 : Nat) : Int)) (b := ((p0.Nets.length : Nat) : Int)) trivial rfl rfl rfl rfl ?_
    refine RL.nil ?_
    refine thenQ_n ?_
    refine RC.seq ?_
    refine RC.cond_t (dlt hk) ?_
    refine RC.skip ?_
    refine thenQ_n ?_
    refine RC.seq ?_
    refine RC.block ?_
    refine RC.seq ?_
    refine RC.region ?_
    refine RL.move (v := (.int .i64 ((k4 : Nat) : Int))) trivial rfl rfl ?_
    obtain ⟨x13, hx13, hb⟩ := bd hb
    refine RL.ia_rd (i := 1) trivial rfl hw rfl rfl rfl sl24 hx13 fun v14 hw => ?_
    refine RL.load_pt (i := 0) (x := x13) trivial rfl hw rfl rfl ty64 fun v15 hw => ?_
    refine RL.alloc trivial rfl hw ze64.z fun b16 w hw => ?_
    refine RL.assign (v := (.int .i64 ((k4 : Nat) : Int))) trivial rfl rfl ?_
    refine RL.store_raw (i := 0) (j := 1) trivial hw rfl rfl rfl rfl ty64 rfl fun w hw => ?_
    refine RL.nil ?_
    refine thenQ_n ?_
    refine RC.seq ?_
    refine RC.region ?_
    refine RL.fa_b trivial rfl rfl fa64_1 ?_
    refine RL.load_bf (i := 0) (f := (fun x => x.Pins)) trivial rfl hw rfl rfl fd_Net_1 ty33 fun v17 hw => ?_
    refine RL.load_bf (i := 4) (f := (fun x => x)) trivial rfl hw rfl rfl Fd.self ty28 fun v18 hw => ?_
    obtain ⟨x19, hx19, hb⟩ := bd hb
    refine RL.call trivial rfl fn95 [v17, v18] rfl (Calls_ret (slices_Contains_Pin_ok N  (i0 := 1) (i1 := 0) hw rfl rfl hx19) ?_)
    rintro _ w ⟨rfl, hw⟩
    refine RL.nil ?_
    refine thenQ_n ?_
    refine RC.cond (b := x19) rfl (fun hc => ?_) (fun hc => ?_)
    rotate_left
    · replace hb := cF hc hb
      refine RC.skip ?_
      refine blkQ_n ?_
      refine thenQ_n ?_
      refine RC.region ?_
      refine RL.inc trivial rfl hk hm rfl rfl ?_
      refine RL.move (v := (.int .i64 ((k4 + 1 : Nat) : Int))) trivial rfl rfl ?_
      refine RL.nil ?_
      injection hb with hb; subst hb
      exact ⟨rfl, ⟨rfl, rfl, rfl, rfl, trivial⟩, hw.pick 7 [5, 6] (new := [bx 28 b2 p1, rd v3 p0.Nets]) rfl rfl (by decide) (by decide)⟩
    replace hb := cT hc hb
    refine RC.seq ?_
    refine RC.region ?_
    refine RL.move (v := (.int .i64 ((k4 : Nat) : Int))) trivial rfl rfl ?_
    refine RL.assign (v := (.int .i64 ((k4 : Nat) : Int))) trivial rfl rfl ?_
    refine RL.nil ?_
    refine thenQ_n ?_
    refine RC.ret ?_
    refine blkQ_r ?_
    refine thenQ_r ?_
    injection hb with hb; subst hb
    exact ⟨rfl, fin1 rfl rfl ⟨rfl, hw.drop 7 rfl⟩⟩
  · intro r σ w e hK
    subst e
    refine thenQ_r ?_
    injection hb with hb; subst hb
    exact hK
  intro s5 σ w e hJ
  subst e
  rw [Fo.cs_go] at hb
  obtain ⟨ha, hw⟩ := hJ
  obtain ⟨τ, rfl⟩ := ha.ups
  refine thenQ_n ?_
  refine RC.seq ?_
  refine RC.region ?_
  refine RL.assign (v := (.int .i64 (-1))) trivial rfl rfl ?_
  refine RL.nil ?_
  refine thenQ_n ?_
  refine RC.ret ?_
  injection hb with hb; subst hb
  exact fin1 rfl rfl ⟨rfl, hw.drop 2 rfl⟩
def etchhouseref2_NetOf_R (E : World) (Γ : List HP) (res : Str × Bool × Int) (v : Value) (w : World) : Prop := v = .tuple #[(str res.1), (.bool res.2.1), (.int .i64 res.2.2)] ∧ Holds E w Γ
def etchhouseref2_NetOf_K (E : World) (Γ : List HP) (r : Str × Bool × Int) (σ : Nat → Value) (w : World) : Prop := finQ Tryd.prog 33 Tryd.f12 (etchhouseref2_NetOf_R E Γ r) .ret σ w
theorem etchhouseref2_NetOf_ok (N : Nat) {E w : World} {Γ : List HP} {i0 : Nat} {v0 : Value} {p0 : (List PartType)} {i1 : Nat} {v1 : Value} {p1 : Netlist} {i2 : Nat} {v2 : Value} {p2 : Pin} {res : Str × Bool × Int} (hw : Holds E w Γ) (h0 : Γ[i0]? = some (rd v0 p0)) (h1 : Γ[i1]? = some (rd v1 p1)) (h2 : Γ[i2]? = some (rd v2 p2)) (hb : etchhouseref2_NetOf N p0 p1 p2 = some res) :
    Calls Tryd.prog 12 [v0, v1, v2].toArray w (Ret (etchhouseref2_NetOf_R E Γ res)) := by
  unfold etchhouseref2_NetOf at hb
  refine enter Tryd.func12 rfl rfl (Nat.le_of_ble_eq_true rfl) ?_
  have hw := hw.dup (i := i0 + 0) h0
  have hw := hw.dup (i := i1 + 1) h1
  have hw := hw.dup (i := i2 + 2) h2
  refine RC.seq ?_
  refine RC.region ?_
  refine RL.box_rd (i := 1) (v := v1) trivial rfl hw rfl rfl fun b1 w hw => ?_
  refine RL.box_rd (i := 1) (v := v2) trivial rfl hw rfl rfl fun b2 w hw => ?_
  refine RL.assign (v := (str ⟨[]⟩)) trivial rfl rfl ?_
  refine RL.assign (v := (.bool false)) trivial rfl rfl ?_
  refine RL.assign (v := (.int .i64 0)) trivial rfl rfl ?_
  refine RL.nil ?_
  refine thenQ_n ?_
  refine RC.seq ?_
  refine RC.seq ?_
  refine RC.region ?_
  refine RL.move (v := v0) trivial rfl rfl ?_
  refine RL.load_bf (i := 1) (f := (fun x => x)) trivial rfl hw rfl rfl Fd.self ty26 fun v3 hw => ?_
  obtain ⟨x4, hx4, hb⟩ := bd hb
  refine RL.call trivial rfl fn14 [v0, v3] rfl (Calls_ret (etchhouseref2_CheckList_ok N  (i0 := 5) (i1 := 0) hw rfl rfl hx4) ?_)
  rintro _ w ⟨rfl, hw⟩
  refine RL.assign (v := (.int .i64 x4)) trivial rfl rfl ?_
  refine RL.nil ?_
  refine thenQ_n ?_
  refine RC.seq ?_
  refine RC.region ?_
  refine RL.move (v := (.int .i64 x4)) trivial rfl rfl ?_
  refine RL.icmp (a := x4) (b := 0) trivial rfl rfl rfl rfl ?_
  refine RL.nil ?_
  refine thenQ_n ?_
  refine RC.cond (b := (x4 != 0)) rfl (fun hc => ?_) (fun hc => ?_)
  · replace hb := cT hc hb
    refine RC.seq ?_
    refine RC.region ?_
    refine RL.move (v := (.int .i64 x4)) trivial rfl rfl ?_
    refine RL.assign (v := (str ⟨[]⟩)) trivial rfl rfl ?_
    refine RL.assign (v := (.bool false)) trivial rfl rfl ?_
    refine RL.assign (v := (.int .i64 x4)) trivial rfl rfl ?_
    refine RL.nil ?_
    refine thenQ_n ?_
    refine RC.ret ?_
    refine thenQ_r ?_
    injection hb with hb; subst hb
    exact fin3 rfl rfl rfl rfl ⟨rfl, hw.drop 6 rfl⟩
  replace hb := cF hc hb
  refine RC.skip ?_
  refine thenQ_n ?_
  refine RC.seq ?_
  refine RC.seq ?_
  refine RC.region ?_
  refine RL.move (v := v0) trivial rfl rfl ?_
  refine RL.load_bf (i := 2) (f := (fun x => x)) trivial rfl hw rfl rfl Fd.self ty26 fun v5 hw => ?_
  refine RL.load_bf (i := 2) (f := (fun x => x)) trivial rfl hw rfl rfl Fd.self ty28 fun v6 hw => ?_
  obtain ⟨x7, hx7, hb⟩ := bd hb
  refine RL.call trivial rfl fn38 [v0, v5, v6] rfl (Calls_ret (etchhouseref2_HasPin_ok N  (i0 := 7) (i1 := 1) (i2 := 0) hw rfl rfl rfl hx7) ?_)
  rintro _ w ⟨rfl, hw⟩
  refine RL.not (b := x7) trivial rfl rfl ?_
  refine RL.nil ?_
  refine thenQ_n ?_
  refine RC.cond (b := (!x7)) rfl (fun hc => ?_) (fun hc => ?_)
  · replace hb := cT hc hb
    refine RC.seq ?_
    refine RC.region ?_
    refine RL.assign (v := (str ⟨[]⟩)) trivial rfl rfl ?_
    refine RL.assign (v := (.bool false)) trivial rfl rfl ?_
    refine RL.assign (v := (.int .i64 9)) trivial rfl rfl ?_
    refine RL.nil ?_
    refine thenQ_n ?_
    refine RC.ret ?_
    refine thenQ_r ?_
    injection hb with hb; subst hb
    exact fin3 rfl rfl rfl rfl ⟨rfl, hw.drop 8 rfl⟩
  replace hb := cF hc hb
  refine RC.skip ?_
  refine thenQ_n ?_
  refine RC.seq ?_
  refine RC.seq ?_
  refine RC.region ?_
  refine RL.load_bf (i := 4) (f := (fun x => x)) trivial rfl hw rfl rfl Fd.self ty26 fun v8 hw => ?_
  refine RL.load_bf (i := 4) (f := (fun x => x)) trivial rfl hw rfl rfl Fd.self ty28 fun v9 hw => ?_
  obtain ⟨x10, hx10, hb⟩ := bd hb
  refine RL.call trivial rfl fn39 [v8, v9] rfl (Calls_ret (etchhouseref2_netOf_ok N  (i0 := 1) (i1 := 0) hw rfl rfl hx10) ?_)
  rintro _ w ⟨rfl, hw⟩
  refine RL.assign (v := (.int .i64 x10)) trivial rfl rfl ?_
  refine RL.nil ?_
  refine thenQ_n ?_
  refine RC.seq ?_
  refine RC.region ?_
  refine RL.move (v := (.int .i64 x10)) trivial rfl rfl ?_
  refine RL.icmp (a := x10) (b := 0) trivial rfl rfl rfl rfl ?_
  refine RL.nil ?_
  refine thenQ_n ?_
  refine RC.cond (b := (decide (x10 ≥ 0))) rfl (fun hc => ?_) (fun hc => ?_)
  rotate_left
  · replace hb := cF hc hb
    refine RC.skip ?_
    refine thenQ_n ?_
    refine RC.seq ?_
    refine RC.region ?_
    refine RL.assign (v := (str ⟨[]⟩)) trivial rfl rfl ?_
    refine RL.assign (v := (.bool false)) trivial rfl rfl ?_
    refine RL.assign (v := (.int .i64 0)) trivial rfl rfl ?_
    refine RL.nil ?_
    refine thenQ_n ?_
    refine RC.ret ?_
    injection hb with hb; subst hb
    exact fin3 rfl rfl rfl rfl ⟨rfl, hw.drop 10 rfl⟩
  replace hb := cT hc hb
  refine RC.seq ?_
  refine RC.region ?_
  refine RL.fa_b trivial rfl rfl fa26_1 ?_
  refine RL.load_bf (i := 6) (f := (fun x => x.Nets)) trivial rfl hw rfl rfl fd_Netlist_1 ty24 fun v15 hw => ?_
  refine RL.move (v := (.int .i64 x10)) trivial rfl rfl ?_
  obtain ⟨x16, hx16, hb⟩ := bd hb
  refine RL.ia_rd (i := 0) trivial rfl hw rfl rfl rfl sl24 hx16 fun v17 hw => ?_
  refine RL.fa_pt (i := 0) (f := fun (x : Net) => x.Name) trivial rfl hw rfl rfl fa64_0 fd_Net_0 fun v18 hw => ?_
  refine RL.load_pts (i := 0) (y := x16.Name) trivial rfl hw rfl rfl ty9 ?_
  refine RL.assign (v := (str x16.Name)) trivial rfl rfl ?_
  refine RL.assign (v := (.bool true)) trivial rfl rfl ?_
  refine RL.assign (v := (.int .i64 0)) trivial rfl rfl ?_
  refine RL.nil ?_
  refine thenQ_n ?_
  refine RC.ret ?_
  refine thenQ_r ?_
  injection hb with hb; subst hb
  exact fin3 rfl rfl rfl rfl ⟨rfl, hw.drop 13 rfl⟩
def netlist_pinsOf_R (E : World) (Γ : List HP) (res : (List Pin)) (v : Value) (w : World) : Prop := Holds E w (own 28 v res :: Γ)
def netlist_pinsOf_K (E : World) (Γ : List HP) (r : (List Pin)) (σ : Nat → Value) (w : World) : Prop := finQ Tryd.prog 31 Tryd.f67 (netlist_pinsOf_R E Γ r) .ret σ w
theorem netlist_pinsOf_ok (N : Nat) {E w : World} {Γ : List HP} {i0 : Nat} {v0 : Value} {p0 : (List PartType)} {i1 : Nat} {v1 : Value} {p1 : Part} {res : (List Pin)} (hw : Holds E w Γ) (h0 : Γ[i0]? = some (rd v0 p0)) (h1 : Γ[i1]? = some (rd v1 p1)) (hb : netlist_pinsOf N p0 p1 = some res) :
    Calls Tryd.prog 67 [v0, v1].toArray w (Ret (netlist_pinsOf_R E Γ res)) := by
  unfold netlist_pinsOf at hb
  refine enter Tryd.func67 rfl rfl (Nat.le_of_ble_eq_true rfl) ?_
  have hw := hw.dup (i := i0 + 0) h0
  have hw := hw.dup (i := i1 + 1) h1
  refine RC.seq ?_
  refine RC.region ?_
  refine RL.box_rd (i := 0) (v := v1) trivial rfl hw rfl rfl fun b1 w hw => ?_
  refine RL.assign (v := (.slice none 0 0)) trivial rfl rfl ?_
  refine RL.nil ?_
  refine thenQ_n ?_
  refine RC.seq ?_
  refine RC.region ?_
  refine RL.assign (v := (.slice none 0 0)) trivial rfl rfl ?_
  refine RL.nil ?_
  refine thenQ_n ?_
  refine RC.seq ?_
  refine RC.seq ?_
  refine RC.region ?_
  refine RL.move (v := v0) trivial rfl rfl ?_
  refine RL.move (v := v0) trivial rfl rfl ?_
  refine RL.fa_b trivial rfl rfl fa87_1 ?_
  refine RL.load_bfs (i := 0) (f := (fun x => x.Type_)) trivial rfl hw rfl rfl fd_Part_1 ty9 ?_
  obtain ⟨x2, hx2, hb⟩ := bd hb
  refine RL.call trivial rfl fn50 [v0, (str p1.Type_)] rfl (Calls_ret (netlist_TypeAt_ok N (p1 := p1.Type_) (i0 := 2) hw rfl hx2) ?_)
  rintro _ w ⟨rfl, hw⟩
  obtain ⟨x3, hx3, hb⟩ := bd hb
  refine RL.ia_rd (i := 2) trivial rfl hw rfl rfl rfl sl22 hx3 fun v4 hw => ?_
  refine RL.fa_pt (i := 0) (f := fun (x : PartType) => x.Pins) trivial rfl hw rfl rfl fa85_1 fd_PartType_1 fun v5 hw => ?_
  refine RL.load_pt (i := 0) (x := x3.Pins) trivial rfl hw rfl rfl ty83 fun v6 hw => ?_
  refine RL.len_rd (i := 0) (l := x3.Pins) trivial rfl hw rfl rfl un83 ?_
  refine RL.move (v := (.int .i64 0)) trivial rfl rfl ?_
  refine RL.nil ?_
  refine thenQ_n ?_
  obtain ⟨s8, hN, hb⟩ := bd hb
  refine RC.fold (fun (k7 : Nat) (s8 : (List Pin)) (σ : Nat → Value) (w : World) => ∃ v27 : Value, agree σ [(3, (.pointer (some ⟨b1, 0, none⟩))), (5, v27), (15, v6), (16, (.int .i64 ((x3.Pins.length : Nat) : Int))), (17, (.int .i64 ((k7 : Nat) : Int)))] ∧ Holds E w ([bx 87 b1 p1, rd v6 x3.Pins, own 28 v27 s8] ++ Γ)) (fun (s8 : (List Pin)) (σ : Nat → Value) (w : World) => ∃ v28 : Value, agree σ [(5, v28)] ∧ Holds E w ([bx 87 b1 p1, rd v6 x3.Pins, own 28 v28 s8] ++ Γ)) hN ?_ ?_ ?_ ?_
  · have hw := hw.own_nil Pin 28
    exact ⟨(.slice none 0 0), ⟨rfl, rfl, rfl, rfl, rfl, trivial⟩, hw.pick 7 [4, 1, 0] (new := [bx 87 b1 p1, rd v6 x3.Pins, own 28 (.slice none 0 0) ([] : (List Pin))]) rfl rfl (by decide) (by decide)⟩
  · intro hm s8 σ w hI
    obtain ⟨v38, ha, hw⟩ := hI
    obtain ⟨τ, rfl⟩ := ha.ups
    refine RC.seq ?_
    refine RC.region ?_
    refine RL.icmp (a := ((x3.Pins.length : Nat) : Int)) (b := ((x3.Pins.length : Nat) : Int)) trivial rfl rfl rfl rfl ?_
    refine RL.nil ?_
    refine thenQ_n ?_
    refine RC.seq ?_
    refine RC.cond_f dge ?_
    refine RC.exit ?_
    refine thenQ_x ?_
    exact ⟨rfl, v38, ⟨rfl, trivial⟩, hw.pick 3 [0, 1, 2] (new := [bx 87 b1 p1, rd v6 x3.Pins, own 28 v38 s8]) rfl rfl (by decide) (by decide)⟩
  · intro hm k7 s8 s' σ w hk hI hb
    obtain ⟨v29, ha, hw⟩ := hI
    obtain ⟨τ, rfl⟩ := ha.ups
    refine RC.seq ?_
    refine RC.region ?_
    refine RL.icmp (a := ((k7 : Nat) : Int)) (b := ((x3.Pins.length : Nat) : Int)) trivial rfl rfl rfl rfl ?_
    refine RL.nil ?_
    refine thenQ_n ?_
    refine RC.seq ?_
    refine RC.cond_t (dlt hk) ?_
    refine RC.skip ?_
    refine thenQ_n ?_
    refine RC.seq ?_
    refine RC.block ?_
    refine RC.seq ?_
    refine RC.region ?_
    obtain ⟨x30, hx30, hb⟩ := bd hb
    refine RL.ia_rd (i := 1) trivial rfl hw rfl rfl rfl sl83 hx30 fun v31 hw => ?_
    refine RL.load_pt (i := 0) (x := x30) trivial rfl hw rfl rfl ty82 fun v32 hw => ?_
    refine RL.alloc trivial rfl hw ze82.z fun b33 w hw => ?_
    refine RL.store_raw (i := 0) (j := 1) trivial hw rfl rfl rfl rfl ty82 rfl fun w hw => ?_
    refine RL.nil ?_
    refine thenQ_n ?_
    refine RC.region ?_
    refine RL.move (v := v29) trivial rfl rfl ?_
    refine RL.fa_b trivial rfl rfl fa87_0 ?_
    refine RL.load_bfs (i := 3) (f := (fun x => x.Name)) trivial rfl hw rfl rfl fd_Part_0 ty9 ?_
    refine RL.fa_b trivial rfl rfl fa82_0 ?_
    refine RL.load_bfs (i := 0) (f := (fun x => x.Name)) trivial rfl hw rfl rfl fd_PinType_0 ty9 ?_
    have hw := hw.sc (γ := Str) p1.Name
    have hw := hw.sc (γ := Str) x30.Name
    refine RL.build (y := (⟨p1.Name, x30.Name⟩ : Pin)) trivial rfl hw [(0, (str p1.Name)), (1, (str x30.Name))] rfl st28 rfl (fun M hs g => by have h := z_Pin M; exact Fills.cons (f := fun (x : Pin) y => { x with Part := y }) rfl h fs_Pin_0 (by decide) (g.sat 1 _ rfl).1 fun _ h => Fills.cons (f := fun (x : Pin) y => { x with Pin := y }) rfl h fs_Pin_1 (by decide) (g.sat 0 _ rfl).1 fun _ h => Fills.nil h) fun v34 hw => ?_
    refine RL.bslice (l := ([(⟨p1.Name, x30.Name⟩ : Pin)] : (List Pin))) trivial rfl hw [v34] rfl rfl rfl sl33 ze28 (fun M hs g => ⟨(g.sat 0 _ rfl).1, trivial⟩) fun v35 w hw => ?_
    have hw := hw.freeze (i := 0) rfl
    obtain ⟨x36, hx36, hb⟩ := bd hb
    refine RL.app (i := 9) (j := 0) trivial rfl hw rfl rfl rfl rfl el33 hx36 fun v37 w hw => ?_
    refine RL.assign (v := v37) trivial rfl rfl ?_
    refine RL.nil ?_
    refine blkQ_n ?_
    refine thenQ_n ?_
    refine RC.region ?_
    refine RL.inc trivial rfl hk hm rfl rfl ?_
    refine RL.move (v := (.int .i64 ((k7 + 1 : Nat) : Int))) trivial rfl rfl ?_
    refine RL.nil ?_
    injection hb with hb; subst hb
    exact ⟨rfl, v37, ⟨rfl, rfl, rfl, rfl, rfl, trivial⟩, hw.pick 10 [7, 8, 9] (new := [bx 87 b1 p1, rd v6 x3.Pins, own 28 v37 x36]) rfl rfl (by decide) (by decide)⟩
  intro σ w hJ
  obtain ⟨v28, ha, hw⟩ := hJ
  obtain ⟨τ, rfl⟩ := ha.ups
  refine thenQ_n ?_
  refine RC.seq ?_
  refine RC.region ?_
  refine RL.move (v := v28) trivial rfl rfl ?_
  refine RL.assign (v := v28) trivial rfl rfl ?_
  refine RL.nil ?_
  refine thenQ_n ?_
  refine RC.ret ?_
  injection hb with hb; subst hb
  exact fin1 rfl rfl (hw.pick 3 [2] (new := [own 28 v28 s8]) rfl rfl (by decide) (by decide))
def netlist_LooseOf_R (E : World) (Γ : List HP) (res : (List Pin)) (v : Value) (w : World) : Prop := Holds E w (own 28 v res :: Γ)
def netlist_LooseOf_K (E : World) (Γ : List HP) (r : (List Pin)) (σ : Nat → Value) (w : World) : Prop := finQ Tryd.prog 45 Tryd.f47 (netlist_LooseOf_R E Γ r) .ret σ w
theorem netlist_LooseOf_ok (N : Nat) {E w : World} {Γ : List HP} {i0 : Nat} {v0 : Value} {p0 : (List PartType)} {i1 : Nat} {v1 : Value} {p1 : Netlist} {res : (List Pin)} (hw : Holds E w Γ) (h0 : Γ[i0]? = some (rd v0 p0)) (h1 : Γ[i1]? = some (rd v1 p1)) (hb : netlist_LooseOf N p0 p1 = some res) :
    Calls Tryd.prog 47 [v0, v1].toArray w (Ret (netlist_LooseOf_R E Γ res)) := by
  unfold netlist_LooseOf at hb
  refine enter Tryd.func47 rfl rfl (Nat.le_of_ble_eq_true rfl) ?_
  have hw := hw.dup (i := i0 + 0) h0
  have hw := hw.dup (i := i1 + 1) h1
  refine RC.seq ?_
  refine RC.region ?_
  refine RL.box_rd (i := 0) (v := v1) trivial rfl hw rfl rfl fun b1 w hw => ?_
  refine RL.assign (v := (.slice none 0 0)) trivial rfl rfl ?_
  refine RL.nil ?_
  refine thenQ_n ?_
  refine RC.seq ?_
  refine RC.region ?_
  refine RL.load_bf (i := 0) (f := (fun x => x)) trivial rfl hw rfl rfl Fd.self ty26 fun v2 hw => ?_
  obtain ⟨x3, hx3, hb⟩ := bd hb
  refine RL.call trivial rfl fn37 [v2] rfl (Calls_ret (netlist_Nets_ok N  (i0 := 0) hw rfl hx3) ?_)
  rintro v4 w hw
  refine RL.assign (v := v4) trivial rfl rfl ?_
  refine RL.nil ?_
  refine thenQ_n ?_
  refine RC.seq ?_
  refine RC.region ?_
  refine RL.assign (v := (.slice none 0 0)) trivial rfl rfl ?_
  refine RL.nil ?_
  refine thenQ_n ?_
  refine RC.seq ?_
  refine RC.seq ?_
  refine RC.region ?_
  refine RL.fa_b trivial rfl rfl fa26_0 ?_
  refine RL.load_bf (i := 2) (f := (fun x => x.Parts)) trivial rfl hw rfl rfl fd_Netlist_0 ty23 fun v5 hw => ?_
  refine RL.len_rd (i := 0) (l := p1.Parts) trivial rfl hw rfl rfl un23 ?_
  refine RL.move (v := (.int .i64 0)) trivial rfl rfl ?_
  refine RL.nil ?_
  refine thenQ_n ?_
  obtain ⟨s7, hN, hb⟩ := bd hb
  refine RC.fold (fun (k6 : Nat) (s7 : (List Pin)) (σ : Nat → Value) (w : World) => ∃ v132 : Value, agree σ [(0, v0), (5, v4), (6, v132), (16, v5), (17, (.int .i64 ((p1.Parts.length : Nat) : Int))), (18, (.int .i64 ((k6 : Nat) : Int)))] ∧ Holds E w ([rd v0 p0, mp v4 x3, rd v5 p1.Parts, own 28 v132 s7] ++ Γ)) (fun (s7 : (List Pin)) (σ : Nat → Value) (w : World) => ∃ v133 : Value, agree σ [(6, v133)] ∧ Holds E w ([rd v0 p0, mp v4 x3, rd v5 p1.Parts, own 28 v133 s7] ++ Γ)) hN ?_ ?_ ?_ ?_
  · have hw := hw.own_nil Pin 28
    exact ⟨(.slice none 0 0), ⟨rfl, rfl, rfl, rfl, rfl, rfl, trivial⟩, hw.pick 7 [6, 2, 1, 0] (new := [rd v0 p0, mp v4 x3, rd v5 p1.Parts, own 28 (.slice none 0 0) ([] : (List Pin))]) rfl rfl (by decide) (by decide)⟩
  · intro hm s7 σ w hI
    obtain ⟨v196, ha, hw⟩ := hI
    obtain ⟨τ, rfl⟩ := ha.ups
    refine RC.seq ?_
    refine RC.region ?_
    refine RL.icmp (a := ((p1.Parts.length : Nat) : Int)) (b := ((p1.Parts.length : Nat) : Int)) trivial rfl rfl rfl rfl ?_
    refine RL.nil ?_
    refine thenQ_n ?_
    refine RC.seq ?_
    refine RC.cond_f dge ?_
    refine RC.exit ?_
    refine thenQ_x ?_
    exact ⟨rfl, v196, ⟨rfl, trivial⟩, hw.pick 4 [0, 1, 2, 3] (new := [rd v0 p0, mp v4 x3, rd v5 p1.Parts, own 28 v196 s7]) rfl rfl (by decide) (by decide)⟩
  · intro hm k6 s7 s' σ w hk hI hb
    obtain ⟨v134, ha, hw⟩ := hI
    obtain ⟨τ, rfl⟩ := ha.ups
    refine RC.seq ?_
    refine RC.region ?_
    refine RL.icmp (a := ((k6 : Nat) : Int)) (b := ((p1.Parts.length : Nat) : Int)) trivial rfl rfl rfl rfl ?_
    refine RL.nil ?_
    refine thenQ_n ?_
    refine RC.seq ?_
    refine RC.cond_t (dlt hk) ?_
    refine RC.skip ?_
    refine thenQ_n ?_
    refine RC.seq ?_
    refine RC.block ?_
    refine RC.seq ?_
    refine RC.region ?_
    obtain ⟨x135, hx135, hb⟩ := bd hb
    refine RL.ia_rd (i := 2) trivial rfl hw rfl rfl rfl sl23 hx135 fun v136 hw => ?_
    refine RL.load_pt (i := 0) (x := x135) trivial rfl hw rfl rfl ty87 fun v137 hw => ?_
    refine RL.alloc trivial rfl hw ze87.z fun b138 w hw => ?_
    refine RL.store_raw (i := 0) (j := 1) trivial hw rfl rfl rfl rfl ty87 rfl fun w hw => ?_
    refine RL.nil ?_
    refine thenQ_n ?_
    refine RC.seq ?_
    refine RC.region ?_
    refine RL.move (v := v0) trivial rfl rfl ?_
    refine RL.load_bf (i := 0) (f := (fun x => x)) trivial rfl hw rfl rfl Fd.self ty87 fun v139 hw => ?_
    obtain ⟨x140, hx140, hb⟩ := bd hb
    refine RL.call trivial rfl fn67 [v0, v139] rfl (Calls_ret (netlist_pinsOf_ok N  (i0 := 4) (i1 := 0) hw rfl rfl hx140) ?_)
    rintro v141 w hw
    refine RL.len_own (i := 0) (l := x140) trivial rfl hw rfl rfl un33 ?_
    refine RL.move (v := (.int .i64 0)) trivial rfl rfl ?_
    refine RL.nil ?_
    refine thenQ_n ?_
    obtain ⟨s143, hN, hb⟩ := bd hb
    refine RC.fold (fun (k142 : Nat) (s143 : (List Pin)) (σ : Nat → Value) (w : World) => ∃ v176 : Value, agree σ [(0, v0), (5, v4), (6, v176), (16, v5), (17, (.int .i64 ((p1.Parts.length : Nat) : Int))), (18, (.int .i64 ((k6 : Nat) : Int))), (24, v141), (25, (.int .i64 ((x140.length : Nat) : Int))), (26, (.int .i64 ((k142 : Nat) : Int)))] ∧ Holds E w ([rd v0 p0, mp v4 x3, rd v5 p1.Parts, own 28 v141 x140, own 28 v176 s143] ++ Γ)) (fun (s143 : (List Pin)) (σ : Nat → Value) (w : World) => ∃ v177 : Value, agree σ [(0, v0), (5, v4), (6, v177), (16, v5), (17, (.int .i64 ((p1.Parts.length : Nat) : Int))), (18, (.int .i64 ((k6 : Nat) : Int)))] ∧ Holds E w ([rd v0 p0, mp v4 x3, rd v5 p1.Parts, own 28 v141 x140, own 28 v177 s143] ++ Γ)) hN ?_ ?_ ?_ ?_
    · exact ⟨v134, ⟨rfl, rfl, rfl, rfl, rfl, rfl, rfl, rfl, rfl, trivial⟩, hw.pick 9 [5, 6, 7, 0, 8] (new := [rd v0 p0, mp v4 x3, rd v5 p1.Parts, own 28 v141 x140, own 28 v134 s7]) rfl rfl (by decide) (by decide)⟩
    · intro hm s143 σ w hI
      obtain ⟨v194, ha, hw⟩ := hI
      obtain ⟨τ, rfl⟩ := ha.ups
      refine RC.seq ?_
      refine RC.region ?_
      refine RL.icmp (a := ((x140.length : Nat) : Int)) (b := ((x140.length : Nat) : Int)) trivial rfl rfl rfl rfl ?_
      refine RL.nil ?_
      refine thenQ_n ?_
      refine RC.seq ?_
      refine RC.cond_f dge ?_
      refine RC.exit ?_
      refine thenQ_x ?_
      exact ⟨rfl, v194, ⟨rfl, rfl, rfl, rfl, rfl, rfl, trivial⟩, hw.pick 5 [0, 1, 2, 3, 4] (new := [rd v0 p0, mp v4 x3, rd v5 p1.Parts, own 28 v141 x140, own 28 v194 s143]) rfl rfl (by decide) (by decide)⟩
    · intro hm k142 s143 s' σ w hk hI hb
      obtain ⟨v178, ha, hw⟩ := hI
      obtain ⟨τ, rfl⟩ := ha.ups
      refine RC.seq ?_
      refine RC.region ?_
      refine RL.icmp (a := ((k142 : Nat) : Int)) (b := ((x140.length : Nat) : Int)) trivial rfl rfl rfl rfl ?_
      refine RL.nil ?_
      refine thenQ_n ?_
      refine RC.seq ?_
      refine RC.cond_t (dlt hk) ?_
      refine RC.skip ?_
      refine thenQ_n ?_
      refine RC.seq ?_
      refine RC.block ?_
      refine RC.seq ?_
      refine RC.region ?_
      obtain ⟨x179, hx179, hb⟩ := bd hb
      refine RL.ia_own (i := 3) trivial rfl hw rfl rfl rfl sl33 hx179 fun p180 hp180 => ?_
      refine RL.load_el (i := 3) (f := (fun x => x)) trivial rfl hw rfl hp180 rfl (idx_some hx179).2.1 Fd.self ty28 fun v181 hw => ?_
      refine RL.alloc trivial rfl hw ze28.z fun b182 w hw => ?_
      refine RL.store_raw (i := 0) (j := 1) trivial hw rfl rfl rfl rfl ty28 rfl fun w hw => ?_
      refine RL.nil ?_
      refine thenQ_n ?_
      refine RC.seq ?_
      refine RC.region ?_
      refine RL.move (v := v4) trivial rfl rfl ?_
      refine RL.load_bf (i := 0) (f := (fun x => x)) trivial rfl hw rfl rfl Fd.self ty28 fun v183 hw => ?_
      refine RL.lookup2s (i := 4) (k := x179) trivial rfl hw rfl (key_rd hw (j := 0) rfl) rfl mt72 ?_
      refine RL.move (v := (.tuple #[(.int .i64 (mget x3 x179 (0 : Int))), (.bool (mhas x3 x179))])) trivial rfl rfl ?_
      refine RL.extract (v := (.int .i64 (mget x3 x179 (0 : Int)))) trivial rfl rfl rfl ?_
      refine RL.extract (v := (.bool (mhas x3 x179))) trivial rfl rfl rfl ?_
      refine RL.assign (v := (.int .i64 (mget x3 x179 (0 : Int)))) trivial rfl rfl ?_
      refine RL.assign (v := (.bool (mhas x3 x179))) trivial rfl rfl ?_
      refine RL.nil ?_
      refine thenQ_n ?_
      refine RC.seq ?_
      refine RC.region ?_
      refine RL.move (v := (.bool (mhas x3 x179))) trivial rfl rfl ?_
      refine RL.not (b := (mhas x3 x179)) trivial rfl rfl ?_
      refine RL.nil ?_
      refine thenQ_n ?_
      obtain ⟨s188, hj, hb⟩ := bd hb
      refine RC.jn (fun (s188 : (List Pin)) (σ : Nat → Value) (w : World) => ∃ v189 : Value, agree σ [(0, v0), (5, v4), (6, v189), (16, v5), (17, (.int .i64 ((p1.Parts.length : Nat) : Int))), (18, (.int .i64 ((k6 : Nat) : Int))), (24, v141), (25, (.int .i64 ((x140.length : Nat) : Int))), (26, (.int .i64 ((k142 : Nat) : Int)))] ∧ Holds E w ([rd v0 p0, mp v4 x3, rd v5 p1.Parts, own 28 v141 x140, own 28 v189 s188] ++ Γ)) s188 ?_ ?_
      · refine RC.cond (b := (!(mhas x3 x179))) rfl (fun hc => ?_) (fun hc => ?_)
        rotate_left
        · replace hj := cF hc hj
          refine RC.skip ?_
          injection hj with hj; subst hj
          exact ⟨rfl, v178, ⟨rfl, rfl, rfl, rfl, rfl, rfl, rfl, rfl, rfl, trivial⟩, hw.pick 8 [3, 4, 5, 6, 7] (new := [rd v0 p0, mp v4 x3, rd v5 p1.Parts, own 28 v141 x140, own 28 v178 s143]) rfl rfl (by decide) (by decide)⟩
        replace hj := cT hc hj
        refine RC.region ?_
        refine RL.move (v := v178) trivial rfl rfl ?_
        refine RL.load_bf (i := 1) (f := (fun x => x)) trivial rfl hw rfl rfl Fd.self ty28 fun v190 hw => ?_
        refine RL.bslice (l := ([x179] : (List Pin))) trivial rfl hw [v190] rfl rfl rfl sl33 ze28 (fun M hs g => ⟨(g.sat 0 _ rfl).1, trivial⟩) fun v191 w hw => ?_
        have hw := hw.freeze (i := 0) rfl
        obtain ⟨x192, hx192, hj⟩ := bd hj
        refine RL.app (i := 9) (j := 0) trivial rfl hw rfl rfl rfl rfl el33 hx192 fun v193 w hw => ?_
        refine RL.assign (v := v193) trivial rfl rfl ?_
        refine RL.nil ?_
        injection hj with hj; subst hj
        exact ⟨rfl, v193, ⟨rfl, rfl, rfl, rfl, rfl, rfl, rfl, rfl, rfl, trivial⟩, hw.pick 10 [5, 6, 7, 8, 9] (new := [rd v0 p0, mp v4 x3, rd v5 p1.Parts, own 28 v141 x140, own 28 v193 x192]) rfl rfl (by decide) (by decide)⟩
      rintro σ w ⟨v189, ha, hw⟩
      obtain ⟨τ, rfl⟩ := ha.ups
      refine blkQ_n ?_
      refine thenQ_n ?_
      refine RC.region ?_
      refine RL.inc trivial rfl hk hm rfl rfl ?_
      refine RL.move (v := (.int .i64 ((k142 + 1 : Nat) : Int))) trivial rfl rfl ?_
      refine RL.nil ?_
      injection hb with hb; subst hb
      exact ⟨rfl, v189, ⟨rfl, rfl, rfl, rfl, rfl, rfl, rfl, rfl, rfl, trivial⟩, hw.pick 5 [0, 1, 2, 3, 4] (new := [rd v0 p0, mp v4 x3, rd v5 p1.Parts, own 28 v141 x140, own 28 v189 s188]) rfl rfl (by decide) (by decide)⟩
    intro σ w hJ
    obtain ⟨v177, ha, hw⟩ := hJ
    obtain ⟨τ, rfl⟩ := ha.ups
    refine blkQ_n ?_
    refine thenQ_n ?_
    refine RC.region ?_
    refine RL.inc trivial rfl hk hm rfl rfl ?_
    refine RL.move (v := (.int .i64 ((k6 + 1 : Nat) : Int))) trivial rfl rfl ?_
    refine RL.nil ?_
    injection hb with hb; subst hb
    exact ⟨rfl, v177, ⟨rfl, rfl, rfl, rfl, rfl, rfl, trivial⟩, hw.pick 5 [0, 1, 2, 4] (new := [rd v0 p0, mp v4 x3, rd v5 p1.Parts, own 28 v177 s143]) rfl rfl (by decide) (by decide)⟩
  intro σ w hJ
  obtain ⟨v133, ha, hw⟩ := hJ
  obtain ⟨τ, rfl⟩ := ha.ups
  refine thenQ_n ?_
  refine RC.seq ?_
  refine RC.region ?_
  refine RL.move (v := v133) trivial rfl rfl ?_
  refine RL.assign (v := v133) trivial rfl rfl ?_
  refine RL.nil ?_
  refine thenQ_n ?_
  refine RC.ret ?_
  injection hb with hb; subst hb
  exact fin1 rfl rfl (hw.pick 4 [3] (new := [own 28 v133 s7]) rfl rfl (by decide) (by decide))
def netlist_Loose_R (E : World) (Γ : List HP) (res : (List Pin) × Int) (v : Value) (w : World) : Prop := ∃ u0 : Value, v = .tuple #[u0, (.int .i64 res.2)] ∧ Holds E w (own 28 u0 res.1 :: Γ)
def netlist_Loose_K (E : World) (Γ : List HP) (r : (List Pin) × Int) (σ : Nat → Value) (w : World) : Prop := finQ Tryd.prog 16 Tryd.f15 (netlist_Loose_R E Γ r) .ret σ w
theorem netlist_Loose_ok (N : Nat) {E w : World} {Γ : List HP} {i0 : Nat} {v0 : Value} {p0 : (List PartType)} {i1 : Nat} {v1 : Value} {p1 : Netlist} {res : (List Pin) × Int} (hw : Holds E w Γ) (h0 : Γ[i0]? = some (rd v0 p0)) (h1 : Γ[i1]? = some (rd v1 p1)) (hb : netlist_Loose N p0 p1 = some res) :
    Calls Tryd.prog 15 [v0, v1].toArray w (Ret (netlist_Loose_R E Γ res)) := by
  unfold netlist_Loose at hb
  refine enter Tryd.func15 rfl rfl (Nat.le_of_ble_eq_true rfl) ?_
  have hw := hw.dup (i := i0 + 0) h0
  have hw := hw.dup (i := i1 + 1) h1
  refine RC.seq ?_
  refine RC.region ?_
  refine RL.box_rd (i := 0) (v := v1) trivial rfl hw rfl rfl fun b1 w hw => ?_
  refine RL.assign (v := (.slice none 0 0)) trivial rfl rfl ?_
  refine RL.assign (v := (.int .i64 0)) trivial rfl rfl ?_
  refine RL.nil ?_
  refine thenQ_n ?_
  refine RC.seq ?_
  refine RC.seq ?_
  refine RC.region ?_
  refine RL.move (v := v0) trivial rfl rfl ?_
  refine RL.load_bf (i := 0) (f := (fun x => x)) trivial rfl hw rfl rfl Fd.self ty26 fun v2 hw => ?_
  obtain ⟨x3, hx3, hb⟩ := bd hb
  refine RL.call trivial rfl fn13 [v0, v2] rfl (Calls_ret (netlist_CheckList_ok N  (i0 := 3) (i1 := 0) hw rfl rfl hx3) ?_)
  rintro _ w ⟨rfl, hw⟩
  refine RL.assign (v := (.int .i64 x3)) trivial rfl rfl ?_
  refine RL.nil ?_
  refine thenQ_n ?_
  refine RC.seq ?_
  refine RC.region ?_
  refine RL.move (v := (.int .i64 x3)) trivial rfl rfl ?_
  refine RL.icmp (a := x3) (b := 0) trivial rfl rfl rfl rfl ?_
  refine RL.nil ?_
  refine thenQ_n ?_
  refine RC.cond (b := (x3 != 0)) rfl (fun hc => ?_) (fun hc => ?_)
  · replace hb := cT hc hb
    refine RC.seq ?_
    refine RC.region ?_
    refine RL.move (v := (.int .i64 x3)) trivial rfl rfl ?_
    refine RL.assign (v := (.slice none 0 0)) trivial rfl rfl ?_
    refine RL.assign (v := (.int .i64 x3)) trivial rfl rfl ?_
    refine RL.nil ?_
    refine thenQ_n ?_
    refine RC.ret ?_
    refine thenQ_r ?_
    injection hb with hb; subst hb
    have hw := hw.own_nil Pin 28
    exact fin2 rfl rfl rfl ⟨(.slice none 0 0), rfl, hw.pick 5 [0] (new := [own 28 (.slice none 0 0) ([] : (List Pin))]) rfl rfl (by decide) (by decide)⟩
  replace hb := cF hc hb
  refine RC.skip ?_
  refine thenQ_n ?_
  refine RC.seq ?_
  refine RC.region ?_
  refine RL.move (v := v0) trivial rfl rfl ?_
  refine RL.load_bf (i := 1) (f := (fun x => x)) trivial rfl hw rfl rfl Fd.self ty26 fun v4 hw => ?_
  obtain ⟨x5, hx5, hb⟩ := bd hb
  refine RL.call trivial rfl fn47 [v0, v4] rfl (Calls_ret (netlist_LooseOf_ok N  (i0 := 4) (i1 := 0) hw rfl rfl hx5) ?_)
  rintro v6 w hw
  refine RL.assign (v := v6) trivial rfl rfl ?_
  refine RL.assign (v := (.int .i64 0)) trivial rfl rfl ?_
  refine RL.nil ?_
  refine thenQ_n ?_
  refine RC.ret ?_
  injection hb with hb; subst hb
  exact fin2 rfl rfl rfl ⟨v6, rfl, hw.pick 6 [0] (new := [own 28 v6 x5]) rfl rfl (by decide) (by decide)⟩
def etchhouseref2_loose_R (E : World) (Γ : List HP) (res : (List Pin)) (v : Value) (w : World) : Prop := Holds E w (own 28 v res :: Γ)
def etchhouseref2_loose_K (E : World) (Γ : List HP) (r : (List Pin)) (σ : Nat → Value) (w : World) : Prop := finQ Tryd.prog 47 Tryd.f48 (etchhouseref2_loose_R E Γ r) .ret σ w
theorem etchhouseref2_loose_ok (N : Nat) {E w : World} {Γ : List HP} {i0 : Nat} {v0 : Value} {p0 : (List PartType)} {i1 : Nat} {v1 : Value} {p1 : Netlist} {res : (List Pin)} (hw : Holds E w Γ) (h0 : Γ[i0]? = some (rd v0 p0)) (h1 : Γ[i1]? = some (rd v1 p1)) (hb : etchhouseref2_loose N p0 p1 = some res) :
    Calls Tryd.prog 48 [v0, v1].toArray w (Ret (etchhouseref2_loose_R E Γ res)) := by
  unfold etchhouseref2_loose at hb
  refine enter Tryd.func48 rfl rfl (Nat.le_of_ble_eq_true rfl) ?_
  have hw := hw.dup (i := i0 + 0) h0
  have hw := hw.dup (i := i1 + 1) h1
  refine RC.seq ?_
  refine RC.region ?_
  refine RL.box_rd (i := 0) (v := v1) trivial rfl hw rfl rfl fun b1 w hw => ?_
  refine RL.assign (v := (.slice none 0 0)) trivial rfl rfl ?_
  refine RL.nil ?_
  refine thenQ_n ?_
  refine RC.seq ?_
  refine RC.region ?_
  refine RL.assign (v := (.slice none 0 0)) trivial rfl rfl ?_
  refine RL.nil ?_
  refine thenQ_n ?_
  refine RC.seq ?_
  refine RC.seq ?_
  refine RC.region ?_
  refine RL.fa_b trivial rfl rfl fa26_0 ?_
  refine RL.load_bf (i := 0) (f := (fun x => x.Parts)) trivial rfl hw rfl rfl fd_Netlist_0 ty23 fun v2 hw => ?_
  refine RL.len_rd (i := 0) (l := p1.Parts) trivial rfl hw rfl rfl un23 ?_
  refine RL.move (v := (.int .i64 0)) trivial rfl rfl ?_
  refine RL.nil ?_
  refine thenQ_n ?_
  obtain ⟨s4, hN, hb⟩ := bd hb
  refine RC.fold (fun (k3 : Nat) (s4 : (List Pin)) (σ : Nat → Value) (w : World) => ∃ v157 : Value, agree σ [(0, v0), (3, (.pointer (some ⟨b1, 0, none⟩))), (5, v157), (12, v2), (13, (.int .i64 ((p1.Parts.length : Nat) : Int))), (14, (.int .i64 ((k3 : Nat) : Int)))] ∧ Holds E w ([rd v0 p0, bx 26 b1 p1, rd v2 p1.Parts, own 28 v157 s4] ++ Γ)) (fun (s4 : (List Pin)) (σ : Nat → Value) (w : World) => ∃ v158 : Value, agree σ [(5, v158)] ∧ Holds E w ([rd v0 p0, bx 26 b1 p1, rd v2 p1.Parts, own 28 v158 s4] ++ Γ)) hN ?_ ?_ ?_ ?_
  · have hw := hw.own_nil Pin 28
    exact ⟨(.slice none 0 0), ⟨rfl, rfl, rfl, rfl, rfl, rfl, trivial⟩, hw.pick 5 [4, 2, 1, 0] (new := [rd v0 p0, bx 26 b1 p1, rd v2 p1.Parts, own 28 (.slice none 0 0) ([] : (List Pin))]) rfl rfl (by decide) (by decide)⟩
  · intro hm s4 σ w hI
    obtain ⟨v235, ha, hw⟩ := hI
    obtain ⟨τ, rfl⟩ := ha.ups
    refine RC.seq ?_
    refine RC.region ?_
    refine RL.icmp (a := ((p1.Parts.length : Nat) : Int)) (b := ((p1.Parts.length : Nat) : Int)) trivial rfl rfl rfl rfl ?_
    refine RL.nil ?_
    refine thenQ_n ?_
    refine RC.seq ?_
    refine RC.cond_f dge ?_
    refine RC.exit ?_
    refine thenQ_x ?_
    exact ⟨rfl, v235, ⟨rfl, trivial⟩, hw.pick 4 [0, 1, 2, 3] (new := [rd v0 p0, bx 26 b1 p1, rd v2 p1.Parts, own 28 v235 s4]) rfl rfl (by decide) (by decide)⟩
  · intro hm k3 s4 s' σ w hk hI hb
    obtain ⟨v159, ha, hw⟩ := hI
    obtain ⟨τ, rfl⟩ := ha.ups
    refine RC.seq ?_
    refine RC.region ?_
    refine RL.icmp (a := ((k3 : Nat) : Int)) (b := ((p1.Parts.length : Nat) : Int)) trivial rfl rfl rfl rfl ?_
    refine RL.nil ?_
    refine thenQ_n ?_
    refine RC.seq ?_
    refine RC.cond_t (dlt hk) ?_
    refine RC.skip ?_
    refine thenQ_n ?_
    refine RC.seq ?_
    refine RC.block ?_
    refine RC.seq ?_
    refine RC.region ?_
    obtain ⟨x160, hx160, hb⟩ := bd hb
    refine RL.ia_rd (i := 2) trivial rfl hw rfl rfl rfl sl23 hx160 fun v161 hw => ?_
    refine RL.load_pt (i := 0) (x := x160) trivial rfl hw rfl rfl ty87 fun v162 hw => ?_
    refine RL.alloc trivial rfl hw ze87.z fun b163 w hw => ?_
    refine RL.store_raw (i := 0) (j := 1) trivial hw rfl rfl rfl rfl ty87 rfl fun w hw => ?_
    refine RL.nil ?_
    refine thenQ_n ?_
    refine RC.seq ?_
    refine RC.region ?_
    refine RL.move (v := v0) trivial rfl rfl ?_
    refine RL.move (v := v0) trivial rfl rfl ?_
    refine RL.fa_b trivial rfl rfl fa87_1 ?_
    refine RL.load_bfs (i := 0) (f := (fun x => x.Type_)) trivial rfl hw rfl rfl fd_Part_1 ty9 ?_
    obtain ⟨x164, hx164, hb⟩ := bd hb
    refine RL.call trivial rfl fn69 [v0, (str x160.Type_)] rfl (Calls_ret (etchhouseref2_typeOf_ok N (p1 := x160.Type_) (i0 := 3) hw rfl hx164) ?_)
    rintro _ w ⟨rfl, hw⟩
    obtain ⟨x165, hx165, hb⟩ := bd hb
    refine RL.ia_rd (i := 3) trivial rfl hw rfl rfl rfl sl22 hx165 fun v166 hw => ?_
    refine RL.fa_pt (i := 0) (f := fun (x : PartType) => x.Pins) trivial rfl hw rfl rfl fa85_1 fd_PartType_1 fun v167 hw => ?_
    refine RL.load_pt (i := 0) (x := x165.Pins) trivial rfl hw rfl rfl ty83 fun v168 hw => ?_
    refine RL.len_rd (i := 0) (l := x165.Pins) trivial rfl hw rfl rfl un83 ?_
    refine RL.move (v := (.int .i64 0)) trivial rfl rfl ?_
    refine RL.nil ?_
    refine thenQ_n ?_
    obtain ⟨s170, hN, hb⟩ := bd hb
    refine RC.fold (fun (k169 : Nat) (s170 : (List Pin)) (σ : Nat → Value) (w : World) => ∃ v211 : Value, agree σ [(0, v0), (3, (.pointer (some ⟨b1, 0, none⟩))), (5, v211), (7, (.pointer (some ⟨b163, 0, none⟩))), (12, v2), (13, (.int .i64 ((p1.Parts.length : Nat) : Int))), (14, (.int .i64 ((k3 : Nat) : Int))), (25, v168), (26, (.int .i64 ((x165.Pins.length : Nat) : Int))), (27, (.int .i64 ((k169 : Nat) : Int)))] ∧ Holds E w ([rd v0 p0, bx 26 b1 p1, bx 87 b163 x160, rd v2 p1.Parts, rd v168 x165.Pins, own 28 v211 s170] ++ Γ)) (fun (s170 : (List Pin)) (σ : Nat → Value) (w : World) => ∃ v212 : Value, agree σ [(0, v0), (3, (.pointer (some ⟨b1, 0, none⟩))), (5, v212), (12, v2), (13, (.int .i64 ((p1.Parts.length : Nat) : Int))), (14, (.int .i64 ((k3 : Nat) : Int)))] ∧ Holds E w ([rd v0 p0, bx 26 b1 p1, bx 87 b163 x160, rd v2 p1.Parts, rd v168 x165.Pins, own 28 v212 s170] ++ Γ)) hN ?_ ?_ ?_ ?_
    · exact ⟨v159, ⟨rfl, rfl, rfl, rfl, rfl, rfl, rfl, rfl, rfl, rfl, trivial⟩, hw.pick 10 [6, 7, 3, 8, 0, 9] (new := [rd v0 p0, bx 26 b1 p1, bx 87 b163 x160, rd v2 p1.Parts, rd v168 x165.Pins, own 28 v159 s4]) rfl rfl (by decide) (by decide)⟩
    · intro hm s170 σ w hI
      obtain ⟨v233, ha, hw⟩ := hI
      obtain ⟨τ, rfl⟩ := ha.ups
      refine RC.seq ?_
      refine RC.region ?_
      refine RL.icmp (a := ((x165.Pins.length : Nat) : Int)) (b := ((x165.Pins.length : Nat) : Int)) trivial rfl rfl rfl rfl ?_
      refine RL.nil ?_
      refine thenQ_n ?_
      refine RC.seq ?_
      refine RC.cond_f dge ?_
      refine RC.exit ?_
      refine thenQ_x ?_
      exact ⟨rfl, v233, ⟨rfl, rfl, rfl, rfl, rfl, rfl, trivial⟩, hw.pick 6 [0, 1, 2, 3, 4, 5] (new := [rd v0 p0, bx 26 b1 p1, bx 87 b163 x160, rd v2 p1.Parts, rd v168 x165.Pins, own 28 v233 s170]) rfl rfl (by decide) (by decide)⟩
    · intro hm k169 s170 s' σ w hk hI hb
      obtain ⟨v213, ha, hw⟩ := hI
      obtain ⟨τ, rfl⟩ := ha.ups
      refine RC.seq ?_
      refine RC.region ?_
      refine RL.icmp (a := ((k169 : Nat) : Int)) (b := ((x165.Pins.length : Nat) : Int)) trivial rfl rfl rfl rfl ?_
      refine RL.nil ?_
      refine thenQ_n ?_
      refine RC.seq ?_
      refine RC.cond_t (dlt hk) ?_
      refine RC.skip ?_
      refine thenQ_n ?_
      refine RC.seq ?_
      refine RC.block ?_
      refine RC.seq ?_
      refine RC.region ?_
      obtain ⟨x214, hx214, hb⟩ := bd hb
      refine RL.ia_rd (i := 4) trivial rfl hw rfl rfl rfl sl83 hx214 fun v215 hw => ?_
      refine RL.load_pt (i := 0) (x := x214) trivial rfl hw rfl rfl ty82 fun v216 hw => ?_
      refine RL.alloc trivial rfl hw ze82.z fun b217 w hw => ?_
      refine RL.store_raw (i := 0) (j := 1) trivial hw rfl rfl rfl rfl ty82 rfl fun w hw => ?_
      refine RL.nil ?_
      refine thenQ_n ?_
      refine RC.seq ?_
      refine RC.region ?_
      refine RL.fa_b trivial rfl rfl fa87_0 ?_
      refine RL.load_bfs (i := 5) (f := (fun x => x.Name)) trivial rfl hw rfl rfl fd_Part_0 ty9 ?_
      refine RL.fa_b trivial rfl rfl fa82_0 ?_
      refine RL.load_bfs (i := 0) (f := (fun x => x.Name)) trivial rfl hw rfl rfl fd_PinType_0 ty9 ?_
      have hw := hw.sc (γ := Str) x160.Name
      have hw := hw.sc (γ := Str) x214.Name
      refine RL.build (y := (⟨x160.Name, x214.Name⟩ : Pin)) trivial rfl hw [(0, (str x160.Name)), (1, (str x214.Name))] rfl st28 rfl (fun M hs g => by have h := z_Pin M; exact Fills.cons (f := fun (x : Pin) y => { x with Part := y }) rfl h fs_Pin_0 (by decide) (g.sat 1 _ rfl).1 fun _ h => Fills.cons (f := fun (x : Pin) y => { x with Pin := y }) rfl h fs_Pin_1 (by decide) (g.sat 0 _ rfl).1 fun _ h => Fills.nil h) fun v218 hw => ?_
      refine RL.alloc trivial rfl hw ze28.z fun b219 w hw => ?_
      refine RL.store_raw (i := 0) (j := 1) trivial hw rfl rfl rfl rfl ty28 rfl fun w hw => ?_
      refine RL.nil ?_
      refine thenQ_n ?_
      refine RC.seq ?_
      refine RC.region ?_
      refine RL.load_bf (i := 8) (f := (fun x => x)) trivial rfl hw rfl rfl Fd.self ty26 fun v220 hw => ?_
      refine RL.load_bf (i := 1) (f := (fun x => x)) trivial rfl hw rfl rfl Fd.self ty28 fun v221 hw => ?_
      obtain ⟨x222, hx222, hb⟩ := bd hb
      refine RL.call trivial rfl fn39 [v220, v221] rfl (Calls_ret (etchhouseref2_netOf_ok N  (i0 := 1) (i1 := 0) hw rfl rfl hx222) ?_)
      rintro _ w ⟨rfl, hw⟩
      refine RL.icmp (a := x222) (b := 0) trivial rfl rfl rfl rfl ?_
      refine RL.nil ?_
      refine thenQ_n ?_
      obtain ⟨s227, hj, hb⟩ := bd hb
      refine RC.jn (fun (s227 : (List Pin)) (σ : Nat → Value) (w : World) => ∃ v228 : Value, agree σ [(0, v0), (3, (.pointer (some ⟨b1, 0, none⟩))), (5, v228), (7, (.pointer (some ⟨b163, 0, none⟩))), (12, v2), (13, (.int .i64 ((p1.Parts.length : Nat) : Int))), (14, (.int .i64 ((k3 : Nat) : Int))), (25, v168), (26, (.int .i64 ((x165.Pins.length : Nat) : Int))), (27, (.int .i64 ((k169 : Nat) : Int)))] ∧ Holds E w ([rd v0 p0, bx 26 b1 p1, bx 87 b163 x160, rd v2 p1.Parts, rd v168 x165.Pins, own 28 v228 s227] ++ Γ)) s227 ?_ ?_
      · refine RC.cond (b := (decide (x222 < 0))) rfl (fun hc => ?_) (fun hc => ?_)
        rotate_left
        · replace hj := cF hc hj
          refine RC.skip ?_
          injection hj with hj; subst hj
          exact ⟨rfl, v213, ⟨rfl, rfl, rfl, rfl, rfl, rfl, rfl, rfl, rfl, rfl, trivial⟩, hw.pick 15 [9, 10, 11, 12, 13, 14] (new := [rd v0 p0, bx 26 b1 p1, bx 87 b163 x160, rd v2 p1.Parts, rd v168 x165.Pins, own 28 v213 s170]) rfl rfl (by decide) (by decide)⟩
        replace hj := cT hc hj
        refine RC.region ?_
        refine RL.move (v := v213) trivial rfl rfl ?_
        refine RL.load_bf (i := 2) (f := (fun x => x)) trivial rfl hw rfl rfl Fd.self ty28 fun v229 hw => ?_
        refine RL.bslice (l := ([(⟨x160.Name, x214.Name⟩ : Pin)] : (List Pin))) trivial rfl hw [v229] rfl rfl rfl sl33 ze28 (fun M hs g => ⟨(g.sat 0 _ rfl).1, trivial⟩) fun v230 w hw => ?_
        have hw := hw.freeze (i := 0) rfl
        obtain ⟨x231, hx231, hj⟩ := bd hj
        refine RL.app (i := 16) (j := 0) trivial rfl hw rfl rfl rfl rfl el33 hx231 fun v232 w hw => ?_
        refine RL.assign (v := v232) trivial rfl rfl ?_
        refine RL.nil ?_
        injection hj with hj; subst hj
        exact ⟨rfl, v232, ⟨rfl, rfl, rfl, rfl, rfl, rfl, rfl, rfl, rfl, rfl, trivial⟩, hw.pick 17 [11, 12, 13, 14, 15, 16] (new := [rd v0 p0, bx 26 b1 p1, bx 87 b163 x160, rd v2 p1.Parts, rd v168 x165.Pins, own 28 v232 x231]) rfl rfl (by decide) (by decide)⟩
      rintro σ w ⟨v228, ha, hw⟩
      obtain ⟨τ, rfl⟩ := ha.ups
      refine blkQ_n ?_
      refine thenQ_n ?_
      refine RC.region ?_
      refine RL.inc trivial rfl hk hm rfl rfl ?_
      refine RL.move (v := (.int .i64 ((k169 + 1 : Nat) : Int))) trivial rfl rfl ?_
      refine RL.nil ?_
      injection hb with hb; subst hb
      exact ⟨rfl, v228, ⟨rfl, rfl, rfl, rfl, rfl, rfl, rfl, rfl, rfl, rfl, trivial⟩, hw.pick 6 [0, 1, 2, 3, 4, 5] (new := [rd v0 p0, bx 26 b1 p1, bx 87 b163 x160, rd v2 p1.Parts, rd v168 x165.Pins, own 28 v228 s227]) rfl rfl (by decide) (by decide)⟩
    intro σ w hJ
    obtain ⟨v212, ha, hw⟩ := hJ
    obtain ⟨τ, rfl⟩ := ha.ups
    refine blkQ_n ?_
    refine thenQ_n ?_
    refine RC.region ?_
    refine RL.inc trivial rfl hk hm rfl rfl ?_
    refine RL.move (v := (.int .i64 ((k3 + 1 : Nat) : Int))) trivial rfl rfl ?_
    refine RL.nil ?_
    injection hb with hb; subst hb
    exact ⟨rfl, v212, ⟨rfl, rfl, rfl, rfl, rfl, rfl, trivial⟩, hw.pick 6 [0, 1, 3, 5] (new := [rd v0 p0, bx 26 b1 p1, rd v2 p1.Parts, own 28 v212 s170]) rfl rfl (by decide) (by decide)⟩
  intro σ w hJ
  obtain ⟨v158, ha, hw⟩ := hJ
  obtain ⟨τ, rfl⟩ := ha.ups
  refine thenQ_n ?_
  refine RC.seq ?_
  refine RC.region ?_
  refine RL.move (v := v158) trivial rfl rfl ?_
  refine RL.assign (v := v158) trivial rfl rfl ?_
  refine RL.nil ?_
  refine thenQ_n ?_
  refine RC.ret ?_
  injection hb with hb; subst hb
  exact fin1 rfl rfl (hw.pick 4 [3] (new := [own 28 v158 s4]) rfl rfl (by decide) (by decide))
def etchhouseref2_Loose_R (E : World) (Γ : List HP) (res : (List Pin) × Int) (v : Value) (w : World) : Prop := ∃ u0 : Value, v = .tuple #[u0, (.int .i64 res.2)] ∧ Holds E w (own 28 u0 res.1 :: Γ)
def etchhouseref2_Loose_K (E : World) (Γ : List HP) (r : (List Pin) × Int) (σ : Nat → Value) (w : World) : Prop := finQ Tryd.prog 16 Tryd.f16 (etchhouseref2_Loose_R E Γ r) .ret σ w
theorem etchhouseref2_Loose_ok (N : Nat) {E w : World} {Γ : List HP} {i0 : Nat} {v0 : Value} {p0 : (List PartType)} {i1 : Nat} {v1 : Value} {p1 : Netlist} {res : (List Pin) × Int} (hw : Holds E w Γ) (h0 : Γ[i0]? = some (rd v0 p0)) (h1 : Γ[i1]? = some (rd v1 p1)) (hb : etchhouseref2_Loose N p0 p1 = some res) :
    Calls Tryd.prog 16 [v0, v1].toArray w (Ret (etchhouseref2_Loose_R E Γ res)) := by
  unfold etchhouseref2_Loose at hb
  refine enter Tryd.func16 rfl rfl (Nat.le_of_ble_eq_true rfl) ?_
  have hw := hw.dup (i := i0 + 0) h0
  have hw := hw.dup (i := i1 + 1) h1
  refine RC.seq ?_
  refine RC.region ?_
  refine RL.box_rd (i := 0) (v := v1) trivial rfl hw rfl rfl fun b1 w hw => ?_
  refine RL.assign (v := (.slice none 0 0)) trivial rfl rfl ?_
  refine RL.assign (v := (.int .i64 0)) trivial rfl rfl ?_
  refine RL.nil ?_
  refine thenQ_n ?_
  refine RC.seq ?_
  refine RC.seq ?_
  refine RC.region ?_
  refine RL.move (v := v0) trivial rfl rfl ?_
  refine RL.load_bf (i := 0) (f := (fun x => x)) trivial rfl hw rfl rfl Fd.self ty26 fun v2 hw => ?_
  obtain ⟨x3, hx3, hb⟩ := bd hb
  refine RL.call trivial rfl fn14 [v0, v2] rfl (Calls_ret (etchhouseref2_CheckList_ok N  (i0 := 3) (i1 := 0) hw rfl rfl hx3) ?_)
  rintro _ w ⟨rfl, hw⟩
  refine RL.assign (v := (.int .i64 x3)) trivial rfl rfl ?_
  refine RL.nil ?_
  refine thenQ_n ?_
  refine RC.seq ?_
  refine RC.region ?_
  refine RL.move (v := (.int .i64 x3)) trivial rfl rfl ?_
  refine RL.icmp (a := x3) (b := 0) trivial rfl rfl rfl rfl ?_
  refine RL.nil ?_
  refine thenQ_n ?_
  refine RC.cond (b := (x3 != 0)) rfl (fun hc => ?_) (fun hc => ?_)
  · replace hb := cT hc hb
    refine RC.seq ?_
    refine RC.region ?_
    refine RL.move (v := (.int .i64 x3)) trivial rfl rfl ?_
    refine RL.assign (v := (.slice none 0 0)) trivial rfl rfl ?_
    refine RL.assign (v := (.int .i64 x3)) trivial rfl rfl ?_
    refine RL.nil ?_
    refine thenQ_n ?_
    refine RC.ret ?_
    refine thenQ_r ?_
    injection hb with hb; subst hb
    have hw := hw.own_nil Pin 28
    exact fin2 rfl rfl rfl ⟨(.slice none 0 0), rfl, hw.pick 5 [0] (new := [own 28 (.slice none 0 0) ([] : (List Pin))]) rfl rfl (by decide) (by decide)⟩
  replace hb := cF hc hb
  refine RC.skip ?_
  refine thenQ_n ?_
  refine RC.seq ?_
  refine RC.region ?_
  refine RL.move (v := v0) trivial rfl rfl ?_
  refine RL.load_bf (i := 1) (f := (fun x => x)) trivial rfl hw rfl rfl Fd.self ty26 fun v4 hw => ?_
  obtain ⟨x5, hx5, hb⟩ := bd hb
  refine RL.call trivial rfl fn48 [v0, v4] rfl (Calls_ret (etchhouseref2_loose_ok N  (i0 := 4) (i1 := 0) hw rfl rfl hx5) ?_)
  rintro v6 w hw
  refine RL.assign (v := v6) trivial rfl rfl ?_
  refine RL.assign (v := (.int .i64 0)) trivial rfl rfl ?_
  refine RL.nil ?_
  refine thenQ_n ?_
  refine RC.ret ?_
  injection hb with hb; subst hb
  exact fin2 rfl rfl rfl ⟨v6, rfl, hw.pick 6 [0] (new := [own 28 v6 x5]) rfl rfl (by decide) (by decide)⟩
def slices_Equal_Pin_R (E : World) (Γ : List HP) (res : Bool) (v : Value) (w : World) : Prop := v = (.bool res) ∧ Holds E w Γ
def slices_Equal_Pin_K (E : World) (Γ : List HP) (r : Bool) (σ : Nat → Value) (w : World) : Prop := finQ Tryd.prog 26 Tryd.f17 (slices_Equal_Pin_R E Γ r) .ret σ w
theorem slices_Equal_Pin_ok (N : Nat) {E w : World} {Γ : List HP} {i0 : Nat} {v0 : Value} {p0 : (List Pin)} {i1 : Nat} {v1 : Value} {p1 : (List Pin)} {res : Bool} (hw : Holds E w Γ) (h0 : Γ[i0]? = some (rd v0 p0)) (h1 : Γ[i1]? = some (rd v1 p1)) (hb : slices_Equal_Pin N p0 p1 = some res) :
    Calls Tryd.prog 17 [v0, v1].toArray w (Ret (slices_Equal_Pin_R E Γ res)) := by
  unfold slices_Equal_Pin at hb
  refine enter Tryd.func17 rfl rfl (Nat.le_of_ble_eq_true rfl) ?_
  have hw := hw.dup (i := i0 + 0) h0
  have hw := hw.dup (i := i1 + 1) h1
  refine RC.seq ?_
  refine RC.region ?_
  refine RL.assign (v := (.bool false)) trivial rfl rfl ?_
  refine RL.nil ?_
  refine thenQ_n ?_
  refine RC.seq ?_
  refine RC.seq ?_
  refine RC.region ?_
  refine RL.move (v := v0) trivial rfl rfl ?_
  refine RL.len_rd (i := 1) (l := p0) trivial rfl hw rfl rfl un33 ?_
  refine RL.move (v := v1) trivial rfl rfl ?_
  refine RL.len_rd (i := 0) (l := p1) trivial rfl hw rfl rfl un33 ?_
  refine RL.icmp (a := ((p0.length : Nat) : Int)) (b := ((p1.length : Nat) : Int)) trivial rfl rfl rfl rfl ?_
  refine RL.nil ?_
  refine thenQ_n ?_
  refine RC.cond (b := (((p0.length : Nat) : Int) != ((p1.length : Nat) : Int))) rfl (fun hc => ?_) (fun hc => ?_)
  · replace hb := cT hc hb
    refine RC.seq ?_
    refine RC.region ?_
    refine RL.assign (v := (.bool false)) trivial rfl rfl ?_
    refine RL.nil ?_
    refine thenQ_n ?_
    refine RC.ret ?_
    refine thenQ_r ?_
    injection hb with hb; subst hb
    exact fin1 rfl rfl ⟨rfl, hw.drop 2 rfl⟩
  replace hb := cF hc hb
  refine RC.skip ?_
  refine thenQ_n ?_
  refine RC.seq ?_
  refine RC.seq ?_
  refine RC.region ?_
  refine RL.move (v := v0) trivial rfl rfl ?_
  refine RL.len_rd (i := 1) (l := p0) trivial rfl hw rfl rfl un33 ?_
  refine RL.move (v := (.int .i64 0)) trivial rfl rfl ?_
  refine RL.nil ?_
  refine thenQ_n ?_
  obtain ⟨o23, hN, hb⟩ := bd hb
  refine RC.range (fun (k1 : Nat) (s2 : Unit) (σ : Nat → Value) (w : World) => agree σ [(0, v0), (1, v1), (12, (.int .i64 ((p0.length : Nat) : Int))), (13, (.int .i64 ((k1 : Nat) : Int)))] ∧ Holds E w ([rd v0 p0, rd v1 p1] ++ Γ)) (fun (s2 : Unit) (σ : Nat → Value) (w : World) => agree σ [] ∧ Holds E w ([rd v0 p0, rd v1 p1] ++ Γ)) (slices_Equal_Pin_K E Γ) hN ?_ ?_ ?_ ?_ ?_ 
  · exact ⟨⟨rfl, rfl, rfl, rfl, trivial⟩, hw.pick 2 [1, 0] (new := [rd v0 p0, rd v1 p1]) rfl rfl (by decide) (by decide)⟩
  · intro hm s2 σ w hI
    obtain ⟨ha, hw⟩ := hI
    obtain ⟨τ, rfl⟩ := ha.ups
    refine RC.seq ?_
    refine RC.region ?_
    refine RL.icmp (a := ((p0.length : Nat) : Int)) (b := ((p0.length : Nat) : Int)) trivial rfl rfl rfl rfl ?_
    refine RL.nil ?_
    refine thenQ_n ?_
    refine RC.seq ?_
    refine RC.cond_f dge ?_
    refine RC.exit ?_
    refine thenQ_x ?_
    exact ⟨rfl, trivial, hw.pick 2 [0, 1] (new := [rd v0 p0, rd v1 p1]) rfl rfl (by decide) (by decide)⟩
  · intro hm k1 s2 fl σ w hk hI hb
    obtain ⟨ha, hw⟩ := hI
    obtain ⟨τ, rfl⟩ := ha.ups
    refine RC.seq ?_
    refine RC.region ?_
    refine RL.icmp (a := ((k1 : Nat) : Int)) (b := ((p0.length : Nat) : Int)) trivial rfl rfl rfl rfl ?_
    refine RL.nil ?_
    refine thenQ_n ?_
    refine RC.seq ?_
    refine RC.cond_t (dlt hk) ?_
    refine RC.skip ?_
    refine thenQ_n ?_
    refine RC.seq ?_
    refine RC.block ?_
    refine RC.seq ?_
    refine RC.region ?_
    refine RL.move (v := (.int .i64 ((k1 : Nat) : Int))) trivial rfl rfl ?_
    refine RL.assign (v := (.int .i64 ((k1 : Nat) : Int))) trivial rfl rfl ?_
    refine RL.nil ?_
    refine thenQ_n ?_
    refine RC.seq ?_
    obtain ⟨x13, hx13, hb⟩ := bd hb
    obtain ⟨x16, hx16, hb⟩ := bd hb
    refine RC.draw mixed rfl (fun (D : Nat → Bool) (σ : Nat → Value) (w : World) => ∃ v14 v15 v17 v18 : Value, doneV D σ [(0, 16, v0), (1, 17, (.int .i64 ((k1 : Nat) : Int))), (2, 18, v14), (3, 19, v15), (4, 20, v1), (5, 21, (.int .i64 ((k1 : Nat) : Int))), (6, 22, v17), (7, 23, v18), (8, 24, (.bool (!(decide (x13 = x16)))))] ∧ agree σ [(0, v0), (1, v1), (5, (.int .i64 ((k1 : Nat) : Int))), (12, (.int .i64 ((p0.length : Nat) : Int))), (13, (.int .i64 ((k1 : Nat) : Int)))] ∧ Holds E w ([bif D 2 then (pt v14 x13) else junk, bif D 3 then (rd v15 x13) else junk, bif D 6 then (pt v17 x16) else junk, bif D 7 then (rd v18 x16) else junk, rd v0 p0, rd v1 p1] ++ Γ)) ?_ ⟨?_, ?_, ?_, ?_, ?_, ?_, ?_, ?_, ?_, trivial⟩ ?_
    · have hw := hw.drew
      have hw := hw.junk
      have hw := hw.junk
      have hw := hw.junk
      have hw := hw.junk
      exact ⟨undef, undef, undef, undef, ⟨(fun h => by cases h), (fun h => by cases h), (fun h => by cases h), (fun h => by cases h), (fun h => by cases h), (fun h => by cases h), (fun h => by cases h), (fun h => by cases h), (fun h => by cases h), trivial⟩, ⟨rfl, rfl, rfl, rfl, rfl, trivial⟩, hw⟩
    · intro D σ w hD hdep hJ
      obtain ⟨v14, v15, v17, v18, hv, ha, hw⟩ := hJ
      have ha2 : agree σ [(0, v0), (1, v1), (5, (.int .i64 ((k1 : Nat) : Int))), (12, (.int .i64 ((p0.length : Nat) : Int))), (13, (.int .i64 ((k1 : Nat) : Int)))] := ⟨ha.1, ha.2.1, ha.2.2.1, ha.2.2.2.1, ha.2.2.2.2.1, trivial⟩
      obtain ⟨τ, rfl⟩ := ha2.ups
      refine RL.move (v := v0) trivial rfl rfl ?_
      refine RL.nil ?_
      exact ⟨rfl, v14, v15, v17, v18, ⟨fun _ => rfl, hv.2.1, hv.2.2.1, hv.2.2.2.1, hv.2.2.2.2.1, hv.2.2.2.2.2.1, hv.2.2.2.2.2.2.1, hv.2.2.2.2.2.2.2.1, hv.2.2.2.2.2.2.2.2.1, trivial⟩, ha, hw⟩
    · intro D σ w hD hdep hJ
      obtain ⟨v14, v15, v17, v18, hv, ha, hw⟩ := hJ
      have ha2 : agree σ [(0, v0), (1, v1), (5, (.int .i64 ((k1 : Nat) : Int))), (12, (.int .i64 ((p0.length : Nat) : Int))), (13, (.int .i64 ((k1 : Nat) : Int)))] := ⟨ha.1, ha.2.1, ha.2.2.1, ha.2.2.2.1, ha.2.2.2.2.1, trivial⟩
      obtain ⟨τ, rfl⟩ := ha2.ups
      refine RL.move (v := (.int .i64 ((k1 : Nat) : Int))) trivial rfl rfl ?_
      refine RL.nil ?_
      exact ⟨rfl, v14, v15, v17, v18, ⟨hv.1, fun _ => rfl, hv.2.2.1, hv.2.2.2.1, hv.2.2.2.2.1, hv.2.2.2.2.2.1, hv.2.2.2.2.2.2.1, hv.2.2.2.2.2.2.2.1, hv.2.2.2.2.2.2.2.2.1, trivial⟩, ha, hw⟩
    · intro D σ w hD hdep hJ
      obtain ⟨v14, v15, v17, v18, hv, ha, hw⟩ := hJ
      have ha2 : agree σ [(16, v0), (17, (.int .i64 ((k1 : Nat) : Int))), (0, v0), (1, v1), (5, (.int .i64 ((k1 : Nat) : Int))), (12, (.int .i64 ((p0.length : Nat) : Int))), (13, (.int .i64 ((k1 : Nat) : Int)))] := ⟨hv.1 (hdep.1 rfl), hv.2.1 (hdep.2.1 rfl), ha.1, ha.2.1, ha.2.2.1, ha.2.2.2.1, ha.2.2.2.2.1, trivial⟩
      obtain ⟨τ, rfl⟩ := ha2.ups
      refine RL.ia_rd (i := 4) trivial rfl hw rfl rfl rfl sl33 hx13 fun v19 hw => ?_
      have hw := hw.fillat 0 1 0 rfl rfl rfl (by simp)
      refine RL.nil ?_
      exact ⟨rfl, v19, v15, v17, v18, ⟨hv.1, hv.2.1, fun _ => rfl, hv.2.2.2.1, hv.2.2.2.2.1, hv.2.2.2.2.2.1, hv.2.2.2.2.2.2.1, hv.2.2.2.2.2.2.2.1, hv.2.2.2.2.2.2.2.2.1, trivial⟩, ha, hw⟩
    · intro D σ w hD hdep hJ
      obtain ⟨v14, v15, v17, v18, hv, ha, hw⟩ := hJ
      have ha2 : agree σ [(18, v14), (0, v0), (1, v1), (5, (.int .i64 ((k1 : Nat) : Int))), (12, (.int .i64 ((p0.length : Nat) : Int))), (13, (.int .i64 ((k1 : Nat) : Int)))] := ⟨hv.2.2.1 (hdep.1 rfl), ha.1, ha.2.1, ha.2.2.1, ha.2.2.2.1, ha.2.2.2.2.1, trivial⟩
      obtain ⟨τ, rfl⟩ := ha2.ups
      refine RL.load_pt (i := 0) (x := x13) trivial rfl hw rfl (ent_t (hdep.1 rfl)) ty28 fun v20 hw => ?_
      have hw := hw.fillat 0 1 1 rfl rfl rfl (by simp)
      refine RL.nil ?_
      exact ⟨rfl, v14, v20, v17, v18, ⟨hv.1, hv.2.1, hv.2.2.1, fun _ => rfl, hv.2.2.2.2.1, hv.2.2.2.2.2.1, hv.2.2.2.2.2.2.1, hv.2.2.2.2.2.2.2.1, hv.2.2.2.2.2.2.2.2.1, trivial⟩, ha, hw⟩
    · intro D σ w hD hdep hJ
      obtain ⟨v14, v15, v17, v18, hv, ha, hw⟩ := hJ
      have ha2 : agree σ [(0, v0), (1, v1), (5, (.int .i64 ((k1 : Nat) : Int))), (12, (.int .i64 ((p0.length : Nat) : Int))), (13, (.int .i64 ((k1 : Nat) : Int)))] := ⟨ha.1, ha.2.1, ha.2.2.1, ha.2.2.2.1, ha.2.2.2.2.1, trivial⟩
      obtain ⟨τ, rfl⟩ := ha2.ups
      refine RL.move (v := v1) trivial rfl rfl ?_
      refine RL.nil ?_
      exact ⟨rfl, v14, v15, v17, v18, ⟨hv.1, hv.2.1, hv.2.2.1, hv.2.2.2.1, fun _ => rfl, hv.2.2.2.2.2.1, hv.2.2.2.2.2.2.1, hv.2.2.2.2.2.2.2.1, hv.2.2.2.2.2.2.2.2.1, trivial⟩, ha, hw⟩
    · intro D σ w hD hdep hJ
      obtain ⟨v14, v15, v17, v18, hv, ha, hw⟩ := hJ
      have ha2 : agree σ [(0, v0), (1, v1), (5, (.int .i64 ((k1 : Nat) : Int))), (12, (.int .i64 ((p0.length : Nat) : Int))), (13, (.int .i64 ((k1 : Nat) : Int)))] := ⟨ha.1, ha.2.1, ha.2.2.1, ha.2.2.2.1, ha.2.2.2.2.1, trivial⟩
      obtain ⟨τ, rfl⟩ := ha2.ups
      refine RL.move (v := (.int .i64 ((k1 : Nat) : Int))) trivial rfl rfl ?_
      refine RL.nil ?_
      exact ⟨rfl, v14, v15, v17, v18, ⟨hv.1, hv.2.1, hv.2.2.1, hv.2.2.2.1, hv.2.2.2.2.1, fun _ => rfl, hv.2.2.2.2.2.2.1, hv.2.2.2.2.2.2.2.1, hv.2.2.2.2.2.2.2.2.1, trivial⟩, ha, hw⟩
    · intro D σ w hD hdep hJ
      obtain ⟨v14, v15, v17, v18, hv, ha, hw⟩ := hJ
      have ha2 : agree σ [(20, v1), (21, (.int .i64 ((k1 : Nat) : Int))), (0, v0), (1, v1), (5, (.int .i64 ((k1 : Nat) : Int))), (12, (.int .i64 ((p0.length : Nat) : Int))), (13, (.int .i64 ((k1 : Nat) : Int)))] := ⟨hv.2.2.2.2.1 (hdep.1 rfl), hv.2.2.2.2.2.1 (hdep.2.1 rfl), ha.1, ha.2.1, ha.2.2.1, ha.2.2.2.1, ha.2.2.2.2.1, trivial⟩
      obtain ⟨τ, rfl⟩ := ha2.ups
      refine RL.ia_rd (i := 5) trivial rfl hw rfl rfl rfl sl33 hx16 fun v21 hw => ?_
      have hw := hw.fillat 0 1 2 rfl rfl rfl (by simp)
      refine RL.nil ?_
      exact ⟨rfl, v14, v15, v21, v18, ⟨hv.1, hv.2.1, hv.2.2.1, hv.2.2.2.1, hv.2.2.2.2.1, hv.2.2.2.2.2.1, fun _ => rfl, hv.2.2.2.2.2.2.2.1, hv.2.2.2.2.2.2.2.2.1, trivial⟩, ha, hw⟩
    · intro D σ w hD hdep hJ
      obtain ⟨v14, v15, v17, v18, hv, ha, hw⟩ := hJ
      have ha2 : agree σ [(22, v17), (0, v0), (1, v1), (5, (.int .i64 ((k1 : Nat) : Int))), (12, (.int .i64 ((p0.length : Nat) : Int))), (13, (.int .i64 ((k1 : Nat) : Int)))] := ⟨hv.2.2.2.2.2.2.1 (hdep.1 rfl), ha.1, ha.2.1, ha.2.2.1, ha.2.2.2.1, ha.2.2.2.2.1, trivial⟩
      obtain ⟨τ, rfl⟩ := ha2.ups
      refine RL.load_pt (i := 2) (x := x16) trivial rfl hw rfl (ent_t (hdep.1 rfl)) ty28 fun v22 hw => ?_
      have hw := hw.fillat 0 1 3 rfl rfl rfl (by simp)
      refine RL.nil ?_
      exact ⟨rfl, v14, v15, v17, v22, ⟨hv.1, hv.2.1, hv.2.2.1, hv.2.2.2.1, hv.2.2.2.2.1, hv.2.2.2.2.2.1, hv.2.2.2.2.2.2.1, fun _ => rfl, hv.2.2.2.2.2.2.2.2.1, trivial⟩, ha, hw⟩
    · intro D σ w hD hdep hJ
      obtain ⟨v14, v15, v17, v18, hv, ha, hw⟩ := hJ
      have ha2 : agree σ [(19, v15), (23, v18), (0, v0), (1, v1), (5, (.int .i64 ((k1 : Nat) : Int))), (12, (.int .i64 ((p0.length : Nat) : Int))), (13, (.int .i64 ((k1 : Nat) : Int)))] := ⟨hv.2.2.2.1 (hdep.1 rfl), hv.2.2.2.2.2.2.2.1 (hdep.2.1 rfl), ha.1, ha.2.1, ha.2.2.1, ha.2.2.2.1, ha.2.2.2.2.1, trivial⟩
      obtain ⟨τ, rfl⟩ := ha2.ups
      refine RL.sne (i := 1) (j := 3) (a := x13) (b := x16) trivial rfl hw rfl rfl (ent_t (hdep.1 rfl)) (ent_t (hdep.2.1 rfl)) eqt28 rfl ?_
      refine RL.nil ?_
      exact ⟨rfl, v14, v15, v17, v18, ⟨hv.1, hv.2.1, hv.2.2.1, hv.2.2.2.1, hv.2.2.2.2.1, hv.2.2.2.2.2.1, hv.2.2.2.2.2.2.1, hv.2.2.2.2.2.2.2.1, fun _ => rfl, trivial⟩, ha, hw⟩
    intro D σ w hall hJ
    obtain ⟨v14, v15, v17, v18, hv, ha, hw⟩ := hJ
    rw [hall 2 (by decide)] at hw
    rw [hall 3 (by decide)] at hw
    rw [hall 6 (by decide)] at hw
    rw [hall 7 (by decide)] at hw
    have ha2 : agree σ [(24, (.bool (!(decide (x13 = x16))))), (0, v0), (1, v1), (5, (.int .i64 ((k1 : Nat) : Int))), (12, (.int .i64 ((p0.length : Nat) : Int))), (13, (.int .i64 ((k1 : Nat) : Int)))] := ⟨hv.2.2.2.2.2.2.2.2.1 (hall 8 (by decide)), ha.1, ha.2.1, ha.2.2.1, ha.2.2.2.1, ha.2.2.2.2.1, trivial⟩
    obtain ⟨τ, rfl⟩ := ha2.ups
    refine thenQ_n ?_
    refine RC.cond (b := (!(decide (x13 = x16)))) rfl (fun hc => ?_) (fun hc => ?_)
    rotate_left
    · replace hb := cF hc hb
      refine RC.skip ?_
      refine blkQ_n ?_
      refine thenQ_n ?_
      refine RC.region ?_
      refine RL.inc trivial rfl hk hm rfl rfl ?_
      refine RL.move (v := (.int .i64 ((k1 + 1 : Nat) : Int))) trivial rfl rfl ?_
      refine RL.nil ?_
      injection hb with hb; subst hb
      exact ⟨rfl, ⟨rfl, rfl, rfl, rfl, trivial⟩, hw.pick 6 [4, 5] (new := [rd v0 p0, rd v1 p1]) rfl rfl (by decide) (by decide)⟩
    replace hb := cT hc hb
    refine RC.seq ?_
    refine RC.region ?_
    refine RL.assign (v := (.bool false)) trivial rfl rfl ?_
    refine RL.nil ?_
    refine thenQ_n ?_
    refine RC.ret ?_
    refine blkQ_r ?_
    refine thenQ_r ?_
    injection hb with hb; subst hb
    exact ⟨rfl, fin1 rfl rfl ⟨rfl, hw.drop 6 rfl⟩⟩
  · intro r σ w e hK
    subst e
    refine thenQ_r ?_
    injection hb with hb; subst hb
    exact hK
  intro s2 σ w e hJ
  subst e
  rw [Fo.cs_go] at hb
  obtain ⟨ha, hw⟩ := hJ
  obtain ⟨τ, rfl⟩ := ha.ups
  refine thenQ_n ?_
  refine RC.seq ?_
  refine RC.region ?_
  refine RL.assign (v := (.bool true)) trivial rfl rfl ?_
  refine RL.nil ?_
  refine thenQ_n ?_
  refine RC.ret ?_
  injection hb with hb; subst hb
  exact fin1 rfl rfl ⟨rfl, hw.drop 2 rfl⟩
def etchhouselaw2_awake_R (E : World) (Γ : List HP) (res : Bool) (v : Value) (w : World) : Prop := v = (.bool res) ∧ Holds E w Γ
def etchhouselaw2_awake_K (E : World) (Γ : List HP) (r : Bool) (σ : Nat → Value) (w : World) : Prop := finQ Tryd.prog 30 Tryd.f18 (etchhouselaw2_awake_R E Γ r) .ret σ w
theorem etchhouselaw2_awake_ok (N : Nat) {E w : World} {Γ : List HP}  {res : Bool} (hw : Holds E w Γ)  (hb : etchhouselaw2_awake N  = some res) :
    Calls Tryd.prog 18 [].toArray w (Ret (etchhouselaw2_awake_R E Γ res)) := by
  unfold etchhouselaw2_awake at hb
  refine enter Tryd.func18 rfl rfl (Nat.le_of_ble_eq_true rfl) ?_
  refine RC.seq ?_
  refine RC.region ?_
  refine RL.assign (v := (.bool false)) trivial rfl rfl ?_
  refine RL.nil ?_
  refine thenQ_n ?_
  refine RC.seq ?_
  refine RC.region ?_
  have hw := hw.sc (γ := Str) ⟨[49]⟩
  have hw := hw.sc (γ := Int) 6
  refine RL.build (y := (⟨⟨[49]⟩, 6, 0⟩ : PinType)) trivial rfl hw [(0, (str ⟨[49]⟩)), (1, (.int .i64 6))] rfl st82 rfl (fun M hs g => by have h := z_PinType M; exact Fills.cons (f := fun (x : PinType) y => { x with Name := y }) rfl h fs_PinType_0 (by decide) (g.sat 1 _ rfl).1 fun _ h => Fills.cons (f := fun (x : PinType) y => { x with Kind := y }) rfl h fs_PinType_1 (by decide) (g.sat 0 _ rfl).1 fun _ h => Fills.nil h) fun v1 hw => ?_
  refine RL.bslice (l := ([(⟨⟨[49]⟩, 6, 0⟩ : PinType)] : (List PinType))) trivial rfl hw [v1] rfl rfl rfl sl83 ze82 (fun M hs g => ⟨(g.sat 0 _ rfl).1, trivial⟩) fun v2 w hw => ?_
  have hw := hw.sc (γ := Str) ⟨[114]⟩
  have hw := hw.freeze (i := 1) rfl
  refine RL.build (y := (⟨⟨[114]⟩, ([(⟨⟨[49]⟩, 6, 0⟩ : PinType)] : (List PinType))⟩ : PartType)) trivial rfl hw [(0, (str ⟨[114]⟩)), (1, v2)] rfl st85 rfl (fun M hs g => by have h := z_PartType M; exact Fills.cons (f := fun (x : PartType) y => { x with Name := y }) rfl h fs_PartType_0 (by decide) (g.sat 0 _ rfl).1 fun _ h => Fills.cons (f := fun (x : PartType) y => { x with Pins := y }) rfl h fs_PartType_1 (by decide) (g.sat 1 _ rfl).1 fun _ h => Fills.nil h) fun v3 hw => ?_
  refine RL.bslice (l := ([(⟨⟨[114]⟩, ([(⟨⟨[49]⟩, 6, 0⟩ : PinType)] : (List PinType))⟩ : PartType)] : (List PartType))) trivial rfl hw [v3] rfl rfl rfl sl22 ze85 (fun M hs g => ⟨(g.sat 0 _ rfl).1, trivial⟩) fun v4 w hw => ?_
  refine RL.assign (v := v4) trivial rfl rfl ?_
  refine RL.nil ?_
  refine thenQ_n ?_
  refine RC.seq ?_
  refine RC.region ?_
  refine RL.move (v := v4) trivial rfl rfl ?_
  have hw := hw.sc (γ := Str) ⟨[97]⟩
  have hw := hw.sc (γ := Str) ⟨[114]⟩
  refine RL.build (y := (⟨⟨[97]⟩, ⟨[114]⟩⟩ : Part)) trivial rfl hw [(0, (str ⟨[97]⟩)), (1, (str ⟨[114]⟩))] rfl st87 rfl (fun M hs g => by have h := z_Part M; exact Fills.cons (f := fun (x : Part) y => { x with Name := y }) rfl h fs_Part_0 (by decide) (g.sat 1 _ rfl).1 fun _ h => Fills.cons (f := fun (x : Part) y => { x with Type_ := y }) rfl h fs_Part_1 (by decide) (g.sat 0 _ rfl).1 fun _ h => Fills.nil h) fun v5 hw => ?_
  refine RL.bslice (l := ([(⟨⟨[97]⟩, ⟨[114]⟩⟩ : Part)] : (List Part))) trivial rfl hw [v5] rfl rfl rfl sl23 ze87 (fun M hs g => ⟨(g.sat 0 _ rfl).1, trivial⟩) fun v6 w hw => ?_
  have hw := hw.freeze (i := 0) rfl
  refine RL.build (y := (⟨([(⟨⟨[97]⟩, ⟨[114]⟩⟩ : Part)] : (List Part)), []⟩ : Netlist)) trivial rfl hw [(0, v6)] rfl st26 rfl (fun M hs g => by have h := z_Netlist M; exact Fills.cons (f := fun (x : Netlist) y => { x with Parts := y }) rfl h fs_Netlist_0 (by decide) (g.sat 0 _ rfl).1 fun _ h => Fills.nil h) fun v7 hw => ?_
  have hw := hw.freeze (i := 5) rfl
  obtain ⟨x8, hx8, hb⟩ := bd hb
  refine RL.call trivial rfl fn15 [v4, v7] rfl (Calls_ret (netlist_Loose_ok N  (i0 := 5) (i1 := 0) hw rfl rfl hx8) ?_)
  rintro _ w ⟨v9, rfl, hw⟩
  refine RL.move (v := (.tuple #[v9, (.int .i64 x8.2)])) trivial rfl rfl ?_
  refine RL.extract (v := v9) trivial rfl rfl rfl ?_
  refine RL.extract (v := (.int .i64 x8.2)) trivial rfl rfl rfl ?_
  refine RL.assign (v := v9) trivial rfl rfl ?_
  refine RL.assign (v := (.int .i64 x8.2)) trivial rfl rfl ?_
  refine RL.nil ?_
  refine thenQ_n ?_
  refine RC.seq ?_
  obtain ⟨s17, hj, hb⟩ := bd hb
  refine RC.jn (fun (s17 : Bool) (σ : Nat → Value) (w : World) => agree σ [(0, (.bool s17))] ∧ Holds E w ([] ++ Γ)) s17 ?_ ?_
  · refine RC.region ?_
    refine RL.move (v := (.int .i64 x8.2)) trivial rfl rfl ?_
    refine RL.icmp (a := x8.2) (b := 0) trivial rfl rfl rfl rfl ?_
    refine RL.move (v := (.bool (x8.2 == 0))) trivial rfl rfl ?_
    rcases Bool.eq_false_or_eq_true (x8.2 == 0) with hg18 | hg18
    rotate_left
    · replace hj := cF hg18 hj
      refine RL.skip rfl (.inl (congrArg Value.bool hg18)) rfl ?_
      refine RL.skip rfl (.inl (congrArg Value.bool hg18)) rfl ?_
      refine RL.skip rfl (.inl (congrArg Value.bool hg18)) rfl ?_
      refine RL.pick (b := (x8.2 == 0)) (v := (.bool false)) trivial rfl rfl (by rw [hg18]; rfl) ?_
      refine RL.move (v := (.bool false)) trivial rfl rfl ?_
      refine RL.skip rfl (.inl rfl) rfl ?_
      refine RL.skip rfl (.inl rfl) rfl ?_
      refine RL.skip rfl (.inl rfl) rfl ?_
      refine RL.skip rfl (.inl rfl) rfl ?_
      refine RL.skip rfl (.inl rfl) rfl ?_
      refine RL.pick (b := false) (v := (.bool false)) trivial rfl rfl rfl ?_
      refine RL.assign (v := (.bool false)) trivial rfl rfl ?_
      refine RL.nil ?_
      injection hj with hj; subst hj
      exact ⟨rfl, ⟨rfl, trivial⟩, hw.pick 13 [] (new := []) rfl rfl (by decide) (by decide)⟩
    replace hj := cT hg18 hj
    refine RL.move (v := v9) ⟨_, rfl, congrArg Value.bool hg18⟩ rfl rfl ?_
    refine RL.len_own (i := 0) (l := x8.1) ⟨_, rfl, congrArg Value.bool hg18⟩ rfl hw rfl rfl un33 ?_
    refine RL.icmp (a := ((x8.1.length : Nat) : Int)) (b := 1) ⟨_, rfl, congrArg Value.bool hg18⟩ rfl rfl rfl rfl ?_
    refine RL.pick (b := (x8.2 == 0)) (v := (.bool (((x8.1.length : Nat) : Int) == 1))) trivial rfl rfl (by rw [hg18]; rfl) ?_
    refine RL.move (v := (.bool (((x8.1.length : Nat) : Int) == 1))) trivial rfl rfl ?_
    rcases Bool.eq_false_or_eq_true (((x8.1.length : Nat) : Int) == 1) with hg19 | hg19
    rotate_left
    · replace hj := cF hg19 hj
      refine RL.skip rfl (.inl (congrArg Value.bool hg19)) rfl ?_
      refine RL.skip rfl (.inl (congrArg Value.bool hg19)) rfl ?_
      refine RL.skip rfl (.inl (congrArg Value.bool hg19)) rfl ?_
      refine RL.skip rfl (.inl (congrArg Value.bool hg19)) rfl ?_
      refine RL.skip rfl (.inl (congrArg Value.bool hg19)) rfl ?_
      refine RL.pick (b := (((x8.1.length : Nat) : Int) == 1)) (v := (.bool false)) trivial rfl rfl (by rw [hg19]; rfl) ?_
      refine RL.assign (v := (.bool false)) trivial rfl rfl ?_
      refine RL.nil ?_
      injection hj with hj; subst hj
      exact ⟨rfl, ⟨rfl, trivial⟩, hw.pick 13 [] (new := []) rfl rfl (by decide) (by decide)⟩
    replace hj := cT hg19 hj
    refine RL.move (v := v9) ⟨_, rfl, congrArg Value.bool hg19⟩ rfl rfl ?_
    obtain ⟨x20, hx20, hj⟩ := bd hj
    refine RL.ia_own (i := 0) ⟨_, rfl, congrArg Value.bool hg19⟩ rfl hw rfl rfl rfl sl33 hx20 fun p21 hp21 => ?_
    refine RL.load_el (i := 0) (f := (fun x => x)) ⟨_, rfl, congrArg Value.bool hg19⟩ rfl hw rfl hp21 rfl (idx_some hx20).2.1 Fd.self ty28 fun v22 hw => ?_
    have hw := hw.sc (γ := Str) ⟨[97]⟩
    have hw := hw.sc (γ := Str) ⟨[49]⟩
    refine RL.build (y := (⟨⟨[97]⟩, ⟨[49]⟩⟩ : Pin)) ⟨_, rfl, congrArg Value.bool hg19⟩ rfl hw [(0, (str ⟨[97]⟩)), (1, (str ⟨[49]⟩))] rfl st28 rfl (fun M hs g => by have h := z_Pin M; exact Fills.cons (f := fun (x : Pin) y => { x with Part := y }) rfl h fs_Pin_0 (by decide) (g.sat 1 _ rfl).1 fun _ h => Fills.cons (f := fun (x : Pin) y => { x with Pin := y }) rfl h fs_Pin_1 (by decide) (g.sat 0 _ rfl).1 fun _ h => Fills.nil h) fun v23 hw => ?_
    refine RL.seq (i := 3) (j := 0) (a := x20) (b := (⟨⟨[97]⟩, ⟨[49]⟩⟩ : Pin)) ⟨_, rfl, congrArg Value.bool hg19⟩ rfl hw rfl rfl rfl rfl eqt28 rfl ?_
    refine RL.pick (b := (((x8.1.length : Nat) : Int) == 1)) (v := (.bool (decide (x20 = (⟨⟨[97]⟩, ⟨[49]⟩⟩ : Pin))))) trivial rfl rfl (by rw [hg19]; rfl) ?_
    refine RL.assign (v := (.bool (decide (x20 = (⟨⟨[97]⟩, ⟨[49]⟩⟩ : Pin))))) trivial rfl rfl ?_
    refine RL.nil ?_
    injection hj with hj; subst hj
    exact ⟨rfl, ⟨rfl, trivial⟩, hw.pick 17 [] (new := []) rfl rfl (by decide) (by decide)⟩
  rintro σ w ⟨ha, hw⟩
  obtain ⟨τ, rfl⟩ := ha.ups
  refine thenQ_n ?_
  refine RC.ret ?_
  injection hb with hb; subst hb
  exact fin1 rfl rfl ⟨rfl, hw.drop 0 rfl⟩
end Go.Gk
