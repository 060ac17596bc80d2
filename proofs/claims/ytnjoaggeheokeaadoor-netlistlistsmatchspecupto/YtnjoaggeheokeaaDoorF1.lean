/-
  Printed by gen.py: Go functions as plain functions, and that they are.
-/
import Derived.Test.YtnjoaggeheokeaaDoorT
set_option linter.unusedVariables false
set_option linter.unusedSimpArgs false
set_option linter.unusedSectionVars false
set_option maxRecDepth 100000
set_option maxHeartbeats 4000000

namespace Go.Gk
open Go Go.Proofs
def stringslite_IndexByte_R (E : World) (Γ : List HP) (res : Int) (v : Value) (w : World) : Prop := v = (.int .i64 res) ∧ Holds E w Γ
def stringslite_IndexByte_K (E : World) (Γ : List HP) (r : Int) (σ : Nat → Value) (w : World) : Prop := finQ Tryd.prog 8 Tryd.f147 (stringslite_IndexByte_R E Γ r) .ret σ w
theorem stringslite_IndexByte_ok (N : Nat) {E w : World} {Γ : List HP} {p0 : Str} {p1 : Int} {res : Int} (hw : Holds E w Γ)  (hb : stringslite_IndexByte N p0 p1 = some res) :
    Calls Tryd.prog 147 [(str p0), (.int .u8 p1)].toArray w (Ret (stringslite_IndexByte_R E Γ res)) := by
  unfold stringslite_IndexByte at hb
  refine enter Tryd.func147 rfl rfl (Nat.le_of_ble_eq_true rfl) ?_
  refine RC.seq ?_
  refine RC.region ?_
  refine RL.assign (v := (.int .i64 0)) trivial rfl rfl ?_
  refine RL.nil ?_
  refine thenQ_n ?_
  refine RC.seq ?_
  refine RC.region ?_
  refine RL.move (v := (str p0)) trivial rfl rfl ?_
  refine RL.move (v := (.int .u8 p1)) trivial rfl rfl ?_
  refine RL.xcall (v := (.int .i64 (Lib.indexByte p0.toL (Int.toNat p1).toUInt8))) trivial rfl [(str p0), (.int .u8 p1)] rfl (x159 p0 p1 w) ?_
  refine RL.assign (v := (.int .i64 (Lib.indexByte p0.toL (Int.toNat p1).toUInt8))) trivial rfl rfl ?_
  refine RL.nil ?_
  refine thenQ_n ?_
  refine RC.ret ?_
  injection hb with hb; subst hb
  exact fin1 rfl rfl ⟨rfl, hw.drop 0 rfl⟩
def strings_IndexByte_R (E : World) (Γ : List HP) (res : Int) (v : Value) (w : World) : Prop := v = (.int .i64 res) ∧ Holds E w Γ
def strings_IndexByte_K (E : World) (Γ : List HP) (r : Int) (σ : Nat → Value) (w : World) : Prop := finQ Tryd.prog 8 Tryd.f131 (strings_IndexByte_R E Γ r) .ret σ w
theorem strings_IndexByte_ok (N : Nat) {E w : World} {Γ : List HP} {p0 : Str} {p1 : Int} {res : Int} (hw : Holds E w Γ)  (hb : strings_IndexByte N p0 p1 = some res) :
    Calls Tryd.prog 131 [(str p0), (.int .u8 p1)].toArray w (Ret (strings_IndexByte_R E Γ res)) := by
  unfold strings_IndexByte at hb
  refine enter Tryd.func131 rfl rfl (Nat.le_of_ble_eq_true rfl) ?_
  refine RC.seq ?_
  refine RC.region ?_
  refine RL.assign (v := (.int .i64 0)) trivial rfl rfl ?_
  refine RL.nil ?_
  refine thenQ_n ?_
  refine RC.seq ?_
  refine RC.region ?_
  refine RL.move (v := (str p0)) trivial rfl rfl ?_
  refine RL.move (v := (.int .u8 p1)) trivial rfl rfl ?_
  obtain ⟨x1, hx1, hb⟩ := bd hb
  refine RL.call trivial rfl fn147 [(str p0), (.int .u8 p1)] rfl (Calls_ret (stringslite_IndexByte_ok N (p0 := p0) (p1 := p1)  hw  hx1) ?_)
  rintro _ w ⟨rfl, hw⟩
  refine RL.assign (v := (.int .i64 x1)) trivial rfl rfl ?_
  refine RL.nil ?_
  refine thenQ_n ?_
  refine RC.ret ?_
  injection hb with hb; subst hb
  exact fin1 rfl rfl ⟨rfl, hw.drop 0 rfl⟩
def netlist_IsWord_R (E : World) (Γ : List HP) (res : Bool) (v : Value) (w : World) : Prop := v = (.bool res) ∧ Holds E w Γ
def netlist_IsWord_K (E : World) (Γ : List HP) (r : Bool) (σ : Nat → Value) (w : World) : Prop := finQ Tryd.prog 49 Tryd.f96 (netlist_IsWord_R E Γ r) .ret σ w
theorem netlist_IsWord_ok (N : Nat) {E w : World} {Γ : List HP} {p0 : Str} {res : Bool} (hw : Holds E w Γ)  (hb : netlist_IsWord N p0 = some res) :
    Calls Tryd.prog 96 [(str p0)].toArray w (Ret (netlist_IsWord_R E Γ res)) := by
  unfold netlist_IsWord at hb
  refine enter Tryd.func96 rfl rfl (Nat.le_of_ble_eq_true rfl) ?_
  refine RC.seq ?_
  refine RC.region ?_
  refine RL.assign (v := (.bool false)) trivial rfl rfl ?_
  refine RL.nil ?_
  refine thenQ_n ?_
  refine RC.seq ?_
  refine RC.seq ?_
  refine RC.region ?_
  refine RL.move (v := (str p0)) trivial rfl rfl ?_
  refine RL.lens (s := p0) trivial rfl rfl un9 ?_
  refine RL.move (v := (.int .i64 0)) trivial rfl rfl ?_
  refine RL.nil ?_
  refine thenQ_n ?_
  obtain ⟨o15, hN, hb⟩ := bd hb
  refine RC.range (fun (k1 : Nat) (s2 : Unit) (σ : Nat → Value) (w : World) => agree σ [(0, (str p0)), (6, (.int .i64 ((p0.toL.length : Nat) : Int))), (7, (.int .i64 ((k1 : Nat) : Int)))] ∧ Holds E w ([] ++ Γ)) (fun (s2 : Unit) (σ : Nat → Value) (w : World) => agree σ [(0, (str p0))] ∧ Holds E w ([] ++ Γ)) (netlist_IsWord_K E Γ) hN ?_ ?_ ?_ ?_ ?_ 
  · exact ⟨⟨rfl, rfl, rfl, trivial⟩, hw.pick 0 [] (new := []) rfl rfl (by decide) (by decide)⟩
  · intro hm s2 σ w hI
    obtain ⟨ha, hw⟩ := hI
    obtain ⟨τ, rfl⟩ := ha.ups
    refine RC.seq ?_
    refine RC.region ?_
    refine RL.icmp (a := ((p0.toL.length : Nat) : Int)) (b := ((p0.toL.length : Nat) : Int)) trivial rfl rfl rfl rfl ?_
    refine RL.nil ?_
    refine thenQ_n ?_
    refine RC.seq ?_
    refine RC.cond_f dge ?_
    refine RC.exit ?_
    refine thenQ_x ?_
    exact ⟨rfl, ⟨rfl, trivial⟩, hw.pick 0 [] (new := []) rfl rfl (by decide) (by decide)⟩
  · intro hm k1 s2 fl σ w hk hI hb
    obtain ⟨ha, hw⟩ := hI
    obtain ⟨τ, rfl⟩ := ha.ups
    refine RC.seq ?_
    refine RC.region ?_
    refine RL.icmp (a := ((k1 : Nat) : Int)) (b := ((p0.toL.length : Nat) : Int)) trivial rfl rfl rfl rfl ?_
    refine RL.nil ?_
    refine thenQ_n ?_
    refine RC.seq ?_
    refine RC.cond_t (dlt hk) ?_
    refine RC.skip ?_
    refine thenQ_n ?_
    refine RC.seq ?_
    refine RC.block ?_
    refine RC.seq ?_
    refine RC.region ?_
    refine RL.move (v := (.int .i64 ((k1 : Nat) : Int))) trivial rfl rfl ?_
    refine RL.assign (v := (.int .i64 ((k1 : Nat) : Int))) trivial rfl rfl ?_
    refine RL.nil ?_
    refine thenQ_n ?_
    refine RC.seq ?_
    refine RC.region ?_
    refine RL.move (v := (str p0)) trivial rfl rfl ?_
    refine RL.move (v := (.int .i64 ((k1 : Nat) : Int))) trivial rfl rfl ?_
    obtain ⟨x9, hx9, hb⟩ := bd hb
    refine RL.idxs (s := p0) (i := ((k1 : Nat) : Int)) (c := x9) trivial rfl rfl rfl un9 hx9 ?_
    refine RL.assign (v := (.int .u8 ((x9.toNat : Nat) : Int))) trivial rfl rfl ?_
    refine RL.nil ?_
    refine thenQ_n ?_
    refine RC.seq ?_
    obtain ⟨s12, hj, hb⟩ := bd hb
    refine RC.jn (fun (s12 : Bool) (σ : Nat → Value) (w : World) => agree σ [(0, (str p0)), (6, (.int .i64 ((p0.toL.length : Nat) : Int))), (7, (.int .i64 ((k1 : Nat) : Int))), (39, (.bool s12))] ∧ Holds E w ([] ++ Γ)) s12 ?_ ?_
    · refine RC.region ?_
      refine RL.move (v := (.int .u8 ((x9.toNat : Nat) : Int))) trivial rfl rfl ?_
      refine RL.icmp (a := ((x9.toNat : Nat) : Int)) (b := 65) trivial rfl rfl rfl rfl ?_
      refine RL.move (v := (.bool (decide (((x9.toNat : Nat) : Int) < 65)))) trivial rfl rfl ?_
      refine RL.gs (c := true) (b := (decide (((x9.toNat : Nat) : Int) < 65))) (v := (.int .u8 ((x9.toNat : Nat) : Int))) rfl rfl rfl (gs_move rfl (fun _ => rfl)) ?_
      refine RL.gs (c := true) (b := (decide (((x9.toNat : Nat) : Int) < 65))) (v := (.bool (decide (((x9.toNat : Nat) : Int) > 90)))) rfl rfl rfl (gs_icmp (bop := .gtr) (K := .u8) (a := ((x9.toNat : Nat) : Int)) (b := 90) rfl (fun h => by exact (cv_t h : cv (true && ((decide (((x9.toNat : Nat) : Int) < 65)) == false)) (.int .u8 ((x9.toNat : Nat) : Int)) = (.int .u8 ((x9.toNat : Nat) : Int)))) (fun _ => rfl) rfl) ?_
      refine RL.pick (b := (decide (((x9.toNat : Nat) : Int) < 65))) (v := (.bool ((decide (((x9.toNat : Nat) : Int) < 65)) || (decide (((x9.toNat : Nat) : Int) > 90))))) trivial rfl rfl (pk_or (c := true) rfl) ?_
      refine RL.move (v := (.bool ((decide (((x9.toNat : Nat) : Int) < 65)) || (decide (((x9.toNat : Nat) : Int) > 90))))) trivial rfl rfl ?_
      refine RL.gs (c := true) (b := ((decide (((x9.toNat : Nat) : Int) < 65)) || (decide (((x9.toNat : Nat) : Int) > 90)))) (v := (.int .u8 ((x9.toNat : Nat) : Int))) rfl rfl rfl (gs_move rfl (fun _ => rfl)) ?_
      refine RL.gs (c := true) (b := ((decide (((x9.toNat : Nat) : Int) < 65)) || (decide (((x9.toNat : Nat) : Int) > 90)))) (v := (.bool (decide (((x9.toNat : Nat) : Int) < 97)))) rfl rfl rfl (gs_icmp (bop := .lss) (K := .u8) (a := ((x9.toNat : Nat) : Int)) (b := 97) rfl (fun h => by exact (cv_t h : cv (true && (((decide (((x9.toNat : Nat) : Int) < 65)) || (decide (((x9.toNat : Nat) : Int) > 90))) == true)) (.int .u8 ((x9.toNat : Nat) : Int)) = (.int .u8 ((x9.toNat : Nat) : Int)))) (fun _ => rfl) rfl) ?_
      refine RL.gs (c := true) (b := ((decide (((x9.toNat : Nat) : Int) < 65)) || (decide (((x9.toNat : Nat) : Int) > 90)))) (v := (.bool (decide (((x9.toNat : Nat) : Int) < 97)))) rfl rfl rfl (gs_move rfl (fun h => by exact (cv_t h : cv (true && (((decide (((x9.toNat : Nat) : Int) < 65)) || (decide (((x9.toNat : Nat) : Int) > 90))) == true)) (.bool (decide (((x9.toNat : Nat) : Int) < 97))) = (.bool (decide (((x9.toNat : Nat) : Int) < 97)))))) ?_
      refine RL.gs (c := (true && (((decide (((x9.toNat : Nat) : Int) < 65)) || (decide (((x9.toNat : Nat) : Int) > 90))) == true))) (b := (decide (((x9.toNat : Nat) : Int) < 97))) (v := (.int .u8 ((x9.toNat : Nat) : Int))) rfl rfl rfl (gs_move rfl (fun _ => rfl)) ?_
      refine RL.gs (c := (true && (((decide (((x9.toNat : Nat) : Int) < 65)) || (decide (((x9.toNat : Nat) : Int) > 90))) == true))) (b := (decide (((x9.toNat : Nat) : Int) < 97))) (v := (.bool (decide (((x9.toNat : Nat) : Int) > 122)))) rfl rfl rfl (gs_icmp (bop := .gtr) (K := .u8) (a := ((x9.toNat : Nat) : Int)) (b := 122) rfl (fun h => by exact (cv_t h : cv ((true && (((decide (((x9.toNat : Nat) : Int) < 65)) || (decide (((x9.toNat : Nat) : Int) > 90))) == true)) && ((decide (((x9.toNat : Nat) : Int) < 97)) == false)) (.int .u8 ((x9.toNat : Nat) : Int)) = (.int .u8 ((x9.toNat : Nat) : Int)))) (fun _ => rfl) rfl) ?_
      refine RL.gs (c := true) (b := ((decide (((x9.toNat : Nat) : Int) < 65)) || (decide (((x9.toNat : Nat) : Int) > 90)))) (v := (.bool ((decide (((x9.toNat : Nat) : Int) < 97)) || (decide (((x9.toNat : Nat) : Int) > 122))))) rfl rfl rfl (gs_pick (b := (decide (((x9.toNat : Nat) : Int) < 97))) rfl (fun h => by exact (cv_t h : cv (true && (((decide (((x9.toNat : Nat) : Int) < 65)) || (decide (((x9.toNat : Nat) : Int) > 90))) == true)) (.bool (decide (((x9.toNat : Nat) : Int) < 97))) = (.bool (decide (((x9.toNat : Nat) : Int) < 97))))) (fun h => by exact pk_or (c := (true && (((decide (((x9.toNat : Nat) : Int) < 65)) || (decide (((x9.toNat : Nat) : Int) > 90))) == true))) h)) ?_
      refine RL.pick (b := ((decide (((x9.toNat : Nat) : Int) < 65)) || (decide (((x9.toNat : Nat) : Int) > 90)))) (v := (.bool (((decide (((x9.toNat : Nat) : Int) < 65)) || (decide (((x9.toNat : Nat) : Int) > 90))) && ((decide (((x9.toNat : Nat) : Int) < 97)) || (decide (((x9.toNat : Nat) : Int) > 122)))))) trivial rfl rfl (pk_and (c := true) rfl) ?_
      refine RL.move (v := (.bool (((decide (((x9.toNat : Nat) : Int) < 65)) || (decide (((x9.toNat : Nat) : Int) > 90))) && ((decide (((x9.toNat : Nat) : Int) < 97)) || (decide (((x9.toNat : Nat) : Int) > 122)))))) trivial rfl rfl ?_
      refine RL.gs (c := true) (b := (((decide (((x9.toNat : Nat) : Int) < 65)) || (decide (((x9.toNat : Nat) : Int) > 90))) && ((decide (((x9.toNat : Nat) : Int) < 97)) || (decide (((x9.toNat : Nat) : Int) > 122))))) (v := (.int .u8 ((x9.toNat : Nat) : Int))) rfl rfl rfl (gs_move rfl (fun _ => rfl)) ?_
      refine RL.gs (c := true) (b := (((decide (((x9.toNat : Nat) : Int) < 65)) || (decide (((x9.toNat : Nat) : Int) > 90))) && ((decide (((x9.toNat : Nat) : Int) < 97)) || (decide (((x9.toNat : Nat) : Int) > 122))))) (v := (.bool (decide (((x9.toNat : Nat) : Int) < 48)))) rfl rfl rfl (gs_icmp (bop := .lss) (K := .u8) (a := ((x9.toNat : Nat) : Int)) (b := 48) rfl (fun h => by exact (cv_t h : cv (true && ((((decide (((x9.toNat : Nat) : Int) < 65)) || (decide (((x9.toNat : Nat) : Int) > 90))) && ((decide (((x9.toNat : Nat) : Int) < 97)) || (decide (((x9.toNat : Nat) : Int) > 122)))) == true)) (.int .u8 ((x9.toNat : Nat) : Int)) = (.int .u8 ((x9.toNat : Nat) : Int)))) (fun _ => rfl) rfl) ?_
      refine RL.gs (c := true) (b := (((decide (((x9.toNat : Nat) : Int) < 65)) || (decide (((x9.toNat : Nat) : Int) > 90))) && ((decide (((x9.toNat : Nat) : Int) < 97)) || (decide (((x9.toNat : Nat) : Int) > 122))))) (v := (.bool (decide (((x9.toNat : Nat) : Int) < 48)))) rfl rfl rfl (gs_move rfl (fun h => by exact (cv_t h : cv (true && ((((decide (((x9.toNat : Nat) : Int) < 65)) || (decide (((x9.toNat : Nat) : Int) > 90))) && ((decide (((x9.toNat : Nat) : Int) < 97)) || (decide (((x9.toNat : Nat) : Int) > 122)))) == true)) (.bool (decide (((x9.toNat : Nat) : Int) < 48))) = (.bool (decide (((x9.toNat : Nat) : Int) < 48)))))) ?_
      refine RL.gs (c := (true && ((((decide (((x9.toNat : Nat) : Int) < 65)) || (decide (((x9.toNat : Nat) : Int) > 90))) && ((decide (((x9.toNat : Nat) : Int) < 97)) || (decide (((x9.toNat : Nat) : Int) > 122)))) == true))) (b := (decide (((x9.toNat : Nat) : Int) < 48))) (v := (.int .u8 ((x9.toNat : Nat) : Int))) rfl rfl rfl (gs_move rfl (fun _ => rfl)) ?_
      refine RL.gs (c := (true && ((((decide (((x9.toNat : Nat) : Int) < 65)) || (decide (((x9.toNat : Nat) : Int) > 90))) && ((decide (((x9.toNat : Nat) : Int) < 97)) || (decide (((x9.toNat : Nat) : Int) > 122)))) == true))) (b := (decide (((x9.toNat : Nat) : Int) < 48))) (v := (.bool (decide (((x9.toNat : Nat) : Int) > 57)))) rfl rfl rfl (gs_icmp (bop := .gtr) (K := .u8) (a := ((x9.toNat : Nat) : Int)) (b := 57) rfl (fun h => by exact (cv_t h : cv ((true && ((((decide (((x9.toNat : Nat) : Int) < 65)) || (decide (((x9.toNat : Nat) : Int) > 90))) && ((decide (((x9.toNat : Nat) : Int) < 97)) || (decide (((x9.toNat : Nat) : Int) > 122)))) == true)) && ((decide (((x9.toNat : Nat) : Int) < 48)) == false)) (.int .u8 ((x9.toNat : Nat) : Int)) = (.int .u8 ((x9.toNat : Nat) : Int)))) (fun _ => rfl) rfl) ?_
      refine RL.gs (c := true) (b := (((decide (((x9.toNat : Nat) : Int) < 65)) || (decide (((x9.toNat : Nat) : Int) > 90))) && ((decide (((x9.toNat : Nat) : Int) < 97)) || (decide (((x9.toNat : Nat) : Int) > 122))))) (v := (.bool ((decide (((x9.toNat : Nat) : Int) < 48)) || (decide (((x9.toNat : Nat) : Int) > 57))))) rfl rfl rfl (gs_pick (b := (decide (((x9.toNat : Nat) : Int) < 48))) rfl (fun h => by exact (cv_t h : cv (true && ((((decide (((x9.toNat : Nat) : Int) < 65)) || (decide (((x9.toNat : Nat) : Int) > 90))) && ((decide (((x9.toNat : Nat) : Int) < 97)) || (decide (((x9.toNat : Nat) : Int) > 122)))) == true)) (.bool (decide (((x9.toNat : Nat) : Int) < 48))) = (.bool (decide (((x9.toNat : Nat) : Int) < 48))))) (fun h => by exact pk_or (c := (true && ((((decide (((x9.toNat : Nat) : Int) < 65)) || (decide (((x9.toNat : Nat) : Int) > 90))) && ((decide (((x9.toNat : Nat) : Int) < 97)) || (decide (((x9.toNat : Nat) : Int) > 122)))) == true))) h)) ?_
      refine RL.pick (b := (((decide (((x9.toNat : Nat) : Int) < 65)) || (decide (((x9.toNat : Nat) : Int) > 90))) && ((decide (((x9.toNat : Nat) : Int) < 97)) || (decide (((x9.toNat : Nat) : Int) > 122))))) (v := (.bool ((((decide (((x9.toNat : Nat) : Int) < 65)) || (decide (((x9.toNat : Nat) : Int) > 90))) && ((decide (((x9.toNat : Nat) : Int) < 97)) || (decide (((x9.toNat : Nat) : Int) > 122)))) && ((decide (((x9.toNat : Nat) : Int) < 48)) || (decide (((x9.toNat : Nat) : Int) > 57)))))) trivial rfl rfl (pk_and (c := true) rfl) ?_
      refine RL.move (v := (.bool ((((decide (((x9.toNat : Nat) : Int) < 65)) || (decide (((x9.toNat : Nat) : Int) > 90))) && ((decide (((x9.toNat : Nat) : Int) < 97)) || (decide (((x9.toNat : Nat) : Int) > 122)))) && ((decide (((x9.toNat : Nat) : Int) < 48)) || (decide (((x9.toNat : Nat) : Int) > 57)))))) trivial rfl rfl ?_
      rcases Bool.eq_false_or_eq_true ((((decide (((x9.toNat : Nat) : Int) < 65)) || (decide (((x9.toNat : Nat) : Int) > 90))) && ((decide (((x9.toNat : Nat) : Int) < 97)) || (decide (((x9.toNat : Nat) : Int) > 122)))) && ((decide (((x9.toNat : Nat) : Int) < 48)) || (decide (((x9.toNat : Nat) : Int) > 57)))) with hg13 | hg13
      rotate_left
      · replace hj := cF hg13 hj
        refine RL.skip rfl (.inl (congrArg Value.bool hg13)) rfl ?_
        refine RL.skip rfl (.inl (congrArg Value.bool hg13)) rfl ?_
        refine RL.skip rfl (.inl (congrArg Value.bool hg13)) rfl ?_
        refine RL.pick (b := ((((decide (((x9.toNat : Nat) : Int) < 65)) || (decide (((x9.toNat : Nat) : Int) > 90))) && ((decide (((x9.toNat : Nat) : Int) < 97)) || (decide (((x9.toNat : Nat) : Int) > 122)))) && ((decide (((x9.toNat : Nat) : Int) < 48)) || (decide (((x9.toNat : Nat) : Int) > 57))))) (v := (.bool false)) trivial rfl rfl (by rw [hg13]; rfl) ?_
        refine RL.nil ?_
        injection hj with hj; subst hj
        exact ⟨rfl, ⟨rfl, rfl, rfl, rfl, trivial⟩, hw.pick 0 [] (new := []) rfl rfl (by decide) (by decide)⟩
      replace hj := cT hg13 hj
      refine RL.move (v := (.int .u8 ((x9.toNat : Nat) : Int))) ⟨_, rfl, congrArg Value.bool hg13⟩ rfl rfl ?_
      obtain ⟨x14, hx14, hj⟩ := bd hj
      refine RL.call ⟨_, rfl, congrArg Value.bool hg13⟩ rfl fn131 [(str ⟨[95, 43, 45, 35]⟩), (.int .u8 ((x9.toNat : Nat) : Int))] rfl (Calls_ret (strings_IndexByte_ok N (p0 := ⟨[95, 43, 45, 35]⟩) (p1 := ((x9.toNat : Nat) : Int))  hw  hx14) ?_)
      rintro _ w ⟨rfl, hw⟩
      refine RL.icmp (a := x14) (b := 0) ⟨_, rfl, congrArg Value.bool hg13⟩ rfl rfl rfl rfl ?_
      refine RL.pick (b := ((((decide (((x9.toNat : Nat) : Int) < 65)) || (decide (((x9.toNat : Nat) : Int) > 90))) && ((decide (((x9.toNat : Nat) : Int) < 97)) || (decide (((x9.toNat : Nat) : Int) > 122)))) && ((decide (((x9.toNat : Nat) : Int) < 48)) || (decide (((x9.toNat : Nat) : Int) > 57))))) (v := (.bool (decide (x14 < 0)))) trivial rfl rfl (by rw [hg13]; rfl) ?_
      refine RL.nil ?_
      injection hj with hj; subst hj
      exact ⟨rfl, ⟨rfl, rfl, rfl, rfl, trivial⟩, hw.pick 0 [] (new := []) rfl rfl (by decide) (by decide)⟩
    rintro σ w ⟨ha, hw⟩
    obtain ⟨τ, rfl⟩ := ha.ups
    refine thenQ_n ?_
    refine RC.cond (b := s12) rfl (fun hc => ?_) (fun hc => ?_)
    rotate_left
    · replace hb := cF hc hb
      refine RC.skip ?_
      refine blkQ_n ?_
      refine thenQ_n ?_
      refine RC.region ?_
      refine RL.inc trivial rfl hk hm rfl rfl ?_
      refine RL.move (v := (.int .i64 ((k1 + 1 : Nat) : Int))) trivial rfl rfl ?_
      refine RL.nil ?_
      injection hb with hb; subst hb
      exact ⟨rfl, ⟨rfl, rfl, rfl, trivial⟩, hw.pick 0 [] (new := []) rfl rfl (by decide) (by decide)⟩
    replace hb := cT hc hb
    refine RC.seq ?_
    refine RC.region ?_
    refine RL.assign (v := (.bool false)) trivial rfl rfl ?_
    refine RL.nil ?_
    refine thenQ_n ?_
    refine RC.ret ?_
    refine blkQ_r ?_
    refine thenQ_r ?_
    injection hb with hb; subst hb
    exact ⟨rfl, fin1 rfl rfl ⟨rfl, hw.drop 0 rfl⟩⟩
  · intro r σ w e hK
    subst e
    refine thenQ_r ?_
    injection hb with hb; subst hb
    exact hK
  intro s2 σ w e hJ
  subst e
  rw [Fo.cs_go] at hb
  obtain ⟨ha, hw⟩ := hJ
  obtain ⟨τ, rfl⟩ := ha.ups
  refine thenQ_n ?_
  refine RC.seq ?_
  refine RC.region ?_
  refine RL.move (v := (str p0)) trivial rfl rfl ?_
  refine RL.lens (s := p0) trivial rfl rfl un9 ?_
  refine RL.icmp (a := ((p0.toL.length : Nat) : Int)) (b := 1) trivial rfl rfl rfl rfl ?_
  refine RL.move (v := (.bool (decide (((p0.toL.length : Nat) : Int) ≥ 1)))) trivial rfl rfl ?_
  refine RL.gs (c := true) (b := (decide (((p0.toL.length : Nat) : Int) ≥ 1))) (v := (str p0)) rfl rfl rfl (gs_move rfl (fun _ => rfl)) ?_
  refine RL.gs (c := true) (b := (decide (((p0.toL.length : Nat) : Int) ≥ 1))) (v := (.int .i64 ((p0.toL.length : Nat) : Int))) rfl rfl rfl (gs_lens (s := p0) rfl (fun h => by exact (cv_t h : cv (true && ((decide (((p0.toL.length : Nat) : Int) ≥ 1)) == true)) (str p0) = (str p0))) un9) ?_
  refine RL.gs (c := true) (b := (decide (((p0.toL.length : Nat) : Int) ≥ 1))) (v := (.bool (decide (((p0.toL.length : Nat) : Int) ≤ 40)))) rfl rfl rfl (gs_icmp (bop := .leq) (K := .i64) (a := ((p0.toL.length : Nat) : Int)) (b := 40) rfl (fun h => by exact (cv_t h : cv (true && ((decide (((p0.toL.length : Nat) : Int) ≥ 1)) == true)) (.int .i64 ((p0.toL.length : Nat) : Int)) = (.int .i64 ((p0.toL.length : Nat) : Int)))) (fun _ => rfl) rfl) ?_
  refine RL.pick (b := (decide (((p0.toL.length : Nat) : Int) ≥ 1))) (v := (.bool ((decide (((p0.toL.length : Nat) : Int) ≥ 1)) && (decide (((p0.toL.length : Nat) : Int) ≤ 40))))) trivial rfl rfl (pk_and (c := true) rfl) ?_
  refine RL.assign (v := (.bool ((decide (((p0.toL.length : Nat) : Int) ≥ 1)) && (decide (((p0.toL.length : Nat) : Int) ≤ 40))))) trivial rfl rfl ?_
  refine RL.nil ?_
  refine thenQ_n ?_
  refine RC.ret ?_
  injection hb with hb; subst hb
  exact fin1 rfl rfl ⟨rfl, hw.drop 0 rfl⟩
def netlist_checkPins_c1_R (E : World) (Γ : List HP) (res : Bool) (v : Value) (w : World) : Prop := v = (.bool res) ∧ Holds E w Γ
def netlist_checkPins_c1_K (E : World) (Γ : List HP) (r : Bool) (σ : Nat → Value) (w : World) : Prop := finQ Tryd.prog 21 Tryd.f133 (netlist_checkPins_c1_R E Γ r) .ret σ w
theorem netlist_checkPins_c1_ok (N : Nat) {E w : World} {Γ : List HP} {i0 : Nat} {v0 : Value} {p0 : PinType} {i1 : Nat} {v1 : Value} {p1 : PinType} {res : Bool} (hw : Holds E w Γ) (h0 : Γ[i0]? = some (rd v0 p0)) (h1 : Γ[i1]? = some (pt v1 p1)) (hb : netlist_checkPins_c1 N p0 p1 = some res) :
    Calls Tryd.prog 133 [v0, v1].toArray w (Ret (netlist_checkPins_c1_R E Γ res)) := by
  unfold netlist_checkPins_c1 at hb
  refine enter Tryd.func133 rfl rfl (Nat.le_of_ble_eq_true rfl) ?_
  have hw := hw.dup (i := i0 + 0) h0
  have hw := hw.dup_pt (i := i1 + 1) h1
  refine RC.seq ?_
  refine RC.region ?_
  refine RL.box_rd (i := 1) (v := v0) trivial rfl hw rfl rfl fun b1 w hw => ?_
  refine RL.assign (v := (.bool false)) trivial rfl rfl ?_
  refine RL.nil ?_
  refine thenQ_n ?_
  refine RC.seq ?_
  obtain ⟨s11, hj, hb⟩ := bd hb
  refine RC.jn (fun (s11 : Bool) (σ : Nat → Value) (w : World) => agree σ [(3, (.bool s11))] ∧ Holds E w ([] ++ Γ)) s11 ?_ ?_
  · refine RC.region ?_
    refine RL.fa_pt (i := 1) (f := fun (x : PinType) => x.Group) trivial rfl hw rfl rfl fa82_2 fd_PinType_2 fun v12 hw => ?_
    refine RL.load_pts (i := 0) (y := p1.Group) trivial rfl hw rfl rfl ty3 ?_
    refine RL.icmp (a := p1.Group) (b := 0) trivial rfl rfl rfl rfl ?_
    refine RL.move (v := (.bool (decide (p1.Group > 0)))) trivial rfl rfl ?_
    rcases Bool.eq_false_or_eq_true (decide (p1.Group > 0)) with hg13 | hg13
    rotate_left
    · replace hj := cF hg13 hj
      refine RL.skip rfl (.inl (congrArg Value.bool hg13)) rfl ?_
      refine RL.skip rfl (.inl (congrArg Value.bool hg13)) rfl ?_
      refine RL.skip rfl (.inl (congrArg Value.bool hg13)) rfl ?_
      refine RL.skip rfl (.inl (congrArg Value.bool hg13)) rfl ?_
      refine RL.skip rfl (.inl (congrArg Value.bool hg13)) rfl ?_
      refine RL.pick (b := (decide (p1.Group > 0))) (v := (.bool false)) trivial rfl rfl (by rw [hg13]; rfl) ?_
      refine RL.move (v := (.bool false)) trivial rfl rfl ?_
      refine RL.skip rfl (.inl rfl) rfl ?_
      refine RL.skip rfl (.inl rfl) rfl ?_
      refine RL.skip rfl (.inl rfl) rfl ?_
      refine RL.skip rfl (.inl rfl) rfl ?_
      refine RL.skip rfl (.inl rfl) rfl ?_
      refine RL.pick (b := false) (v := (.bool false)) trivial rfl rfl rfl ?_
      refine RL.assign (v := (.bool false)) trivial rfl rfl ?_
      refine RL.nil ?_
      injection hj with hj; subst hj
      exact ⟨rfl, ⟨rfl, trivial⟩, hw.pick 4 [] (new := []) rfl rfl (by decide) (by decide)⟩
    replace hj := cT hg13 hj
    refine RL.fa_b ⟨_, rfl, congrArg Value.bool hg13⟩ rfl rfl fa82_2 ?_
    refine RL.load_bfs (i := 1) (f := (fun x => x.Group)) ⟨_, rfl, congrArg Value.bool hg13⟩ rfl hw rfl rfl fd_PinType_2 ty3 ?_
    refine RL.fa_pt (i := 2) (f := fun (x : PinType) => x.Group) ⟨_, rfl, congrArg Value.bool hg13⟩ rfl hw rfl rfl fa82_2 fd_PinType_2 fun v14 hw => ?_
    refine RL.load_pts (i := 0) (y := p1.Group) ⟨_, rfl, congrArg Value.bool hg13⟩ rfl hw rfl rfl ty3 ?_
    refine RL.icmp (a := p0.Group) (b := p1.Group) ⟨_, rfl, congrArg Value.bool hg13⟩ rfl rfl rfl rfl ?_
    refine RL.pick (b := (decide (p1.Group > 0))) (v := (.bool (p0.Group == p1.Group))) trivial rfl rfl (by rw [hg13]; rfl) ?_
    refine RL.move (v := (.bool (p0.Group == p1.Group))) trivial rfl rfl ?_
    rcases Bool.eq_false_or_eq_true (p0.Group == p1.Group) with hg15 | hg15
    · replace hj := cT hg15 hj
      refine RL.fa_b ⟨_, rfl, congrArg Value.bool hg15⟩ rfl rfl fa82_1 ?_
      refine RL.load_bfs (i := 2) (f := (fun x => x.Kind)) ⟨_, rfl, congrArg Value.bool hg15⟩ rfl hw rfl rfl fd_PinType_1 ty3 ?_
      refine RL.fa_pt (i := 3) (f := fun (x : PinType) => x.Kind) ⟨_, rfl, congrArg Value.bool hg15⟩ rfl hw rfl rfl fa82_1 fd_PinType_1 fun v16 hw => ?_
      refine RL.load_pts (i := 0) (y := p1.Kind) ⟨_, rfl, congrArg Value.bool hg15⟩ rfl hw rfl rfl ty3 ?_
      refine RL.icmp (a := p0.Kind) (b := p1.Kind) ⟨_, rfl, congrArg Value.bool hg15⟩ rfl rfl rfl rfl ?_
      refine RL.pick (b := (p0.Group == p1.Group)) (v := (.bool (p0.Kind != p1.Kind))) trivial rfl rfl (by rw [hg15]; rfl) ?_
      refine RL.assign (v := (.bool (p0.Kind != p1.Kind))) trivial rfl rfl ?_
      refine RL.nil ?_
      injection hj with hj; subst hj
      exact ⟨rfl, ⟨rfl, trivial⟩, hw.pick 6 [] (new := []) rfl rfl (by decide) (by decide)⟩
    replace hj := cF hg15 hj
    refine RL.skip rfl (.inl (congrArg Value.bool hg15)) rfl ?_
    refine RL.skip rfl (.inl (congrArg Value.bool hg15)) rfl ?_
    refine RL.skip rfl (.inl (congrArg Value.bool hg15)) rfl ?_
    refine RL.skip rfl (.inl (congrArg Value.bool hg15)) rfl ?_
    refine RL.skip rfl (.inl (congrArg Value.bool hg15)) rfl ?_
    refine RL.pick (b := (p0.Group == p1.Group)) (v := (.bool false)) trivial rfl rfl (by rw [hg15]; rfl) ?_
    refine RL.assign (v := (.bool false)) trivial rfl rfl ?_
    refine RL.nil ?_
    injection hj with hj; subst hj
    exact ⟨rfl, ⟨rfl, trivial⟩, hw.pick 5 [] (new := []) rfl rfl (by decide) (by decide)⟩
  rintro σ w ⟨ha, hw⟩
  obtain ⟨τ, rfl⟩ := ha.ups
  refine thenQ_n ?_
  refine RC.ret ?_
  injection hb with hb; subst hb
  exact fin1 rfl rfl ⟨rfl, hw.drop 0 rfl⟩
def slices_IndexFunc_PinType_R (E : World) (Γ : List HP) (res : Int) (v : Value) (w : World) : Prop := v = (.int .i64 res) ∧ Holds E w Γ
def slices_IndexFunc_PinType_K (E : World) (Γ : List HP) (r : Int) (σ : Nat → Value) (w : World) : Prop := finQ Tryd.prog 19 Tryd.f148 (slices_IndexFunc_PinType_R E Γ r) .ret σ w
theorem slices_IndexFunc_PinType_ok (N : Nat) {E w : World} {Γ : List HP} {i0 : Nat} {v0 : Value} {p0 : (List PinType)} {v1 : Value} {p1 : PinType → Option Bool} {res : Int} (hw : Holds E w Γ) (h0 : Γ[i0]? = some (rd v0 p0)) (h1 : Fn1 Tryd.prog E Γ v1 p1 (fun (r : Bool) => Value.bool r)) (hb : slices_IndexFunc_PinType N p0 p1 = some res) :
    Calls Tryd.prog 148 [v0, v1].toArray w (Ret (slices_IndexFunc_PinType_R E Γ res)) := by
  unfold slices_IndexFunc_PinType at hb
  refine enter Tryd.func148 rfl rfl (Nat.le_of_ble_eq_true rfl) ?_
  have hw := hw.dup (i := i0 + 0) h0
  refine RC.seq ?_
  refine RC.region ?_
  refine RL.assign (v := (.int .i64 0)) trivial rfl rfl ?_
  refine RL.nil ?_
  refine thenQ_n ?_
  refine RC.seq ?_
  refine RC.seq ?_
  refine RC.region ?_
  refine RL.move (v := v0) trivial rfl rfl ?_
  refine RL.len_rd (i := 0) (l := p0) trivial rfl hw rfl rfl un83 ?_
  refine RL.move (v := (.int .i64 0)) trivial rfl rfl ?_
  refine RL.nil ?_
  refine thenQ_n ?_
  obtain ⟨o11, hN, hb⟩ := bd hb
  refine RC.range (fun (k1 : Nat) (s2 : Unit) (σ : Nat → Value) (w : World) => agree σ [(0, v0), (1, v1), (7, (.int .i64 ((p0.length : Nat) : Int))), (8, (.int .i64 ((k1 : Nat) : Int)))] ∧ Holds E w ([rd v0 p0] ++ Γ)) (fun (s2 : Unit) (σ : Nat → Value) (w : World) => agree σ [] ∧ Holds E w ([rd v0 p0] ++ Γ)) (slices_IndexFunc_PinType_K E Γ) hN ?_ ?_ ?_ ?_ ?_ 
  · exact ⟨⟨rfl, rfl, rfl, rfl, trivial⟩, hw.pick 1 [0] (new := [rd v0 p0]) rfl rfl (by decide) (by decide)⟩
  · intro hm s2 σ w hI
    obtain ⟨ha, hw⟩ := hI
    obtain ⟨τ, rfl⟩ := ha.ups
    refine RC.seq ?_
    refine RC.region ?_
    refine RL.icmp (a := ((p0.length : Nat) : Int)) (b := ((p0.length : Nat) : Int)) trivial rfl rfl rfl rfl ?_
    refine RL.nil ?_
    refine thenQ_n ?_
    refine RC.seq ?_
    refine RC.cond_f dge ?_
    refine RC.exit ?_
    refine thenQ_x ?_
    exact ⟨rfl, trivial, hw.pick 1 [0] (new := [rd v0 p0]) rfl rfl (by decide) (by decide)⟩
  · intro hm k1 s2 fl σ w hk hI hb
    obtain ⟨ha, hw⟩ := hI
    obtain ⟨τ, rfl⟩ := ha.ups
    refine RC.seq ?_
    refine RC.region ?_
    refine RL.icmp (a := ((k1 : Nat) : Int)) (b := ((p0.length : Nat) : Int)) trivial rfl rfl rfl rfl ?_
    refine RL.nil ?_
    refine thenQ_n ?_
    refine RC.seq ?_
    refine RC.cond_t (dlt hk) ?_
    refine RC.skip ?_
    refine thenQ_n ?_
    refine RC.seq ?_
    refine RC.block ?_
    refine RC.seq ?_
    refine RC.region ?_
    refine RL.move (v := (.int .i64 ((k1 : Nat) : Int))) trivial rfl rfl ?_
    refine RL.assign (v := (.int .i64 ((k1 : Nat) : Int))) trivial rfl rfl ?_
    refine RL.nil ?_
    refine thenQ_n ?_
    refine RC.seq ?_
    refine RC.region ?_
    refine RL.move (v := v1) trivial rfl rfl ?_
    refine RL.move (v := v0) trivial rfl rfl ?_
    refine RL.move (v := (.int .i64 ((k1 : Nat) : Int))) trivial rfl rfl ?_
    obtain ⟨x7, hx7, hb⟩ := bd hb
    refine RL.ia_rd (i := 0) trivial rfl hw rfl rfl rfl sl83 hx7 fun v8 hw => ?_
    refine RL.load_pt (i := 0) (x := x7) trivial rfl hw rfl rfl ty82 fun v9 hw => ?_
    obtain ⟨x10, hx10, hb⟩ := bd hb
    refine RL.callF1 (i := 0) trivial rfl hw rfl h1 3 rfl rfl rfl hx10 fun w hw => ?_
    refine RL.nil ?_
    refine thenQ_n ?_
    refine RC.cond (b := x10) rfl (fun hc => ?_) (fun hc => ?_)
    rotate_left
    · replace hb := cF hc hb
      refine RC.skip ?_
      refine blkQ_n ?_
      refine thenQ_n ?_
      refine RC.region ?_
      refine RL.inc trivial rfl hk hm rfl rfl ?_
      refine RL.move (v := (.int .i64 ((k1 + 1 : Nat) : Int))) trivial rfl rfl ?_
      refine RL.nil ?_
      injection hb with hb; subst hb
      exact ⟨rfl, ⟨rfl, rfl, rfl, rfl, trivial⟩, hw.pick 3 [2] (new := [rd v0 p0]) rfl rfl (by decide) (by decide)⟩
    replace hb := cT hc hb
    refine RC.seq ?_
    refine RC.region ?_
    refine RL.move (v := (.int .i64 ((k1 : Nat) : Int))) trivial rfl rfl ?_
    refine RL.assign (v := (.int .i64 ((k1 : Nat) : Int))) trivial rfl rfl ?_
    refine RL.nil ?_
    refine thenQ_n ?_
    refine RC.ret ?_
    refine blkQ_r ?_
    refine thenQ_r ?_
    injection hb with hb; subst hb
    exact ⟨rfl, fin1 rfl rfl ⟨rfl, hw.drop 3 rfl⟩⟩
  · intro r σ w e hK
    subst e
    refine thenQ_r ?_
    injection hb with hb; subst hb
    exact hK
  intro s2 σ w e hJ
  subst e
  rw [Fo.cs_go] at hb
  obtain ⟨ha, hw⟩ := hJ
  obtain ⟨τ, rfl⟩ := ha.ups
  refine thenQ_n ?_
  refine RC.seq ?_
  refine RC.region ?_
  refine RL.assign (v := (.int .i64 (-1))) trivial rfl rfl ?_
  refine RL.nil ?_
  refine thenQ_n ?_
  refine RC.ret ?_
  injection hb with hb; subst hb
  exact fin1 rfl rfl ⟨rfl, hw.drop 1 rfl⟩
def slices_ContainsFunc_PinType_R (E : World) (Γ : List HP) (res : Bool) (v : Value) (w : World) : Prop := v = (.bool res) ∧ Holds E w Γ
def slices_ContainsFunc_PinType_K (E : World) (Γ : List HP) (r : Bool) (σ : Nat → Value) (w : World) : Prop := finQ Tryd.prog 9 Tryd.f132 (slices_ContainsFunc_PinType_R E Γ r) .ret σ w
theorem slices_ContainsFunc_PinType_ok (N : Nat) {E w : World} {Γ : List HP} {i0 : Nat} {v0 : Value} {p0 : (List PinType)} {v1 : Value} {p1 : PinType → Option Bool} {res : Bool} (hw : Holds E w Γ) (h0 : Γ[i0]? = some (rd v0 p0)) (h1 : Fn1 Tryd.prog E Γ v1 p1 (fun (r : Bool) => Value.bool r)) (hb : slices_ContainsFunc_PinType N p0 p1 = some res) :
    Calls Tryd.prog 132 [v0, v1].toArray w (Ret (slices_ContainsFunc_PinType_R E Γ res)) := by
  unfold slices_ContainsFunc_PinType at hb
  refine enter Tryd.func132 rfl rfl (Nat.le_of_ble_eq_true rfl) ?_
  have hw := hw.dup (i := i0 + 0) h0
  refine RC.seq ?_
  refine RC.region ?_
  refine RL.assign (v := (.bool false)) trivial rfl rfl ?_
  refine RL.nil ?_
  refine thenQ_n ?_
  refine RC.seq ?_
  refine RC.region ?_
  refine RL.move (v := v0) trivial rfl rfl ?_
  refine RL.move (v := v1) trivial rfl rfl ?_
  obtain ⟨x1, hx1, hb⟩ := bd hb
  refine RL.call trivial rfl fn148 [v0, v1] rfl (Calls_ret (slices_IndexFunc_PinType_ok N  (i0 := 0) hw rfl (h1.lift 1 rfl) hx1) ?_)
  rintro _ w ⟨rfl, hw⟩
  refine RL.icmp (a := x1) (b := 0) trivial rfl rfl rfl rfl ?_
  refine RL.assign (v := (.bool (decide (x1 ≥ 0)))) trivial rfl rfl ?_
  refine RL.nil ?_
  refine thenQ_n ?_
  refine RC.ret ?_
  injection hb with hb; subst hb
  exact fin1 rfl rfl ⟨rfl, hw.drop 1 rfl⟩
def netlist_checkPins_R (E : World) (Γ : List HP) (res : Int) (v : Value) (w : World) : Prop := v = (.int .i64 res) ∧ Holds E w Γ
def netlist_checkPins_K (E : World) (Γ : List HP) (r : Int) (σ : Nat → Value) (w : World) : Prop := finQ Tryd.prog 71 Tryd.f97 (netlist_checkPins_R E Γ r) .ret σ w
theorem netlist_checkPins_ok (N : Nat) {E w : World} {Γ : List HP} {i0 : Nat} {v0 : Value} {p0 : (List PinType)} {res : Int} (hw : Holds E w Γ) (h0 : Γ[i0]? = some (rd v0 p0)) (hb : netlist_checkPins N p0 = some res) :
    Calls Tryd.prog 97 [v0].toArray w (Ret (netlist_checkPins_R E Γ res)) := by
  unfold netlist_checkPins at hb
  refine enter Tryd.func97 rfl rfl (Nat.le_of_ble_eq_true rfl) ?_
  have hw := hw.dup (i := i0 + 0) h0
  refine RC.seq ?_
  refine RC.region ?_
  refine RL.assign (v := (.int .i64 0)) trivial rfl rfl ?_
  refine RL.nil ?_
  refine thenQ_n ?_
  refine RC.seq ?_
  refine RC.seq ?_
  refine RC.region ?_
  refine RL.move (v := v0) trivial rfl rfl ?_
  refine RL.len_rd (i := 0) (l := p0) trivial rfl hw rfl rfl un83 ?_
  refine RL.icmp (a := ((p0.length : Nat) : Int)) (b := 0) trivial rfl rfl rfl rfl ?_
  refine RL.nil ?_
  refine thenQ_n ?_
  refine RC.cond (b := (((p0.length : Nat) : Int) == 0)) rfl (fun hc => ?_) (fun hc => ?_)
  · replace hb := cT hc hb
    refine RC.seq ?_
    refine RC.region ?_
    refine RL.assign (v := (.int .i64 9)) trivial rfl rfl ?_
    refine RL.nil ?_
    refine thenQ_n ?_
    refine RC.ret ?_
    refine thenQ_r ?_
    injection hb with hb; subst hb
    exact fin1 rfl rfl ⟨rfl, hw.drop 1 rfl⟩
  replace hb := cF hc hb
  refine RC.skip ?_
  refine thenQ_n ?_
  refine RC.seq ?_
  refine RC.seq ?_
  refine RC.region ?_
  refine RL.move (v := v0) trivial rfl rfl ?_
  refine RL.len_rd (i := 0) (l := p0) trivial rfl hw rfl rfl un83 ?_
  refine RL.icmp (a := ((p0.length : Nat) : Int)) (b := 200) trivial rfl rfl rfl rfl ?_
  refine RL.nil ?_
  refine thenQ_n ?_
  refine RC.cond (b := (decide (((p0.length : Nat) : Int) > 200))) rfl (fun hc => ?_) (fun hc => ?_)
  · replace hb := cT hc hb
    refine RC.seq ?_
    refine RC.region ?_
    refine RL.assign (v := (.int .i64 2)) trivial rfl rfl ?_
    refine RL.nil ?_
    refine thenQ_n ?_
    refine RC.ret ?_
    refine thenQ_r ?_
    injection hb with hb; subst hb
    exact fin1 rfl rfl ⟨rfl, hw.drop 1 rfl⟩
  replace hb := cF hc hb
  refine RC.skip ?_
  refine thenQ_n ?_
  refine RC.seq ?_
  refine RC.seq ?_
  refine RC.region ?_
  refine RL.move (v := v0) trivial rfl rfl ?_
  refine RL.len_rd (i := 0) (l := p0) trivial rfl hw rfl rfl un83 ?_
  refine RL.move (v := (.int .i64 0)) trivial rfl rfl ?_
  refine RL.nil ?_
  refine thenQ_n ?_
  obtain ⟨o238, hN, hb⟩ := bd hb
  refine RC.range (fun (k1 : Nat) (s2 : Unit) (σ : Nat → Value) (w : World) => agree σ [(0, v0), (13, v0), (14, (.int .i64 ((p0.length : Nat) : Int))), (15, (.int .i64 ((k1 : Nat) : Int)))] ∧ Holds E w ([rd v0 p0] ++ Γ)) (fun (s2 : Unit) (σ : Nat → Value) (w : World) => agree σ [(0, v0)] ∧ Holds E w ([rd v0 p0] ++ Γ)) (netlist_checkPins_K E Γ) hN ?_ ?_ ?_ ?_ ?_ 
  · exact ⟨⟨rfl, rfl, rfl, rfl, trivial⟩, hw.pick 1 [0] (new := [rd v0 p0]) rfl rfl (by decide) (by decide)⟩
  · intro hm s2 σ w hI
    obtain ⟨ha, hw⟩ := hI
    obtain ⟨τ, rfl⟩ := ha.ups
    refine RC.seq ?_
    refine RC.region ?_
    refine RL.icmp (a := ((p0.length : Nat) : Int)) (b := ((p0.length : Nat) : Int)) trivial rfl rfl rfl rfl ?_
    refine RL.nil ?_
    refine thenQ_n ?_
    refine RC.seq ?_
    refine RC.cond_f dge ?_
    refine RC.exit ?_
    refine thenQ_x ?_
    exact ⟨rfl, ⟨rfl, trivial⟩, hw.pick 1 [0] (new := [rd v0 p0]) rfl rfl (by decide) (by decide)⟩
  · intro hm k1 s2 fl σ w hk hI hb
    obtain ⟨ha, hw⟩ := hI
    obtain ⟨τ, rfl⟩ := ha.ups
    refine RC.seq ?_
    refine RC.region ?_
    refine RL.icmp (a := ((k1 : Nat) : Int)) (b := ((p0.length : Nat) : Int)) trivial rfl rfl rfl rfl ?_
    refine RL.nil ?_
    refine thenQ_n ?_
    refine RC.seq ?_
    refine RC.cond_t (dlt hk) ?_
    refine RC.skip ?_
    refine thenQ_n ?_
    refine RC.seq ?_
    refine RC.block ?_
    refine RC.seq ?_
    refine RC.region ?_
    refine RL.move (v := (.int .i64 ((k1 : Nat) : Int))) trivial rfl rfl ?_
    obtain ⟨x112, hx112, hb⟩ := bd hb
    refine RL.ia_rd (i := 0) trivial rfl hw rfl rfl rfl sl83 hx112 fun v113 hw => ?_
    refine RL.load_pt (i := 0) (x := x112) trivial rfl hw rfl rfl ty82 fun v114 hw => ?_
    refine RL.alloc trivial rfl hw ze82.z fun b115 w hw => ?_
    refine RL.assign (v := (.int .i64 ((k1 : Nat) : Int))) trivial rfl rfl ?_
    refine RL.store_raw (i := 0) (j := 1) trivial hw rfl rfl rfl rfl ty82 rfl fun w hw => ?_
    refine RL.nil ?_
    refine thenQ_n ?_
    refine RC.block ?_
    refine RC.seq ?_
    refine RC.region ?_
    refine RL.fa_b trivial rfl rfl fa82_0 ?_
    refine RL.load_bfs (i := 0) (f := (fun x => x.Name)) trivial rfl hw rfl rfl fd_PinType_0 ty9 ?_
    obtain ⟨x116, hx116, hb⟩ := bd hb
    refine RL.call trivial rfl fn96 [(str x112.Name)] rfl (Calls_ret (netlist_IsWord_ok N (p0 := x112.Name)  hw  hx116) ?_)
    rintro _ w ⟨rfl, hw⟩
    refine RL.not (b := x116) trivial rfl rfl ?_
    refine RL.assign (v := (.bool (!x116))) trivial rfl rfl ?_
    refine RL.nil ?_
    refine thenQ_n ?_
    refine RC.cond (b := (!x116)) rfl (fun hc => ?_) (fun hc => ?_)
    · replace hb := cT hc hb
      refine RC.seq ?_
      refine RC.region ?_
      refine RL.assign (v := (.int .i64 5)) trivial rfl rfl ?_
      refine RL.nil ?_
      refine thenQ_n ?_
      refine RC.ret ?_
      refine blkQ_r ?_
      refine blkQ_r ?_
      refine thenQ_r ?_
      injection hb with hb; subst hb
      exact ⟨rfl, fin1 rfl rfl ⟨rfl, hw.drop 4 rfl⟩⟩
    replace hb := cF hc hb
    refine RC.seq ?_
    refine RC.region ?_
    refine RL.fa_b trivial rfl rfl fa82_1 ?_
    refine RL.load_bfs (i := 0) (f := (fun x => x.Kind)) trivial rfl hw rfl rfl fd_PinType_1 ty3 ?_
    refine RL.icmp (a := x112.Kind) (b := 1) trivial rfl rfl rfl rfl ?_
    refine RL.move (v := (.bool (decide (x112.Kind < 1)))) trivial rfl rfl ?_
    refine RL.gs (c := true) (b := (decide (x112.Kind < 1))) (v := (.pointer (some ⟨b115, 1, none⟩))) rfl rfl rfl (gs_fa_b rfl (fun _ => rfl) fa82_1) ?_
    refine RL.gs (c := true) (b := (decide (x112.Kind < 1))) (v := (.int .i64 x112.Kind)) rfl rfl rfl (gs_load_bfs (i := 0) (f := (fun x => x.Kind)) rfl hw (fun h => by exact (cv_t h : cv (true && ((decide (x112.Kind < 1)) == false)) (.pointer (some ⟨b115, 1, none⟩)) = (.pointer (some ⟨b115, 1, none⟩)))) rfl fd_PinType_1 ty3) ?_
    refine RL.gs (c := true) (b := (decide (x112.Kind < 1))) (v := (.bool (decide (x112.Kind > 7)))) rfl rfl rfl (gs_icmp (bop := .gtr) (K := .i64) (a := x112.Kind) (b := 7) rfl (fun h => by exact (cv_t h : cv (true && ((decide (x112.Kind < 1)) == false)) (.int .i64 x112.Kind) = (.int .i64 x112.Kind))) (fun _ => rfl) rfl) ?_
    refine RL.pick (b := (decide (x112.Kind < 1))) (v := (.bool ((decide (x112.Kind < 1)) || (decide (x112.Kind > 7))))) trivial rfl rfl (pk_or (c := true) rfl) ?_
    refine RL.assign (v := (.bool ((decide (x112.Kind < 1)) || (decide (x112.Kind > 7))))) trivial rfl rfl ?_
    refine RL.nil ?_
    refine thenQ_n ?_
    refine RC.cond (b := ((decide (x112.Kind < 1)) || (decide (x112.Kind > 7)))) rfl (fun hc => ?_) (fun hc => ?_)
    · replace hb := cT hc hb
      refine RC.seq ?_
      refine RC.region ?_
      refine RL.assign (v := (.int .i64 4)) trivial rfl rfl ?_
      refine RL.nil ?_
      refine thenQ_n ?_
      refine RC.ret ?_
      refine blkQ_r ?_
      refine blkQ_r ?_
      refine thenQ_r ?_
      injection hb with hb; subst hb
      exact ⟨rfl, fin1 rfl rfl ⟨rfl, hw.drop 4 rfl⟩⟩
    replace hb := cF hc hb
    refine RC.seq ?_
    refine RC.region ?_
    refine RL.fa_b trivial rfl rfl fa82_2 ?_
    refine RL.load_bfs (i := 0) (f := (fun x => x.Group)) trivial rfl hw rfl rfl fd_PinType_2 ty3 ?_
    refine RL.icmp (a := x112.Group) (b := 0) trivial rfl rfl rfl rfl ?_
    refine RL.move (v := (.bool (decide (x112.Group < 0)))) trivial rfl rfl ?_
    refine RL.gs (c := true) (b := (decide (x112.Group < 0))) (v := (.pointer (some ⟨b115, 2, none⟩))) rfl rfl rfl (gs_fa_b rfl (fun _ => rfl) fa82_2) ?_
    refine RL.gs (c := true) (b := (decide (x112.Group < 0))) (v := (.int .i64 x112.Group)) rfl rfl rfl (gs_load_bfs (i := 0) (f := (fun x => x.Group)) rfl hw (fun h => by exact (cv_t h : cv (true && ((decide (x112.Group < 0)) == false)) (.pointer (some ⟨b115, 2, none⟩)) = (.pointer (some ⟨b115, 2, none⟩)))) rfl fd_PinType_2 ty3) ?_
    refine RL.gs (c := true) (b := (decide (x112.Group < 0))) (v := (.bool (decide (x112.Group > 200)))) rfl rfl rfl (gs_icmp (bop := .gtr) (K := .i64) (a := x112.Group) (b := 200) rfl (fun h => by exact (cv_t h : cv (true && ((decide (x112.Group < 0)) == false)) (.int .i64 x112.Group) = (.int .i64 x112.Group))) (fun _ => rfl) rfl) ?_
    refine RL.pick (b := (decide (x112.Group < 0))) (v := (.bool ((decide (x112.Group < 0)) || (decide (x112.Group > 200))))) trivial rfl rfl (pk_or (c := true) rfl) ?_
    refine RL.assign (v := (.bool ((decide (x112.Group < 0)) || (decide (x112.Group > 200))))) trivial rfl rfl ?_
    refine RL.nil ?_
    refine thenQ_n ?_
    refine RC.cond (b := ((decide (x112.Group < 0)) || (decide (x112.Group > 200)))) rfl (fun hc => ?_) (fun hc => ?_)
    · replace hb := cT hc hb
      refine RC.seq ?_
      refine RC.region ?_
      refine RL.assign (v := (.int .i64 1)) trivial rfl rfl ?_
      refine RL.nil ?_
      refine thenQ_n ?_
      refine RC.ret ?_
      refine blkQ_r ?_
      refine blkQ_r ?_
      refine thenQ_r ?_
      injection hb with hb; subst hb
      exact ⟨rfl, fin1 rfl rfl ⟨rfl, hw.drop 4 rfl⟩⟩
    replace hb := cF hc hb
    refine RC.seq ?_
    obtain ⟨s214, hj, hb⟩ := bd hb
    refine RC.jn (fun (s214 : Bool) (σ : Nat → Value) (w : World) => agree σ [(0, v0), (13, v0), (14, (.int .i64 ((p0.length : Nat) : Int))), (15, (.int .i64 ((k1 : Nat) : Int))), (43, (.bool s214))] ∧ Holds E w ([rd v0 p0] ++ Γ)) s214 ?_ ?_
    · rcases Bool.eq_false_or_eq_true (decide (((k1 : Nat) : Int) > 0)) with hg215 | hg215
      rotate_left
      · replace hj := cF hg215 hj
        refine RC.draw mixed rfl (fun (D : Nat → Bool) (σ : Nat → Value) (w : World) => doneV D σ [(0, 44, (.int .i64 ((k1 : Nat) : Int))), (1, 45, (.bool (decide (((k1 : Nat) : Int) > 0)))), (2, 46, (.bool (decide (((k1 : Nat) : Int) > 0)))), (3, 47, undef), (4, 48, undef), (5, 49, undef), (6, 50, undef), (7, 51, undef), (8, 52, undef), (9, 53, undef), (10, 54, undef), (11, 55, undef), (12, 56, (.bool false)), (13, 43, (.bool false))] ∧ agree σ [(0, v0), (3, (.int .i64 ((k1 : Nat) : Int))), (4, (.pointer (some ⟨b115, 0, none⟩))), (13, v0), (14, (.int .i64 ((p0.length : Nat) : Int))), (15, (.int .i64 ((k1 : Nat) : Int)))] ∧ Holds E w ([bx 82 b115 x112, rd v114 x112, pt v113 x112, rd v0 p0] ++ Γ)) ?_ ⟨?_, ?_, ?_, ?_, ?_, ?_, ?_, ?_, ?_, ?_, ?_, ?_, ?_, ?_, trivial⟩ ?_
        · have hw := hw.drew
          exact ⟨⟨(fun h => by cases h), (fun h => by cases h), (fun h => by cases h), (fun h => by cases h), (fun h => by cases h), (fun h => by cases h), (fun h => by cases h), (fun h => by cases h), (fun h => by cases h), (fun h => by cases h), (fun h => by cases h), (fun h => by cases h), (fun h => by cases h), (fun h => by cases h), trivial⟩, ⟨rfl, rfl, rfl, rfl, rfl, rfl, trivial⟩, hw⟩
        · intro D σ w hD hdep hJ
          obtain ⟨hv, ha, hw⟩ := hJ
          have ha2 : agree σ [(0, v0), (3, (.int .i64 ((k1 : Nat) : Int))), (4, (.pointer (some ⟨b115, 0, none⟩))), (13, v0), (14, (.int .i64 ((p0.length : Nat) : Int))), (15, (.int .i64 ((k1 : Nat) : Int)))] := ⟨ha.1, ha.2.1, ha.2.2.1, ha.2.2.2.1, ha.2.2.2.2.1, ha.2.2.2.2.2.1, trivial⟩
          obtain ⟨τ, rfl⟩ := ha2.ups
          refine RL.move (v := (.int .i64 ((k1 : Nat) : Int))) trivial rfl rfl ?_
          refine RL.nil ?_
          exact ⟨rfl, ⟨fun _ => rfl, hv.2.1, hv.2.2.1, hv.2.2.2.1, hv.2.2.2.2.1, hv.2.2.2.2.2.1, hv.2.2.2.2.2.2.1, hv.2.2.2.2.2.2.2.1, hv.2.2.2.2.2.2.2.2.1, hv.2.2.2.2.2.2.2.2.2.1, hv.2.2.2.2.2.2.2.2.2.2.1, hv.2.2.2.2.2.2.2.2.2.2.2.1, hv.2.2.2.2.2.2.2.2.2.2.2.2.1, hv.2.2.2.2.2.2.2.2.2.2.2.2.2.1, trivial⟩, ha, hw⟩
        · intro D σ w hD hdep hJ
          obtain ⟨hv, ha, hw⟩ := hJ
          have ha2 : agree σ [(44, (.int .i64 ((k1 : Nat) : Int))), (0, v0), (3, (.int .i64 ((k1 : Nat) : Int))), (4, (.pointer (some ⟨b115, 0, none⟩))), (13, v0), (14, (.int .i64 ((p0.length : Nat) : Int))), (15, (.int .i64 ((k1 : Nat) : Int)))] := ⟨hv.1 (hdep.1 rfl), ha.1, ha.2.1, ha.2.2.1, ha.2.2.2.1, ha.2.2.2.2.1, ha.2.2.2.2.2.1, trivial⟩
          obtain ⟨τ, rfl⟩ := ha2.ups
          refine RL.icmp (a := ((k1 : Nat) : Int)) (b := 0) trivial rfl rfl rfl rfl ?_
          refine RL.nil ?_
          exact ⟨rfl, ⟨hv.1, fun _ => rfl, hv.2.2.1, hv.2.2.2.1, hv.2.2.2.2.1, hv.2.2.2.2.2.1, hv.2.2.2.2.2.2.1, hv.2.2.2.2.2.2.2.1, hv.2.2.2.2.2.2.2.2.1, hv.2.2.2.2.2.2.2.2.2.1, hv.2.2.2.2.2.2.2.2.2.2.1, hv.2.2.2.2.2.2.2.2.2.2.2.1, hv.2.2.2.2.2.2.2.2.2.2.2.2.1, hv.2.2.2.2.2.2.2.2.2.2.2.2.2.1, trivial⟩, ha, hw⟩
        · intro D σ w hD hdep hJ
          obtain ⟨hv, ha, hw⟩ := hJ
          have ha2 : agree σ [(45, (.bool (decide (((k1 : Nat) : Int) > 0)))), (0, v0), (3, (.int .i64 ((k1 : Nat) : Int))), (4, (.pointer (some ⟨b115, 0, none⟩))), (13, v0), (14, (.int .i64 ((p0.length : Nat) : Int))), (15, (.int .i64 ((k1 : Nat) : Int)))] := ⟨hv.2.1 (hdep.1 rfl), ha.1, ha.2.1, ha.2.2.1, ha.2.2.2.1, ha.2.2.2.2.1, ha.2.2.2.2.2.1, trivial⟩
          obtain ⟨τ, rfl⟩ := ha2.ups
          refine RL.move (v := (.bool (decide (((k1 : Nat) : Int) > 0)))) trivial rfl rfl ?_
          refine RL.nil ?_
          exact ⟨rfl, ⟨hv.1, hv.2.1, fun _ => rfl, hv.2.2.2.1, hv.2.2.2.2.1, hv.2.2.2.2.2.1, hv.2.2.2.2.2.2.1, hv.2.2.2.2.2.2.2.1, hv.2.2.2.2.2.2.2.2.1, hv.2.2.2.2.2.2.2.2.2.1, hv.2.2.2.2.2.2.2.2.2.2.1, hv.2.2.2.2.2.2.2.2.2.2.2.1, hv.2.2.2.2.2.2.2.2.2.2.2.2.1, hv.2.2.2.2.2.2.2.2.2.2.2.2.2.1, trivial⟩, ha, hw⟩
        · intro D σ w hD hdep hJ
          obtain ⟨hv, ha, hw⟩ := hJ
          have ha2 : agree σ [(46, (.bool (decide (((k1 : Nat) : Int) > 0)))), (0, v0), (3, (.int .i64 ((k1 : Nat) : Int))), (4, (.pointer (some ⟨b115, 0, none⟩))), (13, v0), (14, (.int .i64 ((p0.length : Nat) : Int))), (15, (.int .i64 ((k1 : Nat) : Int)))] := ⟨hv.2.2.1 (hdep.1 rfl), ha.1, ha.2.1, ha.2.2.1, ha.2.2.2.1, ha.2.2.2.2.1, ha.2.2.2.2.2.1, trivial⟩
          obtain ⟨τ, rfl⟩ := ha2.ups
          refine RL.skip rfl (.inl (congrArg Value.bool hg215)) rfl ?_
          refine RL.nil ?_
          exact ⟨rfl, ⟨hv.1, hv.2.1, hv.2.2.1, fun _ => rfl, hv.2.2.2.2.1, hv.2.2.2.2.2.1, hv.2.2.2.2.2.2.1, hv.2.2.2.2.2.2.2.1, hv.2.2.2.2.2.2.2.2.1, hv.2.2.2.2.2.2.2.2.2.1, hv.2.2.2.2.2.2.2.2.2.2.1, hv.2.2.2.2.2.2.2.2.2.2.2.1, hv.2.2.2.2.2.2.2.2.2.2.2.2.1, hv.2.2.2.2.2.2.2.2.2.2.2.2.2.1, trivial⟩, ha, hw⟩
        · intro D σ w hD hdep hJ
          obtain ⟨hv, ha, hw⟩ := hJ
          have ha2 : agree σ [(47, undef), (46, (.bool (decide (((k1 : Nat) : Int) > 0)))), (0, v0), (3, (.int .i64 ((k1 : Nat) : Int))), (4, (.pointer (some ⟨b115, 0, none⟩))), (13, v0), (14, (.int .i64 ((p0.length : Nat) : Int))), (15, (.int .i64 ((k1 : Nat) : Int)))] := ⟨hv.2.2.2.1 (hdep.1 rfl), hv.2.2.1 (hdep.2.1 rfl), ha.1, ha.2.1, ha.2.2.1, ha.2.2.2.1, ha.2.2.2.2.1, ha.2.2.2.2.2.1, trivial⟩
          obtain ⟨τ, rfl⟩ := ha2.ups
          refine RL.skip rfl (.inl (congrArg Value.bool hg215)) rfl ?_
          refine RL.nil ?_
          exact ⟨rfl, ⟨hv.1, hv.2.1, hv.2.2.1, hv.2.2.2.1, fun _ => rfl, hv.2.2.2.2.2.1, hv.2.2.2.2.2.2.1, hv.2.2.2.2.2.2.2.1, hv.2.2.2.2.2.2.2.2.1, hv.2.2.2.2.2.2.2.2.2.1, hv.2.2.2.2.2.2.2.2.2.2.1, hv.2.2.2.2.2.2.2.2.2.2.2.1, hv.2.2.2.2.2.2.2.2.2.2.2.2.1, hv.2.2.2.2.2.2.2.2.2.2.2.2.2.1, trivial⟩, ha, hw⟩
        · intro D σ w hD hdep hJ
          obtain ⟨hv, ha, hw⟩ := hJ
          have ha2 : agree σ [(46, (.bool (decide (((k1 : Nat) : Int) > 0)))), (0, v0), (3, (.int .i64 ((k1 : Nat) : Int))), (4, (.pointer (some ⟨b115, 0, none⟩))), (13, v0), (14, (.int .i64 ((p0.length : Nat) : Int))), (15, (.int .i64 ((k1 : Nat) : Int)))] := ⟨hv.2.2.1 (hdep.1 rfl), ha.1, ha.2.1, ha.2.2.1, ha.2.2.2.1, ha.2.2.2.2.1, ha.2.2.2.2.2.1, trivial⟩
          obtain ⟨τ, rfl⟩ := ha2.ups
          refine RL.skip rfl (.inl (congrArg Value.bool hg215)) rfl ?_
          refine RL.nil ?_
          exact ⟨rfl, ⟨hv.1, hv.2.1, hv.2.2.1, hv.2.2.2.1, hv.2.2.2.2.1, fun _ => rfl, hv.2.2.2.2.2.2.1, hv.2.2.2.2.2.2.2.1, hv.2.2.2.2.2.2.2.2.1, hv.2.2.2.2.2.2.2.2.2.1, hv.2.2.2.2.2.2.2.2.2.2.1, hv.2.2.2.2.2.2.2.2.2.2.2.1, hv.2.2.2.2.2.2.2.2.2.2.2.2.1, hv.2.2.2.2.2.2.2.2.2.2.2.2.2.1, trivial⟩, ha, hw⟩
        · intro D σ w hD hdep hJ
          obtain ⟨hv, ha, hw⟩ := hJ
          have ha2 : agree σ [(46, (.bool (decide (((k1 : Nat) : Int) > 0)))), (0, v0), (3, (.int .i64 ((k1 : Nat) : Int))), (4, (.pointer (some ⟨b115, 0, none⟩))), (13, v0), (14, (.int .i64 ((p0.length : Nat) : Int))), (15, (.int .i64 ((k1 : Nat) : Int)))] := ⟨hv.2.2.1 (hdep.1 rfl), ha.1, ha.2.1, ha.2.2.1, ha.2.2.2.1, ha.2.2.2.2.1, ha.2.2.2.2.2.1, trivial⟩
          obtain ⟨τ, rfl⟩ := ha2.ups
          refine RL.skip rfl (.inl (congrArg Value.bool hg215)) rfl ?_
          refine RL.nil ?_
          exact ⟨rfl, ⟨hv.1, hv.2.1, hv.2.2.1, hv.2.2.2.1, hv.2.2.2.2.1, hv.2.2.2.2.2.1, fun _ => rfl, hv.2.2.2.2.2.2.2.1, hv.2.2.2.2.2.2.2.2.1, hv.2.2.2.2.2.2.2.2.2.1, hv.2.2.2.2.2.2.2.2.2.2.1, hv.2.2.2.2.2.2.2.2.2.2.2.1, hv.2.2.2.2.2.2.2.2.2.2.2.2.1, hv.2.2.2.2.2.2.2.2.2.2.2.2.2.1, trivial⟩, ha, hw⟩
        · intro D σ w hD hdep hJ
          obtain ⟨hv, ha, hw⟩ := hJ
          have ha2 : agree σ [(50, undef), (46, (.bool (decide (((k1 : Nat) : Int) > 0)))), (0, v0), (3, (.int .i64 ((k1 : Nat) : Int))), (4, (.pointer (some ⟨b115, 0, none⟩))), (13, v0), (14, (.int .i64 ((p0.length : Nat) : Int))), (15, (.int .i64 ((k1 : Nat) : Int)))] := ⟨hv.2.2.2.2.2.2.1 (hdep.1 rfl), hv.2.2.1 (hdep.2.1 rfl), ha.1, ha.2.1, ha.2.2.1, ha.2.2.2.1, ha.2.2.2.2.1, ha.2.2.2.2.2.1, trivial⟩
          obtain ⟨τ, rfl⟩ := ha2.ups
          refine RL.skip rfl (.inl (congrArg Value.bool hg215)) rfl ?_
          refine RL.nil ?_
          exact ⟨rfl, ⟨hv.1, hv.2.1, hv.2.2.1, hv.2.2.2.1, hv.2.2.2.2.1, hv.2.2.2.2.2.1, hv.2.2.2.2.2.2.1, fun _ => rfl, hv.2.2.2.2.2.2.2.2.1, hv.2.2.2.2.2.2.2.2.2.1, hv.2.2.2.2.2.2.2.2.2.2.1, hv.2.2.2.2.2.2.2.2.2.2.2.1, hv.2.2.2.2.2.2.2.2.2.2.2.2.1, hv.2.2.2.2.2.2.2.2.2.2.2.2.2.1, trivial⟩, ha, hw⟩
        · intro D σ w hD hdep hJ
          obtain ⟨hv, ha, hw⟩ := hJ
          have ha2 : agree σ [(49, undef), (51, undef), (46, (.bool (decide (((k1 : Nat) : Int) > 0)))), (0, v0), (3, (.int .i64 ((k1 : Nat) : Int))), (4, (.pointer (some ⟨b115, 0, none⟩))), (13, v0), (14, (.int .i64 ((p0.length : Nat) : Int))), (15, (.int .i64 ((k1 : Nat) : Int)))] := ⟨hv.2.2.2.2.2.1 (hdep.1 rfl), hv.2.2.2.2.2.2.2.1 (hdep.2.1 rfl), hv.2.2.1 (hdep.2.2.1 rfl), ha.1, ha.2.1, ha.2.2.1, ha.2.2.2.1, ha.2.2.2.2.1, ha.2.2.2.2.2.1, trivial⟩
          obtain ⟨τ, rfl⟩ := ha2.ups
          refine RL.skip rfl (.inl (congrArg Value.bool hg215)) rfl ?_
          refine RL.nil ?_
          exact ⟨rfl, ⟨hv.1, hv.2.1, hv.2.2.1, hv.2.2.2.1, hv.2.2.2.2.1, hv.2.2.2.2.2.1, hv.2.2.2.2.2.2.1, hv.2.2.2.2.2.2.2.1, fun _ => rfl, hv.2.2.2.2.2.2.2.2.2.1, hv.2.2.2.2.2.2.2.2.2.2.1, hv.2.2.2.2.2.2.2.2.2.2.2.1, hv.2.2.2.2.2.2.2.2.2.2.2.2.1, hv.2.2.2.2.2.2.2.2.2.2.2.2.2.1, trivial⟩, ha, hw⟩
        · intro D σ w hD hdep hJ
          obtain ⟨hv, ha, hw⟩ := hJ
          have ha2 : agree σ [(52, undef), (46, (.bool (decide (((k1 : Nat) : Int) > 0)))), (0, v0), (3, (.int .i64 ((k1 : Nat) : Int))), (4, (.pointer (some ⟨b115, 0, none⟩))), (13, v0), (14, (.int .i64 ((p0.length : Nat) : Int))), (15, (.int .i64 ((k1 : Nat) : Int)))] := ⟨hv.2.2.2.2.2.2.2.2.1 (hdep.1 rfl), hv.2.2.1 (hdep.2.1 rfl), ha.1, ha.2.1, ha.2.2.1, ha.2.2.2.1, ha.2.2.2.2.1, ha.2.2.2.2.2.1, trivial⟩
          obtain ⟨τ, rfl⟩ := ha2.ups
          refine RL.skip rfl (.inl (congrArg Value.bool hg215)) rfl ?_
          refine RL.nil ?_
          exact ⟨rfl, ⟨hv.1, hv.2.1, hv.2.2.1, hv.2.2.2.1, hv.2.2.2.2.1, hv.2.2.2.2.2.1, hv.2.2.2.2.2.2.1, hv.2.2.2.2.2.2.2.1, hv.2.2.2.2.2.2.2.2.1, fun _ => rfl, hv.2.2.2.2.2.2.2.2.2.2.1, hv.2.2.2.2.2.2.2.2.2.2.2.1, hv.2.2.2.2.2.2.2.2.2.2.2.2.1, hv.2.2.2.2.2.2.2.2.2.2.2.2.2.1, trivial⟩, ha, hw⟩
        · intro D σ w hD hdep hJ
          obtain ⟨hv, ha, hw⟩ := hJ
          have ha2 : agree σ [(53, undef), (46, (.bool (decide (((k1 : Nat) : Int) > 0)))), (0, v0), (3, (.int .i64 ((k1 : Nat) : Int))), (4, (.pointer (some ⟨b115, 0, none⟩))), (13, v0), (14, (.int .i64 ((p0.length : Nat) : Int))), (15, (.int .i64 ((k1 : Nat) : Int)))] := ⟨hv.2.2.2.2.2.2.2.2.2.1 (hdep.1 rfl), hv.2.2.1 (hdep.2.1 rfl), ha.1, ha.2.1, ha.2.2.1, ha.2.2.2.1, ha.2.2.2.2.1, ha.2.2.2.2.2.1, trivial⟩
          obtain ⟨τ, rfl⟩ := ha2.ups
          refine RL.skip rfl (.inl (congrArg Value.bool hg215)) rfl ?_
          refine RL.nil ?_
          exact ⟨rfl, ⟨hv.1, hv.2.1, hv.2.2.1, hv.2.2.2.1, hv.2.2.2.2.1, hv.2.2.2.2.2.1, hv.2.2.2.2.2.2.1, hv.2.2.2.2.2.2.2.1, hv.2.2.2.2.2.2.2.2.1, hv.2.2.2.2.2.2.2.2.2.1, fun _ => rfl, hv.2.2.2.2.2.2.2.2.2.2.2.1, hv.2.2.2.2.2.2.2.2.2.2.2.2.1, hv.2.2.2.2.2.2.2.2.2.2.2.2.2.1, trivial⟩, ha, hw⟩
        · intro D σ w hD hdep hJ
          obtain ⟨hv, ha, hw⟩ := hJ
          have ha2 : agree σ [(48, undef), (54, undef), (46, (.bool (decide (((k1 : Nat) : Int) > 0)))), (0, v0), (3, (.int .i64 ((k1 : Nat) : Int))), (4, (.pointer (some ⟨b115, 0, none⟩))), (13, v0), (14, (.int .i64 ((p0.length : Nat) : Int))), (15, (.int .i64 ((k1 : Nat) : Int)))] := ⟨hv.2.2.2.2.1 (hdep.1 rfl), hv.2.2.2.2.2.2.2.2.2.2.1 (hdep.2.1 rfl), hv.2.2.1 (hdep.2.2.1 rfl), ha.1, ha.2.1, ha.2.2.1, ha.2.2.2.1, ha.2.2.2.2.1, ha.2.2.2.2.2.1, trivial⟩
          obtain ⟨τ, rfl⟩ := ha2.ups
          refine RL.skip rfl (.inl (congrArg Value.bool hg215)) rfl ?_
          refine RL.nil ?_
          exact ⟨rfl, ⟨hv.1, hv.2.1, hv.2.2.1, hv.2.2.2.1, hv.2.2.2.2.1, hv.2.2.2.2.2.1, hv.2.2.2.2.2.2.1, hv.2.2.2.2.2.2.2.1, hv.2.2.2.2.2.2.2.2.1, hv.2.2.2.2.2.2.2.2.2.1, hv.2.2.2.2.2.2.2.2.2.2.1, fun _ => rfl, hv.2.2.2.2.2.2.2.2.2.2.2.2.1, hv.2.2.2.2.2.2.2.2.2.2.2.2.2.1, trivial⟩, ha, hw⟩
        · intro D σ w hD hdep hJ
          obtain ⟨hv, ha, hw⟩ := hJ
          have ha2 : agree σ [(46, (.bool (decide (((k1 : Nat) : Int) > 0)))), (55, undef), (0, v0), (3, (.int .i64 ((k1 : Nat) : Int))), (4, (.pointer (some ⟨b115, 0, none⟩))), (13, v0), (14, (.int .i64 ((p0.length : Nat) : Int))), (15, (.int .i64 ((k1 : Nat) : Int)))] := ⟨hv.2.2.1 (hdep.1 rfl), hv.2.2.2.2.2.2.2.2.2.2.2.1 (hdep.2.1 rfl), ha.1, ha.2.1, ha.2.2.1, ha.2.2.2.1, ha.2.2.2.2.1, ha.2.2.2.2.2.1, trivial⟩
          obtain ⟨τ, rfl⟩ := ha2.ups
          refine RL.pick (b := (decide (((k1 : Nat) : Int) > 0))) (v := (.bool false)) trivial rfl rfl (by rw [hg215]; rfl) ?_
          refine RL.nil ?_
          exact ⟨rfl, ⟨hv.1, hv.2.1, hv.2.2.1, hv.2.2.2.1, hv.2.2.2.2.1, hv.2.2.2.2.2.1, hv.2.2.2.2.2.2.1, hv.2.2.2.2.2.2.2.1, hv.2.2.2.2.2.2.2.2.1, hv.2.2.2.2.2.2.2.2.2.1, hv.2.2.2.2.2.2.2.2.2.2.1, hv.2.2.2.2.2.2.2.2.2.2.2.1, fun _ => rfl, hv.2.2.2.2.2.2.2.2.2.2.2.2.2.1, trivial⟩, ha, hw⟩
        · intro D σ w hD hdep hJ
          obtain ⟨hv, ha, hw⟩ := hJ
          have ha2 : agree σ [(56, (.bool false)), (46, (.bool (decide (((k1 : Nat) : Int) > 0)))), (0, v0), (3, (.int .i64 ((k1 : Nat) : Int))), (4, (.pointer (some ⟨b115, 0, none⟩))), (13, v0), (14, (.int .i64 ((p0.length : Nat) : Int))), (15, (.int .i64 ((k1 : Nat) : Int)))] := ⟨hv.2.2.2.2.2.2.2.2.2.2.2.2.1 (hdep.1 rfl), hv.2.2.1 (hdep.2.1 rfl), ha.1, ha.2.1, ha.2.2.1, ha.2.2.2.1, ha.2.2.2.2.1, ha.2.2.2.2.2.1, trivial⟩
          obtain ⟨τ, rfl⟩ := ha2.ups
          refine RL.assign (v := (.bool false)) trivial rfl rfl ?_
          refine RL.nil ?_
          exact ⟨rfl, ⟨hv.1, hv.2.1, hv.2.2.1, hv.2.2.2.1, hv.2.2.2.2.1, hv.2.2.2.2.2.1, hv.2.2.2.2.2.2.1, hv.2.2.2.2.2.2.2.1, hv.2.2.2.2.2.2.2.2.1, hv.2.2.2.2.2.2.2.2.2.1, hv.2.2.2.2.2.2.2.2.2.2.1, hv.2.2.2.2.2.2.2.2.2.2.2.1, hv.2.2.2.2.2.2.2.2.2.2.2.2.1, fun _ => rfl, trivial⟩, ha, hw⟩
        intro D σ w hall hJ
        obtain ⟨hv, ha, hw⟩ := hJ
        have ha2 : agree σ [(43, (.bool false)), (0, v0), (3, (.int .i64 ((k1 : Nat) : Int))), (4, (.pointer (some ⟨b115, 0, none⟩))), (13, v0), (14, (.int .i64 ((p0.length : Nat) : Int))), (15, (.int .i64 ((k1 : Nat) : Int)))] := ⟨hv.2.2.2.2.2.2.2.2.2.2.2.2.2.1 (hall 13 (by decide)), ha.1, ha.2.1, ha.2.2.1, ha.2.2.2.1, ha.2.2.2.2.1, ha.2.2.2.2.2.1, trivial⟩
        obtain ⟨τ, rfl⟩ := ha2.ups
        injection hj with hj; subst hj
        exact ⟨rfl, ⟨rfl, rfl, rfl, rfl, rfl, trivial⟩, hw.pick 4 [3] (new := [rd v0 p0]) rfl rfl (by decide) (by decide)⟩
      replace hj := cT hg215 hj
      obtain ⟨x216, hx216, hj⟩ := bd hj
      refine RC.draw mixed rfl (fun (D : Nat → Bool) (σ : Nat → Value) (w : World) => ∃ v217 v218 : Value, doneV D σ [(0, 44, (.int .i64 ((k1 : Nat) : Int))), (1, 45, (.bool (decide (((k1 : Nat) : Int) > 0)))), (2, 46, (.bool (decide (((k1 : Nat) : Int) > 0)))), (3, 47, (.pointer (some ⟨b115, 0, none⟩))), (4, 48, (str x112.Name)), (5, 49, v0), (6, 50, (.int .i64 ((k1 : Nat) : Int))), (7, 51, (.int .i64 (IntKind.wrap .i64 (((k1 : Nat) : Int) - 1)))), (8, 52, v217), (9, 53, v218), (10, 54, (str x216.Name)), (11, 55, (.bool (x112.Name.ltb x216.Name || x112.Name.eqb x216.Name))), (12, 56, (.bool (x112.Name.ltb x216.Name || x112.Name.eqb x216.Name))), (13, 43, (.bool (x112.Name.ltb x216.Name || x112.Name.eqb x216.Name)))] ∧ agree σ [(0, v0), (3, (.int .i64 ((k1 : Nat) : Int))), (4, (.pointer (some ⟨b115, 0, none⟩))), (13, v0), (14, (.int .i64 ((p0.length : Nat) : Int))), (15, (.int .i64 ((k1 : Nat) : Int)))] ∧ Holds E w ([bif D 8 then (pt v217 x216) else junk, bif D 9 then (pt v218 x216.Name) else junk, bx 82 b115 x112, rd v114 x112, pt v113 x112, rd v0 p0] ++ Γ)) ?_ ⟨?_, ?_, ?_, ?_, ?_, ?_, ?_, ?_, ?_, ?_, ?_, ?_, ?_, ?_, trivial⟩ ?_
      · have hw := hw.drew
        have hw := hw.junk
        have hw := hw.junk
        exact ⟨undef, undef, ⟨(fun h => by cases h), (fun h => by cases h), (fun h => by cases h), (fun h => by cases h), (fun h => by cases h), (fun h => by cases h), (fun h => by cases h), (fun h => by cases h), (fun h => by cases h), (fun h => by cases h), (fun h => by cases h), (fun h => by cases h), (fun h => by cases h), (fun h => by cases h), trivial⟩, ⟨rfl, rfl, rfl, rfl, rfl, rfl, trivial⟩, hw⟩
      · intro D σ w hD hdep hJ
        obtain ⟨v217, v218, hv, ha, hw⟩ := hJ
        have ha2 : agree σ [(0, v0), (3, (.int .i64 ((k1 : Nat) : Int))), (4, (.pointer (some ⟨b115, 0, none⟩))), (13, v0), (14, (.int .i64 ((p0.length : Nat) : Int))), (15, (.int .i64 ((k1 : Nat) : Int)))] := ⟨ha.1, ha.2.1, ha.2.2.1, ha.2.2.2.1, ha.2.2.2.2.1, ha.2.2.2.2.2.1, trivial⟩
        obtain ⟨τ, rfl⟩ := ha2.ups
        refine RL.move (v := (.int .i64 ((k1 : Nat) : Int))) trivial rfl rfl ?_
        refine RL.nil ?_
        exact ⟨rfl, v217, v218, ⟨fun _ => rfl, hv.2.1, hv.2.2.1, hv.2.2.2.1, hv.2.2.2.2.1, hv.2.2.2.2.2.1, hv.2.2.2.2.2.2.1, hv.2.2.2.2.2.2.2.1, hv.2.2.2.2.2.2.2.2.1, hv.2.2.2.2.2.2.2.2.2.1, hv.2.2.2.2.2.2.2.2.2.2.1, hv.2.2.2.2.2.2.2.2.2.2.2.1, hv.2.2.2.2.2.2.2.2.2.2.2.2.1, hv.2.2.2.2.2.2.2.2.2.2.2.2.2.1, trivial⟩, ha, hw⟩
      · intro D σ w hD hdep hJ
        obtain ⟨v217, v218, hv, ha, hw⟩ := hJ
        have ha2 : agree σ [(44, (.int .i64 ((k1 : Nat) : Int))), (0, v0), (3, (.int .i64 ((k1 : Nat) : Int))), (4, (.pointer (some ⟨b115, 0, none⟩))), (13, v0), (14, (.int .i64 ((p0.length : Nat) : Int))), (15, (.int .i64 ((k1 : Nat) : Int)))] := ⟨hv.1 (hdep.1 rfl), ha.1, ha.2.1, ha.2.2.1, ha.2.2.2.1, ha.2.2.2.2.1, ha.2.2.2.2.2.1, trivial⟩
        obtain ⟨τ, rfl⟩ := ha2.ups
        refine RL.icmp (a := ((k1 : Nat) : Int)) (b := 0) trivial rfl rfl rfl rfl ?_
        refine RL.nil ?_
        exact ⟨rfl, v217, v218, ⟨hv.1, fun _ => rfl, hv.2.2.1, hv.2.2.2.1, hv.2.2.2.2.1, hv.2.2.2.2.2.1, hv.2.2.2.2.2.2.1, hv.2.2.2.2.2.2.2.1, hv.2.2.2.2.2.2.2.2.1, hv.2.2.2.2.2.2.2.2.2.1, hv.2.2.2.2.2.2.2.2.2.2.1, hv.2.2.2.2.2.2.2.2.2.2.2.1, hv.2.2.2.2.2.2.2.2.2.2.2.2.1, hv.2.2.2.2.2.2.2.2.2.2.2.2.2.1, trivial⟩, ha, hw⟩
      · intro D σ w hD hdep hJ
        obtain ⟨v217, v218, hv, ha, hw⟩ := hJ
        have ha2 : agree σ [(45, (.bool (decide (((k1 : Nat) : Int) > 0)))), (0, v0), (3, (.int .i64 ((k1 : Nat) : Int))), (4, (.pointer (some ⟨b115, 0, none⟩))), (13, v0), (14, (.int .i64 ((p0.length : Nat) : Int))), (15, (.int .i64 ((k1 : Nat) : Int)))] := ⟨hv.2.1 (hdep.1 rfl), ha.1, ha.2.1, ha.2.2.1, ha.2.2.2.1, ha.2.2.2.2.1, ha.2.2.2.2.2.1, trivial⟩
        obtain ⟨τ, rfl⟩ := ha2.ups
        refine RL.move (v := (.bool (decide (((k1 : Nat) : Int) > 0)))) trivial rfl rfl ?_
        refine RL.nil ?_
        exact ⟨rfl, v217, v218, ⟨hv.1, hv.2.1, fun _ => rfl, hv.2.2.2.1, hv.2.2.2.2.1, hv.2.2.2.2.2.1, hv.2.2.2.2.2.2.1, hv.2.2.2.2.2.2.2.1, hv.2.2.2.2.2.2.2.2.1, hv.2.2.2.2.2.2.2.2.2.1, hv.2.2.2.2.2.2.2.2.2.2.1, hv.2.2.2.2.2.2.2.2.2.2.2.1, hv.2.2.2.2.2.2.2.2.2.2.2.2.1, hv.2.2.2.2.2.2.2.2.2.2.2.2.2.1, trivial⟩, ha, hw⟩
      · intro D σ w hD hdep hJ
        obtain ⟨v217, v218, hv, ha, hw⟩ := hJ
        have ha2 : agree σ [(46, (.bool (decide (((k1 : Nat) : Int) > 0)))), (0, v0), (3, (.int .i64 ((k1 : Nat) : Int))), (4, (.pointer (some ⟨b115, 0, none⟩))), (13, v0), (14, (.int .i64 ((p0.length : Nat) : Int))), (15, (.int .i64 ((k1 : Nat) : Int)))] := ⟨hv.2.2.1 (hdep.1 rfl), ha.1, ha.2.1, ha.2.2.1, ha.2.2.2.1, ha.2.2.2.2.1, ha.2.2.2.2.2.1, trivial⟩
        obtain ⟨τ, rfl⟩ := ha2.ups
        refine RL.fa_b ⟨_, rfl, congrArg Value.bool hg215⟩ rfl rfl fa82_0 ?_
        refine RL.nil ?_
        exact ⟨rfl, v217, v218, ⟨hv.1, hv.2.1, hv.2.2.1, fun _ => rfl, hv.2.2.2.2.1, hv.2.2.2.2.2.1, hv.2.2.2.2.2.2.1, hv.2.2.2.2.2.2.2.1, hv.2.2.2.2.2.2.2.2.1, hv.2.2.2.2.2.2.2.2.2.1, hv.2.2.2.2.2.2.2.2.2.2.1, hv.2.2.2.2.2.2.2.2.2.2.2.1, hv.2.2.2.2.2.2.2.2.2.2.2.2.1, hv.2.2.2.2.2.2.2.2.2.2.2.2.2.1, trivial⟩, ha, hw⟩
      · intro D σ w hD hdep hJ
        obtain ⟨v217, v218, hv, ha, hw⟩ := hJ
        have ha2 : agree σ [(47, (.pointer (some ⟨b115, 0, none⟩))), (46, (.bool (decide (((k1 : Nat) : Int) > 0)))), (0, v0), (3, (.int .i64 ((k1 : Nat) : Int))), (4, (.pointer (some ⟨b115, 0, none⟩))), (13, v0), (14, (.int .i64 ((p0.length : Nat) : Int))), (15, (.int .i64 ((k1 : Nat) : Int)))] := ⟨hv.2.2.2.1 (hdep.1 rfl), hv.2.2.1 (hdep.2.1 rfl), ha.1, ha.2.1, ha.2.2.1, ha.2.2.2.1, ha.2.2.2.2.1, ha.2.2.2.2.2.1, trivial⟩
        obtain ⟨τ, rfl⟩ := ha2.ups
        refine RL.load_bfs (i := 2) (f := (fun x => x.Name)) ⟨_, rfl, congrArg Value.bool hg215⟩ rfl hw rfl rfl fd_PinType_0 ty9 ?_
        refine RL.nil ?_
        exact ⟨rfl, v217, v218, ⟨hv.1, hv.2.1, hv.2.2.1, hv.2.2.2.1, fun _ => rfl, hv.2.2.2.2.2.1, hv.2.2.2.2.2.2.1, hv.2.2.2.2.2.2.2.1, hv.2.2.2.2.2.2.2.2.1, hv.2.2.2.2.2.2.2.2.2.1, hv.2.2.2.2.2.2.2.2.2.2.1, hv.2.2.2.2.2.2.2.2.2.2.2.1, hv.2.2.2.2.2.2.2.2.2.2.2.2.1, hv.2.2.2.2.2.2.2.2.2.2.2.2.2.1, trivial⟩, ha, hw⟩
      · intro D σ w hD hdep hJ
        obtain ⟨v217, v218, hv, ha, hw⟩ := hJ
        have ha2 : agree σ [(46, (.bool (decide (((k1 : Nat) : Int) > 0)))), (0, v0), (3, (.int .i64 ((k1 : Nat) : Int))), (4, (.pointer (some ⟨b115, 0, none⟩))), (13, v0), (14, (.int .i64 ((p0.length : Nat) : Int))), (15, (.int .i64 ((k1 : Nat) : Int)))] := ⟨hv.2.2.1 (hdep.1 rfl), ha.1, ha.2.1, ha.2.2.1, ha.2.2.2.1, ha.2.2.2.2.1, ha.2.2.2.2.2.1, trivial⟩
        obtain ⟨τ, rfl⟩ := ha2.ups
        refine RL.move (v := v0) ⟨_, rfl, congrArg Value.bool hg215⟩ rfl rfl ?_
        refine RL.nil ?_
        exact ⟨rfl, v217, v218, ⟨hv.1, hv.2.1, hv.2.2.1, hv.2.2.2.1, hv.2.2.2.2.1, fun _ => rfl, hv.2.2.2.2.2.2.1, hv.2.2.2.2.2.2.2.1, hv.2.2.2.2.2.2.2.2.1, hv.2.2.2.2.2.2.2.2.2.1, hv.2.2.2.2.2.2.2.2.2.2.1, hv.2.2.2.2.2.2.2.2.2.2.2.1, hv.2.2.2.2.2.2.2.2.2.2.2.2.1, hv.2.2.2.2.2.2.2.2.2.2.2.2.2.1, trivial⟩, ha, hw⟩
      · intro D σ w hD hdep hJ
        obtain ⟨v217, v218, hv, ha, hw⟩ := hJ
        have ha2 : agree σ [(46, (.bool (decide (((k1 : Nat) : Int) > 0)))), (0, v0), (3, (.int .i64 ((k1 : Nat) : Int))), (4, (.pointer (some ⟨b115, 0, none⟩))), (13, v0), (14, (.int .i64 ((p0.length : Nat) : Int))), (15, (.int .i64 ((k1 : Nat) : Int)))] := ⟨hv.2.2.1 (hdep.1 rfl), ha.1, ha.2.1, ha.2.2.1, ha.2.2.2.1, ha.2.2.2.2.1, ha.2.2.2.2.2.1, trivial⟩
        obtain ⟨τ, rfl⟩ := ha2.ups
        refine RL.move (v := (.int .i64 ((k1 : Nat) : Int))) ⟨_, rfl, congrArg Value.bool hg215⟩ rfl rfl ?_
        refine RL.nil ?_
        exact ⟨rfl, v217, v218, ⟨hv.1, hv.2.1, hv.2.2.1, hv.2.2.2.1, hv.2.2.2.2.1, hv.2.2.2.2.2.1, fun _ => rfl, hv.2.2.2.2.2.2.2.1, hv.2.2.2.2.2.2.2.2.1, hv.2.2.2.2.2.2.2.2.2.1, hv.2.2.2.2.2.2.2.2.2.2.1, hv.2.2.2.2.2.2.2.2.2.2.2.1, hv.2.2.2.2.2.2.2.2.2.2.2.2.1, hv.2.2.2.2.2.2.2.2.2.2.2.2.2.1, trivial⟩, ha, hw⟩
      · intro D σ w hD hdep hJ
        obtain ⟨v217, v218, hv, ha, hw⟩ := hJ
        have ha2 : agree σ [(50, (.int .i64 ((k1 : Nat) : Int))), (46, (.bool (decide (((k1 : Nat) : Int) > 0)))), (0, v0), (3, (.int .i64 ((k1 : Nat) : Int))), (4, (.pointer (some ⟨b115, 0, none⟩))), (13, v0), (14, (.int .i64 ((p0.length : Nat) : Int))), (15, (.int .i64 ((k1 : Nat) : Int)))] := ⟨hv.2.2.2.2.2.2.1 (hdep.1 rfl), hv.2.2.1 (hdep.2.1 rfl), ha.1, ha.2.1, ha.2.2.1, ha.2.2.2.1, ha.2.2.2.2.1, ha.2.2.2.2.2.1, trivial⟩
        obtain ⟨τ, rfl⟩ := ha2.ups
        refine RL.iar (a := ((k1 : Nat) : Int)) (b := 1) ⟨_, rfl, congrArg Value.bool hg215⟩ rfl rfl rfl rfl ?_
        refine RL.nil ?_
        exact ⟨rfl, v217, v218, ⟨hv.1, hv.2.1, hv.2.2.1, hv.2.2.2.1, hv.2.2.2.2.1, hv.2.2.2.2.2.1, hv.2.2.2.2.2.2.1, fun _ => rfl, hv.2.2.2.2.2.2.2.2.1, hv.2.2.2.2.2.2.2.2.2.1, hv.2.2.2.2.2.2.2.2.2.2.1, hv.2.2.2.2.2.2.2.2.2.2.2.1, hv.2.2.2.2.2.2.2.2.2.2.2.2.1, hv.2.2.2.2.2.2.2.2.2.2.2.2.2.1, trivial⟩, ha, hw⟩
      · intro D σ w hD hdep hJ
        obtain ⟨v217, v218, hv, ha, hw⟩ := hJ
        have ha2 : agree σ [(49, v0), (51, (.int .i64 (IntKind.wrap .i64 (((k1 : Nat) : Int) - 1)))), (46, (.bool (decide (((k1 : Nat) : Int) > 0)))), (0, v0), (3, (.int .i64 ((k1 : Nat) : Int))), (4, (.pointer (some ⟨b115, 0, none⟩))), (13, v0), (14, (.int .i64 ((p0.length : Nat) : Int))), (15, (.int .i64 ((k1 : Nat) : Int)))] := ⟨hv.2.2.2.2.2.1 (hdep.1 rfl), hv.2.2.2.2.2.2.2.1 (hdep.2.1 rfl), hv.2.2.1 (hdep.2.2.1 rfl), ha.1, ha.2.1, ha.2.2.1, ha.2.2.2.1, ha.2.2.2.2.1, ha.2.2.2.2.2.1, trivial⟩
        obtain ⟨τ, rfl⟩ := ha2.ups
        refine RL.ia_rd (i := 5) ⟨_, rfl, congrArg Value.bool hg215⟩ rfl hw rfl rfl rfl sl83 hx216 fun v219 hw => ?_
        have hw := hw.fillat 0 1 0 rfl rfl rfl (by simp)
        refine RL.nil ?_
        exact ⟨rfl, v219, v218, ⟨hv.1, hv.2.1, hv.2.2.1, hv.2.2.2.1, hv.2.2.2.2.1, hv.2.2.2.2.2.1, hv.2.2.2.2.2.2.1, hv.2.2.2.2.2.2.2.1, fun _ => rfl, hv.2.2.2.2.2.2.2.2.2.1, hv.2.2.2.2.2.2.2.2.2.2.1, hv.2.2.2.2.2.2.2.2.2.2.2.1, hv.2.2.2.2.2.2.2.2.2.2.2.2.1, hv.2.2.2.2.2.2.2.2.2.2.2.2.2.1, trivial⟩, ha, hw⟩
      · intro D σ w hD hdep hJ
        obtain ⟨v217, v218, hv, ha, hw⟩ := hJ
        have ha2 : agree σ [(52, v217), (46, (.bool (decide (((k1 : Nat) : Int) > 0)))), (0, v0), (3, (.int .i64 ((k1 : Nat) : Int))), (4, (.pointer (some ⟨b115, 0, none⟩))), (13, v0), (14, (.int .i64 ((p0.length : Nat) : Int))), (15, (.int .i64 ((k1 : Nat) : Int)))] := ⟨hv.2.2.2.2.2.2.2.2.1 (hdep.1 rfl), hv.2.2.1 (hdep.2.1 rfl), ha.1, ha.2.1, ha.2.2.1, ha.2.2.2.1, ha.2.2.2.2.1, ha.2.2.2.2.2.1, trivial⟩
        obtain ⟨τ, rfl⟩ := ha2.ups
        refine RL.fa_pt (i := 0) (f := fun (x : PinType) => x.Name) ⟨_, rfl, congrArg Value.bool hg215⟩ rfl hw rfl (ent_t (hdep.1 rfl)) fa82_0 fd_PinType_0 fun v220 hw => ?_
        have hw := hw.fillat 0 1 1 rfl rfl rfl (by simp)
        refine RL.nil ?_
        exact ⟨rfl, v217, v220, ⟨hv.1, hv.2.1, hv.2.2.1, hv.2.2.2.1, hv.2.2.2.2.1, hv.2.2.2.2.2.1, hv.2.2.2.2.2.2.1, hv.2.2.2.2.2.2.2.1, hv.2.2.2.2.2.2.2.2.1, fun _ => rfl, hv.2.2.2.2.2.2.2.2.2.2.1, hv.2.2.2.2.2.2.2.2.2.2.2.1, hv.2.2.2.2.2.2.2.2.2.2.2.2.1, hv.2.2.2.2.2.2.2.2.2.2.2.2.2.1, trivial⟩, ha, hw⟩
      · intro D σ w hD hdep hJ
        obtain ⟨v217, v218, hv, ha, hw⟩ := hJ
        have ha2 : agree σ [(53, v218), (46, (.bool (decide (((k1 : Nat) : Int) > 0)))), (0, v0), (3, (.int .i64 ((k1 : Nat) : Int))), (4, (.pointer (some ⟨b115, 0, none⟩))), (13, v0), (14, (.int .i64 ((p0.length : Nat) : Int))), (15, (.int .i64 ((k1 : Nat) : Int)))] := ⟨hv.2.2.2.2.2.2.2.2.2.1 (hdep.1 rfl), hv.2.2.1 (hdep.2.1 rfl), ha.1, ha.2.1, ha.2.2.1, ha.2.2.2.1, ha.2.2.2.2.1, ha.2.2.2.2.2.1, trivial⟩
        obtain ⟨τ, rfl⟩ := ha2.ups
        refine RL.load_pts (i := 1) (y := x216.Name) ⟨_, rfl, congrArg Value.bool hg215⟩ rfl hw rfl (ent_t (hdep.1 rfl)) ty9 ?_
        refine RL.nil ?_
        exact ⟨rfl, v217, v218, ⟨hv.1, hv.2.1, hv.2.2.1, hv.2.2.2.1, hv.2.2.2.2.1, hv.2.2.2.2.2.1, hv.2.2.2.2.2.2.1, hv.2.2.2.2.2.2.2.1, hv.2.2.2.2.2.2.2.2.1, hv.2.2.2.2.2.2.2.2.2.1, fun _ => rfl, hv.2.2.2.2.2.2.2.2.2.2.2.1, hv.2.2.2.2.2.2.2.2.2.2.2.2.1, hv.2.2.2.2.2.2.2.2.2.2.2.2.2.1, trivial⟩, ha, hw⟩
      · intro D σ w hD hdep hJ
        obtain ⟨v217, v218, hv, ha, hw⟩ := hJ
        have ha2 : agree σ [(48, (str x112.Name)), (54, (str x216.Name)), (46, (.bool (decide (((k1 : Nat) : Int) > 0)))), (0, v0), (3, (.int .i64 ((k1 : Nat) : Int))), (4, (.pointer (some ⟨b115, 0, none⟩))), (13, v0), (14, (.int .i64 ((p0.length : Nat) : Int))), (15, (.int .i64 ((k1 : Nat) : Int)))] := ⟨hv.2.2.2.2.1 (hdep.1 rfl), hv.2.2.2.2.2.2.2.2.2.2.1 (hdep.2.1 rfl), hv.2.2.1 (hdep.2.2.1 rfl), ha.1, ha.2.1, ha.2.2.1, ha.2.2.2.1, ha.2.2.2.2.1, ha.2.2.2.2.2.1, trivial⟩
        obtain ⟨τ, rfl⟩ := ha2.ups
        refine RL.scmp (a := x112.Name) (b := x216.Name) ⟨_, rfl, congrArg Value.bool hg215⟩ rfl rfl rfl rfl ?_
        refine RL.nil ?_
        exact ⟨rfl, v217, v218, ⟨hv.1, hv.2.1, hv.2.2.1, hv.2.2.2.1, hv.2.2.2.2.1, hv.2.2.2.2.2.1, hv.2.2.2.2.2.2.1, hv.2.2.2.2.2.2.2.1, hv.2.2.2.2.2.2.2.2.1, hv.2.2.2.2.2.2.2.2.2.1, hv.2.2.2.2.2.2.2.2.2.2.1, fun _ => rfl, hv.2.2.2.2.2.2.2.2.2.2.2.2.1, hv.2.2.2.2.2.2.2.2.2.2.2.2.2.1, trivial⟩, ha, hw⟩
      · intro D σ w hD hdep hJ
        obtain ⟨v217, v218, hv, ha, hw⟩ := hJ
        have ha2 : agree σ [(46, (.bool (decide (((k1 : Nat) : Int) > 0)))), (55, (.bool (x112.Name.ltb x216.Name || x112.Name.eqb x216.Name))), (0, v0), (3, (.int .i64 ((k1 : Nat) : Int))), (4, (.pointer (some ⟨b115, 0, none⟩))), (13, v0), (14, (.int .i64 ((p0.length : Nat) : Int))), (15, (.int .i64 ((k1 : Nat) : Int)))] := ⟨hv.2.2.1 (hdep.1 rfl), hv.2.2.2.2.2.2.2.2.2.2.2.1 (hdep.2.1 rfl), ha.1, ha.2.1, ha.2.2.1, ha.2.2.2.1, ha.2.2.2.2.1, ha.2.2.2.2.2.1, trivial⟩
        obtain ⟨τ, rfl⟩ := ha2.ups
        refine RL.pick (b := (decide (((k1 : Nat) : Int) > 0))) (v := (.bool (x112.Name.ltb x216.Name || x112.Name.eqb x216.Name))) trivial rfl rfl (by rw [hg215]; rfl) ?_
        refine RL.nil ?_
        exact ⟨rfl, v217, v218, ⟨hv.1, hv.2.1, hv.2.2.1, hv.2.2.2.1, hv.2.2.2.2.1, hv.2.2.2.2.2.1, hv.2.2.2.2.2.2.1, hv.2.2.2.2.2.2.2.1, hv.2.2.2.2.2.2.2.2.1, hv.2.2.2.2.2.2.2.2.2.1, hv.2.2.2.2.2.2.2.2.2.2.1, hv.2.2.2.2.2.2.2.2.2.2.2.1, fun _ => rfl, hv.2.2.2.2.2.2.2.2.2.2.2.2.2.1, trivial⟩, ha, hw⟩
      · intro D σ w hD hdep hJ
        obtain ⟨v217, v218, hv, ha, hw⟩ := hJ
        have ha2 : agree σ [(56, (.bool (x112.Name.ltb x216.Name || x112.Name.eqb x216.Name))), (46, (.bool (decide (((k1 : Nat) : Int) > 0)))), (0, v0), (3, (.int .i64 ((k1 : Nat) : Int))), (4, (.pointer (some ⟨b115, 0, none⟩))), (13, v0), (14, (.int .i64 ((p0.length : Nat) : Int))), (15, (.int .i64 ((k1 : Nat) : Int)))] := ⟨hv.2.2.2.2.2.2.2.2.2.2.2.2.1 (hdep.1 rfl), hv.2.2.1 (hdep.2.1 rfl), ha.1, ha.2.1, ha.2.2.1, ha.2.2.2.1, ha.2.2.2.2.1, ha.2.2.2.2.2.1, trivial⟩
        obtain ⟨τ, rfl⟩ := ha2.ups
        refine RL.assign (v := (.bool (x112.Name.ltb x216.Name || x112.Name.eqb x216.Name))) trivial rfl rfl ?_
        refine RL.nil ?_
        exact ⟨rfl, v217, v218, ⟨hv.1, hv.2.1, hv.2.2.1, hv.2.2.2.1, hv.2.2.2.2.1, hv.2.2.2.2.2.1, hv.2.2.2.2.2.2.1, hv.2.2.2.2.2.2.2.1, hv.2.2.2.2.2.2.2.2.1, hv.2.2.2.2.2.2.2.2.2.1, hv.2.2.2.2.2.2.2.2.2.2.1, hv.2.2.2.2.2.2.2.2.2.2.2.1, hv.2.2.2.2.2.2.2.2.2.2.2.2.1, fun _ => rfl, trivial⟩, ha, hw⟩
      intro D σ w hall hJ
      obtain ⟨v217, v218, hv, ha, hw⟩ := hJ
      rw [hall 8 (by decide)] at hw
      rw [hall 9 (by decide)] at hw
      have ha2 : agree σ [(43, (.bool (x112.Name.ltb x216.Name || x112.Name.eqb x216.Name))), (0, v0), (3, (.int .i64 ((k1 : Nat) : Int))), (4, (.pointer (some ⟨b115, 0, none⟩))), (13, v0), (14, (.int .i64 ((p0.length : Nat) : Int))), (15, (.int .i64 ((k1 : Nat) : Int)))] := ⟨hv.2.2.2.2.2.2.2.2.2.2.2.2.2.1 (hall 13 (by decide)), ha.1, ha.2.1, ha.2.2.1, ha.2.2.2.1, ha.2.2.2.2.1, ha.2.2.2.2.2.1, trivial⟩
      obtain ⟨τ, rfl⟩ := ha2.ups
      injection hj with hj; subst hj
      exact ⟨rfl, ⟨rfl, rfl, rfl, rfl, rfl, trivial⟩, hw.pick 6 [5] (new := [rd v0 p0]) rfl rfl (by decide) (by decide)⟩
    rintro σ w ⟨ha, hw⟩
    obtain ⟨τ, rfl⟩ := ha.ups
    refine thenQ_n ?_
    refine RC.cond (b := s214) rfl (fun hc => ?_) (fun hc => ?_)
    rotate_left
    · replace hb := cF hc hb
      refine RC.skip ?_
      refine blkQ_n ?_
      refine blkQ_n ?_
      refine thenQ_n ?_
      refine RC.region ?_
      refine RL.inc trivial rfl hk hm rfl rfl ?_
      refine RL.move (v := (.int .i64 ((k1 + 1 : Nat) : Int))) trivial rfl rfl ?_
      refine RL.nil ?_
      injection hb with hb; subst hb
      exact ⟨rfl, ⟨rfl, rfl, rfl, rfl, trivial⟩, hw.pick 1 [0] (new := [rd v0 p0]) rfl rfl (by decide) (by decide)⟩
    replace hb := cT hc hb
    refine RC.seq ?_
    refine RC.region ?_
    refine RL.assign (v := (.int .i64 8)) trivial rfl rfl ?_
    refine RL.nil ?_
    refine thenQ_n ?_
    refine RC.ret ?_
    refine blkQ_r ?_
    refine blkQ_r ?_
    refine thenQ_r ?_
    injection hb with hb; subst hb
    exact ⟨rfl, fin1 rfl rfl ⟨rfl, hw.drop 1 rfl⟩⟩
  · intro r σ w e hK
    subst e
    refine thenQ_r ?_
    injection hb with hb; subst hb
    exact hK
  intro s2 σ w e hJ
  subst e
  rw [Fo.cs_go] at hb
  obtain ⟨ha, hw⟩ := hJ
  obtain ⟨τ, rfl⟩ := ha.ups
  refine thenQ_n ?_
  refine RC.seq ?_
  refine RC.seq ?_
  refine RC.region ?_
  refine RL.move (v := v0) trivial rfl rfl ?_
  refine RL.len_rd (i := 0) (l := p0) trivial rfl hw rfl rfl un83 ?_
  refine RL.move (v := (.int .i64 0)) trivial rfl rfl ?_
  refine RL.nil ?_
  refine thenQ_n ?_
  obtain ⟨o237, hN, hb⟩ := bd hb
  refine RC.range (fun (k221 : Nat) (s222 : Unit) (σ : Nat → Value) (w : World) => agree σ [(0, v0), (58, v0), (59, (.int .i64 ((p0.length : Nat) : Int))), (60, (.int .i64 ((k221 : Nat) : Int)))] ∧ Holds E w ([rd v0 p0] ++ Γ)) (fun (s222 : Unit) (σ : Nat → Value) (w : World) => agree σ [] ∧ Holds E w ([rd v0 p0] ++ Γ)) (netlist_checkPins_K E Γ) hN ?_ ?_ ?_ ?_ ?_ 
  · exact ⟨⟨rfl, rfl, rfl, rfl, trivial⟩, hw.pick 1 [0] (new := [rd v0 p0]) rfl rfl (by decide) (by decide)⟩
  · intro hm s222 σ w hI
    obtain ⟨ha, hw⟩ := hI
    obtain ⟨τ, rfl⟩ := ha.ups
    refine RC.seq ?_
    refine RC.region ?_
    refine RL.icmp (a := ((p0.length : Nat) : Int)) (b := ((p0.length : Nat) : Int)) trivial rfl rfl rfl rfl ?_
    refine RL.nil ?_
    refine thenQ_n ?_
    refine RC.seq ?_
    refine RC.cond_f dge ?_
    refine RC.exit ?_
    refine thenQ_x ?_
    exact ⟨rfl, trivial, hw.pick 1 [0] (new := [rd v0 p0]) rfl rfl (by decide) (by decide)⟩
  · intro hm k221 s222 fl σ w hk hI hb
    obtain ⟨ha, hw⟩ := hI
    obtain ⟨τ, rfl⟩ := ha.ups
    refine RC.seq ?_
    refine RC.region ?_
    refine RL.icmp (a := ((k221 : Nat) : Int)) (b := ((p0.length : Nat) : Int)) trivial rfl rfl rfl rfl ?_
    refine RL.nil ?_
    refine thenQ_n ?_
    refine RC.seq ?_
    refine RC.cond_t (dlt hk) ?_
    refine RC.skip ?_
    refine thenQ_n ?_
    refine RC.seq ?_
    refine RC.block ?_
    refine RC.seq ?_
    refine RC.region ?_
    refine RL.move (v := (.int .i64 ((k221 : Nat) : Int))) trivial rfl rfl ?_
    obtain ⟨x230, hx230, hb⟩ := bd hb
    refine RL.ia_rd (i := 0) trivial rfl hw rfl rfl rfl sl83 hx230 fun v231 hw => ?_
    refine RL.load_pt (i := 0) (x := x230) trivial rfl hw rfl rfl ty82 fun v232 hw => ?_
    refine RL.alloc trivial rfl hw ze82.z fun b233 w hw => ?_
    refine RL.assign (v := (.int .i64 ((k221 : Nat) : Int))) trivial rfl rfl ?_
    refine RL.store_raw (i := 0) (j := 1) trivial hw rfl rfl rfl rfl ty82 rfl fun w hw => ?_
    refine RL.nil ?_
    refine thenQ_n ?_
    refine RC.seq ?_
    refine RC.region ?_
    refine RL.move (v := v0) trivial rfl rfl ?_
    refine RL.move (v := (.int .i64 ((k221 : Nat) : Int))) trivial rfl rfl ?_
    obtain ⟨x234, hx234, hb⟩ := bd hb
    refine RL.cut (i := 3) trivial rfl hw rfl rfl sl83 (.inr ⟨rfl, rfl⟩) (.inl rfl) hx234 fun v235 hw => ?_
    have hw := hw.freeze_bx (i := 1) rfl
    refine RL.makeFunc trivial rfl [(.pointer (some ⟨b233, 0, none⟩))] rfl ?_
    obtain ⟨x236, hx236, hb⟩ := bd hb
    refine RL.call trivial rfl fn132 [v235, (.func (.func 133) #[] #[(.pointer (some ⟨b233, 0, none⟩))])] rfl (Calls_ret (slices_ContainsFunc_PinType_ok N  (i0 := 0) hw rfl ⟨133, [(.pointer (some ⟨b233, 0, none⟩))], rfl, fn133, fun w Γl v y0 r i hw hi hr => by exact Calls_ret (netlist_checkPins_c1_ok N (i0 := i) (i1 := Γl.length + 1) hw hi (up_get rfl) hr) fun _ _ h => h⟩ hx236) ?_)
    rintro _ w ⟨rfl, hw⟩
    refine RL.nil ?_
    refine thenQ_n ?_
    refine RC.cond (b := x236) rfl (fun hc => ?_) (fun hc => ?_)
    rotate_left
    · replace hb := cF hc hb
      refine RC.skip ?_
      refine blkQ_n ?_
      refine thenQ_n ?_
      refine RC.region ?_
      refine RL.inc trivial rfl hk hm rfl rfl ?_
      refine RL.move (v := (.int .i64 ((k221 + 1 : Nat) : Int))) trivial rfl rfl ?_
      refine RL.nil ?_
      injection hb with hb; subst hb
      exact ⟨rfl, ⟨rfl, rfl, rfl, rfl, trivial⟩, hw.pick 5 [4] (new := [rd v0 p0]) rfl rfl (by decide) (by decide)⟩
    replace hb := cT hc hb
    refine RC.seq ?_
    refine RC.region ?_
    refine RL.assign (v := (.int .i64 12)) trivial rfl rfl ?_
    refine RL.nil ?_
    refine thenQ_n ?_
    refine RC.ret ?_
    refine blkQ_r ?_
    refine thenQ_r ?_
    injection hb with hb; subst hb
    exact ⟨rfl, fin1 rfl rfl ⟨rfl, hw.drop 5 rfl⟩⟩
  · intro r σ w e hK
    subst e
    refine thenQ_r ?_
    injection hb with hb; subst hb
    exact hK
  intro s222 σ w e hJ
  subst e
  rw [Fo.cs_go] at hb
  obtain ⟨ha, hw⟩ := hJ
  obtain ⟨τ, rfl⟩ := ha.ups
  refine thenQ_n ?_
  refine RC.seq ?_
  refine RC.region ?_
  refine RL.assign (v := (.int .i64 0)) trivial rfl rfl ?_
  refine RL.nil ?_
  refine thenQ_n ?_
  refine RC.ret ?_
  injection hb with hb; subst hb
  exact fin1 rfl rfl ⟨rfl, hw.drop 1 rfl⟩
def netlist_CheckTypes_R (E : World) (Γ : List HP) (res : Int) (v : Value) (w : World) : Prop := v = (.int .i64 res) ∧ Holds E w Γ
def netlist_CheckTypes_K (E : World) (Γ : List HP) (r : Int) (σ : Nat → Value) (w : World) : Prop := finQ Tryd.prog 40 Tryd.f40 (netlist_CheckTypes_R E Γ r) .ret σ w
theorem netlist_CheckTypes_ok (N : Nat) {E w : World} {Γ : List HP} {i0 : Nat} {v0 : Value} {p0 : (List PartType)} {res : Int} (hw : Holds E w Γ) (h0 : Γ[i0]? = some (rd v0 p0)) (hb : netlist_CheckTypes N p0 = some res) :
    Calls Tryd.prog 40 [v0].toArray w (Ret (netlist_CheckTypes_R E Γ res)) := by
  unfold netlist_CheckTypes at hb
  refine enter Tryd.func40 rfl rfl (Nat.le_of_ble_eq_true rfl) ?_
  have hw := hw.dup (i := i0 + 0) h0
  refine RC.seq ?_
  refine RC.region ?_
  refine RL.assign (v := (.int .i64 0)) trivial rfl rfl ?_
  refine RL.nil ?_
  refine thenQ_n ?_
  refine RC.seq ?_
  refine RC.seq ?_
  refine RC.region ?_
  refine RL.move (v := v0) trivial rfl rfl ?_
  refine RL.len_rd (i := 0) (l := p0) trivial rfl hw rfl rfl un22 ?_
  refine RL.icmp (a := ((p0.length : Nat) : Int)) (b := 200) trivial rfl rfl rfl rfl ?_
  refine RL.nil ?_
  refine thenQ_n ?_
  refine RC.cond (b := (decide (((p0.length : Nat) : Int) > 200))) rfl (fun hc => ?_) (fun hc => ?_)
  · replace hb := cT hc hb
    refine RC.seq ?_
    refine RC.region ?_
    refine RL.assign (v := (.int .i64 2)) trivial rfl rfl ?_
    refine RL.nil ?_
    refine thenQ_n ?_
    refine RC.ret ?_
    refine thenQ_r ?_
    injection hb with hb; subst hb
    exact fin1 rfl rfl ⟨rfl, hw.drop 1 rfl⟩
  replace hb := cF hc hb
  refine RC.skip ?_
  refine thenQ_n ?_
  refine RC.seq ?_
  refine RC.seq ?_
  refine RC.region ?_
  refine RL.move (v := v0) trivial rfl rfl ?_
  refine RL.len_rd (i := 0) (l := p0) trivial rfl hw rfl rfl un22 ?_
  refine RL.move (v := (.int .i64 0)) trivial rfl rfl ?_
  refine RL.nil ?_
  refine thenQ_n ?_
  obtain ⟨o43, hN, hb⟩ := bd hb
  refine RC.range (fun (k1 : Nat) (s2 : Unit) (σ : Nat → Value) (w : World) => agree σ [(0, v0), (9, v0), (10, (.int .i64 ((p0.length : Nat) : Int))), (11, (.int .i64 ((k1 : Nat) : Int)))] ∧ Holds E w ([rd v0 p0] ++ Γ)) (fun (s2 : Unit) (σ : Nat → Value) (w : World) => agree σ [] ∧ Holds E w ([rd v0 p0] ++ Γ)) (netlist_CheckTypes_K E Γ) hN ?_ ?_ ?_ ?_ ?_ 
  · exact ⟨⟨rfl, rfl, rfl, rfl, trivial⟩, hw.pick 1 [0] (new := [rd v0 p0]) rfl rfl (by decide) (by decide)⟩
  · intro hm s2 σ w hI
    obtain ⟨ha, hw⟩ := hI
    obtain ⟨τ, rfl⟩ := ha.ups
    refine RC.seq ?_
    refine RC.region ?_
    refine RL.icmp (a := ((p0.length : Nat) : Int)) (b := ((p0.length : Nat) : Int)) trivial rfl rfl rfl rfl ?_
    refine RL.nil ?_
    refine thenQ_n ?_
    refine RC.seq ?_
    refine RC.cond_f dge ?_
    refine RC.exit ?_
    refine thenQ_x ?_
    exact ⟨rfl, trivial, hw.pick 1 [0] (new := [rd v0 p0]) rfl rfl (by decide) (by decide)⟩
  · intro hm k1 s2 fl σ w hk hI hb
    obtain ⟨ha, hw⟩ := hI
    obtain ⟨τ, rfl⟩ := ha.ups
    refine RC.seq ?_
    refine RC.region ?_
    refine RL.icmp (a := ((k1 : Nat) : Int)) (b := ((p0.length : Nat) : Int)) trivial rfl rfl rfl rfl ?_
    refine RL.nil ?_
    refine thenQ_n ?_
    refine RC.seq ?_
    refine RC.cond_t (dlt hk) ?_
    refine RC.skip ?_
    refine thenQ_n ?_
    refine RC.seq ?_
    refine RC.block ?_
    refine RC.seq ?_
    refine RC.region ?_
    refine RL.move (v := (.int .i64 ((k1 : Nat) : Int))) trivial rfl rfl ?_
    obtain ⟨x23, hx23, hb⟩ := bd hb
    refine RL.ia_rd (i := 0) trivial rfl hw rfl rfl rfl sl22 hx23 fun v24 hw => ?_
    refine RL.load_pt (i := 0) (x := x23) trivial rfl hw rfl rfl ty85 fun v25 hw => ?_
    refine RL.alloc trivial rfl hw ze85.z fun b26 w hw => ?_
    refine RL.assign (v := (.int .i64 ((k1 : Nat) : Int))) trivial rfl rfl ?_
    refine RL.store_raw (i := 0) (j := 1) trivial hw rfl rfl rfl rfl ty85 rfl fun w hw => ?_
    refine RL.nil ?_
    refine thenQ_n ?_
    refine RC.seq ?_
    refine RC.seq ?_
    refine RC.region ?_
    refine RL.fa_b trivial rfl rfl fa85_0 ?_
    refine RL.load_bfs (i := 0) (f := (fun x => x.Name)) trivial rfl hw rfl rfl fd_PartType_0 ty9 ?_
    obtain ⟨x27, hx27, hb⟩ := bd hb
    refine RL.call trivial rfl fn96 [(str x23.Name)] rfl (Calls_ret (netlist_IsWord_ok N (p0 := x23.Name)  hw  hx27) ?_)
    rintro _ w ⟨rfl, hw⟩
    refine RL.not (b := x27) trivial rfl rfl ?_
    refine RL.nil ?_
    refine thenQ_n ?_
    refine RC.cond (b := (!x27)) rfl (fun hc => ?_) (fun hc => ?_)
    · replace hb := cT hc hb
      refine RC.seq ?_
      refine RC.region ?_
      refine RL.assign (v := (.int .i64 5)) trivial rfl rfl ?_
      refine RL.nil ?_
      refine thenQ_n ?_
      refine RC.ret ?_
      refine thenQ_r ?_
      refine blkQ_r ?_
      refine thenQ_r ?_
      injection hb with hb; subst hb
      exact ⟨rfl, fin1 rfl rfl ⟨rfl, hw.drop 4 rfl⟩⟩
    replace hb := cF hc hb
    refine RC.skip ?_
    refine thenQ_n ?_
    refine RC.seq ?_
    refine RC.seq ?_
    refine RC.region ?_
    refine RL.fa_b trivial rfl rfl fa85_1 ?_
    refine RL.load_bf (i := 0) (f := (fun x => x.Pins)) trivial rfl hw rfl rfl fd_PartType_1 ty83 fun v28 hw => ?_
    obtain ⟨x29, hx29, hb⟩ := bd hb
    refine RL.call trivial rfl fn97 [v28] rfl (Calls_ret (netlist_checkPins_ok N  (i0 := 0) hw rfl hx29) ?_)
    rintro _ w ⟨rfl, hw⟩
    refine RL.assign (v := (.int .i64 x29)) trivial rfl rfl ?_
    refine RL.nil ?_
    refine thenQ_n ?_
    refine RC.seq ?_
    refine RC.region ?_
    refine RL.move (v := (.int .i64 x29)) trivial rfl rfl ?_
    refine RL.icmp (a := x29) (b := 0) trivial rfl rfl rfl rfl ?_
    refine RL.nil ?_
    refine thenQ_n ?_
    refine RC.cond (b := (x29 != 0)) rfl (fun hc => ?_) (fun hc => ?_)
    · replace hb := cT hc hb
      refine RC.seq ?_
      refine RC.region ?_
      refine RL.move (v := (.int .i64 x29)) trivial rfl rfl ?_
      refine RL.assign (v := (.int .i64 x29)) trivial rfl rfl ?_
      refine RL.nil ?_
      refine thenQ_n ?_
      refine RC.ret ?_
      refine thenQ_r ?_
      refine blkQ_r ?_
      refine thenQ_r ?_
      injection hb with hb; subst hb
      exact ⟨rfl, fin1 rfl rfl ⟨rfl, hw.drop 5 rfl⟩⟩
    replace hb := cF hc hb
    refine RC.skip ?_
    refine thenQ_n ?_
    refine RC.seq ?_
    obtain ⟨s36, hj, hb⟩ := bd hb
    refine RC.jn (fun (s36 : Bool) (σ : Nat → Value) (w : World) => agree σ [(0, v0), (9, v0), (10, (.int .i64 ((p0.length : Nat) : Int))), (11, (.int .i64 ((k1 : Nat) : Int))), (38, (.bool s36))] ∧ Holds E w ([rd v0 p0] ++ Γ)) s36 ?_ ?_
    · rcases Bool.eq_false_or_eq_true (decide (((k1 : Nat) : Int) > 0)) with hg37 | hg37
      rotate_left
      · replace hj := cF hg37 hj
        refine RC.draw mixed rfl (fun (D : Nat → Bool) (σ : Nat → Value) (w : World) => doneV D σ [(0, 26, (.int .i64 ((k1 : Nat) : Int))), (1, 27, (.bool (decide (((k1 : Nat) : Int) > 0)))), (2, 28, (.bool (decide (((k1 : Nat) : Int) > 0)))), (3, 29, undef), (4, 30, undef), (5, 31, undef), (6, 32, undef), (7, 33, undef), (8, 34, undef), (9, 35, undef), (10, 36, undef), (11, 37, undef), (12, 38, (.bool false))] ∧ agree σ [(0, v0), (3, (.int .i64 ((k1 : Nat) : Int))), (4, (.pointer (some ⟨b26, 0, none⟩))), (9, v0), (10, (.int .i64 ((p0.length : Nat) : Int))), (11, (.int .i64 ((k1 : Nat) : Int)))] ∧ Holds E w ([rd v28 x23.Pins, bx 85 b26 x23, rd v25 x23, pt v24 x23, rd v0 p0] ++ Γ)) ?_ ⟨?_, ?_, ?_, ?_, ?_, ?_, ?_, ?_, ?_, ?_, ?_, ?_, ?_, trivial⟩ ?_
        · have hw := hw.drew
          exact ⟨⟨(fun h => by cases h), (fun h => by cases h), (fun h => by cases h), (fun h => by cases h), (fun h => by cases h), (fun h => by cases h), (fun h => by cases h), (fun h => by cases h), (fun h => by cases h), (fun h => by cases h), (fun h => by cases h), (fun h => by cases h), (fun h => by cases h), trivial⟩, ⟨rfl, rfl, rfl, rfl, rfl, rfl, trivial⟩, hw⟩
        · intro D σ w hD hdep hJ
          obtain ⟨hv, ha, hw⟩ := hJ
          have ha2 : agree σ [(0, v0), (3, (.int .i64 ((k1 : Nat) : Int))), (4, (.pointer (some ⟨b26, 0, none⟩))), (9, v0), (10, (.int .i64 ((p0.length : Nat) : Int))), (11, (.int .i64 ((k1 : Nat) : Int)))] := ⟨ha.1, ha.2.1, ha.2.2.1, ha.2.2.2.1, ha.2.2.2.2.1, ha.2.2.2.2.2.1, trivial⟩
          obtain ⟨τ, rfl⟩ := ha2.ups
          refine RL.move (v := (.int .i64 ((k1 : Nat) : Int))) trivial rfl rfl ?_
          refine RL.nil ?_
          exact ⟨rfl, ⟨fun _ => rfl, hv.2.1, hv.2.2.1, hv.2.2.2.1, hv.2.2.2.2.1, hv.2.2.2.2.2.1, hv.2.2.2.2.2.2.1, hv.2.2.2.2.2.2.2.1, hv.2.2.2.2.2.2.2.2.1, hv.2.2.2.2.2.2.2.2.2.1, hv.2.2.2.2.2.2.2.2.2.2.1, hv.2.2.2.2.2.2.2.2.2.2.2.1, hv.2.2.2.2.2.2.2.2.2.2.2.2.1, trivial⟩, ha, hw⟩
        · intro D σ w hD hdep hJ
          obtain ⟨hv, ha, hw⟩ := hJ
          have ha2 : agree σ [(26, (.int .i64 ((k1 : Nat) : Int))), (0, v0), (3, (.int .i64 ((k1 : Nat) : Int))), (4, (.pointer (some ⟨b26, 0, none⟩))), (9, v0), (10, (.int .i64 ((p0.length : Nat) : Int))), (11, (.int .i64 ((k1 : Nat) : Int)))] := ⟨hv.1 (hdep.1 rfl), ha.1, ha.2.1, ha.2.2.1, ha.2.2.2.1, ha.2.2.2.2.1, ha.2.2.2.2.2.1, trivial⟩
          obtain ⟨τ, rfl⟩ := ha2.ups
          refine RL.icmp (a := ((k1 : Nat) : Int)) (b := 0) trivial rfl rfl rfl rfl ?_
          refine RL.nil ?_
          exact ⟨rfl, ⟨hv.1, fun _ => rfl, hv.2.2.1, hv.2.2.2.1, hv.2.2.2.2.1, hv.2.2.2.2.2.1, hv.2.2.2.2.2.2.1, hv.2.2.2.2.2.2.2.1, hv.2.2.2.2.2.2.2.2.1, hv.2.2.2.2.2.2.2.2.2.1, hv.2.2.2.2.2.2.2.2.2.2.1, hv.2.2.2.2.2.2.2.2.2.2.2.1, hv.2.2.2.2.2.2.2.2.2.2.2.2.1, trivial⟩, ha, hw⟩
        · intro D σ w hD hdep hJ
          obtain ⟨hv, ha, hw⟩ := hJ
          have ha2 : agree σ [(27, (.bool (decide (((k1 : Nat) : Int) > 0)))), (0, v0), (3, (.int .i64 ((k1 : Nat) : Int))), (4, (.pointer (some ⟨b26, 0, none⟩))), (9, v0), (10, (.int .i64 ((p0.length : Nat) : Int))), (11, (.int .i64 ((k1 : Nat) : Int)))] := ⟨hv.2.1 (hdep.1 rfl), ha.1, ha.2.1, ha.2.2.1, ha.2.2.2.1, ha.2.2.2.2.1, ha.2.2.2.2.2.1, trivial⟩
          obtain ⟨τ, rfl⟩ := ha2.ups
          refine RL.move (v := (.bool (decide (((k1 : Nat) : Int) > 0)))) trivial rfl rfl ?_
          refine RL.nil ?_
          exact ⟨rfl, ⟨hv.1, hv.2.1, fun _ => rfl, hv.2.2.2.1, hv.2.2.2.2.1, hv.2.2.2.2.2.1, hv.2.2.2.2.2.2.1, hv.2.2.2.2.2.2.2.1, hv.2.2.2.2.2.2.2.2.1, hv.2.2.2.2.2.2.2.2.2.1, hv.2.2.2.2.2.2.2.2.2.2.1, hv.2.2.2.2.2.2.2.2.2.2.2.1, hv.2.2.2.2.2.2.2.2.2.2.2.2.1, trivial⟩, ha, hw⟩
        · intro D σ w hD hdep hJ
          obtain ⟨hv, ha, hw⟩ := hJ
          have ha2 : agree σ [(28, (.bool (decide (((k1 : Nat) : Int) > 0)))), (0, v0), (3, (.int .i64 ((k1 : Nat) : Int))), (4, (.pointer (some ⟨b26, 0, none⟩))), (9, v0), (10, (.int .i64 ((p0.length : Nat) : Int))), (11, (.int .i64 ((k1 : Nat) : Int)))] := ⟨hv.2.2.1 (hdep.1 rfl), ha.1, ha.2.1, ha.2.2.1, ha.2.2.2.1, ha.2.2.2.2.1, ha.2.2.2.2.2.1, trivial⟩
          obtain ⟨τ, rfl⟩ := ha2.ups
          refine RL.skip rfl (.inl (congrArg Value.bool hg37)) rfl ?_
          refine RL.nil ?_
          exact ⟨rfl, ⟨hv.1, hv.2.1, hv.2.2.1, fun _ => rfl, hv.2.2.2.2.1, hv.2.2.2.2.2.1, hv.2.2.2.2.2.2.1, hv.2.2.2.2.2.2.2.1, hv.2.2.2.2.2.2.2.2.1, hv.2.2.2.2.2.2.2.2.2.1, hv.2.2.2.2.2.2.2.2.2.2.1, hv.2.2.2.2.2.2.2.2.2.2.2.1, hv.2.2.2.2.2.2.2.2.2.2.2.2.1, trivial⟩, ha, hw⟩
        · intro D σ w hD hdep hJ
          obtain ⟨hv, ha, hw⟩ := hJ
          have ha2 : agree σ [(29, undef), (28, (.bool (decide (((k1 : Nat) : Int) > 0)))), (0, v0), (3, (.int .i64 ((k1 : Nat) : Int))), (4, (.pointer (some ⟨b26, 0, none⟩))), (9, v0), (10, (.int .i64 ((p0.length : Nat) : Int))), (11, (.int .i64 ((k1 : Nat) : Int)))] := ⟨hv.2.2.2.1 (hdep.1 rfl), hv.2.2.1 (hdep.2.1 rfl), ha.1, ha.2.1, ha.2.2.1, ha.2.2.2.1, ha.2.2.2.2.1, ha.2.2.2.2.2.1, trivial⟩
          obtain ⟨τ, rfl⟩ := ha2.ups
          refine RL.skip rfl (.inl (congrArg Value.bool hg37)) rfl ?_
          refine RL.nil ?_
          exact ⟨rfl, ⟨hv.1, hv.2.1, hv.2.2.1, hv.2.2.2.1, fun _ => rfl, hv.2.2.2.2.2.1, hv.2.2.2.2.2.2.1, hv.2.2.2.2.2.2.2.1, hv.2.2.2.2.2.2.2.2.1, hv.2.2.2.2.2.2.2.2.2.1, hv.2.2.2.2.2.2.2.2.2.2.1, hv.2.2.2.2.2.2.2.2.2.2.2.1, hv.2.2.2.2.2.2.2.2.2.2.2.2.1, trivial⟩, ha, hw⟩
        · intro D σ w hD hdep hJ
          obtain ⟨hv, ha, hw⟩ := hJ
          have ha2 : agree σ [(28, (.bool (decide (((k1 : Nat) : Int) > 0)))), (0, v0), (3, (.int .i64 ((k1 : Nat) : Int))), (4, (.pointer (some ⟨b26, 0, none⟩))), (9, v0), (10, (.int .i64 ((p0.length : Nat) : Int))), (11, (.int .i64 ((k1 : Nat) : Int)))] := ⟨hv.2.2.1 (hdep.1 rfl), ha.1, ha.2.1, ha.2.2.1, ha.2.2.2.1, ha.2.2.2.2.1, ha.2.2.2.2.2.1, trivial⟩
          obtain ⟨τ, rfl⟩ := ha2.ups
          refine RL.skip rfl (.inl (congrArg Value.bool hg37)) rfl ?_
          refine RL.nil ?_
          exact ⟨rfl, ⟨hv.1, hv.2.1, hv.2.2.1, hv.2.2.2.1, hv.2.2.2.2.1, fun _ => rfl, hv.2.2.2.2.2.2.1, hv.2.2.2.2.2.2.2.1, hv.2.2.2.2.2.2.2.2.1, hv.2.2.2.2.2.2.2.2.2.1, hv.2.2.2.2.2.2.2.2.2.2.1, hv.2.2.2.2.2.2.2.2.2.2.2.1, hv.2.2.2.2.2.2.2.2.2.2.2.2.1, trivial⟩, ha, hw⟩
        · intro D σ w hD hdep hJ
          obtain ⟨hv, ha, hw⟩ := hJ
          have ha2 : agree σ [(28, (.bool (decide (((k1 : Nat) : Int) > 0)))), (0, v0), (3, (.int .i64 ((k1 : Nat) : Int))), (4, (.pointer (some ⟨b26, 0, none⟩))), (9, v0), (10, (.int .i64 ((p0.length : Nat) : Int))), (11, (.int .i64 ((k1 : Nat) : Int)))] := ⟨hv.2.2.1 (hdep.1 rfl), ha.1, ha.2.1, ha.2.2.1, ha.2.2.2.1, ha.2.2.2.2.1, ha.2.2.2.2.2.1, trivial⟩
          obtain ⟨τ, rfl⟩ := ha2.ups
          refine RL.skip rfl (.inl (congrArg Value.bool hg37)) rfl ?_
          refine RL.nil ?_
          exact ⟨rfl, ⟨hv.1, hv.2.1, hv.2.2.1, hv.2.2.2.1, hv.2.2.2.2.1, hv.2.2.2.2.2.1, fun _ => rfl, hv.2.2.2.2.2.2.2.1, hv.2.2.2.2.2.2.2.2.1, hv.2.2.2.2.2.2.2.2.2.1, hv.2.2.2.2.2.2.2.2.2.2.1, hv.2.2.2.2.2.2.2.2.2.2.2.1, hv.2.2.2.2.2.2.2.2.2.2.2.2.1, trivial⟩, ha, hw⟩
        · intro D σ w hD hdep hJ
          obtain ⟨hv, ha, hw⟩ := hJ
          have ha2 : agree σ [(32, undef), (28, (.bool (decide (((k1 : Nat) : Int) > 0)))), (0, v0), (3, (.int .i64 ((k1 : Nat) : Int))), (4, (.pointer (some ⟨b26, 0, none⟩))), (9, v0), (10, (.int .i64 ((p0.length : Nat) : Int))), (11, (.int .i64 ((k1 : Nat) : Int)))] := ⟨hv.2.2.2.2.2.2.1 (hdep.1 rfl), hv.2.2.1 (hdep.2.1 rfl), ha.1, ha.2.1, ha.2.2.1, ha.2.2.2.1, ha.2.2.2.2.1, ha.2.2.2.2.2.1, trivial⟩
          obtain ⟨τ, rfl⟩ := ha2.ups
          refine RL.skip rfl (.inl (congrArg Value.bool hg37)) rfl ?_
          refine RL.nil ?_
          exact ⟨rfl, ⟨hv.1, hv.2.1, hv.2.2.1, hv.2.2.2.1, hv.2.2.2.2.1, hv.2.2.2.2.2.1, hv.2.2.2.2.2.2.1, fun _ => rfl, hv.2.2.2.2.2.2.2.2.1, hv.2.2.2.2.2.2.2.2.2.1, hv.2.2.2.2.2.2.2.2.2.2.1, hv.2.2.2.2.2.2.2.2.2.2.2.1, hv.2.2.2.2.2.2.2.2.2.2.2.2.1, trivial⟩, ha, hw⟩
        · intro D σ w hD hdep hJ
          obtain ⟨hv, ha, hw⟩ := hJ
          have ha2 : agree σ [(31, undef), (33, undef), (28, (.bool (decide (((k1 : Nat) : Int) > 0)))), (0, v0), (3, (.int .i64 ((k1 : Nat) : Int))), (4, (.pointer (some ⟨b26, 0, none⟩))), (9, v0), (10, (.int .i64 ((p0.length : Nat) : Int))), (11, (.int .i64 ((k1 : Nat) : Int)))] := ⟨hv.2.2.2.2.2.1 (hdep.1 rfl), hv.2.2.2.2.2.2.2.1 (hdep.2.1 rfl), hv.2.2.1 (hdep.2.2.1 rfl), ha.1, ha.2.1, ha.2.2.1, ha.2.2.2.1, ha.2.2.2.2.1, ha.2.2.2.2.2.1, trivial⟩
          obtain ⟨τ, rfl⟩ := ha2.ups
          refine RL.skip rfl (.inl (congrArg Value.bool hg37)) rfl ?_
          refine RL.nil ?_
          exact ⟨rfl, ⟨hv.1, hv.2.1, hv.2.2.1, hv.2.2.2.1, hv.2.2.2.2.1, hv.2.2.2.2.2.1, hv.2.2.2.2.2.2.1, hv.2.2.2.2.2.2.2.1, fun _ => rfl, hv.2.2.2.2.2.2.2.2.2.1, hv.2.2.2.2.2.2.2.2.2.2.1, hv.2.2.2.2.2.2.2.2.2.2.2.1, hv.2.2.2.2.2.2.2.2.2.2.2.2.1, trivial⟩, ha, hw⟩
        · intro D σ w hD hdep hJ
          obtain ⟨hv, ha, hw⟩ := hJ
          have ha2 : agree σ [(34, undef), (28, (.bool (decide (((k1 : Nat) : Int) > 0)))), (0, v0), (3, (.int .i64 ((k1 : Nat) : Int))), (4, (.pointer (some ⟨b26, 0, none⟩))), (9, v0), (10, (.int .i64 ((p0.length : Nat) : Int))), (11, (.int .i64 ((k1 : Nat) : Int)))] := ⟨hv.2.2.2.2.2.2.2.2.1 (hdep.1 rfl), hv.2.2.1 (hdep.2.1 rfl), ha.1, ha.2.1, ha.2.2.1, ha.2.2.2.1, ha.2.2.2.2.1, ha.2.2.2.2.2.1, trivial⟩
          obtain ⟨τ, rfl⟩ := ha2.ups
          refine RL.skip rfl (.inl (congrArg Value.bool hg37)) rfl ?_
          refine RL.nil ?_
          exact ⟨rfl, ⟨hv.1, hv.2.1, hv.2.2.1, hv.2.2.2.1, hv.2.2.2.2.1, hv.2.2.2.2.2.1, hv.2.2.2.2.2.2.1, hv.2.2.2.2.2.2.2.1, hv.2.2.2.2.2.2.2.2.1, fun _ => rfl, hv.2.2.2.2.2.2.2.2.2.2.1, hv.2.2.2.2.2.2.2.2.2.2.2.1, hv.2.2.2.2.2.2.2.2.2.2.2.2.1, trivial⟩, ha, hw⟩
        · intro D σ w hD hdep hJ
          obtain ⟨hv, ha, hw⟩ := hJ
          have ha2 : agree σ [(35, undef), (28, (.bool (decide (((k1 : Nat) : Int) > 0)))), (0, v0), (3, (.int .i64 ((k1 : Nat) : Int))), (4, (.pointer (some ⟨b26, 0, none⟩))), (9, v0), (10, (.int .i64 ((p0.length : Nat) : Int))), (11, (.int .i64 ((k1 : Nat) : Int)))] := ⟨hv.2.2.2.2.2.2.2.2.2.1 (hdep.1 rfl), hv.2.2.1 (hdep.2.1 rfl), ha.1, ha.2.1, ha.2.2.1, ha.2.2.2.1, ha.2.2.2.2.1, ha.2.2.2.2.2.1, trivial⟩
          obtain ⟨τ, rfl⟩ := ha2.ups
          refine RL.skip rfl (.inl (congrArg Value.bool hg37)) rfl ?_
          refine RL.nil ?_
          exact ⟨rfl, ⟨hv.1, hv.2.1, hv.2.2.1, hv.2.2.2.1, hv.2.2.2.2.1, hv.2.2.2.2.2.1, hv.2.2.2.2.2.2.1, hv.2.2.2.2.2.2.2.1, hv.2.2.2.2.2.2.2.2.1, hv.2.2.2.2.2.2.2.2.2.1, fun _ => rfl, hv.2.2.2.2.2.2.2.2.2.2.2.1, hv.2.2.2.2.2.2.2.2.2.2.2.2.1, trivial⟩, ha, hw⟩
        · intro D σ w hD hdep hJ
          obtain ⟨hv, ha, hw⟩ := hJ
          have ha2 : agree σ [(30, undef), (36, undef), (28, (.bool (decide (((k1 : Nat) : Int) > 0)))), (0, v0), (3, (.int .i64 ((k1 : Nat) : Int))), (4, (.pointer (some ⟨b26, 0, none⟩))), (9, v0), (10, (.int .i64 ((p0.length : Nat) : Int))), (11, (.int .i64 ((k1 : Nat) : Int)))] := ⟨hv.2.2.2.2.1 (hdep.1 rfl), hv.2.2.2.2.2.2.2.2.2.2.1 (hdep.2.1 rfl), hv.2.2.1 (hdep.2.2.1 rfl), ha.1, ha.2.1, ha.2.2.1, ha.2.2.2.1, ha.2.2.2.2.1, ha.2.2.2.2.2.1, trivial⟩
          obtain ⟨τ, rfl⟩ := ha2.ups
          refine RL.skip rfl (.inl (congrArg Value.bool hg37)) rfl ?_
          refine RL.nil ?_
          exact ⟨rfl, ⟨hv.1, hv.2.1, hv.2.2.1, hv.2.2.2.1, hv.2.2.2.2.1, hv.2.2.2.2.2.1, hv.2.2.2.2.2.2.1, hv.2.2.2.2.2.2.2.1, hv.2.2.2.2.2.2.2.2.1, hv.2.2.2.2.2.2.2.2.2.1, hv.2.2.2.2.2.2.2.2.2.2.1, fun _ => rfl, hv.2.2.2.2.2.2.2.2.2.2.2.2.1, trivial⟩, ha, hw⟩
        · intro D σ w hD hdep hJ
          obtain ⟨hv, ha, hw⟩ := hJ
          have ha2 : agree σ [(28, (.bool (decide (((k1 : Nat) : Int) > 0)))), (37, undef), (0, v0), (3, (.int .i64 ((k1 : Nat) : Int))), (4, (.pointer (some ⟨b26, 0, none⟩))), (9, v0), (10, (.int .i64 ((p0.length : Nat) : Int))), (11, (.int .i64 ((k1 : Nat) : Int)))] := ⟨hv.2.2.1 (hdep.1 rfl), hv.2.2.2.2.2.2.2.2.2.2.2.1 (hdep.2.1 rfl), ha.1, ha.2.1, ha.2.2.1, ha.2.2.2.1, ha.2.2.2.2.1, ha.2.2.2.2.2.1, trivial⟩
          obtain ⟨τ, rfl⟩ := ha2.ups
          refine RL.pick (b := (decide (((k1 : Nat) : Int) > 0))) (v := (.bool false)) trivial rfl rfl (by rw [hg37]; rfl) ?_
          refine RL.nil ?_
          exact ⟨rfl, ⟨hv.1, hv.2.1, hv.2.2.1, hv.2.2.2.1, hv.2.2.2.2.1, hv.2.2.2.2.2.1, hv.2.2.2.2.2.2.1, hv.2.2.2.2.2.2.2.1, hv.2.2.2.2.2.2.2.2.1, hv.2.2.2.2.2.2.2.2.2.1, hv.2.2.2.2.2.2.2.2.2.2.1, hv.2.2.2.2.2.2.2.2.2.2.2.1, fun _ => rfl, trivial⟩, ha, hw⟩
        intro D σ w hall hJ
        obtain ⟨hv, ha, hw⟩ := hJ
        have ha2 : agree σ [(38, (.bool false)), (0, v0), (3, (.int .i64 ((k1 : Nat) : Int))), (4, (.pointer (some ⟨b26, 0, none⟩))), (9, v0), (10, (.int .i64 ((p0.length : Nat) : Int))), (11, (.int .i64 ((k1 : Nat) : Int)))] := ⟨hv.2.2.2.2.2.2.2.2.2.2.2.2.1 (hall 12 (by decide)), ha.1, ha.2.1, ha.2.2.1, ha.2.2.2.1, ha.2.2.2.2.1, ha.2.2.2.2.2.1, trivial⟩
        obtain ⟨τ, rfl⟩ := ha2.ups
        injection hj with hj; subst hj
        exact ⟨rfl, ⟨rfl, rfl, rfl, rfl, rfl, trivial⟩, hw.pick 5 [4] (new := [rd v0 p0]) rfl rfl (by decide) (by decide)⟩
      replace hj := cT hg37 hj
      obtain ⟨x38, hx38, hj⟩ := bd hj
      refine RC.draw mixed rfl (fun (D : Nat → Bool) (σ : Nat → Value) (w : World) => ∃ v39 v40 : Value, doneV D σ [(0, 26, (.int .i64 ((k1 : Nat) : Int))), (1, 27, (.bool (decide (((k1 : Nat) : Int) > 0)))), (2, 28, (.bool (decide (((k1 : Nat) : Int) > 0)))), (3, 29, (.pointer (some ⟨b26, 0, none⟩))), (4, 30, (str x23.Name)), (5, 31, v0), (6, 32, (.int .i64 ((k1 : Nat) : Int))), (7, 33, (.int .i64 (IntKind.wrap .i64 (((k1 : Nat) : Int) - 1)))), (8, 34, v39), (9, 35, v40), (10, 36, (str x38.Name)), (11, 37, (.bool (x23.Name.ltb x38.Name || x23.Name.eqb x38.Name))), (12, 38, (.bool (x23.Name.ltb x38.Name || x23.Name.eqb x38.Name)))] ∧ agree σ [(0, v0), (3, (.int .i64 ((k1 : Nat) : Int))), (4, (.pointer (some ⟨b26, 0, none⟩))), (9, v0), (10, (.int .i64 ((p0.length : Nat) : Int))), (11, (.int .i64 ((k1 : Nat) : Int)))] ∧ Holds E w ([bif D 8 then (pt v39 x38) else junk, bif D 9 then (pt v40 x38.Name) else junk, rd v28 x23.Pins, bx 85 b26 x23, rd v25 x23, pt v24 x23, rd v0 p0] ++ Γ)) ?_ ⟨?_, ?_, ?_, ?_, ?_, ?_, ?_, ?_, ?_, ?_, ?_, ?_, ?_, trivial⟩ ?_
      · have hw := hw.drew
        have hw := hw.junk
        have hw := hw.junk
        exact ⟨undef, undef, ⟨(fun h => by cases h), (fun h => by cases h), (fun h => by cases h), (fun h => by cases h), (fun h => by cases h), (fun h => by cases h), (fun h => by cases h), (fun h => by cases h), (fun h => by cases h), (fun h => by cases h), (fun h => by cases h), (fun h => by cases h), (fun h => by cases h), trivial⟩, ⟨rfl, rfl, rfl, rfl, rfl, rfl, trivial⟩, hw⟩
      · intro D σ w hD hdep hJ
        obtain ⟨v39, v40, hv, ha, hw⟩ := hJ
        have ha2 : agree σ [(0, v0), (3, (.int .i64 ((k1 : Nat) : Int))), (4, (.pointer (some ⟨b26, 0, none⟩))), (9, v0), (10, (.int .i64 ((p0.length : Nat) : Int))), (11, (.int .i64 ((k1 : Nat) : Int)))] := ⟨ha.1, ha.2.1, ha.2.2.1, ha.2.2.2.1, ha.2.2.2.2.1, ha.2.2.2.2.2.1, trivial⟩
        obtain ⟨τ, rfl⟩ := ha2.ups
        refine RL.move (v := (.int .i64 ((k1 : Nat) : Int))) trivial rfl rfl ?_
        refine RL.nil ?_
        exact ⟨rfl, v39, v40, ⟨fun _ => rfl, hv.2.1, hv.2.2.1, hv.2.2.2.1, hv.2.2.2.2.1, hv.2.2.2.2.2.1, hv.2.2.2.2.2.2.1, hv.2.2.2.2.2.2.2.1, hv.2.2.2.2.2.2.2.2.1, hv.2.2.2.2.2.2.2.2.2.1, hv.2.2.2.2.2.2.2.2.2.2.1, hv.2.2.2.2.2.2.2.2.2.2.2.1, hv.2.2.2.2.2.2.2.2.2.2.2.2.1, trivial⟩, ha, hw⟩
      · intro D σ w hD hdep hJ
        obtain ⟨v39, v40, hv, ha, hw⟩ := hJ
        have ha2 : agree σ [(26, (.int .i64 ((k1 : Nat) : Int))), (0, v0), (3, (.int .i64 ((k1 : Nat) : Int))), (4, (.pointer (some ⟨b26, 0, none⟩))), (9, v0), (10, (.int .i64 ((p0.length : Nat) : Int))), (11, (.int .i64 ((k1 : Nat) : Int)))] := ⟨hv.1 (hdep.1 rfl), ha.1, ha.2.1, ha.2.2.1, ha.2.2.2.1, ha.2.2.2.2.1, ha.2.2.2.2.2.1, trivial⟩
        obtain ⟨τ, rfl⟩ := ha2.ups
        refine RL.icmp (a := ((k1 : Nat) : Int)) (b := 0) trivial rfl rfl rfl rfl ?_
        refine RL.nil ?_
        exact ⟨rfl, v39, v40, ⟨hv.1, fun _ => rfl, hv.2.2.1, hv.2.2.2.1, hv.2.2.2.2.1, hv.2.2.2.2.2.1, hv.2.2.2.2.2.2.1, hv.2.2.2.2.2.2.2.1, hv.2.2.2.2.2.2.2.2.1, hv.2.2.2.2.2.2.2.2.2.1, hv.2.2.2.2.2.2.2.2.2.2.1, hv.2.2.2.2.2.2.2.2.2.2.2.1, hv.2.2.2.2.2.2.2.2.2.2.2.2.1, trivial⟩, ha, hw⟩
      · intro D σ w hD hdep hJ
        obtain ⟨v39, v40, hv, ha, hw⟩ := hJ
        have ha2 : agree σ [(27, (.bool (decide (((k1 : Nat) : Int) > 0)))), (0, v0), (3, (.int .i64 ((k1 : Nat) : Int))), (4, (.pointer (some ⟨b26, 0, none⟩))), (9, v0), (10, (.int .i64 ((p0.length : Nat) : Int))), (11, (.int .i64 ((k1 : Nat) : Int)))] := ⟨hv.2.1 (hdep.1 rfl), ha.1, ha.2.1, ha.2.2.1, ha.2.2.2.1, ha.2.2.2.2.1, ha.2.2.2.2.2.1, trivial⟩
        obtain ⟨τ, rfl⟩ := ha2.ups
        refine RL.move (v := (.bool (decide (((k1 : Nat) : Int) > 0)))) trivial rfl rfl ?_
        refine RL.nil ?_
        exact ⟨rfl, v39, v40, ⟨hv.1, hv.2.1, fun _ => rfl, hv.2.2.2.1, hv.2.2.2.2.1, hv.2.2.2.2.2.1, hv.2.2.2.2.2.2.1, hv.2.2.2.2.2.2.2.1, hv.2.2.2.2.2.2.2.2.1, hv.2.2.2.2.2.2.2.2.2.1, hv.2.2.2.2.2.2.2.2.2.2.1, hv.2.2.2.2.2.2.2.2.2.2.2.1, hv.2.2.2.2.2.2.2.2.2.2.2.2.1, trivial⟩, ha, hw⟩
      · intro D σ w hD hdep hJ
        obtain ⟨v39, v40, hv, ha, hw⟩ := hJ
        have ha2 : agree σ [(28, (.bool (decide (((k1 : Nat) : Int) > 0)))), (0, v0), (3, (.int .i64 ((k1 : Nat) : Int))), (4, (.pointer (some ⟨b26, 0, none⟩))), (9, v0), (10, (.int .i64 ((p0.length : Nat) : Int))), (11, (.int .i64 ((k1 : Nat) : Int)))] := ⟨hv.2.2.1 (hdep.1 rfl), ha.1, ha.2.1, ha.2.2.1, ha.2.2.2.1, ha.2.2.2.2.1, ha.2.2.2.2.2.1, trivial⟩
        obtain ⟨τ, rfl⟩ := ha2.ups
        refine RL.fa_b ⟨_, rfl, congrArg Value.bool hg37⟩ rfl rfl fa85_0 ?_
        refine RL.nil ?_
        exact ⟨rfl, v39, v40, ⟨hv.1, hv.2.1, hv.2.2.1, fun _ => rfl, hv.2.2.2.2.1, hv.2.2.2.2.2.1, hv.2.2.2.2.2.2.1, hv.2.2.2.2.2.2.2.1, hv.2.2.2.2.2.2.2.2.1, hv.2.2.2.2.2.2.2.2.2.1, hv.2.2.2.2.2.2.2.2.2.2.1, hv.2.2.2.2.2.2.2.2.2.2.2.1, hv.2.2.2.2.2.2.2.2.2.2.2.2.1, trivial⟩, ha, hw⟩
      · intro D σ w hD hdep hJ
        obtain ⟨v39, v40, hv, ha, hw⟩ := hJ
        have ha2 : agree σ [(29, (.pointer (some ⟨b26, 0, none⟩))), (28, (.bool (decide (((k1 : Nat) : Int) > 0)))), (0, v0), (3, (.int .i64 ((k1 : Nat) : Int))), (4, (.pointer (some ⟨b26, 0, none⟩))), (9, v0), (10, (.int .i64 ((p0.length : Nat) : Int))), (11, (.int .i64 ((k1 : Nat) : Int)))] := ⟨hv.2.2.2.1 (hdep.1 rfl), hv.2.2.1 (hdep.2.1 rfl), ha.1, ha.2.1, ha.2.2.1, ha.2.2.2.1, ha.2.2.2.2.1, ha.2.2.2.2.2.1, trivial⟩
        obtain ⟨τ, rfl⟩ := ha2.ups
        refine RL.load_bfs (i := 3) (f := (fun x => x.Name)) ⟨_, rfl, congrArg Value.bool hg37⟩ rfl hw rfl rfl fd_PartType_0 ty9 ?_
        refine RL.nil ?_
        exact ⟨rfl, v39, v40, ⟨hv.1, hv.2.1, hv.2.2.1, hv.2.2.2.1, fun _ => rfl, hv.2.2.2.2.2.1, hv.2.2.2.2.2.2.1, hv.2.2.2.2.2.2.2.1, hv.2.2.2.2.2.2.2.2.1, hv.2.2.2.2.2.2.2.2.2.1, hv.2.2.2.2.2.2.2.2.2.2.1, hv.2.2.2.2.2.2.2.2.2.2.2.1, hv.2.2.2.2.2.2.2.2.2.2.2.2.1, trivial⟩, ha, hw⟩
      · intro D σ w hD hdep hJ
        obtain ⟨v39, v40, hv, ha, hw⟩ := hJ
        have ha2 : agree σ [(28, (.bool (decide (((k1 : Nat) : Int) > 0)))), (0, v0), (3, (.int .i64 ((k1 : Nat) : Int))), (4, (.pointer (some ⟨b26, 0, none⟩))), (9, v0), (10, (.int .i64 ((p0.length : Nat) : Int))), (11, (.int .i64 ((k1 : Nat) : Int)))] := ⟨hv.2.2.1 (hdep.1 rfl), ha.1, ha.2.1, ha.2.2.1, ha.2.2.2.1, ha.2.2.2.2.1, ha.2.2.2.2.2.1, trivial⟩
        obtain ⟨τ, rfl⟩ := ha2.ups
        refine RL.move (v := v0) ⟨_, rfl, congrArg Value.bool hg37⟩ rfl rfl ?_
        refine RL.nil ?_
        exact ⟨rfl, v39, v40, ⟨hv.1, hv.2.1, hv.2.2.1, hv.2.2.2.1, hv.2.2.2.2.1, fun _ => rfl, hv.2.2.2.2.2.2.1, hv.2.2.2.2.2.2.2.1, hv.2.2.2.2.2.2.2.2.1, hv.2.2.2.2.2.2.2.2.2.1, hv.2.2.2.2.2.2.2.2.2.2.1, hv.2.2.2.2.2.2.2.2.2.2.2.1, hv.2.2.2.2.2.2.2.2.2.2.2.2.1, trivial⟩, ha, hw⟩
      · intro D σ w hD hdep hJ
        obtain ⟨v39, v40, hv, ha, hw⟩ := hJ
        have ha2 : agree σ [(28, (.bool (decide (((k1 : Nat) : Int) > 0)))), (0, v0), (3, (.int .i64 ((k1 : Nat) : Int))), (4, (.pointer (some ⟨b26, 0, none⟩))), (9, v0), (10, (.int .i64 ((p0.length : Nat) : Int))), (11, (.int .i64 ((k1 : Nat) : Int)))] := ⟨hv.2.2.1 (hdep.1 rfl), ha.1, ha.2.1, ha.2.2.1, ha.2.2.2.1, ha.2.2.2.2.1, ha.2.2.2.2.2.1, trivial⟩
        obtain ⟨τ, rfl⟩ := ha2.ups
        refine RL.move (v := (.int .i64 ((k1 : Nat) : Int))) ⟨_, rfl, congrArg Value.bool hg37⟩ rfl rfl ?_
        refine RL.nil ?_
        exact ⟨rfl, v39, v40, ⟨hv.1, hv.2.1, hv.2.2.1, hv.2.2.2.1, hv.2.2.2.2.1, hv.2.2.2.2.2.1, fun _ => rfl, hv.2.2.2.2.2.2.2.1, hv.2.2.2.2.2.2.2.2.1, hv.2.2.2.2.2.2.2.2.2.1, hv.2.2.2.2.2.2.2.2.2.2.1, hv.2.2.2.2.2.2.2.2.2.2.2.1, hv.2.2.2.2.2.2.2.2.2.2.2.2.1, trivial⟩, ha, hw⟩
      · intro D σ w hD hdep hJ
        obtain ⟨v39, v40, hv, ha, hw⟩ := hJ
        have ha2 : agree σ [(32, (.int .i64 ((k1 : Nat) : Int))), (28, (.bool (decide (((k1 : Nat) : Int) > 0)))), (0, v0), (3, (.int .i64 ((k1 : Nat) : Int))), (4, (.pointer (some ⟨b26, 0, none⟩))), (9, v0), (10, (.int .i64 ((p0.length : Nat) : Int))), (11, (.int .i64 ((k1 : Nat) : Int)))] := ⟨hv.2.2.2.2.2.2.1 (hdep.1 rfl), hv.2.2.1 (hdep.2.1 rfl), ha.1, ha.2.1, ha.2.2.1, ha.2.2.2.1, ha.2.2.2.2.1, ha.2.2.2.2.2.1, trivial⟩
        obtain ⟨τ, rfl⟩ := ha2.ups
        refine RL.iar (a := ((k1 : Nat) : Int)) (b := 1) ⟨_, rfl, congrArg Value.bool hg37⟩ rfl rfl rfl rfl ?_
        refine RL.nil ?_
        exact ⟨rfl, v39, v40, ⟨hv.1, hv.2.1, hv.2.2.1, hv.2.2.2.1, hv.2.2.2.2.1, hv.2.2.2.2.2.1, hv.2.2.2.2.2.2.1, fun _ => rfl, hv.2.2.2.2.2.2.2.2.1, hv.2.2.2.2.2.2.2.2.2.1, hv.2.2.2.2.2.2.2.2.2.2.1, hv.2.2.2.2.2.2.2.2.2.2.2.1, hv.2.2.2.2.2.2.2.2.2.2.2.2.1, trivial⟩, ha, hw⟩
      · intro D σ w hD hdep hJ
        obtain ⟨v39, v40, hv, ha, hw⟩ := hJ
        have ha2 : agree σ [(31, v0), (33, (.int .i64 (IntKind.wrap .i64 (((k1 : Nat) : Int) - 1)))), (28, (.bool (decide (((k1 : Nat) : Int) > 0)))), (0, v0), (3, (.int .i64 ((k1 : Nat) : Int))), (4, (.pointer (some ⟨b26, 0, none⟩))), (9, v0), (10, (.int .i64 ((p0.length : Nat) : Int))), (11, (.int .i64 ((k1 : Nat) : Int)))] := ⟨hv.2.2.2.2.2.1 (hdep.1 rfl), hv.2.2.2.2.2.2.2.1 (hdep.2.1 rfl), hv.2.2.1 (hdep.2.2.1 rfl), ha.1, ha.2.1, ha.2.2.1, ha.2.2.2.1, ha.2.2.2.2.1, ha.2.2.2.2.2.1, trivial⟩
        obtain ⟨τ, rfl⟩ := ha2.ups
        refine RL.ia_rd (i := 6) ⟨_, rfl, congrArg Value.bool hg37⟩ rfl hw rfl rfl rfl sl22 hx38 fun v41 hw => ?_
        have hw := hw.fillat 0 1 0 rfl rfl rfl (by simp)
        refine RL.nil ?_
        exact ⟨rfl, v41, v40, ⟨hv.1, hv.2.1, hv.2.2.1, hv.2.2.2.1, hv.2.2.2.2.1, hv.2.2.2.2.2.1, hv.2.2.2.2.2.2.1, hv.2.2.2.2.2.2.2.1, fun _ => rfl, hv.2.2.2.2.2.2.2.2.2.1, hv.2.2.2.2.2.2.2.2.2.2.1, hv.2.2.2.2.2.2.2.2.2.2.2.1, hv.2.2.2.2.2.2.2.2.2.2.2.2.1, trivial⟩, ha, hw⟩
      · intro D σ w hD hdep hJ
        obtain ⟨v39, v40, hv, ha, hw⟩ := hJ
        have ha2 : agree σ [(34, v39), (28, (.bool (decide (((k1 : Nat) : Int) > 0)))), (0, v0), (3, (.int .i64 ((k1 : Nat) : Int))), (4, (.pointer (some ⟨b26, 0, none⟩))), (9, v0), (10, (.int .i64 ((p0.length : Nat) : Int))), (11, (.int .i64 ((k1 : Nat) : Int)))] := ⟨hv.2.2.2.2.2.2.2.2.1 (hdep.1 rfl), hv.2.2.1 (hdep.2.1 rfl), ha.1, ha.2.1, ha.2.2.1, ha.2.2.2.1, ha.2.2.2.2.1, ha.2.2.2.2.2.1, trivial⟩
        obtain ⟨τ, rfl⟩ := ha2.ups
        refine RL.fa_pt (i := 0) (f := fun (x : PartType) => x.Name) ⟨_, rfl, congrArg Value.bool hg37⟩ rfl hw rfl (ent_t (hdep.1 rfl)) fa85_0 fd_PartType_0 fun v42 hw => ?_
        have hw := hw.fillat 0 1 1 rfl rfl rfl (by simp)
        refine RL.nil ?_
        exact ⟨rfl, v39, v42, ⟨hv.1, hv.2.1, hv.2.2.1, hv.2.2.2.1, hv.2.2.2.2.1, hv.2.2.2.2.2.1, hv.2.2.2.2.2.2.1, hv.2.2.2.2.2.2.2.1, hv.2.2.2.2.2.2.2.2.1, fun _ => rfl, hv.2.2.2.2.2.2.2.2.2.2.1, hv.2.2.2.2.2.2.2.2.2.2.2.1, hv.2.2.2.2.2.2.2.2.2.2.2.2.1, trivial⟩, ha, hw⟩
      · intro D σ w hD hdep hJ
        obtain ⟨v39, v40, hv, ha, hw⟩ := hJ
        have ha2 : agree σ [(35, v40), (28, (.bool (decide (((k1 : Nat) : Int) > 0)))), (0, v0), (3, (.int .i64 ((k1 : Nat) : Int))), (4, (.pointer (some ⟨b26, 0, none⟩))), (9, v0), (10, (.int .i64 ((p0.length : Nat) : Int))), (11, (.int .i64 ((k1 : Nat) : Int)))] := ⟨hv.2.2.2.2.2.2.2.2.2.1 (hdep.1 rfl), hv.2.2.1 (hdep.2.1 rfl), ha.1, ha.2.1, ha.2.2.1, ha.2.2.2.1, ha.2.2.2.2.1, ha.2.2.2.2.2.1, trivial⟩
        obtain ⟨τ, rfl⟩ := ha2.ups
        refine RL.load_pts (i := 1) (y := x38.Name) ⟨_, rfl, congrArg Value.bool hg37⟩ rfl hw rfl (ent_t (hdep.1 rfl)) ty9 ?_
        refine RL.nil ?_
        exact ⟨rfl, v39, v40, ⟨hv.1, hv.2.1, hv.2.2.1, hv.2.2.2.1, hv.2.2.2.2.1, hv.2.2.2.2.2.1, hv.2.2.2.2.2.2.1, hv.2.2.2.2.2.2.2.1, hv.2.2.2.2.2.2.2.2.1, hv.2.2.2.2.2.2.2.2.2.1, fun _ => rfl, hv.2.2.2.2.2.2.2.2.2.2.2.1, hv.2.2.2.2.2.2.2.2.2.2.2.2.1, trivial⟩, ha, hw⟩
      · intro D σ w hD hdep hJ
        obtain ⟨v39, v40, hv, ha, hw⟩ := hJ
        have ha2 : agree σ [(30, (str x23.Name)), (36, (str x38.Name)), (28, (.bool (decide (((k1 : Nat) : Int) > 0)))), (0, v0), (3, (.int .i64 ((k1 : Nat) : Int))), (4, (.pointer (some ⟨b26, 0, none⟩))), (9, v0), (10, (.int .i64 ((p0.length : Nat) : Int))), (11, (.int .i64 ((k1 : Nat) : Int)))] := ⟨hv.2.2.2.2.1 (hdep.1 rfl), hv.2.2.2.2.2.2.2.2.2.2.1 (hdep.2.1 rfl), hv.2.2.1 (hdep.2.2.1 rfl), ha.1, ha.2.1, ha.2.2.1, ha.2.2.2.1, ha.2.2.2.2.1, ha.2.2.2.2.2.1, trivial⟩
        obtain ⟨τ, rfl⟩ := ha2.ups
        refine RL.scmp (a := x23.Name) (b := x38.Name) ⟨_, rfl, congrArg Value.bool hg37⟩ rfl rfl rfl rfl ?_
        refine RL.nil ?_
        exact ⟨rfl, v39, v40, ⟨hv.1, hv.2.1, hv.2.2.1, hv.2.2.2.1, hv.2.2.2.2.1, hv.2.2.2.2.2.1, hv.2.2.2.2.2.2.1, hv.2.2.2.2.2.2.2.1, hv.2.2.2.2.2.2.2.2.1, hv.2.2.2.2.2.2.2.2.2.1, hv.2.2.2.2.2.2.2.2.2.2.1, fun _ => rfl, hv.2.2.2.2.2.2.2.2.2.2.2.2.1, trivial⟩, ha, hw⟩
      · intro D σ w hD hdep hJ
        obtain ⟨v39, v40, hv, ha, hw⟩ := hJ
        have ha2 : agree σ [(28, (.bool (decide (((k1 : Nat) : Int) > 0)))), (37, (.bool (x23.Name.ltb x38.Name || x23.Name.eqb x38.Name))), (0, v0), (3, (.int .i64 ((k1 : Nat) : Int))), (4, (.pointer (some ⟨b26, 0, none⟩))), (9, v0), (10, (.int .i64 ((p0.length : Nat) : Int))), (11, (.int .i64 ((k1 : Nat) : Int)))] := ⟨hv.2.2.1 (hdep.1 rfl), hv.2.2.2.2.2.2.2.2.2.2.2.1 (hdep.2.1 rfl), ha.1, ha.2.1, ha.2.2.1, ha.2.2.2.1, ha.2.2.2.2.1, ha.2.2.2.2.2.1, trivial⟩
        obtain ⟨τ, rfl⟩ := ha2.ups
        refine RL.pick (b := (decide (((k1 : Nat) : Int) > 0))) (v := (.bool (x23.Name.ltb x38.Name || x23.Name.eqb x38.Name))) trivial rfl rfl (by rw [hg37]; rfl) ?_
        refine RL.nil ?_
        exact ⟨rfl, v39, v40, ⟨hv.1, hv.2.1, hv.2.2.1, hv.2.2.2.1, hv.2.2.2.2.1, hv.2.2.2.2.2.1, hv.2.2.2.2.2.2.1, hv.2.2.2.2.2.2.2.1, hv.2.2.2.2.2.2.2.2.1, hv.2.2.2.2.2.2.2.2.2.1, hv.2.2.2.2.2.2.2.2.2.2.1, hv.2.2.2.2.2.2.2.2.2.2.2.1, fun _ => rfl, trivial⟩, ha, hw⟩
      intro D σ w hall hJ
      obtain ⟨v39, v40, hv, ha, hw⟩ := hJ
      rw [hall 8 (by decide)] at hw
      rw [hall 9 (by decide)] at hw
      have ha2 : agree σ [(38, (.bool (x23.Name.ltb x38.Name || x23.Name.eqb x38.Name))), (0, v0), (3, (.int .i64 ((k1 : Nat) : Int))), (4, (.pointer (some ⟨b26, 0, none⟩))), (9, v0), (10, (.int .i64 ((p0.length : Nat) : Int))), (11, (.int .i64 ((k1 : Nat) : Int)))] := ⟨hv.2.2.2.2.2.2.2.2.2.2.2.2.1 (hall 12 (by decide)), ha.1, ha.2.1, ha.2.2.1, ha.2.2.2.1, ha.2.2.2.2.1, ha.2.2.2.2.2.1, trivial⟩
      obtain ⟨τ, rfl⟩ := ha2.ups
      injection hj with hj; subst hj
      exact ⟨rfl, ⟨rfl, rfl, rfl, rfl, rfl, trivial⟩, hw.pick 7 [6] (new := [rd v0 p0]) rfl rfl (by decide) (by decide)⟩
    rintro σ w ⟨ha, hw⟩
    obtain ⟨τ, rfl⟩ := ha.ups
    refine thenQ_n ?_
    refine RC.cond (b := s36) rfl (fun hc => ?_) (fun hc => ?_)
    rotate_left
    · replace hb := cF hc hb
      refine RC.skip ?_
      refine blkQ_n ?_
      refine thenQ_n ?_
      refine RC.region ?_
      refine RL.inc trivial rfl hk hm rfl rfl ?_
      refine RL.move (v := (.int .i64 ((k1 + 1 : Nat) : Int))) trivial rfl rfl ?_
      refine RL.nil ?_
      injection hb with hb; subst hb
      exact ⟨rfl, ⟨rfl, rfl, rfl, rfl, trivial⟩, hw.pick 1 [0] (new := [rd v0 p0]) rfl rfl (by decide) (by decide)⟩
    replace hb := cT hc hb
    refine RC.seq ?_
    refine RC.region ?_
    refine RL.assign (v := (.int .i64 8)) trivial rfl rfl ?_
    refine RL.nil ?_
    refine thenQ_n ?_
    refine RC.ret ?_
    refine blkQ_r ?_
    refine thenQ_r ?_
    injection hb with hb; subst hb
    exact ⟨rfl, fin1 rfl rfl ⟨rfl, hw.drop 1 rfl⟩⟩
  · intro r σ w e hK
    subst e
    refine thenQ_r ?_
    injection hb with hb; subst hb
    exact hK
  intro s2 σ w e hJ
  subst e
  rw [Fo.cs_go] at hb
  obtain ⟨ha, hw⟩ := hJ
  obtain ⟨τ, rfl⟩ := ha.ups
  refine thenQ_n ?_
  refine RC.seq ?_
  refine RC.region ?_
  refine RL.assign (v := (.int .i64 0)) trivial rfl rfl ?_
  refine RL.nil ?_
  refine thenQ_n ?_
  refine RC.ret ?_
  injection hb with hb; subst hb
  exact fin1 rfl rfl ⟨rfl, hw.drop 1 rfl⟩
def slices_BinarySearchFunc_PartType_string_R (E : World) (Γ : List HP) (res : Int × Bool) (v : Value) (w : World) : Prop := v = .tuple #[(.int .i64 res.1), (.bool res.2)] ∧ Holds E w Γ
def slices_BinarySearchFunc_PartType_string_K (E : World) (Γ : List HP) (r : Int × Bool) (σ : Nat → Value) (w : World) : Prop := finQ Tryd.prog 49 Tryd.f105 (slices_BinarySearchFunc_PartType_string_R E Γ r) .ret σ w
theorem slices_BinarySearchFunc_PartType_string_ok (N : Nat) {E w : World} {Γ : List HP} {i0 : Nat} {v0 : Value} {p0 : (List PartType)} {p1 : Str} {v2 : Value} {p2 : PartType → Str → Option Int} {res : Int × Bool} (hw : Holds E w Γ) (h0 : Γ[i0]? = some (rd v0 p0)) (h2 : Fn2 Tryd.prog E Γ v2 p2 (fun (r : Int) => Value.int .i64 r)) (hb : slices_BinarySearchFunc_PartType_string N p0 p1 p2 = some res) :
    Calls Tryd.prog 105 [v0, (str p1), v2].toArray w (Ret (slices_BinarySearchFunc_PartType_string_R E Γ res)) := by
  unfold slices_BinarySearchFunc_PartType_string at hb
  refine enter Tryd.func105 rfl rfl (Nat.le_of_ble_eq_true rfl) ?_
  have hw := hw.dup (i := i0 + 0) h0
  refine RC.seq ?_
  refine RC.region ?_
  refine RL.assign (v := (.int .i64 0)) trivial rfl rfl ?_
  refine RL.assign (v := (.bool false)) trivial rfl rfl ?_
  refine RL.nil ?_
  refine thenQ_n ?_
  refine RC.seq ?_
  refine RC.region ?_
  refine RL.move (v := v0) trivial rfl rfl ?_
  refine RL.len_rd (i := 0) (l := p0) trivial rfl hw rfl rfl un22 ?_
  refine RL.assign (v := (.int .i64 ((p0.length : Nat) : Int))) trivial rfl rfl ?_
  refine RL.nil ?_
  refine thenQ_n ?_
  refine RC.seq ?_
  refine RC.region ?_
  refine RL.move (v := (.int .i64 ((p0.length : Nat) : Int))) trivial rfl rfl ?_
  refine RL.assign (v := (.int .i64 0)) trivial rfl rfl ?_
  refine RL.assign (v := (.int .i64 ((p0.length : Nat) : Int))) trivial rfl rfl ?_
  refine RL.nil ?_
  refine thenQ_n ?_
  refine RC.seq ?_
  obtain ⟨o29, hN, hb⟩ := bd hb
  refine RC.iter (fun (s2 : Int × Int) (σ : Nat → Value) (w : World) => agree σ [(0, v0), (1, (str p1)), (2, v2), (8, (.int .i64 ((p0.length : Nat) : Int))), (9, (.int .i64 s2.1)), (10, (.int .i64 s2.2))] ∧ Holds E w ([rd v0 p0] ++ Γ)) (fun (s2 : Int × Int) (σ : Nat → Value) (w : World) => agree σ [(0, v0), (1, (str p1)), (2, v2), (8, (.int .i64 ((p0.length : Nat) : Int))), (9, (.int .i64 s2.1))] ∧ Holds E w ([rd v0 p0] ++ Γ)) (fun (r : Empty) (_ : Nat → Value) (_ : World) => r.elim) hN ?_ ?_ ?_ ?_ 
  · exact ⟨⟨rfl, rfl, rfl, rfl, rfl, rfl, trivial⟩, hw.pick 1 [0] (new := [rd v0 p0]) rfl rfl (by decide) (by decide)⟩
  · intro s2 fl σ w hI hb
    obtain ⟨ha, hw⟩ := hI
    obtain ⟨τ, rfl⟩ := ha.ups
    refine RC.seq ?_
    refine RC.seq ?_
    refine RC.region ?_
    refine RL.move (v := (.int .i64 s2.1)) trivial rfl rfl ?_
    refine RL.move (v := (.int .i64 s2.2)) trivial rfl rfl ?_
    refine RL.icmp (a := s2.1) (b := s2.2) trivial rfl rfl rfl rfl ?_
    refine RL.nil ?_
    refine thenQ_n ?_
    refine RC.cond (b := (decide (s2.1 < s2.2))) rfl (fun hc => ?_) (fun hc => ?_)
    rotate_left
    · replace hb := cF hc hb
      refine RC.exit ?_
      refine thenQ_x ?_
      injection hb with hb; subst hb
      exact ⟨rfl, ⟨rfl, rfl, rfl, rfl, rfl, trivial⟩, hw.pick 1 [0] (new := [rd v0 p0]) rfl rfl (by decide) (by decide)⟩
    replace hb := cT hc hb
    refine RC.skip ?_
    refine thenQ_n ?_
    refine RC.block ?_
    refine RC.seq ?_
    refine RC.region ?_
    refine RL.move (v := (.int .i64 s2.1)) trivial rfl rfl ?_
    refine RL.move (v := (.int .i64 s2.2)) trivial rfl rfl ?_
    refine RL.iar (a := s2.1) (b := s2.2) trivial rfl rfl rfl rfl ?_
    refine RL.conv (a := (IntKind.wrap .i64 (s2.1 + s2.2))) trivial rfl rfl ⟨_, un3⟩ un180 ?_
    refine RL.bin (v := (.int .u64 (IntKind.wrap .u64 (IntKind.wrap .i64 (s2.1 + s2.2))))) (v' := (.int .u64 1)) (u := (.int .u64 (Int.fdiv (IntKind.wrap .u64 (IntKind.wrap .i64 (s2.1 + s2.2))) 2))) trivial rfl rfl rfl (fun _ => rfl) (fun _ => rfl) ?_
    refine RL.conv (a := (Int.fdiv (IntKind.wrap .u64 (IntKind.wrap .i64 (s2.1 + s2.2))) 2)) trivial rfl rfl ⟨_, un180⟩ un3 ?_
    refine RL.assign (v := (.int .i64 (IntKind.wrap .i64 (Int.fdiv (IntKind.wrap .u64 (IntKind.wrap .i64 (s2.1 + s2.2))) 2)))) trivial rfl rfl ?_
    refine RL.nil ?_
    refine thenQ_n ?_
    refine RC.seq ?_
    refine RC.region ?_
    refine RL.move (v := v2) trivial rfl rfl ?_
    refine RL.move (v := v0) trivial rfl rfl ?_
    refine RL.move (v := (.int .i64 (IntKind.wrap .i64 (Int.fdiv (IntKind.wrap .u64 (IntKind.wrap .i64 (s2.1 + s2.2))) 2)))) trivial rfl rfl ?_
    obtain ⟨x13, hx13, hb⟩ := bd hb
    refine RL.ia_rd (i := 0) trivial rfl hw rfl rfl rfl sl22 hx13 fun v14 hw => ?_
    refine RL.load_pt (i := 0) (x := x13) trivial rfl hw rfl rfl ty85 fun v15 hw => ?_
    refine RL.move (v := (str p1)) trivial rfl rfl ?_
    have hw := hw.sc (γ := Str) p1
    obtain ⟨x16, hx16, hb⟩ := bd hb
    refine RL.callF2 (i := 1) (j := 0) trivial rfl hw rfl h2 4 rfl rfl rfl rfl rfl hx16 fun w hw => ?_
    refine RL.icmp (a := x16) (b := 0) trivial rfl rfl rfl rfl ?_
    refine RL.nil ?_
    refine thenQ_n ?_
    obtain ⟨s17, hj, hb⟩ := bd hb
    refine RC.jn (fun (s17 : Int × Int) (σ : Nat → Value) (w : World) => agree σ [(0, v0), (1, (str p1)), (2, v2), (8, (.int .i64 ((p0.length : Nat) : Int))), (9, (.int .i64 s17.1)), (10, (.int .i64 s17.2))] ∧ Holds E w ([rd v0 p0] ++ Γ)) s17 ?_ ?_
    · refine RC.cond (b := (decide (x16 < 0))) rfl (fun hc => ?_) (fun hc => ?_)
      rotate_left
      · replace hj := cF hc hj
        refine RC.region ?_
        refine RL.move (v := (.int .i64 (IntKind.wrap .i64 (Int.fdiv (IntKind.wrap .u64 (IntKind.wrap .i64 (s2.1 + s2.2))) 2)))) trivial rfl rfl ?_
        refine RL.assign (v := (.int .i64 (IntKind.wrap .i64 (Int.fdiv (IntKind.wrap .u64 (IntKind.wrap .i64 (s2.1 + s2.2))) 2)))) trivial rfl rfl ?_
        refine RL.nil ?_
        injection hj with hj; subst hj
        exact ⟨rfl, ⟨rfl, rfl, rfl, rfl, rfl, rfl, trivial⟩, hw.pick 4 [3] (new := [rd v0 p0]) rfl rfl (by decide) (by decide)⟩
      replace hj := cT hc hj
      refine RC.region ?_
      refine RL.move (v := (.int .i64 (IntKind.wrap .i64 (Int.fdiv (IntKind.wrap .u64 (IntKind.wrap .i64 (s2.1 + s2.2))) 2)))) trivial rfl rfl ?_
      refine RL.iar (a := (IntKind.wrap .i64 (Int.fdiv (IntKind.wrap .u64 (IntKind.wrap .i64 (s2.1 + s2.2))) 2))) (b := 1) trivial rfl rfl rfl rfl ?_
      refine RL.assign (v := (.int .i64 (IntKind.wrap .i64 ((IntKind.wrap .i64 (Int.fdiv (IntKind.wrap .u64 (IntKind.wrap .i64 (s2.1 + s2.2))) 2)) + 1)))) trivial rfl rfl ?_
      refine RL.nil ?_
      injection hj with hj; subst hj
      exact ⟨rfl, ⟨rfl, rfl, rfl, rfl, rfl, rfl, trivial⟩, hw.pick 4 [3] (new := [rd v0 p0]) rfl rfl (by decide) (by decide)⟩
    rintro σ w ⟨ha, hw⟩
    obtain ⟨τ, rfl⟩ := ha.ups
    refine blkQ_n ?_
    injection hb with hb; subst hb
    exact ⟨rfl, ⟨rfl, rfl, rfl, rfl, rfl, rfl, trivial⟩, hw.pick 1 [0] (new := [rd v0 p0]) rfl rfl (by decide) (by decide)⟩
  · intro r _ _ _ _
    exact r.elim
  intro s2 σ w e hJ
  subst e
  rw [Fo.cs_go] at hb
  obtain ⟨ha, hw⟩ := hJ
  obtain ⟨τ, rfl⟩ := ha.ups
  refine thenQ_n ?_
  refine RC.seq ?_
  obtain ⟨s23, hj, hb⟩ := bd hb
  refine RC.jn (fun (s23 : Bool) (σ : Nat → Value) (w : World) => agree σ [(6, (.int .i64 s2.1)), (7, (.bool s23))] ∧ Holds E w ([] ++ Γ)) s23 ?_ ?_
  · refine RC.region ?_
    refine RL.move (v := (.int .i64 s2.1)) trivial rfl rfl ?_
    refine RL.move (v := (.int .i64 s2.1)) trivial rfl rfl ?_
    refine RL.move (v := (.int .i64 ((p0.length : Nat) : Int))) trivial rfl rfl ?_
    refine RL.icmp (a := s2.1) (b := ((p0.length : Nat) : Int)) trivial rfl rfl rfl rfl ?_
    refine RL.move (v := (.bool (decide (s2.1 < ((p0.length : Nat) : Int))))) trivial rfl rfl ?_
    rcases Bool.eq_false_or_eq_true (decide (s2.1 < ((p0.length : Nat) : Int))) with hg24 | hg24
    rotate_left
    · replace hj := cF hg24 hj
      refine RL.skip rfl (.inl (congrArg Value.bool hg24)) rfl ?_
      refine RL.skip rfl (.inl (congrArg Value.bool hg24)) rfl ?_
      refine RL.skip rfl (.inl (congrArg Value.bool hg24)) rfl ?_
      refine RL.skip rfl (.inl (congrArg Value.bool hg24)) rfl ?_
      refine RL.skip rfl (.inl (congrArg Value.bool hg24)) rfl ?_
      refine RL.skip rfl (.inl (congrArg Value.bool hg24)) rfl ?_
      refine RL.skip rfl (.inl (congrArg Value.bool hg24)) rfl ?_
      refine RL.skip rfl (.inl (congrArg Value.bool hg24)) rfl ?_
      refine RL.pick (b := (decide (s2.1 < ((p0.length : Nat) : Int)))) (v := (.bool false)) trivial rfl rfl (by rw [hg24]; rfl) ?_
      refine RL.assign (v := (.int .i64 s2.1)) trivial rfl rfl ?_
      refine RL.assign (v := (.bool false)) trivial rfl rfl ?_
      refine RL.nil ?_
      injection hj with hj; subst hj
      exact ⟨rfl, ⟨rfl, rfl, trivial⟩, hw.pick 1 [] (new := []) rfl rfl (by decide) (by decide)⟩
    replace hj := cT hg24 hj
    refine RL.move (v := v2) ⟨_, rfl, congrArg Value.bool hg24⟩ rfl rfl ?_
    refine RL.move (v := v0) ⟨_, rfl, congrArg Value.bool hg24⟩ rfl rfl ?_
    refine RL.move (v := (.int .i64 s2.1)) ⟨_, rfl, congrArg Value.bool hg24⟩ rfl rfl ?_
    obtain ⟨x25, hx25, hj⟩ := bd hj
    refine RL.ia_rd (i := 0) ⟨_, rfl, congrArg Value.bool hg24⟩ rfl hw rfl rfl rfl sl22 hx25 fun v26 hw => ?_
    refine RL.load_pt (i := 0) (x := x25) ⟨_, rfl, congrArg Value.bool hg24⟩ rfl hw rfl rfl ty85 fun v27 hw => ?_
    refine RL.move (v := (str p1)) ⟨_, rfl, congrArg Value.bool hg24⟩ rfl rfl ?_
    have hw := hw.sc (γ := Str) p1
    obtain ⟨x28, hx28, hj⟩ := bd hj
    refine RL.callF2 (i := 1) (j := 0) ⟨_, rfl, congrArg Value.bool hg24⟩ rfl hw rfl h2 4 rfl rfl rfl rfl rfl hx28 fun w hw => ?_
    refine RL.icmp (a := x28) (b := 0) ⟨_, rfl, congrArg Value.bool hg24⟩ rfl rfl rfl rfl ?_
    refine RL.pick (b := (decide (s2.1 < ((p0.length : Nat) : Int)))) (v := (.bool (x28 == 0))) trivial rfl rfl (by rw [hg24]; rfl) ?_
    refine RL.assign (v := (.int .i64 s2.1)) trivial rfl rfl ?_
    refine RL.assign (v := (.bool (x28 == 0))) trivial rfl rfl ?_
    refine RL.nil ?_
    injection hj with hj; subst hj
    exact ⟨rfl, ⟨rfl, rfl, trivial⟩, hw.pick 4 [] (new := []) rfl rfl (by decide) (by decide)⟩
  rintro σ w ⟨ha, hw⟩
  obtain ⟨τ, rfl⟩ := ha.ups
  refine thenQ_n ?_
  refine RC.ret ?_
  injection hb with hb; subst hb
  exact fin2 rfl rfl rfl ⟨rfl, hw.drop 0 rfl⟩
def bytealg_CompareString_R (E : World) (Γ : List HP) (res : Int) (v : Value) (w : World) : Prop := v = (.int .i64 res) ∧ Holds E w Γ
def bytealg_CompareString_K (E : World) (Γ : List HP) (r : Int) (σ : Nat → Value) (w : World) : Prop := finQ Tryd.prog 8 Tryd.f137 (bytealg_CompareString_R E Γ r) .ret σ w
theorem bytealg_CompareString_ok (N : Nat) {E w : World} {Γ : List HP} {p0 : Str} {p1 : Str} {res : Int} (hw : Holds E w Γ)  (hb : bytealg_CompareString N p0 p1 = some res) :
    Calls Tryd.prog 137 [(str p0), (str p1)].toArray w (Ret (bytealg_CompareString_R E Γ res)) := by
  unfold bytealg_CompareString at hb
  refine enter Tryd.func137 rfl rfl (Nat.le_of_ble_eq_true rfl) ?_
  refine RC.seq ?_
  refine RC.region ?_
  refine RL.assign (v := (.int .i64 0)) trivial rfl rfl ?_
  refine RL.nil ?_
  refine thenQ_n ?_
  refine RC.seq ?_
  refine RC.region ?_
  refine RL.move (v := (str p0)) trivial rfl rfl ?_
  refine RL.move (v := (str p1)) trivial rfl rfl ?_
  refine RL.xcall (v := (.int .i64 (Lib.compareBytes p0.toL p1.toL))) trivial rfl [(str p0), (str p1)] rfl (x149 p0 p1 w) ?_
  refine RL.assign (v := (.int .i64 (Lib.compareBytes p0.toL p1.toL))) trivial rfl rfl ?_
  refine RL.nil ?_
  refine thenQ_n ?_
  refine RC.ret ?_
  injection hb with hb; subst hb
  exact fin1 rfl rfl ⟨rfl, hw.drop 0 rfl⟩
def strings_Compare_R (E : World) (Γ : List HP) (res : Int) (v : Value) (w : World) : Prop := v = (.int .i64 res) ∧ Holds E w Γ
def strings_Compare_K (E : World) (Γ : List HP) (r : Int) (σ : Nat → Value) (w : World) : Prop := finQ Tryd.prog 8 Tryd.f107 (strings_Compare_R E Γ r) .ret σ w
theorem strings_Compare_ok (N : Nat) {E w : World} {Γ : List HP} {p0 : Str} {p1 : Str} {res : Int} (hw : Holds E w Γ)  (hb : strings_Compare N p0 p1 = some res) :
    Calls Tryd.prog 107 [(str p0), (str p1)].toArray w (Ret (strings_Compare_R E Γ res)) := by
  unfold strings_Compare at hb
  refine enter Tryd.func107 rfl rfl (Nat.le_of_ble_eq_true rfl) ?_
  refine RC.seq ?_
  refine RC.region ?_
  refine RL.assign (v := (.int .i64 0)) trivial rfl rfl ?_
  refine RL.nil ?_
  refine thenQ_n ?_
  refine RC.seq ?_
  refine RC.region ?_
  refine RL.move (v := (str p0)) trivial rfl rfl ?_
  refine RL.move (v := (str p1)) trivial rfl rfl ?_
  obtain ⟨x1, hx1, hb⟩ := bd hb
  refine RL.call trivial rfl fn137 [(str p0), (str p1)] rfl (Calls_ret (bytealg_CompareString_ok N (p0 := p0) (p1 := p1)  hw  hx1) ?_)
  rintro _ w ⟨rfl, hw⟩
  refine RL.assign (v := (.int .i64 x1)) trivial rfl rfl ?_
  refine RL.nil ?_
  refine thenQ_n ?_
  refine RC.ret ?_
  injection hb with hb; subst hb
  exact fin1 rfl rfl ⟨rfl, hw.drop 0 rfl⟩
def netlist_TypeAt_c1_R (E : World) (Γ : List HP) (res : Int) (v : Value) (w : World) : Prop := v = (.int .i64 res) ∧ Holds E w Γ
def netlist_TypeAt_c1_K (E : World) (Γ : List HP) (r : Int) (σ : Nat → Value) (w : World) : Prop := finQ Tryd.prog 9 Tryd.f106 (netlist_TypeAt_c1_R E Γ r) .ret σ w
theorem netlist_TypeAt_c1_ok (N : Nat) {E w : World} {Γ : List HP} {i0 : Nat} {v0 : Value} {p0 : PartType} {p1 : Str} {res : Int} (hw : Holds E w Γ) (h0 : Γ[i0]? = some (rd v0 p0)) (hb : netlist_TypeAt_c1 N p0 p1 = some res) :
    Calls Tryd.prog 106 [v0, (str p1)].toArray w (Ret (netlist_TypeAt_c1_R E Γ res)) := by
  unfold netlist_TypeAt_c1 at hb
  refine enter Tryd.func106 rfl rfl (Nat.le_of_ble_eq_true rfl) ?_
  have hw := hw.dup (i := i0 + 0) h0
  refine RC.seq ?_
  refine RC.region ?_
  refine RL.box_rd (i := 0) (v := v0) trivial rfl hw rfl rfl fun b1 w hw => ?_
  refine RL.assign (v := (.int .i64 0)) trivial rfl rfl ?_
  refine RL.nil ?_
  refine thenQ_n ?_
  refine RC.seq ?_
  refine RC.region ?_
  refine RL.fa_b trivial rfl rfl fa85_0 ?_
  refine RL.load_bfs (i := 0) (f := (fun x => x.Name)) trivial rfl hw rfl rfl fd_PartType_0 ty9 ?_
  refine RL.move (v := (str p1)) trivial rfl rfl ?_
  obtain ⟨x2, hx2, hb⟩ := bd hb
  refine RL.call trivial rfl fn107 [(str p0.Name), (str p1)] rfl (Calls_ret (strings_Compare_ok N (p0 := p0.Name) (p1 := p1)  hw  hx2) ?_)
  rintro _ w ⟨rfl, hw⟩
  refine RL.assign (v := (.int .i64 x2)) trivial rfl rfl ?_
  refine RL.nil ?_
  refine thenQ_n ?_
  refine RC.ret ?_
  injection hb with hb; subst hb
  exact fin1 rfl rfl ⟨rfl, hw.drop 2 rfl⟩
end Go.Gk
