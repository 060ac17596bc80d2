/-
  Printed by gen.py: Go functions as plain functions, and that they are.
-/
import Derived.Test.YtnjoaggeheokeaaDoorT
import Derived.Test.YtnjoaggeheokeaaDoorF1
set_option linter.unusedVariables false
set_option linter.unusedSimpArgs false
set_option linter.unusedSectionVars false
set_option maxRecDepth 100000
set_option maxHeartbeats 4000000

namespace Go.Gk
open Go Go.Proofs
def etchhouseref2_within_R (E : World) (Γ : List HP) (res : Bool) (v : Value) (w : World) : Prop := v = (vb res) ∧ Holds E w Γ
def etchhouseref2_within_K (E : World) (Γ : List HP) (r : Bool) (σ : Nat → Value) (w : World) : Prop := finQ Tryd.prog 15 Tryd.f136 (etchhouseref2_within_R E Γ r) .ret σ w
theorem etchhouseref2_within_ok (N : Nat) {E w : World} {Γ : List HP} {p0 : Int} {p1 : Int} {p2 : Int} {res : Bool} (hw : Holds E w Γ)  (hb : etchhouseref2_within N p0 p1 p2 = some res) :
    Calls Tryd.prog 136 [(vi p0), (vi p1), (vi p2)].toArray w (Ret (etchhouseref2_within_R E Γ res)) := by
 unfold etchhouseref2_within at hb
 refine enter Tryd.func136 rfl rfl (Nat.le_of_ble_eq_true rfl) ?_
 refine RC.sr ?_
 refine as_ (vb false) rfl rfl ?_
 refine RL.ns ?_
 refine mv (vi p1) rfl rfl ?_
 refine mv (vi p0) rfl rfl ?_
 refine ic p1 p0 rfl rfl rfl rfl ?_
 refine mv (vb (decide (p1 ≤ p0))) rfl rfl ?_
 refine RL.gs (c := true) (b := (decide (p1 ≤ p0))) (v := (vi p0)) rfl rfl rfl (gs_move rfl (fun _ => rfl)) ?_
 refine RL.gs (c := true) (b := (decide (p1 ≤ p0))) (v := (vi p2)) rfl rfl rfl (gs_move rfl (fun _ => rfl)) ?_
 refine RL.gs (c := true) (b := (decide (p1 ≤ p0))) (v := (vb (decide (p0 ≤ p2)))) rfl rfl rfl (gs_icmp (bop := .leq) (K := .i64) (a := p0) (b := p2) rfl (fun h => by exact (cv_t h : cv (true && ((decide (p1 ≤ p0)) == true)) (vi p0) = (vi p0))) (fun h => by exact (cv_t h : cv (true && ((decide (p1 ≤ p0)) == true)) (vi p2) = (vi p2))) rfl) ?_
 refine RL.pick (b := (decide (p1 ≤ p0))) (v := (vb ((decide (p1 ≤ p0)) && (decide (p0 ≤ p2))))) trivial rfl rfl (pk_and (c := true) rfl) ?_
 refine as_ (vb ((decide (p1 ≤ p0)) && (decide (p0 ≤ p2)))) rfl rfl ?_
 refine RL.nt ?_
 refine RC.ret ?_
 obtain rfl := oi hb
 exact fin1 rfl rfl ⟨rfl, hw.drop 0 rfl⟩
def etchhouseref2_IsWord_R (E : World) (Γ : List HP) (res : Bool) (v : Value) (w : World) : Prop := v = (vb res) ∧ Holds E w Γ
def etchhouseref2_IsWord_K (E : World) (Γ : List HP) (r : Bool) (σ : Nat → Value) (w : World) : Prop := finQ Tryd.prog 44 Tryd.f135 (etchhouseref2_IsWord_R E Γ r) .ret σ w
theorem etchhouseref2_IsWord_ok (N : Nat) {E w : World} {Γ : List HP} {p0 : Str} {res : Bool} (hw : Holds E w Γ)  (hb : etchhouseref2_IsWord N p0 = some res) :
    Calls Tryd.prog 135 [(str p0)].toArray w (Ret (etchhouseref2_IsWord_R E Γ res)) := by
 unfold etchhouseref2_IsWord at hb
 refine enter Tryd.func135 rfl rfl (Nat.le_of_ble_eq_true rfl) ?_
 refine RC.sr ?_
 refine as_ (vb false) rfl rfl ?_
 refine RL.nq ?_
 refine RC.sr ?_
 refine mv (str p0) rfl rfl ?_
 refine RL.lens (s := p0) trivial rfl rfl un9 ?_
 refine mv (vi 0) rfl rfl ?_
 refine RL.nt ?_
 obtain ⟨o16, hN, hb⟩ := bd hb
 refine RC.range (fun (k1 : Nat) (s2 : Unit) (σ : Nat → Value) (w : World) => agree σ [(0, (str p0)), (6, (vi (p0.toL.length : Int))), (7, (vi (k1 : Int)))] ∧ Holds E w ([] ++ Γ)) (fun (s2 : Unit) (σ : Nat → Value) (w : World) => agree σ [(0, (str p0))] ∧ Holds E w ([] ++ Γ)) (etchhouseref2_IsWord_K E Γ) hN ?_ ?_ ?_ ?_ ?_ 
 ·exact ⟨⟨rfl, rfl, rfl, trivial⟩, hw.pick 0 [] (new := []) rfl rfl (by decide) (by decide)⟩
 ·intro hm s2 σ w hI
  obtain ⟨ha, hw⟩ := hI
  obtain ⟨τ, rfl⟩ := ha.ups
  refine RC.sr ?_
  refine ic ((p0.toL.length : Int)) ((p0.toL.length : Int)) rfl rfl rfl rfl ?_
  refine RL.nq ?_
  refine RC.cond_f dge ?_
  refine RC.ex ?_
  exact ⟨rfl, ⟨rfl, trivial⟩, hw.pick 0 [] (new := []) rfl rfl (by decide) (by decide)⟩
 ·intro hm k1 s2 fl σ w hk hI hb
  obtain ⟨ha, hw⟩ := hI
  obtain ⟨τ, rfl⟩ := ha.ups
  refine RC.sr ?_
  refine ic ((k1 : Int)) ((p0.toL.length : Int)) rfl rfl rfl rfl ?_
  refine RL.nq ?_
  refine RC.cond_t (dlt hk) ?_
  refine RC.ss ?_
  refine RC.bs ?_
  refine mv (vi (k1 : Int)) rfl rfl ?_
  refine as_ (vi (k1 : Int)) rfl rfl ?_
  refine RL.ns ?_
  refine mv (str p0) rfl rfl ?_
  refine mv (vi (k1 : Int)) rfl rfl ?_
  obtain ⟨x9, hx9, hb⟩ := bd hb
  refine RL.idxs (s := p0) (i := (k1 : Int)) (c := x9) trivial rfl rfl rfl un9 hx9 ?_
  refine as_ (.int .u8 (x9.toNat : Int)) rfl rfl ?_
  refine RL.nq ?_
  obtain ⟨s12, hj, hb⟩ := bd hb
  refine RC.jn (fun (s12 : Bool) (σ : Nat → Value) (w : World) => agree σ [(0, (str p0)), (6, (vi (p0.toL.length : Int))), (7, (vi (k1 : Int))), (39, (vb s12))] ∧ Holds E w ([] ++ Γ)) s12 ?_ ?_
  ·refine RC.region ?_
   refine mv (.int .u8 (x9.toNat : Int)) rfl rfl ?_
   refine ic ((x9.toNat : Int)) 97 rfl rfl rfl rfl ?_
   refine mv (vb (decide ((x9.toNat : Int) < 97))) rfl rfl ?_
   refine RL.gs (c := true) (b := (decide ((x9.toNat : Int) < 97))) (v := (.int .u8 (x9.toNat : Int))) rfl rfl rfl (gs_move rfl (fun _ => rfl)) ?_
   refine RL.gs (c := true) (b := (decide ((x9.toNat : Int) < 97))) (v := (vb (decide ((x9.toNat : Int) > 122)))) rfl rfl rfl (gs_icmp (bop := .gtr) (K := .u8) (a := (x9.toNat : Int)) (b := 122) rfl (fun h => by exact (cv_t h : cv (true && ((decide ((x9.toNat : Int) < 97)) == false)) (.int .u8 (x9.toNat : Int)) = (.int .u8 (x9.toNat : Int)))) (fun _ => rfl) rfl) ?_
   refine RL.pick (b := (decide ((x9.toNat : Int) < 97))) (v := (vb ((decide ((x9.toNat : Int) < 97)) || (decide ((x9.toNat : Int) > 122))))) trivial rfl rfl (pk_or (c := true) rfl) ?_
   refine mv (vb ((decide ((x9.toNat : Int) < 97)) || (decide ((x9.toNat : Int) > 122)))) rfl rfl ?_
   refine RL.gs (c := true) (b := ((decide ((x9.toNat : Int) < 97)) || (decide ((x9.toNat : Int) > 122)))) (v := (.int .u8 (x9.toNat : Int))) rfl rfl rfl (gs_move rfl (fun _ => rfl)) ?_
   refine RL.gs (c := true) (b := ((decide ((x9.toNat : Int) < 97)) || (decide ((x9.toNat : Int) > 122)))) (v := (vb (decide ((x9.toNat : Int) < 65)))) rfl rfl rfl (gs_icmp (bop := .lss) (K := .u8) (a := (x9.toNat : Int)) (b := 65) rfl (fun h => by exact (cv_t h : cv (true && (((decide ((x9.toNat : Int) < 97)) || (decide ((x9.toNat : Int) > 122))) == true)) (.int .u8 (x9.toNat : Int)) = (.int .u8 (x9.toNat : Int)))) (fun _ => rfl) rfl) ?_
   refine RL.gs (c := true) (b := ((decide ((x9.toNat : Int) < 97)) || (decide ((x9.toNat : Int) > 122)))) (v := (vb (decide ((x9.toNat : Int) < 65)))) rfl rfl rfl (gs_move rfl (fun h => by exact (cv_t h : cv (true && (((decide ((x9.toNat : Int) < 97)) || (decide ((x9.toNat : Int) > 122))) == true)) (vb (decide ((x9.toNat : Int) < 65))) = (vb (decide ((x9.toNat : Int) < 65)))))) ?_
   refine RL.gs (c := (true && (((decide ((x9.toNat : Int) < 97)) || (decide ((x9.toNat : Int) > 122))) == true))) (b := (decide ((x9.toNat : Int) < 65))) (v := (.int .u8 (x9.toNat : Int))) rfl rfl rfl (gs_move rfl (fun _ => rfl)) ?_
   refine RL.gs (c := (true && (((decide ((x9.toNat : Int) < 97)) || (decide ((x9.toNat : Int) > 122))) == true))) (b := (decide ((x9.toNat : Int) < 65))) (v := (vb (decide ((x9.toNat : Int) > 90)))) rfl rfl rfl (gs_icmp (bop := .gtr) (K := .u8) (a := (x9.toNat : Int)) (b := 90) rfl (fun h => by exact (cv_t h : cv ((true && (((decide ((x9.toNat : Int) < 97)) || (decide ((x9.toNat : Int) > 122))) == true)) && ((decide ((x9.toNat : Int) < 65)) == false)) (.int .u8 (x9.toNat : Int)) = (.int .u8 (x9.toNat : Int)))) (fun _ => rfl) rfl) ?_
   refine RL.gs (c := true) (b := ((decide ((x9.toNat : Int) < 97)) || (decide ((x9.toNat : Int) > 122)))) (v := (vb ((decide ((x9.toNat : Int) < 65)) || (decide ((x9.toNat : Int) > 90))))) rfl rfl rfl (gs_pick (b := (decide ((x9.toNat : Int) < 65))) rfl (fun h => by exact (cv_t h : cv (true && (((decide ((x9.toNat : Int) < 97)) || (decide ((x9.toNat : Int) > 122))) == true)) (vb (decide ((x9.toNat : Int) < 65))) = (vb (decide ((x9.toNat : Int) < 65))))) (fun h => by exact pk_or (c := (true && (((decide ((x9.toNat : Int) < 97)) || (decide ((x9.toNat : Int) > 122))) == true))) h)) ?_
   refine RL.pick (b := ((decide ((x9.toNat : Int) < 97)) || (decide ((x9.toNat : Int) > 122)))) (v := (vb (((decide ((x9.toNat : Int) < 97)) || (decide ((x9.toNat : Int) > 122))) && ((decide ((x9.toNat : Int) < 65)) || (decide ((x9.toNat : Int) > 90)))))) trivial rfl rfl (pk_and (c := true) rfl) ?_
   refine mv (vb (((decide ((x9.toNat : Int) < 97)) || (decide ((x9.toNat : Int) > 122))) && ((decide ((x9.toNat : Int) < 65)) || (decide ((x9.toNat : Int) > 90))))) rfl rfl ?_
   refine RL.gs (c := true) (b := (((decide ((x9.toNat : Int) < 97)) || (decide ((x9.toNat : Int) > 122))) && ((decide ((x9.toNat : Int) < 65)) || (decide ((x9.toNat : Int) > 90))))) (v := (.int .u8 (x9.toNat : Int))) rfl rfl rfl (gs_move rfl (fun _ => rfl)) ?_
   refine RL.gs (c := true) (b := (((decide ((x9.toNat : Int) < 97)) || (decide ((x9.toNat : Int) > 122))) && ((decide ((x9.toNat : Int) < 65)) || (decide ((x9.toNat : Int) > 90))))) (v := (vb (decide ((x9.toNat : Int) < 48)))) rfl rfl rfl (gs_icmp (bop := .lss) (K := .u8) (a := (x9.toNat : Int)) (b := 48) rfl (fun h => by exact (cv_t h : cv (true && ((((decide ((x9.toNat : Int) < 97)) || (decide ((x9.toNat : Int) > 122))) && ((decide ((x9.toNat : Int) < 65)) || (decide ((x9.toNat : Int) > 90)))) == true)) (.int .u8 (x9.toNat : Int)) = (.int .u8 (x9.toNat : Int)))) (fun _ => rfl) rfl) ?_
   refine RL.gs (c := true) (b := (((decide ((x9.toNat : Int) < 97)) || (decide ((x9.toNat : Int) > 122))) && ((decide ((x9.toNat : Int) < 65)) || (decide ((x9.toNat : Int) > 90))))) (v := (vb (decide ((x9.toNat : Int) < 48)))) rfl rfl rfl (gs_move rfl (fun h => by exact (cv_t h : cv (true && ((((decide ((x9.toNat : Int) < 97)) || (decide ((x9.toNat : Int) > 122))) && ((decide ((x9.toNat : Int) < 65)) || (decide ((x9.toNat : Int) > 90)))) == true)) (vb (decide ((x9.toNat : Int) < 48))) = (vb (decide ((x9.toNat : Int) < 48)))))) ?_
   refine RL.gs (c := (true && ((((decide ((x9.toNat : Int) < 97)) || (decide ((x9.toNat : Int) > 122))) && ((decide ((x9.toNat : Int) < 65)) || (decide ((x9.toNat : Int) > 90)))) == true))) (b := (decide ((x9.toNat : Int) < 48))) (v := (.int .u8 (x9.toNat : Int))) rfl rfl rfl (gs_move rfl (fun _ => rfl)) ?_
   refine RL.gs (c := (true && ((((decide ((x9.toNat : Int) < 97)) || (decide ((x9.toNat : Int) > 122))) && ((decide ((x9.toNat : Int) < 65)) || (decide ((x9.toNat : Int) > 90)))) == true))) (b := (decide ((x9.toNat : Int) < 48))) (v := (vb (decide ((x9.toNat : Int) > 57)))) rfl rfl rfl (gs_icmp (bop := .gtr) (K := .u8) (a := (x9.toNat : Int)) (b := 57) rfl (fun h => by exact (cv_t h : cv ((true && ((((decide ((x9.toNat : Int) < 97)) || (decide ((x9.toNat : Int) > 122))) && ((decide ((x9.toNat : Int) < 65)) || (decide ((x9.toNat : Int) > 90)))) == true)) && ((decide ((x9.toNat : Int) < 48)) == false)) (.int .u8 (x9.toNat : Int)) = (.int .u8 (x9.toNat : Int)))) (fun _ => rfl) rfl) ?_
   refine RL.gs (c := true) (b := (((decide ((x9.toNat : Int) < 97)) || (decide ((x9.toNat : Int) > 122))) && ((decide ((x9.toNat : Int) < 65)) || (decide ((x9.toNat : Int) > 90))))) (v := (vb ((decide ((x9.toNat : Int) < 48)) || (decide ((x9.toNat : Int) > 57))))) rfl rfl rfl (gs_pick (b := (decide ((x9.toNat : Int) < 48))) rfl (fun h => by exact (cv_t h : cv (true && ((((decide ((x9.toNat : Int) < 97)) || (decide ((x9.toNat : Int) > 122))) && ((decide ((x9.toNat : Int) < 65)) || (decide ((x9.toNat : Int) > 90)))) == true)) (vb (decide ((x9.toNat : Int) < 48))) = (vb (decide ((x9.toNat : Int) < 48))))) (fun h => by exact pk_or (c := (true && ((((decide ((x9.toNat : Int) < 97)) || (decide ((x9.toNat : Int) > 122))) && ((decide ((x9.toNat : Int) < 65)) || (decide ((x9.toNat : Int) > 90)))) == true))) h)) ?_
   refine RL.pick (b := (((decide ((x9.toNat : Int) < 97)) || (decide ((x9.toNat : Int) > 122))) && ((decide ((x9.toNat : Int) < 65)) || (decide ((x9.toNat : Int) > 90))))) (v := (vb ((((decide ((x9.toNat : Int) < 97)) || (decide ((x9.toNat : Int) > 122))) && ((decide ((x9.toNat : Int) < 65)) || (decide ((x9.toNat : Int) > 90)))) && ((decide ((x9.toNat : Int) < 48)) || (decide ((x9.toNat : Int) > 57)))))) trivial rfl rfl (pk_and (c := true) rfl) ?_
   refine mv (vb ((((decide ((x9.toNat : Int) < 97)) || (decide ((x9.toNat : Int) > 122))) && ((decide ((x9.toNat : Int) < 65)) || (decide ((x9.toNat : Int) > 90)))) && ((decide ((x9.toNat : Int) < 48)) || (decide ((x9.toNat : Int) > 57))))) rfl rfl ?_
   rcases Bool.eq_false_or_eq_true ((((decide ((x9.toNat : Int) < 97)) || (decide ((x9.toNat : Int) > 122))) && ((decide ((x9.toNat : Int) < 65)) || (decide ((x9.toNat : Int) > 90)))) && ((decide ((x9.toNat : Int) < 48)) || (decide ((x9.toNat : Int) > 57)))) with hg13 | hg13
   rotate_left
   ·replace hj := cF hg13 hj
    refine sk rfl (.inl (cb hg13)) rfl ?_
    refine sk rfl (.inl (cb hg13)) rfl ?_
    refine sk rfl (.inl (cb hg13)) rfl ?_
    refine RL.pick (b := ((((decide ((x9.toNat : Int) < 97)) || (decide ((x9.toNat : Int) > 122))) && ((decide ((x9.toNat : Int) < 65)) || (decide ((x9.toNat : Int) > 90)))) && ((decide ((x9.toNat : Int) < 48)) || (decide ((x9.toNat : Int) > 57))))) (v := (vb false)) trivial rfl rfl (by rw [hg13]; rfl) ?_
    refine RL.nil ?_
    obtain rfl := oi hj
    exact ⟨rfl, ⟨rfl, rfl, rfl, rfl, trivial⟩, hw.pick 0 [] (new := []) rfl rfl (by decide) (by decide)⟩
   replace hj := cT hg13 hj
   refine RL.move (v := (.int .u8 (x9.toNat : Int))) ⟨_, rfl, cb hg13⟩ rfl rfl ?_
   obtain ⟨x14, hx14, hj⟩ := bd hj
   refine RL.call ⟨_, rfl, cb hg13⟩ rfl fn131 [(str ⟨[95, 43, 45, 35]⟩), (.int .u8 (x9.toNat : Int))] rfl (Calls_ret (strings_IndexByte_ok N (p0 := ⟨[95, 43, 45, 35]⟩) (p1 := (x9.toNat : Int))  hw  hx14) ?_)
   rintro _ w ⟨rfl, hw⟩
   refine RL.icmp (a := x14) (b := 0) ⟨_, rfl, cb hg13⟩ rfl rfl rfl rfl ?_
   refine RL.pick (b := ((((decide ((x9.toNat : Int) < 97)) || (decide ((x9.toNat : Int) > 122))) && ((decide ((x9.toNat : Int) < 65)) || (decide ((x9.toNat : Int) > 90)))) && ((decide ((x9.toNat : Int) < 48)) || (decide ((x9.toNat : Int) > 57))))) (v := (vb (decide (x14 < 0)))) trivial rfl rfl (by rw [hg13]; rfl) ?_
   refine RL.nil ?_
   obtain rfl := oi hj
   exact ⟨rfl, ⟨rfl, rfl, rfl, rfl, trivial⟩, hw.pick 0 [] (new := []) rfl rfl (by decide) (by decide)⟩
  rintro σ w ⟨ha, hw⟩
  obtain ⟨τ, rfl⟩ := ha.ups
  refine thenQ_n ?_
  refine RC.cond (b := s12) rfl (fun hc => ?_) (fun hc => ?_)
  rotate_left
  ·replace hb := cF hc hb
   refine RC.skip ?_
   refine blkQ_n ?_
   refine thenQ_n ?_
   refine RC.region ?_
   refine RL.inc trivial rfl hk hm rfl rfl ?_
   refine mv (vi ((k1 + 1 : Nat) : Int)) rfl rfl ?_
   refine RL.nil ?_
   obtain rfl := oi hb
   exact ⟨rfl, ⟨rfl, rfl, rfl, trivial⟩, hw.pick 0 [] (new := []) rfl rfl (by decide) (by decide)⟩
  replace hb := cT hc hb
  refine RC.sr ?_
  refine as_ (vb false) rfl rfl ?_
  refine RL.nt ?_
  refine RC.rb ?_
  refine thenQ_r ?_
  obtain rfl := oi hb
  exact ⟨rfl, fin1 rfl rfl ⟨rfl, hw.drop 0 rfl⟩⟩
 ·intro r σ w e hK
  subst e
  refine thenQ_r ?_
  obtain rfl := oi hb
  exact hK
 intro s2 σ w e hJ
 subst e
 rw [Fo.cs_go] at hb
 obtain ⟨ha, hw⟩ := hJ
 obtain ⟨τ, rfl⟩ := ha.ups
 refine thenQ_n ?_
 refine RC.sr ?_
 refine mv (str p0) rfl rfl ?_
 refine RL.lens (s := p0) trivial rfl rfl un9 ?_
 obtain ⟨x15, hx15, hb⟩ := bd hb
 refine RL.call trivial rfl fn136 [(vi (p0.toL.length : Int)), (vi 1), (vi 40)] rfl (Calls_ret (etchhouseref2_within_ok N (p0 := (p0.toL.length : Int)) (p1 := 1) (p2 := 40)  hw  hx15) ?_)
 rintro _ w ⟨rfl, hw⟩
 refine as_ (vb x15) rfl rfl ?_
 refine RL.nt ?_
 refine RC.ret ?_
 obtain rfl := oi hb
 exact fin1 rfl rfl ⟨rfl, hw.drop 0 rfl⟩
def etchhouseref2_checkType_R (E : World) (Γ : List HP) (res : Int) (v : Value) (w : World) : Prop := v = (vi res) ∧ Holds E w Γ
def etchhouseref2_checkType_K (E : World) (Γ : List HP) (r : Int) (σ : Nat → Value) (w : World) : Prop := finQ Tryd.prog 99 Tryd.f101 (etchhouseref2_checkType_R E Γ r) .ret σ w
theorem etchhouseref2_checkType_ok (N : Nat) {E w : World} {Γ : List HP} {i0 : Nat} {v0 : Value} {p0 : PartType} {res : Int} (hw : Holds E w Γ) (h0 : Γ[i0]? = some (rd v0 p0)) (hb : etchhouseref2_checkType N p0 = some res) :
    Calls Tryd.prog 101 [v0].toArray w (Ret (etchhouseref2_checkType_R E Γ res)) := by
 unfold etchhouseref2_checkType at hb
 refine enter Tryd.func101 rfl rfl (Nat.le_of_ble_eq_true rfl) ?_
 have hw := hw.dup (i := i0 + 0) h0
 refine RC.sr ?_
 refine RL.box_rd (i := 0) (v := v0) trivial rfl hw rfl rfl fun b1 w hw => ?_
 refine as_ (vi 0) rfl rfl ?_
 refine RL.nq ?_
 refine RC.bs ?_
 refine RL.fa_b trivial rfl rfl fa85_0 ?_
 refine RL.load_bfs (i := 0) (f := (fun x => x.Name)) trivial rfl hw rfl rfl fd_PartType_0 ty9 ?_
 obtain ⟨x2, hx2, hb⟩ := bd hb
 refine RL.call trivial rfl fn135 [(str p0.Name)] rfl (Calls_ret (etchhouseref2_IsWord_ok N (p0 := p0.Name)  hw  hx2) ?_)
 rintro _ w ⟨rfl, hw⟩
 refine RL.not (b := x2) trivial rfl rfl ?_
 refine as_ (vb (!x2)) rfl rfl ?_
 refine RL.nt ?_
 refine RC.cond (b := (!x2)) rfl (fun hc => ?_) (fun hc => ?_)
 ·replace hb := cT hc hb
  refine RC.sr ?_
  refine as_ (vi 5) rfl rfl ?_
  refine RL.nt ?_
  refine RC.rb ?_
  refine thenQ_r ?_
  obtain rfl := oi hb
  exact fin1 rfl rfl ⟨rfl, hw.drop 2 rfl⟩
 replace hb := cF hc hb
 refine RC.sr ?_
 refine RL.fa_b trivial rfl rfl fa85_1 ?_
 refine RL.load_bf (i := 0) (f := (fun x => x.Pins)) trivial rfl hw rfl rfl fd_PartType_1 ty83 fun v6 hw => ?_
 refine RL.len_rd (i := 0) (l := p0.Pins) trivial rfl hw rfl rfl un83 ?_
 refine ic ((p0.Pins.length : Int)) 0 rfl rfl rfl rfl ?_
 refine as_ (vb ((p0.Pins.length : Int) == 0)) rfl rfl ?_
 refine RL.nt ?_
 refine RC.cond (b := ((p0.Pins.length : Int) == 0)) rfl (fun hc => ?_) (fun hc => ?_)
 ·replace hb := cT hc hb
  refine RC.sr ?_
  refine as_ (vi 9) rfl rfl ?_
  refine RL.nt ?_
  refine RC.rb ?_
  refine thenQ_r ?_
  obtain rfl := oi hb
  exact fin1 rfl rfl ⟨rfl, hw.drop 3 rfl⟩
 replace hb := cF hc hb
 refine RC.sr ?_
 refine RL.fa_b trivial rfl rfl fa85_1 ?_
 refine RL.load_bf (i := 1) (f := (fun x => x.Pins)) trivial rfl hw rfl rfl fd_PartType_1 ty83 fun v8 hw => ?_
 refine RL.len_rd (i := 0) (l := p0.Pins) trivial rfl hw rfl rfl un83 ?_
 refine ic ((p0.Pins.length : Int)) 200 rfl rfl rfl rfl ?_
 refine as_ (vb (decide ((p0.Pins.length : Int) > 200))) rfl rfl ?_
 refine RL.nt ?_
 refine RC.cond (b := (decide ((p0.Pins.length : Int) > 200))) rfl (fun hc => ?_) (fun hc => ?_)
 ·replace hb := cT hc hb
  refine RC.sr ?_
  refine as_ (vi 2) rfl rfl ?_
  refine RL.nt ?_
  refine RC.rb ?_
  refine thenQ_r ?_
  obtain rfl := oi hb
  exact fin1 rfl rfl ⟨rfl, hw.drop 4 rfl⟩
 replace hb := cF hc hb
 refine RC.skip ?_
 refine blkQ_n ?_
 refine thenQ_n ?_
 refine RC.seq ?_
 refine RC.sr ?_
 refine RL.fa_b trivial rfl rfl fa85_1 ?_
 refine RL.load_bf (i := 2) (f := (fun x => x.Pins)) trivial rfl hw rfl rfl fd_PartType_1 ty83 fun v9 hw => ?_
 refine RL.len_rd (i := 0) (l := p0.Pins) trivial rfl hw rfl rfl un83 ?_
 refine mv (vi 0) rfl rfl ?_
 refine RL.nt ?_
 obtain ⟨o346, hN, hb⟩ := bd hb
 refine RC.range (fun (k10 : Nat) (s11 : Unit) (σ : Nat → Value) (w : World) => agree σ [(1, (vp b1 0)), (25, v9), (26, (vi (p0.Pins.length : Int))), (27, (vi (k10 : Int)))] ∧ Holds E w ([bx 85 b1 p0, rd v9 p0.Pins] ++ Γ)) (fun (s11 : Unit) (σ : Nat → Value) (w : World) => agree σ [(1, (vp b1 0))] ∧ Holds E w ([bx 85 b1 p0, rd v9 p0.Pins] ++ Γ)) (etchhouseref2_checkType_K E Γ) hN ?_ ?_ ?_ ?_ ?_ 
 ·exact ⟨⟨rfl, rfl, rfl, rfl, trivial⟩, hw.pick 5 [3, 0] (new := [bx 85 b1 p0, rd v9 p0.Pins]) rfl rfl (by decide) (by decide)⟩
 ·intro hm s11 σ w hI
  obtain ⟨ha, hw⟩ := hI
  obtain ⟨τ, rfl⟩ := ha.ups
  refine RC.sr ?_
  refine ic ((p0.Pins.length : Int)) ((p0.Pins.length : Int)) rfl rfl rfl rfl ?_
  refine RL.nq ?_
  refine RC.cond_f dge ?_
  refine RC.ex ?_
  exact ⟨rfl, ⟨rfl, trivial⟩, hw.pick 2 [0, 1] (new := [bx 85 b1 p0, rd v9 p0.Pins]) rfl rfl (by decide) (by decide)⟩
 ·intro hm k10 s11 fl σ w hk hI hb
  obtain ⟨ha, hw⟩ := hI
  obtain ⟨τ, rfl⟩ := ha.ups
  refine RC.sr ?_
  refine ic ((k10 : Int)) ((p0.Pins.length : Int)) rfl rfl rfl rfl ?_
  refine RL.nq ?_
  refine RC.cond_t (dlt hk) ?_
  refine RC.ss ?_
  refine RC.bs ?_
  refine mv (vi (k10 : Int)) rfl rfl ?_
  obtain ⟨x159, hx159, hb⟩ := bd hb
  refine RL.ia_rd (i := 1) trivial rfl hw rfl rfl rfl sl83 hx159 fun v160 hw => ?_
  refine RL.load_pt (i := 0) (x := x159) trivial rfl hw rfl rfl ty82 fun v161 hw => ?_
  refine RL.alloc trivial rfl hw ze82.z fun b162 w hw => ?_
  refine as_ (vi (k10 : Int)) rfl rfl ?_
  refine RL.store_raw (i := 0) (j := 1) trivial hw rfl rfl rfl rfl ty82 rfl fun w hw => ?_
  refine RL.nt ?_
  refine RC.bs ?_
  refine RL.fa_b trivial rfl rfl fa82_0 ?_
  refine RL.load_bfs (i := 0) (f := (fun x => x.Name)) trivial rfl hw rfl rfl fd_PinType_0 ty9 ?_
  obtain ⟨x163, hx163, hb⟩ := bd hb
  refine RL.call trivial rfl fn135 [(str x159.Name)] rfl (Calls_ret (etchhouseref2_IsWord_ok N (p0 := x159.Name)  hw  hx163) ?_)
  rintro _ w ⟨rfl, hw⟩
  refine RL.not (b := x163) trivial rfl rfl ?_
  refine as_ (vb (!x163)) rfl rfl ?_
  refine RL.nt ?_
  refine RC.cond (b := (!x163)) rfl (fun hc => ?_) (fun hc => ?_)
  ·replace hb := cT hc hb
   refine RC.sr ?_
   refine as_ (vi 5) rfl rfl ?_
   refine RL.nt ?_
   refine RC.rb ?_
   refine blkQ_r ?_
   refine thenQ_r ?_
   obtain rfl := oi hb
   exact ⟨rfl, fin1 rfl rfl ⟨rfl, hw.drop 5 rfl⟩⟩
  replace hb := cF hc hb
  refine RC.sr ?_
  refine RL.fa_b trivial rfl rfl fa82_1 ?_
  refine RL.load_bfs (i := 0) (f := (fun x => x.Kind)) trivial rfl hw rfl rfl fd_PinType_1 ty3 ?_
  obtain ⟨x235, hx235, hb⟩ := bd hb
  refine RL.call trivial rfl fn136 [(vi x159.Kind), (vi 1), (vi 7)] rfl (Calls_ret (etchhouseref2_within_ok N (p0 := x159.Kind) (p1 := 1) (p2 := 7)  hw  hx235) ?_)
  rintro _ w ⟨rfl, hw⟩
  refine RL.not (b := x235) trivial rfl rfl ?_
  refine as_ (vb (!x235)) rfl rfl ?_
  refine RL.nt ?_
  refine RC.cond (b := (!x235)) rfl (fun hc => ?_) (fun hc => ?_)
  ·replace hb := cT hc hb
   refine RC.sr ?_
   refine as_ (vi 4) rfl rfl ?_
   refine RL.nt ?_
   refine RC.rb ?_
   refine blkQ_r ?_
   refine thenQ_r ?_
   obtain rfl := oi hb
   exact ⟨rfl, fin1 rfl rfl ⟨rfl, hw.drop 5 rfl⟩⟩
  replace hb := cF hc hb
  refine RC.sr ?_
  refine RL.fa_b trivial rfl rfl fa82_2 ?_
  refine RL.load_bfs (i := 0) (f := (fun x => x.Group)) trivial rfl hw rfl rfl fd_PinType_2 ty3 ?_
  obtain ⟨x271, hx271, hb⟩ := bd hb
  refine RL.call trivial rfl fn136 [(vi x159.Group), (vi 0), (vi 200)] rfl (Calls_ret (etchhouseref2_within_ok N (p0 := x159.Group) (p1 := 0) (p2 := 200)  hw  hx271) ?_)
  rintro _ w ⟨rfl, hw⟩
  refine RL.not (b := x271) trivial rfl rfl ?_
  refine as_ (vb (!x271)) rfl rfl ?_
  refine RL.nt ?_
  refine RC.cond (b := (!x271)) rfl (fun hc => ?_) (fun hc => ?_)
  ·replace hb := cT hc hb
   refine RC.sr ?_
   refine as_ (vi 1) rfl rfl ?_
   refine RL.nt ?_
   refine RC.rb ?_
   refine blkQ_r ?_
   refine thenQ_r ?_
   obtain rfl := oi hb
   exact ⟨rfl, fin1 rfl rfl ⟨rfl, hw.drop 5 rfl⟩⟩
  replace hb := cF hc hb
  refine RC.seq ?_
  obtain ⟨s297, hj, hb⟩ := bd hb
  refine RC.jn (fun (s297 : Bool) (σ : Nat → Value) (w : World) => agree σ [(1, (vp b1 0)), (25, v9), (26, (vi (p0.Pins.length : Int))), (27, (vi (k10 : Int))), (47, (vb s297))] ∧ Holds E w ([bx 85 b1 p0, rd v9 p0.Pins] ++ Γ)) s297 ?_ ?_
  ·rcases Bool.eq_false_or_eq_true (decide ((k10 : Int) > 0)) with hg298 | hg298
   rotate_left
   ·replace hj := cF hg298 hj
    refine RC.drw mixed rfl (fun (D : Nat → Bool) (σ : Nat → Value) (w : World) => doneV D σ [(0, 48, (vi (k10 : Int))), (1, 49, (vb (decide ((k10 : Int) > 0)))), (2, 50, (vb (decide ((k10 : Int) > 0)))), (3, 51, undef), (4, 52, undef), (5, 53, undef), (6, 54, undef), (7, 55, undef), (8, 56, undef), (9, 57, undef), (10, 58, undef), (11, 59, undef), (12, 60, undef), (13, 61, (vb false)), (14, 47, (vb false))] ∧ agree σ [(1, (vp b1 0)), (3, (vi (k10 : Int))), (4, (vp b162 0)), (25, v9), (26, (vi (p0.Pins.length : Int))), (27, (vi (k10 : Int)))] ∧ Holds E w ([bx 82 b162 x159, rd v161 x159, pt v160 x159, bx 85 b1 p0, rd v9 p0.Pins] ++ Γ)) ?_ ⟨?_, ?_, ?_, ?_, ?_, ?_, ?_, ?_, ?_, ?_, ?_, ?_, ?_, ?_, ?_, trivial⟩ ?_
    ·have hw := hw.drew
     exact ⟨doneV.none, ⟨rfl, rfl, rfl, rfl, rfl, rfl, trivial⟩, hw⟩
    ·rintro D σ w hD hdep hcl ⟨hv, ha, hw⟩
     obtain ⟨τ, rfl⟩ := (ac (ha.at 1 rfl) az).ups
     refine mv (vi (k10 : Int)) rfl rfl ?_
     refine RL.nil ?_
     exact ⟨rfl, hv.put 0 rfl rfl, ha.up rfl, hw⟩
    ·rintro D σ w hD hdep hcl ⟨hv, ha, hw⟩
     obtain ⟨τ, rfl⟩ := (ac (hv.at 0 rfl (hdep.1 rfl)) az).ups
     refine ic ((k10 : Int)) 0 rfl rfl rfl rfl ?_
     refine RL.nil ?_
     exact ⟨rfl, hv.put 1 rfl rfl, ha.up rfl, hw⟩
    ·rintro D σ w hD hdep hcl ⟨hv, ha, hw⟩
     obtain ⟨τ, rfl⟩ := (ac (hv.at 1 rfl (hdep.1 rfl)) az).ups
     refine mv (vb (decide ((k10 : Int) > 0))) rfl rfl ?_
     refine RL.nil ?_
     exact ⟨rfl, hv.put 2 rfl rfl, ha.up rfl, hw⟩
    ·rintro D σ w hD hdep hcl ⟨hv, ha, hw⟩
     obtain ⟨τ, rfl⟩ := (ac (hv.at 2 rfl (hdep.1 rfl)) (ac (ha.at 2 rfl) az)).ups
     refine sk rfl (.inl (cb hg298)) rfl ?_
     refine RL.nil ?_
     exact ⟨rfl, hv.put 3 rfl rfl, ha.up rfl, hw⟩
    ·rintro D σ w hD hdep hcl ⟨hv, ha, hw⟩
     obtain ⟨τ, rfl⟩ := (ac (hv.at 2 rfl (hdep.2.1 rfl)) (ac (hv.at 3 rfl (hdep.1 rfl)) az)).ups
     refine sk rfl (.inl (cb hg298)) rfl ?_
     refine RL.nil ?_
     exact ⟨rfl, hv.put 4 rfl rfl, ha.up rfl, hw⟩
    ·rintro D σ w hD hdep hcl ⟨hv, ha, hw⟩
     obtain ⟨τ, rfl⟩ := (ac (hv.at 2 rfl (hdep.1 rfl)) (ac (ha.at 0 rfl) az)).ups
     refine sk rfl (.inl (cb hg298)) rfl ?_
     refine RL.nil ?_
     exact ⟨rfl, hv.put 5 rfl rfl, ha.up rfl, hw⟩
    ·rintro D σ w hD hdep hcl ⟨hv, ha, hw⟩
     obtain ⟨τ, rfl⟩ := (ac (hv.at 2 rfl (hdep.2.1 rfl)) (ac (hv.at 5 rfl (hdep.1 rfl)) az)).ups
     refine sk rfl (.inl (cb hg298)) rfl ?_
     refine RL.nil ?_
     exact ⟨rfl, hv.put 6 rfl rfl, ha.up rfl, hw⟩
    ·rintro D σ w hD hdep hcl ⟨hv, ha, hw⟩
     obtain ⟨τ, rfl⟩ := (ac (hv.at 2 rfl (hdep.1 rfl)) (ac (ha.at 1 rfl) az)).ups
     refine sk rfl (.inl (cb hg298)) rfl ?_
     refine RL.nil ?_
     exact ⟨rfl, hv.put 7 rfl rfl, ha.up rfl, hw⟩
    ·rintro D σ w hD hdep hcl ⟨hv, ha, hw⟩
     obtain ⟨τ, rfl⟩ := (ac (hv.at 2 rfl (hdep.2.1 rfl)) (ac (hv.at 7 rfl (hdep.1 rfl)) az)).ups
     refine sk rfl (.inl (cb hg298)) rfl ?_
     refine RL.nil ?_
     exact ⟨rfl, hv.put 8 rfl rfl, ha.up rfl, hw⟩
    ·rintro D σ w hD hdep hcl ⟨hv, ha, hw⟩
     obtain ⟨τ, rfl⟩ := (ac (hv.at 2 rfl (hdep.2.2.1 rfl)) (ac (hv.at 6 rfl (hdep.1 rfl)) (ac (hv.at 8 rfl (hdep.2.1 rfl)) az))).ups
     refine sk rfl (.inl (cb hg298)) rfl ?_
     refine RL.nil ?_
     exact ⟨rfl, hv.put 9 rfl rfl, ha.up rfl, hw⟩
    ·rintro D σ w hD hdep hcl ⟨hv, ha, hw⟩
     obtain ⟨τ, rfl⟩ := (ac (hv.at 2 rfl (hdep.2.1 rfl)) (ac (hv.at 9 rfl (hdep.1 rfl)) az)).ups
     refine sk rfl (.inl (cb hg298)) rfl ?_
     refine RL.nil ?_
     exact ⟨rfl, hv.put 10 rfl rfl, ha.up rfl, hw⟩
    ·rintro D σ w hD hdep hcl ⟨hv, ha, hw⟩
     obtain ⟨τ, rfl⟩ := (ac (hv.at 2 rfl (hdep.2.1 rfl)) (ac (hv.at 10 rfl (hdep.1 rfl)) az)).ups
     refine sk rfl (.inl (cb hg298)) rfl ?_
     refine RL.nil ?_
     exact ⟨rfl, hv.put 11 rfl rfl, ha.up rfl, hw⟩
    ·rintro D σ w hD hdep hcl ⟨hv, ha, hw⟩
     obtain ⟨τ, rfl⟩ := (ac (hv.at 2 rfl (hdep.2.2.1 rfl)) (ac (hv.at 4 rfl (hdep.1 rfl)) (ac (hv.at 11 rfl (hdep.2.1 rfl)) az))).ups
     refine sk rfl (.inl (cb hg298)) rfl ?_
     refine RL.nil ?_
     exact ⟨rfl, hv.put 12 rfl rfl, ha.up rfl, hw⟩
    ·rintro D σ w hD hdep hcl ⟨hv, ha, hw⟩
     obtain ⟨τ, rfl⟩ := (ac (hv.at 2 rfl (hdep.1 rfl)) (ac (hv.at 12 rfl (hdep.2.1 rfl)) az)).ups
     refine RL.pick (b := (decide ((k10 : Int) > 0))) (v := (vb false)) trivial rfl rfl (by rw [hg298]; rfl) ?_
     refine RL.nil ?_
     exact ⟨rfl, hv.put 13 rfl rfl, ha.up rfl, hw⟩
    ·rintro D σ w hD hdep hcl ⟨hv, ha, hw⟩
     obtain ⟨τ, rfl⟩ := (ac (hv.at 13 rfl (hdep.1 rfl)) az).ups
     refine as_ (vb false) rfl rfl ?_
     refine RL.nil ?_
     exact ⟨rfl, hv.put 14 rfl rfl, ha.up rfl, hw⟩
    rintro D σ w hall ⟨hv, ha, hw⟩
    obtain ⟨τ, rfl⟩ := (ac (hv.at 14 rfl (hall 14 (by decide))) (ac (ha.at 0 rfl) (ac (ha.at 1 rfl) (ac (ha.at 2 rfl) (ac (ha.at 3 rfl) (ac (ha.at 4 rfl) (ac (ha.at 5 rfl) az))))))).ups
    obtain rfl := oi hj
    exact ⟨rfl, ⟨rfl, rfl, rfl, rfl, rfl, trivial⟩, hw.pick 5 [3, 4] (new := [bx 85 b1 p0, rd v9 p0.Pins]) rfl rfl (by decide) (by decide)⟩
   replace hj := cT hg298 hj
   obtain ⟨x300, hx300, hj⟩ := bd hj
   refine RC.drw mixed rfl (fun (D : Nat → Bool) (σ : Nat → Value) (w : World) => ∃ (v299 : Value) (v301 : Value) (v302 : Value), doneV D σ [(0, 48, (vi (k10 : Int))), (1, 49, (vb (decide ((k10 : Int) > 0)))), (2, 50, (vb (decide ((k10 : Int) > 0)))), (3, 51, (vp b162 0)), (4, 52, (str x159.Name)), (5, 53, (vp b1 1)), (6, 54, v299), (7, 55, (vi (k10 : Int))), (8, 56, (vi (IntKind.wrap .i64 ((k10 : Int) - 1)))), (9, 57, v301), (10, 58, v302), (11, 59, (str x300.Name)), (12, 60, (vb (x159.Name.ltb x300.Name || x159.Name.eqb x300.Name))), (13, 61, (vb (x159.Name.ltb x300.Name || x159.Name.eqb x300.Name))), (14, 47, (vb (x159.Name.ltb x300.Name || x159.Name.eqb x300.Name)))] ∧ agree σ [(1, (vp b1 0)), (3, (vi (k10 : Int))), (4, (vp b162 0)), (25, v9), (26, (vi (p0.Pins.length : Int))), (27, (vi (k10 : Int)))] ∧ Holds E w ([bif D 6 then (rd v299 p0.Pins) else junk, bif D 9 then (pt v301 x300) else junk, bif D 10 then (pt v302 x300.Name) else junk, bx 82 b162 x159, rd v161 x159, pt v160 x159, bx 85 b1 p0, rd v9 p0.Pins] ++ Γ)) ?_ ⟨?_, ?_, ?_, ?_, ?_, ?_, ?_, ?_, ?_, ?_, ?_, ?_, ?_, ?_, ?_, trivial⟩ ?_
   ·have hw := hw.drew
    have hw := hw.junk
    have hw := hw.junk
    have hw := hw.junk
    exact ⟨undef, undef, undef, doneV.none, ⟨rfl, rfl, rfl, rfl, rfl, rfl, trivial⟩, hw⟩
   ·rintro D σ w hD hdep hcl ⟨v299, v301, v302, hv, ha, hw⟩
    obtain ⟨τ, rfl⟩ := (ac (ha.at 1 rfl) az).ups
    refine mv (vi (k10 : Int)) rfl rfl ?_
    refine RL.nil ?_
    exact ⟨rfl, v299, v301, v302, hv.put 0 rfl rfl, ha.up rfl, hw⟩
   ·rintro D σ w hD hdep hcl ⟨v299, v301, v302, hv, ha, hw⟩
    obtain ⟨τ, rfl⟩ := (ac (hv.at 0 rfl (hdep.1 rfl)) az).ups
    refine ic ((k10 : Int)) 0 rfl rfl rfl rfl ?_
    refine RL.nil ?_
    exact ⟨rfl, v299, v301, v302, hv.put 1 rfl rfl, ha.up rfl, hw⟩
   ·rintro D σ w hD hdep hcl ⟨v299, v301, v302, hv, ha, hw⟩
    obtain ⟨τ, rfl⟩ := (ac (hv.at 1 rfl (hdep.1 rfl)) az).ups
    refine mv (vb (decide ((k10 : Int) > 0))) rfl rfl ?_
    refine RL.nil ?_
    exact ⟨rfl, v299, v301, v302, hv.put 2 rfl rfl, ha.up rfl, hw⟩
   ·rintro D σ w hD hdep hcl ⟨v299, v301, v302, hv, ha, hw⟩
    obtain ⟨τ, rfl⟩ := (ac (hv.at 2 rfl (hdep.1 rfl)) (ac (ha.at 2 rfl) az)).ups
    refine RL.fa_b ⟨_, rfl, cb hg298⟩ rfl rfl fa82_0 ?_
    refine RL.nil ?_
    exact ⟨rfl, v299, v301, v302, hv.put 3 rfl rfl, ha.up rfl, hw⟩
   ·rintro D σ w hD hdep hcl ⟨v299, v301, v302, hv, ha, hw⟩
    obtain ⟨τ, rfl⟩ := (ac (hv.at 2 rfl (hdep.2.1 rfl)) (ac (hv.at 3 rfl (hdep.1 rfl)) az)).ups
    refine RL.load_bfs (i := 3) (f := (fun x => x.Name)) ⟨_, rfl, cb hg298⟩ rfl hw rfl rfl fd_PinType_0 ty9 ?_
    refine RL.nil ?_
    exact ⟨rfl, v299, v301, v302, hv.put 4 rfl rfl, ha.up rfl, hw⟩
   ·rintro D σ w hD hdep hcl ⟨v299, v301, v302, hv, ha, hw⟩
    obtain ⟨τ, rfl⟩ := (ac (hv.at 2 rfl (hdep.1 rfl)) (ac (ha.at 0 rfl) az)).ups
    refine RL.fa_b ⟨_, rfl, cb hg298⟩ rfl rfl fa85_1 ?_
    refine RL.nil ?_
    exact ⟨rfl, v299, v301, v302, hv.put 5 rfl rfl, ha.up rfl, hw⟩
   ·rintro D σ w hD hdep hcl ⟨v299, v301, v302, hv, ha, hw⟩
    obtain ⟨τ, rfl⟩ := (ac (hv.at 2 rfl (hdep.2.1 rfl)) (ac (hv.at 5 rfl (hdep.1 rfl)) az)).ups
    have hw := hw.selF (i := 0) rfl hD
    refine RL.load_bf (i := 6) (f := (fun x => x.Pins)) ⟨_, rfl, cb hg298⟩ rfl hw rfl rfl fd_PartType_1 ty83 fun v303 hw => ?_
    have hw := hw.pick 9 [0, 2, 3, 4, 5, 6, 7, 8] (new := [rd v303 p0.Pins, bif D 9 then (pt v301 x300) else junk, bif D 10 then (pt v302 x300.Name) else junk, bx 82 b162 x159, rd v161 x159, pt v160 x159, bx 85 b1 p0, rd v9 p0.Pins]) rfl rfl (by decide) (by decide)
    have hw := hw.altT (i := 0) (b := true) rfl rfl (junk)
    refine RL.nil ?_
    exact ⟨rfl, v303, v301, v302, hv.put 6 rfl rfl, ha.up rfl, hw⟩
   ·rintro D σ w hD hdep hcl ⟨v299, v301, v302, hv, ha, hw⟩
    obtain ⟨τ, rfl⟩ := (ac (hv.at 2 rfl (hdep.1 rfl)) (ac (ha.at 1 rfl) az)).ups
    refine RL.move (v := (vi (k10 : Int))) ⟨_, rfl, cb hg298⟩ rfl rfl ?_
    refine RL.nil ?_
    exact ⟨rfl, v299, v301, v302, hv.put 7 rfl rfl, ha.up rfl, hw⟩
   ·rintro D σ w hD hdep hcl ⟨v299, v301, v302, hv, ha, hw⟩
    obtain ⟨τ, rfl⟩ := (ac (hv.at 2 rfl (hdep.2.1 rfl)) (ac (hv.at 7 rfl (hdep.1 rfl)) az)).ups
    refine RL.iar (a := (k10 : Int)) (b := 1) ⟨_, rfl, cb hg298⟩ rfl rfl rfl rfl ?_
    refine RL.nil ?_
    exact ⟨rfl, v299, v301, v302, hv.put 8 rfl rfl, ha.up rfl, hw⟩
   ·rintro D σ w hD hdep hcl ⟨v299, v301, v302, hv, ha, hw⟩
    obtain ⟨τ, rfl⟩ := (ac (hv.at 2 rfl (hdep.2.2.1 rfl)) (ac (hv.at 6 rfl (hdep.1 rfl)) (ac (hv.at 8 rfl (hdep.2.1 rfl)) az))).ups
    have hw := hw.selT (i := 0) rfl (hdep.1 rfl)
    have hw := hw.selF (i := 1) rfl hD
    refine RL.ia_rd (i := 0) ⟨_, rfl, cb hg298⟩ rfl hw rfl rfl rfl sl83 hx300 fun v304 hw => ?_
    have hw := hw.pick 9 [1, 0, 3, 4, 5, 6, 7, 8] (new := [rd v299 p0.Pins, pt v304 x300, bif D 10 then (pt v302 x300.Name) else junk, bx 82 b162 x159, rd v161 x159, pt v160 x159, bx 85 b1 p0, rd v9 p0.Pins]) rfl rfl (by decide) (by decide)
    have hw := hw.altT (i := 0) (b := D 6) rfl (hdep.1 rfl) (junk)
    have hw := hw.altT (i := 1) (b := true) rfl rfl (junk)
    refine RL.nil ?_
    exact ⟨rfl, v299, v304, v302, hv.put 9 rfl rfl, ha.up rfl, hw⟩
   ·rintro D σ w hD hdep hcl ⟨v299, v301, v302, hv, ha, hw⟩
    obtain ⟨τ, rfl⟩ := (ac (hv.at 2 rfl (hdep.2.1 rfl)) (ac (hv.at 9 rfl (hdep.1 rfl)) az)).ups
    have hw := hw.selT (i := 1) rfl (hdep.1 rfl)
    have hw := hw.selF (i := 2) rfl hD
    refine RL.fa_pt (i := 1) (f := fun (x : PinType) => x.Name) ⟨_, rfl, cb hg298⟩ rfl hw rfl rfl fa82_0 fd_PinType_0 fun v305 hw => ?_
    have hw := hw.pick 9 [1, 2, 0, 4, 5, 6, 7, 8] (new := [bif D 6 then (rd v299 p0.Pins) else junk, pt v301 x300, pt v305 x300.Name, bx 82 b162 x159, rd v161 x159, pt v160 x159, bx 85 b1 p0, rd v9 p0.Pins]) rfl rfl (by decide) (by decide)
    have hw := hw.altT (i := 1) (b := D 9) rfl (hdep.1 rfl) (junk)
    have hw := hw.altT (i := 2) (b := true) rfl rfl (junk)
    refine RL.nil ?_
    exact ⟨rfl, v299, v301, v305, hv.put 10 rfl rfl, ha.up rfl, hw⟩
   ·rintro D σ w hD hdep hcl ⟨v299, v301, v302, hv, ha, hw⟩
    obtain ⟨τ, rfl⟩ := (ac (hv.at 2 rfl (hdep.2.1 rfl)) (ac (hv.at 10 rfl (hdep.1 rfl)) az)).ups
    have hw := hw.selT (i := 2) rfl (hdep.1 rfl)
    refine RL.load_pts (i := 2) (y := x300.Name) ⟨_, rfl, cb hg298⟩ rfl hw rfl rfl ty9 ?_
    have hw := hw.altT (i := 2) (b := D 10) rfl (hdep.1 rfl) (junk)
    refine RL.nil ?_
    exact ⟨rfl, v299, v301, v302, hv.put 11 rfl rfl, ha.up rfl, hw⟩
   ·rintro D σ w hD hdep hcl ⟨v299, v301, v302, hv, ha, hw⟩
    obtain ⟨τ, rfl⟩ := (ac (hv.at 2 rfl (hdep.2.2.1 rfl)) (ac (hv.at 4 rfl (hdep.1 rfl)) (ac (hv.at 11 rfl (hdep.2.1 rfl)) az))).ups
    refine RL.scmp (a := x159.Name) (b := x300.Name) ⟨_, rfl, cb hg298⟩ rfl rfl rfl rfl ?_
    refine RL.nil ?_
    exact ⟨rfl, v299, v301, v302, hv.put 12 rfl rfl, ha.up rfl, hw⟩
   ·rintro D σ w hD hdep hcl ⟨v299, v301, v302, hv, ha, hw⟩
    obtain ⟨τ, rfl⟩ := (ac (hv.at 2 rfl (hdep.1 rfl)) (ac (hv.at 12 rfl (hdep.2.1 rfl)) az)).ups
    refine RL.pick (b := (decide ((k10 : Int) > 0))) (v := (vb (x159.Name.ltb x300.Name || x159.Name.eqb x300.Name))) trivial rfl rfl (by rw [hg298]; rfl) ?_
    refine RL.nil ?_
    exact ⟨rfl, v299, v301, v302, hv.put 13 rfl rfl, ha.up rfl, hw⟩
   ·rintro D σ w hD hdep hcl ⟨v299, v301, v302, hv, ha, hw⟩
    obtain ⟨τ, rfl⟩ := (ac (hv.at 13 rfl (hdep.1 rfl)) az).ups
    refine as_ (vb (x159.Name.ltb x300.Name || x159.Name.eqb x300.Name)) rfl rfl ?_
    refine RL.nil ?_
    exact ⟨rfl, v299, v301, v302, hv.put 14 rfl rfl, ha.up rfl, hw⟩
   rintro D σ w hall ⟨v299, v301, v302, hv, ha, hw⟩
   rw [hall 6 (by decide), hall 9 (by decide), hall 10 (by decide)] at hw
   obtain ⟨τ, rfl⟩ := (ac (hv.at 14 rfl (hall 14 (by decide))) (ac (ha.at 0 rfl) (ac (ha.at 1 rfl) (ac (ha.at 2 rfl) (ac (ha.at 3 rfl) (ac (ha.at 4 rfl) (ac (ha.at 5 rfl) az))))))).ups
   obtain rfl := oi hj
   exact ⟨rfl, ⟨rfl, rfl, rfl, rfl, rfl, trivial⟩, hw.pick 8 [6, 7] (new := [bx 85 b1 p0, rd v9 p0.Pins]) rfl rfl (by decide) (by decide)⟩
  rintro σ w ⟨ha, hw⟩
  obtain ⟨τ, rfl⟩ := ha.ups
  refine thenQ_n ?_
  refine RC.cond (b := s297) rfl (fun hc => ?_) (fun hc => ?_)
  rotate_left
  ·replace hb := cF hc hb
   refine RC.skip ?_
   refine blkQ_n ?_
   refine blkQ_n ?_
   refine thenQ_n ?_
   refine RC.region ?_
   refine RL.inc trivial rfl hk hm rfl rfl ?_
   refine mv (vi ((k10 + 1 : Nat) : Int)) rfl rfl ?_
   refine RL.nil ?_
   obtain rfl := oi hb
   exact ⟨rfl, ⟨rfl, rfl, rfl, rfl, trivial⟩, hw.pick 2 [0, 1] (new := [bx 85 b1 p0, rd v9 p0.Pins]) rfl rfl (by decide) (by decide)⟩
  replace hb := cT hc hb
  refine RC.sr ?_
  refine as_ (vi 8) rfl rfl ?_
  refine RL.nt ?_
  refine RC.rb ?_
  refine blkQ_r ?_
  refine thenQ_r ?_
  obtain rfl := oi hb
  exact ⟨rfl, fin1 rfl rfl ⟨rfl, hw.drop 2 rfl⟩⟩
 ·intro r σ w e hK
  subst e
  refine thenQ_r ?_
  obtain rfl := oi hb
  exact hK
 intro s11 σ w e hJ
 subst e
 rw [Fo.cs_go] at hb
 obtain ⟨ha, hw⟩ := hJ
 obtain ⟨τ, rfl⟩ := ha.ups
 refine thenQ_n ?_
 refine RC.seq ?_
 refine RC.sr ?_
 refine RL.fa_b trivial rfl rfl fa85_1 ?_
 refine RL.load_bf (i := 0) (f := (fun x => x.Pins)) trivial rfl hw rfl rfl fd_PartType_1 ty83 fun v306 hw => ?_
 refine RL.len_rd (i := 0) (l := p0.Pins) trivial rfl hw rfl rfl un83 ?_
 refine mv (vi 0) rfl rfl ?_
 refine RL.nt ?_
 obtain ⟨o345, hN, hb⟩ := bd hb
 refine RC.range (fun (k307 : Nat) (s308 : Unit) (σ : Nat → Value) (w : World) => agree σ [(1, (vp b1 0)), (64, v306), (65, (vi (p0.Pins.length : Int))), (66, (vi (k307 : Int)))] ∧ Holds E w ([bx 85 b1 p0, rd v306 p0.Pins] ++ Γ)) (fun (s308 : Unit) (σ : Nat → Value) (w : World) => agree σ [] ∧ Holds E w ([bx 85 b1 p0, rd v306 p0.Pins] ++ Γ)) (etchhouseref2_checkType_K E Γ) hN ?_ ?_ ?_ ?_ ?_ 
 ·exact ⟨⟨rfl, rfl, rfl, rfl, trivial⟩, hw.pick 3 [1, 0] (new := [bx 85 b1 p0, rd v306 p0.Pins]) rfl rfl (by decide) (by decide)⟩
 ·intro hm s308 σ w hI
  obtain ⟨ha, hw⟩ := hI
  obtain ⟨τ, rfl⟩ := ha.ups
  refine RC.sr ?_
  refine ic ((p0.Pins.length : Int)) ((p0.Pins.length : Int)) rfl rfl rfl rfl ?_
  refine RL.nq ?_
  refine RC.cond_f dge ?_
  refine RC.ex ?_
  exact ⟨rfl, trivial, hw.pick 2 [0, 1] (new := [bx 85 b1 p0, rd v306 p0.Pins]) rfl rfl (by decide) (by decide)⟩
 ·intro hm k307 s308 fl σ w hk hI hb
  obtain ⟨ha, hw⟩ := hI
  obtain ⟨τ, rfl⟩ := ha.ups
  refine RC.sr ?_
  refine ic ((k307 : Int)) ((p0.Pins.length : Int)) rfl rfl rfl rfl ?_
  refine RL.nq ?_
  refine RC.cond_t (dlt hk) ?_
  refine RC.ss ?_
  refine RC.bs ?_
  refine mv (vi (k307 : Int)) rfl rfl ?_
  obtain ⟨x327, hx327, hb⟩ := bd hb
  refine RL.ia_rd (i := 1) trivial rfl hw rfl rfl rfl sl83 hx327 fun v328 hw => ?_
  refine RL.load_pt (i := 0) (x := x327) trivial rfl hw rfl rfl ty82 fun v329 hw => ?_
  refine RL.alloc trivial rfl hw ze82.z fun b330 w hw => ?_
  refine as_ (vi (k307 : Int)) rfl rfl ?_
  refine RL.store_raw (i := 0) (j := 1) trivial hw rfl rfl rfl rfl ty82 rfl fun w hw => ?_
  refine RL.ns ?_
  refine RL.fa_b trivial rfl rfl fa85_1 ?_
  refine RL.load_bf (i := 3) (f := (fun x => x.Pins)) trivial rfl hw rfl rfl fd_PartType_1 ty83 fun v331 hw => ?_
  refine mv (vi (k307 : Int)) rfl rfl ?_
  obtain ⟨x332, hx332, hb⟩ := bd hb
  refine RL.cut (i := 0) trivial rfl hw rfl rfl sl83 (.inr ⟨rfl, rfl⟩) (.inl rfl) hx332 fun v333 hw => ?_
  refine RL.len_rd (i := 0) (l := x332) trivial rfl hw rfl rfl un83 ?_
  refine mv (vi 0) rfl rfl ?_
  refine RL.nt ?_
  obtain ⟨o344, hN, hb⟩ := bd hb
  refine RC.range (fun (k334 : Nat) (s335 : Unit) (σ : Nat → Value) (w : World) => agree σ [(1, (vp b1 0)), (6, (vp b330 0)), (64, v306), (65, (vi (p0.Pins.length : Int))), (66, (vi (k307 : Int))), (74, v333), (75, (vi (x332.length : Int))), (76, (vi (k334 : Int)))] ∧ Holds E w ([bx 85 b1 p0, bx 82 b330 x327, rd v306 p0.Pins, rd v333 x332] ++ Γ)) (fun (s335 : Unit) (σ : Nat → Value) (w : World) => agree σ [(1, (vp b1 0)), (64, v306), (65, (vi (p0.Pins.length : Int))), (66, (vi (k307 : Int)))] ∧ Holds E w ([bx 85 b1 p0, bx 82 b330 x327, rd v306 p0.Pins, rd v333 x332] ++ Γ)) (etchhouseref2_checkType_K E Γ) hN ?_ ?_ ?_ ?_ ?_ 
  ·exact ⟨⟨rfl, rfl, rfl, rfl, rfl, rfl, rfl, rfl, trivial⟩, hw.pick 7 [5, 2, 6, 0] (new := [bx 85 b1 p0, bx 82 b330 x327, rd v306 p0.Pins, rd v333 x332]) rfl rfl (by decide) (by decide)⟩
  ·intro hm s335 σ w hI
   obtain ⟨ha, hw⟩ := hI
   obtain ⟨τ, rfl⟩ := ha.ups
   refine RC.sr ?_
   refine ic ((x332.length : Int)) ((x332.length : Int)) rfl rfl rfl rfl ?_
   refine RL.nq ?_
   refine RC.cond_f dge ?_
   refine RC.ex ?_
   exact ⟨rfl, ⟨rfl, rfl, rfl, rfl, trivial⟩, hw.pick 4 [0, 1, 2, 3] (new := [bx 85 b1 p0, bx 82 b330 x327, rd v306 p0.Pins, rd v333 x332]) rfl rfl (by decide) (by decide)⟩
  ·intro hm k334 s335 fl σ w hk hI hb
   obtain ⟨ha, hw⟩ := hI
   obtain ⟨τ, rfl⟩ := ha.ups
   refine RC.sr ?_
   refine ic ((k334 : Int)) ((x332.length : Int)) rfl rfl rfl rfl ?_
   refine RL.nq ?_
   refine RC.cond_t (dlt hk) ?_
   refine RC.ss ?_
   refine RC.bs ?_
   obtain ⟨x340, hx340, hb⟩ := bd hb
   refine RL.ia_rd (i := 3) trivial rfl hw rfl rfl rfl sl83 hx340 fun v341 hw => ?_
   refine RL.load_pt (i := 0) (x := x340) trivial rfl hw rfl rfl ty82 fun v342 hw => ?_
   refine RL.alloc trivial rfl hw ze82.z fun b343 w hw => ?_
   refine RL.store_raw (i := 0) (j := 1) trivial hw rfl rfl rfl rfl ty82 rfl fun w hw => ?_
   refine RL.ns ?_
   refine RL.fa_b trivial rfl rfl fa82_2 ?_
   refine RL.load_bfs (i := 4) (f := (fun x => x.Group)) trivial rfl hw rfl rfl fd_PinType_2 ty3 ?_
   refine ic (x327.Group) 0 rfl rfl rfl rfl ?_
   refine mv (vb (decide (x327.Group > 0))) rfl rfl ?_
   refine RL.gs (c := true) (b := (decide (x327.Group > 0))) (v := (vp b330 2)) rfl rfl rfl (gs_fa_b rfl (fun _ => rfl) fa82_2) ?_
   refine RL.gs (c := true) (b := (decide (x327.Group > 0))) (v := (vi x327.Group)) rfl rfl rfl (gs_load_bfs (i := 4) (f := (fun x => x.Group)) rfl hw (fun h => by exact (cv_t h : cv (true && ((decide (x327.Group > 0)) == true)) (vp b330 2) = (vp b330 2))) rfl fd_PinType_2 ty3) ?_
   refine RL.gs (c := true) (b := (decide (x327.Group > 0))) (v := (vp b343 2)) rfl rfl rfl (gs_fa_b rfl (fun _ => rfl) fa82_2) ?_
   refine RL.gs (c := true) (b := (decide (x327.Group > 0))) (v := (vi x340.Group)) rfl rfl rfl (gs_load_bfs (i := 0) (f := (fun x => x.Group)) rfl hw (fun h => by exact (cv_t h : cv (true && ((decide (x327.Group > 0)) == true)) (vp b343 2) = (vp b343 2))) rfl fd_PinType_2 ty3) ?_
   refine RL.gs (c := true) (b := (decide (x327.Group > 0))) (v := (vb (x327.Group == x340.Group))) rfl rfl rfl (gs_icmp (bop := .eql) (K := .i64) (a := x327.Group) (b := x340.Group) rfl (fun h => by exact (cv_t h : cv (true && ((decide (x327.Group > 0)) == true)) (vi x327.Group) = (vi x327.Group))) (fun h => by exact (cv_t h : cv (true && ((decide (x327.Group > 0)) == true)) (vi x340.Group) = (vi x340.Group))) rfl) ?_
   refine RL.pick (b := (decide (x327.Group > 0))) (v := (vb ((decide (x327.Group > 0)) && (x327.Group == x340.Group)))) trivial rfl rfl (pk_and (c := true) rfl) ?_
   refine mv (vb ((decide (x327.Group > 0)) && (x327.Group == x340.Group))) rfl rfl ?_
   refine RL.gs (c := true) (b := ((decide (x327.Group > 0)) && (x327.Group == x340.Group))) (v := (vp b330 1)) rfl rfl rfl (gs_fa_b rfl (fun _ => rfl) fa82_1) ?_
   refine RL.gs (c := true) (b := ((decide (x327.Group > 0)) && (x327.Group == x340.Group))) (v := (vi x327.Kind)) rfl rfl rfl (gs_load_bfs (i := 4) (f := (fun x => x.Kind)) rfl hw (fun h => by exact (cv_t h : cv (true && (((decide (x327.Group > 0)) && (x327.Group == x340.Group)) == true)) (vp b330 1) = (vp b330 1))) rfl fd_PinType_1 ty3) ?_
   refine RL.gs (c := true) (b := ((decide (x327.Group > 0)) && (x327.Group == x340.Group))) (v := (vp b343 1)) rfl rfl rfl (gs_fa_b rfl (fun _ => rfl) fa82_1) ?_
   refine RL.gs (c := true) (b := ((decide (x327.Group > 0)) && (x327.Group == x340.Group))) (v := (vi x340.Kind)) rfl rfl rfl (gs_load_bfs (i := 0) (f := (fun x => x.Kind)) rfl hw (fun h => by exact (cv_t h : cv (true && (((decide (x327.Group > 0)) && (x327.Group == x340.Group)) == true)) (vp b343 1) = (vp b343 1))) rfl fd_PinType_1 ty3) ?_
   refine RL.gs (c := true) (b := ((decide (x327.Group > 0)) && (x327.Group == x340.Group))) (v := (vb (x327.Kind != x340.Kind))) rfl rfl rfl (gs_icmp (bop := .neq) (K := .i64) (a := x327.Kind) (b := x340.Kind) rfl (fun h => by exact (cv_t h : cv (true && (((decide (x327.Group > 0)) && (x327.Group == x340.Group)) == true)) (vi x327.Kind) = (vi x327.Kind))) (fun h => by exact (cv_t h : cv (true && (((decide (x327.Group > 0)) && (x327.Group == x340.Group)) == true)) (vi x340.Kind) = (vi x340.Kind))) rfl) ?_
   refine RL.pick (b := ((decide (x327.Group > 0)) && (x327.Group == x340.Group))) (v := (vb (((decide (x327.Group > 0)) && (x327.Group == x340.Group)) && (x327.Kind != x340.Kind)))) trivial rfl rfl (pk_and (c := true) rfl) ?_
   refine RL.nt ?_
   refine RC.cond (b := (((decide (x327.Group > 0)) && (x327.Group == x340.Group)) && (x327.Kind != x340.Kind))) rfl (fun hc => ?_) (fun hc => ?_)
   rotate_left
   ·replace hb := cF hc hb
    refine RC.skip ?_
    refine blkQ_n ?_
    refine thenQ_n ?_
    refine RC.region ?_
    refine RL.inc trivial rfl hk hm rfl rfl ?_
    refine mv (vi ((k334 + 1 : Nat) : Int)) rfl rfl ?_
    refine RL.nil ?_
    obtain rfl := oi hb
    exact ⟨rfl, ⟨rfl, rfl, rfl, rfl, rfl, rfl, rfl, rfl, trivial⟩, hw.pick 7 [3, 4, 5, 6] (new := [bx 85 b1 p0, bx 82 b330 x327, rd v306 p0.Pins, rd v333 x332]) rfl rfl (by decide) (by decide)⟩
   replace hb := cT hc hb
   refine RC.sr ?_
   refine as_ (vi 12) rfl rfl ?_
   refine RL.nt ?_
   refine RC.rb ?_
   refine thenQ_r ?_
   obtain rfl := oi hb
   exact ⟨rfl, fin1 rfl rfl ⟨rfl, hw.drop 7 rfl⟩⟩
  ·intro r σ w e hK
   subst e
   refine blkQ_r ?_
   refine thenQ_r ?_
   obtain rfl := oi hb
   exact ⟨rfl, hK⟩
  intro s335 σ w e hJ
  subst e
  rw [Fo.cs_go] at hb
  obtain ⟨ha, hw⟩ := hJ
  obtain ⟨τ, rfl⟩ := ha.ups
  refine blkQ_n ?_
  refine thenQ_n ?_
  refine RC.region ?_
  refine RL.inc trivial rfl hk hm rfl rfl ?_
  refine mv (vi ((k307 + 1 : Nat) : Int)) rfl rfl ?_
  refine RL.nil ?_
  obtain rfl := oi hb
  exact ⟨rfl, ⟨rfl, rfl, rfl, rfl, trivial⟩, hw.pick 4 [0, 2] (new := [bx 85 b1 p0, rd v306 p0.Pins]) rfl rfl (by decide) (by decide)⟩
 ·intro r σ w e hK
  subst e
  refine thenQ_r ?_
  obtain rfl := oi hb
  exact hK
 intro s308 σ w e hJ
 subst e
 rw [Fo.cs_go] at hb
 obtain ⟨ha, hw⟩ := hJ
 obtain ⟨τ, rfl⟩ := ha.ups
 refine thenQ_n ?_
 refine RC.sr ?_
 refine as_ (vi 0) rfl rfl ?_
 refine RL.nt ?_
 refine RC.ret ?_
 obtain rfl := oi hb
 exact fin1 rfl rfl ⟨rfl, hw.drop 2 rfl⟩
def etchhouseref2_CheckTypes_R (E : World) (Γ : List HP) (res : Int) (v : Value) (w : World) : Prop := v = (vi res) ∧ Holds E w Γ
def etchhouseref2_CheckTypes_K (E : World) (Γ : List HP) (r : Int) (σ : Nat → Value) (w : World) : Prop := finQ Tryd.prog 35 Tryd.f45 (etchhouseref2_CheckTypes_R E Γ r) .ret σ w
theorem etchhouseref2_CheckTypes_ok (N : Nat) {E w : World} {Γ : List HP} {i0 : Nat} {v0 : Value} {p0 : (List PartType)} {res : Int} (hw : Holds E w Γ) (h0 : Γ[i0]? = some (rd v0 p0)) (hb : etchhouseref2_CheckTypes N p0 = some res) :
    Calls Tryd.prog 45 [v0].toArray w (Ret (etchhouseref2_CheckTypes_R E Γ res)) := by
 unfold etchhouseref2_CheckTypes at hb
 refine enter Tryd.func45 rfl rfl (Nat.le_of_ble_eq_true rfl) ?_
 have hw := hw.dup (i := i0 + 0) h0
 refine RC.sr ?_
 refine as_ (vi 0) rfl rfl ?_
 refine RL.nq ?_
 refine RC.sr ?_
 refine mv v0 rfl rfl ?_
 refine RL.len_rd (i := 0) (l := p0) trivial rfl hw rfl rfl un22 ?_
 refine ic ((p0.length : Int)) 200 rfl rfl rfl rfl ?_
 refine RL.nt ?_
 refine RC.cond (b := (decide ((p0.length : Int) > 200))) rfl (fun hc => ?_) (fun hc => ?_)
 ·replace hb := cT hc hb
  refine RC.sr ?_
  refine as_ (vi 2) rfl rfl ?_
  refine RL.nt ?_
  refine RC.rt ?_
  obtain rfl := oi hb
  exact fin1 rfl rfl ⟨rfl, hw.drop 1 rfl⟩
 replace hb := cF hc hb
 refine RC.ss ?_
 refine RC.sr ?_
 refine mv v0 rfl rfl ?_
 refine RL.len_rd (i := 0) (l := p0) trivial rfl hw rfl rfl un22 ?_
 refine mv (vi 0) rfl rfl ?_
 refine RL.nt ?_
 obtain ⟨o41, hN, hb⟩ := bd hb
 refine RC.range (fun (k1 : Nat) (s2 : Unit) (σ : Nat → Value) (w : World) => agree σ [(0, v0), (9, v0), (10, (vi (p0.length : Int))), (11, (vi (k1 : Int)))] ∧ Holds E w ([rd v0 p0] ++ Γ)) (fun (s2 : Unit) (σ : Nat → Value) (w : World) => agree σ [] ∧ Holds E w ([rd v0 p0] ++ Γ)) (etchhouseref2_CheckTypes_K E Γ) hN ?_ ?_ ?_ ?_ ?_ 
 ·exact ⟨⟨rfl, rfl, rfl, rfl, trivial⟩, hw.pick 1 [0] (new := [rd v0 p0]) rfl rfl (by decide) (by decide)⟩
 ·intro hm s2 σ w hI
  obtain ⟨ha, hw⟩ := hI
  obtain ⟨τ, rfl⟩ := ha.ups
  refine RC.sr ?_
  refine ic ((p0.length : Int)) ((p0.length : Int)) rfl rfl rfl rfl ?_
  refine RL.nq ?_
  refine RC.cond_f dge ?_
  refine RC.ex ?_
  exact ⟨rfl, trivial, hw.pick 1 [0] (new := [rd v0 p0]) rfl rfl (by decide) (by decide)⟩
 ·intro hm k1 s2 fl σ w hk hI hb
  obtain ⟨ha, hw⟩ := hI
  obtain ⟨τ, rfl⟩ := ha.ups
  refine RC.sr ?_
  refine ic ((k1 : Int)) ((p0.length : Int)) rfl rfl rfl rfl ?_
  refine RL.nq ?_
  refine RC.cond_t (dlt hk) ?_
  refine RC.ss ?_
  refine RC.bs ?_
  refine mv (vi (k1 : Int)) rfl rfl ?_
  obtain ⟨x22, hx22, hb⟩ := bd hb
  refine RL.ia_rd (i := 0) trivial rfl hw rfl rfl rfl sl22 hx22 fun v23 hw => ?_
  refine RL.load_pt (i := 0) (x := x22) trivial rfl hw rfl rfl ty85 fun v24 hw => ?_
  refine RL.alloc trivial rfl hw ze85.z fun b25 w hw => ?_
  refine as_ (vi (k1 : Int)) rfl rfl ?_
  refine RL.store_raw (i := 0) (j := 1) trivial hw rfl rfl rfl rfl ty85 rfl fun w hw => ?_
  refine RL.nq ?_
  refine RC.sr ?_
  refine RL.load_bf (i := 0) (f := (fun x => x)) trivial rfl hw rfl rfl Fd.self ty85 fun v26 hw => ?_
  obtain ⟨x27, hx27, hb⟩ := bd hb
  refine RL.call trivial rfl fn101 [v26] rfl (Calls_ret (etchhouseref2_checkType_ok N  (i0 := 0) hw rfl hx27) ?_)
  rintro _ w ⟨rfl, hw⟩
  refine as_ (vi x27) rfl rfl ?_
  refine RL.ns ?_
  refine mv (vi x27) rfl rfl ?_
  refine ic x27 0 rfl rfl rfl rfl ?_
  refine RL.nt ?_
  refine RC.cond (b := (x27 != 0)) rfl (fun hc => ?_) (fun hc => ?_)
  ·replace hb := cT hc hb
   refine RC.sr ?_
   refine mv (vi x27) rfl rfl ?_
   refine as_ (vi x27) rfl rfl ?_
   refine RL.nt ?_
   refine RC.rt ?_
   refine blkQ_r ?_
   refine thenQ_r ?_
   obtain rfl := oi hb
   exact ⟨rfl, fin1 rfl rfl ⟨rfl, hw.drop 5 rfl⟩⟩
  replace hb := cF hc hb
  refine RC.ss ?_
  obtain ⟨s34, hj, hb⟩ := bd hb
  refine RC.jn (fun (s34 : Bool) (σ : Nat → Value) (w : World) => agree σ [(0, v0), (9, v0), (10, (vi (p0.length : Int))), (11, (vi (k1 : Int))), (33, (vb s34))] ∧ Holds E w ([rd v0 p0] ++ Γ)) s34 ?_ ?_
  ·rcases Bool.eq_false_or_eq_true (decide ((k1 : Int) > 0)) with hg35 | hg35
   rotate_left
   ·replace hj := cF hg35 hj
    refine RC.drw mixed rfl (fun (D : Nat → Bool) (σ : Nat → Value) (w : World) => doneV D σ [(0, 21, (vi (k1 : Int))), (1, 22, (vb (decide ((k1 : Int) > 0)))), (2, 23, (vb (decide ((k1 : Int) > 0)))), (3, 24, undef), (4, 25, undef), (5, 26, undef), (6, 27, undef), (7, 28, undef), (8, 29, undef), (9, 30, undef), (10, 31, undef), (11, 32, undef), (12, 33, (vb false))] ∧ agree σ [(0, v0), (3, (vi (k1 : Int))), (4, (vp b25 0)), (9, v0), (10, (vi (p0.length : Int))), (11, (vi (k1 : Int)))] ∧ Holds E w ([rd v26 x22, bx 85 b25 x22, rd v24 x22, pt v23 x22, rd v0 p0] ++ Γ)) ?_ ⟨?_, ?_, ?_, ?_, ?_, ?_, ?_, ?_, ?_, ?_, ?_, ?_, ?_, trivial⟩ ?_
    ·have hw := hw.drew
     exact ⟨doneV.none, ⟨rfl, rfl, rfl, rfl, rfl, rfl, trivial⟩, hw⟩
    ·rintro D σ w hD hdep hcl ⟨hv, ha, hw⟩
     obtain ⟨τ, rfl⟩ := (ac (ha.at 1 rfl) az).ups
     refine mv (vi (k1 : Int)) rfl rfl ?_
     refine RL.nil ?_
     exact ⟨rfl, hv.put 0 rfl rfl, ha.up rfl, hw⟩
    ·rintro D σ w hD hdep hcl ⟨hv, ha, hw⟩
     obtain ⟨τ, rfl⟩ := (ac (hv.at 0 rfl (hdep.1 rfl)) az).ups
     refine ic ((k1 : Int)) 0 rfl rfl rfl rfl ?_
     refine RL.nil ?_
     exact ⟨rfl, hv.put 1 rfl rfl, ha.up rfl, hw⟩
    ·rintro D σ w hD hdep hcl ⟨hv, ha, hw⟩
     obtain ⟨τ, rfl⟩ := (ac (hv.at 1 rfl (hdep.1 rfl)) az).ups
     refine mv (vb (decide ((k1 : Int) > 0))) rfl rfl ?_
     refine RL.nil ?_
     exact ⟨rfl, hv.put 2 rfl rfl, ha.up rfl, hw⟩
    ·rintro D σ w hD hdep hcl ⟨hv, ha, hw⟩
     obtain ⟨τ, rfl⟩ := (ac (hv.at 2 rfl (hdep.1 rfl)) (ac (ha.at 2 rfl) az)).ups
     refine sk rfl (.inl (cb hg35)) rfl ?_
     refine RL.nil ?_
     exact ⟨rfl, hv.put 3 rfl rfl, ha.up rfl, hw⟩
    ·rintro D σ w hD hdep hcl ⟨hv, ha, hw⟩
     obtain ⟨τ, rfl⟩ := (ac (hv.at 2 rfl (hdep.2.1 rfl)) (ac (hv.at 3 rfl (hdep.1 rfl)) az)).ups
     refine sk rfl (.inl (cb hg35)) rfl ?_
     refine RL.nil ?_
     exact ⟨rfl, hv.put 4 rfl rfl, ha.up rfl, hw⟩
    ·rintro D σ w hD hdep hcl ⟨hv, ha, hw⟩
     obtain ⟨τ, rfl⟩ := (ac (hv.at 2 rfl (hdep.1 rfl)) (ac (ha.at 0 rfl) az)).ups
     refine sk rfl (.inl (cb hg35)) rfl ?_
     refine RL.nil ?_
     exact ⟨rfl, hv.put 5 rfl rfl, ha.up rfl, hw⟩
    ·rintro D σ w hD hdep hcl ⟨hv, ha, hw⟩
     obtain ⟨τ, rfl⟩ := (ac (hv.at 2 rfl (hdep.1 rfl)) (ac (ha.at 1 rfl) az)).ups
     refine sk rfl (.inl (cb hg35)) rfl ?_
     refine RL.nil ?_
     exact ⟨rfl, hv.put 6 rfl rfl, ha.up rfl, hw⟩
    ·rintro D σ w hD hdep hcl ⟨hv, ha, hw⟩
     obtain ⟨τ, rfl⟩ := (ac (hv.at 2 rfl (hdep.2.1 rfl)) (ac (hv.at 6 rfl (hdep.1 rfl)) az)).ups
     refine sk rfl (.inl (cb hg35)) rfl ?_
     refine RL.nil ?_
     exact ⟨rfl, hv.put 7 rfl rfl, ha.up rfl, hw⟩
    ·rintro D σ w hD hdep hcl ⟨hv, ha, hw⟩
     obtain ⟨τ, rfl⟩ := (ac (hv.at 2 rfl (hdep.2.2.1 rfl)) (ac (hv.at 5 rfl (hdep.1 rfl)) (ac (hv.at 7 rfl (hdep.2.1 rfl)) az))).ups
     refine sk rfl (.inl (cb hg35)) rfl ?_
     refine RL.nil ?_
     exact ⟨rfl, hv.put 8 rfl rfl, ha.up rfl, hw⟩
    ·rintro D σ w hD hdep hcl ⟨hv, ha, hw⟩
     obtain ⟨τ, rfl⟩ := (ac (hv.at 2 rfl (hdep.2.1 rfl)) (ac (hv.at 8 rfl (hdep.1 rfl)) az)).ups
     refine sk rfl (.inl (cb hg35)) rfl ?_
     refine RL.nil ?_
     exact ⟨rfl, hv.put 9 rfl rfl, ha.up rfl, hw⟩
    ·rintro D σ w hD hdep hcl ⟨hv, ha, hw⟩
     obtain ⟨τ, rfl⟩ := (ac (hv.at 2 rfl (hdep.2.1 rfl)) (ac (hv.at 9 rfl (hdep.1 rfl)) az)).ups
     refine sk rfl (.inl (cb hg35)) rfl ?_
     refine RL.nil ?_
     exact ⟨rfl, hv.put 10 rfl rfl, ha.up rfl, hw⟩
    ·rintro D σ w hD hdep hcl ⟨hv, ha, hw⟩
     obtain ⟨τ, rfl⟩ := (ac (hv.at 2 rfl (hdep.2.2.1 rfl)) (ac (hv.at 4 rfl (hdep.1 rfl)) (ac (hv.at 10 rfl (hdep.2.1 rfl)) az))).ups
     refine sk rfl (.inl (cb hg35)) rfl ?_
     refine RL.nil ?_
     exact ⟨rfl, hv.put 11 rfl rfl, ha.up rfl, hw⟩
    ·rintro D σ w hD hdep hcl ⟨hv, ha, hw⟩
     obtain ⟨τ, rfl⟩ := (ac (hv.at 2 rfl (hdep.1 rfl)) (ac (hv.at 11 rfl (hdep.2.1 rfl)) az)).ups
     refine RL.pick (b := (decide ((k1 : Int) > 0))) (v := (vb false)) trivial rfl rfl (by rw [hg35]; rfl) ?_
     refine RL.nil ?_
     exact ⟨rfl, hv.put 12 rfl rfl, ha.up rfl, hw⟩
    rintro D σ w hall ⟨hv, ha, hw⟩
    obtain ⟨τ, rfl⟩ := (ac (hv.at 12 rfl (hall 12 (by decide))) (ac (ha.at 0 rfl) (ac (ha.at 1 rfl) (ac (ha.at 2 rfl) (ac (ha.at 3 rfl) (ac (ha.at 4 rfl) (ac (ha.at 5 rfl) az))))))).ups
    obtain rfl := oi hj
    exact ⟨rfl, ⟨rfl, rfl, rfl, rfl, rfl, trivial⟩, hw.pick 5 [4] (new := [rd v0 p0]) rfl rfl (by decide) (by decide)⟩
   replace hj := cT hg35 hj
   obtain ⟨x36, hx36, hj⟩ := bd hj
   refine RC.drw mixed rfl (fun (D : Nat → Bool) (σ : Nat → Value) (w : World) => ∃ (v37 : Value) (v38 : Value), doneV D σ [(0, 21, (vi (k1 : Int))), (1, 22, (vb (decide ((k1 : Int) > 0)))), (2, 23, (vb (decide ((k1 : Int) > 0)))), (3, 24, (vp b25 0)), (4, 25, (str x22.Name)), (5, 26, v0), (6, 27, (vi (k1 : Int))), (7, 28, (vi (IntKind.wrap .i64 ((k1 : Int) - 1)))), (8, 29, v37), (9, 30, v38), (10, 31, (str x36.Name)), (11, 32, (vb (x22.Name.ltb x36.Name || x22.Name.eqb x36.Name))), (12, 33, (vb (x22.Name.ltb x36.Name || x22.Name.eqb x36.Name)))] ∧ agree σ [(0, v0), (3, (vi (k1 : Int))), (4, (vp b25 0)), (9, v0), (10, (vi (p0.length : Int))), (11, (vi (k1 : Int)))] ∧ Holds E w ([bif D 8 then (pt v37 x36) else junk, bif D 9 then (pt v38 x36.Name) else junk, rd v26 x22, bx 85 b25 x22, rd v24 x22, pt v23 x22, rd v0 p0] ++ Γ)) ?_ ⟨?_, ?_, ?_, ?_, ?_, ?_, ?_, ?_, ?_, ?_, ?_, ?_, ?_, trivial⟩ ?_
   ·have hw := hw.drew
    have hw := hw.junk
    have hw := hw.junk
    exact ⟨undef, undef, doneV.none, ⟨rfl, rfl, rfl, rfl, rfl, rfl, trivial⟩, hw⟩
   ·rintro D σ w hD hdep hcl ⟨v37, v38, hv, ha, hw⟩
    obtain ⟨τ, rfl⟩ := (ac (ha.at 1 rfl) az).ups
    refine mv (vi (k1 : Int)) rfl rfl ?_
    refine RL.nil ?_
    exact ⟨rfl, v37, v38, hv.put 0 rfl rfl, ha.up rfl, hw⟩
   ·rintro D σ w hD hdep hcl ⟨v37, v38, hv, ha, hw⟩
    obtain ⟨τ, rfl⟩ := (ac (hv.at 0 rfl (hdep.1 rfl)) az).ups
    refine ic ((k1 : Int)) 0 rfl rfl rfl rfl ?_
    refine RL.nil ?_
    exact ⟨rfl, v37, v38, hv.put 1 rfl rfl, ha.up rfl, hw⟩
   ·rintro D σ w hD hdep hcl ⟨v37, v38, hv, ha, hw⟩
    obtain ⟨τ, rfl⟩ := (ac (hv.at 1 rfl (hdep.1 rfl)) az).ups
    refine mv (vb (decide ((k1 : Int) > 0))) rfl rfl ?_
    refine RL.nil ?_
    exact ⟨rfl, v37, v38, hv.put 2 rfl rfl, ha.up rfl, hw⟩
   ·rintro D σ w hD hdep hcl ⟨v37, v38, hv, ha, hw⟩
    obtain ⟨τ, rfl⟩ := (ac (hv.at 2 rfl (hdep.1 rfl)) (ac (ha.at 2 rfl) az)).ups
    refine RL.fa_b ⟨_, rfl, cb hg35⟩ rfl rfl fa85_0 ?_
    refine RL.nil ?_
    exact ⟨rfl, v37, v38, hv.put 3 rfl rfl, ha.up rfl, hw⟩
   ·rintro D σ w hD hdep hcl ⟨v37, v38, hv, ha, hw⟩
    obtain ⟨τ, rfl⟩ := (ac (hv.at 2 rfl (hdep.2.1 rfl)) (ac (hv.at 3 rfl (hdep.1 rfl)) az)).ups
    refine RL.load_bfs (i := 3) (f := (fun x => x.Name)) ⟨_, rfl, cb hg35⟩ rfl hw rfl rfl fd_PartType_0 ty9 ?_
    refine RL.nil ?_
    exact ⟨rfl, v37, v38, hv.put 4 rfl rfl, ha.up rfl, hw⟩
   ·rintro D σ w hD hdep hcl ⟨v37, v38, hv, ha, hw⟩
    obtain ⟨τ, rfl⟩ := (ac (hv.at 2 rfl (hdep.1 rfl)) (ac (ha.at 0 rfl) az)).ups
    refine RL.move (v := v0) ⟨_, rfl, cb hg35⟩ rfl rfl ?_
    refine RL.nil ?_
    exact ⟨rfl, v37, v38, hv.put 5 rfl rfl, ha.up rfl, hw⟩
   ·rintro D σ w hD hdep hcl ⟨v37, v38, hv, ha, hw⟩
    obtain ⟨τ, rfl⟩ := (ac (hv.at 2 rfl (hdep.1 rfl)) (ac (ha.at 1 rfl) az)).ups
    refine RL.move (v := (vi (k1 : Int))) ⟨_, rfl, cb hg35⟩ rfl rfl ?_
    refine RL.nil ?_
    exact ⟨rfl, v37, v38, hv.put 6 rfl rfl, ha.up rfl, hw⟩
   ·rintro D σ w hD hdep hcl ⟨v37, v38, hv, ha, hw⟩
    obtain ⟨τ, rfl⟩ := (ac (hv.at 2 rfl (hdep.2.1 rfl)) (ac (hv.at 6 rfl (hdep.1 rfl)) az)).ups
    refine RL.iar (a := (k1 : Int)) (b := 1) ⟨_, rfl, cb hg35⟩ rfl rfl rfl rfl ?_
    refine RL.nil ?_
    exact ⟨rfl, v37, v38, hv.put 7 rfl rfl, ha.up rfl, hw⟩
   ·rintro D σ w hD hdep hcl ⟨v37, v38, hv, ha, hw⟩
    obtain ⟨τ, rfl⟩ := (ac (hv.at 2 rfl (hdep.2.2.1 rfl)) (ac (hv.at 5 rfl (hdep.1 rfl)) (ac (hv.at 7 rfl (hdep.2.1 rfl)) az))).ups
    have hw := hw.selF (i := 0) rfl hD
    refine RL.ia_rd (i := 6) ⟨_, rfl, cb hg35⟩ rfl hw rfl rfl rfl sl22 hx36 fun v39 hw => ?_
    have hw := hw.pick 8 [0, 2, 3, 4, 5, 6, 7] (new := [pt v39 x36, bif D 9 then (pt v38 x36.Name) else junk, rd v26 x22, bx 85 b25 x22, rd v24 x22, pt v23 x22, rd v0 p0]) rfl rfl (by decide) (by decide)
    have hw := hw.altT (i := 0) (b := true) rfl rfl (junk)
    refine RL.nil ?_
    exact ⟨rfl, v39, v38, hv.put 8 rfl rfl, ha.up rfl, hw⟩
   ·rintro D σ w hD hdep hcl ⟨v37, v38, hv, ha, hw⟩
    obtain ⟨τ, rfl⟩ := (ac (hv.at 2 rfl (hdep.2.1 rfl)) (ac (hv.at 8 rfl (hdep.1 rfl)) az)).ups
    have hw := hw.selT (i := 0) rfl (hdep.1 rfl)
    have hw := hw.selF (i := 1) rfl hD
    refine RL.fa_pt (i := 0) (f := fun (x : PartType) => x.Name) ⟨_, rfl, cb hg35⟩ rfl hw rfl rfl fa85_0 fd_PartType_0 fun v40 hw => ?_
    have hw := hw.pick 8 [1, 0, 3, 4, 5, 6, 7] (new := [pt v37 x36, pt v40 x36.Name, rd v26 x22, bx 85 b25 x22, rd v24 x22, pt v23 x22, rd v0 p0]) rfl rfl (by decide) (by decide)
    have hw := hw.altT (i := 0) (b := D 8) rfl (hdep.1 rfl) (junk)
    have hw := hw.altT (i := 1) (b := true) rfl rfl (junk)
    refine RL.nil ?_
    exact ⟨rfl, v37, v40, hv.put 9 rfl rfl, ha.up rfl, hw⟩
   ·rintro D σ w hD hdep hcl ⟨v37, v38, hv, ha, hw⟩
    obtain ⟨τ, rfl⟩ := (ac (hv.at 2 rfl (hdep.2.1 rfl)) (ac (hv.at 9 rfl (hdep.1 rfl)) az)).ups
    have hw := hw.selT (i := 1) rfl (hdep.1 rfl)
    refine RL.load_pts (i := 1) (y := x36.Name) ⟨_, rfl, cb hg35⟩ rfl hw rfl rfl ty9 ?_
    have hw := hw.altT (i := 1) (b := D 9) rfl (hdep.1 rfl) (junk)
    refine RL.nil ?_
    exact ⟨rfl, v37, v38, hv.put 10 rfl rfl, ha.up rfl, hw⟩
   ·rintro D σ w hD hdep hcl ⟨v37, v38, hv, ha, hw⟩
    obtain ⟨τ, rfl⟩ := (ac (hv.at 2 rfl (hdep.2.2.1 rfl)) (ac (hv.at 4 rfl (hdep.1 rfl)) (ac (hv.at 10 rfl (hdep.2.1 rfl)) az))).ups
    refine RL.scmp (a := x22.Name) (b := x36.Name) ⟨_, rfl, cb hg35⟩ rfl rfl rfl rfl ?_
    refine RL.nil ?_
    exact ⟨rfl, v37, v38, hv.put 11 rfl rfl, ha.up rfl, hw⟩
   ·rintro D σ w hD hdep hcl ⟨v37, v38, hv, ha, hw⟩
    obtain ⟨τ, rfl⟩ := (ac (hv.at 2 rfl (hdep.1 rfl)) (ac (hv.at 11 rfl (hdep.2.1 rfl)) az)).ups
    refine RL.pick (b := (decide ((k1 : Int) > 0))) (v := (vb (x22.Name.ltb x36.Name || x22.Name.eqb x36.Name))) trivial rfl rfl (by rw [hg35]; rfl) ?_
    refine RL.nil ?_
    exact ⟨rfl, v37, v38, hv.put 12 rfl rfl, ha.up rfl, hw⟩
   rintro D σ w hall ⟨v37, v38, hv, ha, hw⟩
   rw [hall 8 (by decide), hall 9 (by decide)] at hw
   obtain ⟨τ, rfl⟩ := (ac (hv.at 12 rfl (hall 12 (by decide))) (ac (ha.at 0 rfl) (ac (ha.at 1 rfl) (ac (ha.at 2 rfl) (ac (ha.at 3 rfl) (ac (ha.at 4 rfl) (ac (ha.at 5 rfl) az))))))).ups
   obtain rfl := oi hj
   exact ⟨rfl, ⟨rfl, rfl, rfl, rfl, rfl, trivial⟩, hw.pick 7 [6] (new := [rd v0 p0]) rfl rfl (by decide) (by decide)⟩
  rintro σ w ⟨ha, hw⟩
  obtain ⟨τ, rfl⟩ := ha.ups
  refine thenQ_n ?_
  refine RC.cond (b := s34) rfl (fun hc => ?_) (fun hc => ?_)
  rotate_left
  ·replace hb := cF hc hb
   refine RC.skip ?_
   refine blkQ_n ?_
   refine thenQ_n ?_
   refine RC.region ?_
   refine RL.inc trivial rfl hk hm rfl rfl ?_
   refine mv (vi ((k1 + 1 : Nat) : Int)) rfl rfl ?_
   refine RL.nil ?_
   obtain rfl := oi hb
   exact ⟨rfl, ⟨rfl, rfl, rfl, rfl, trivial⟩, hw.pick 1 [0] (new := [rd v0 p0]) rfl rfl (by decide) (by decide)⟩
  replace hb := cT hc hb
  refine RC.sr ?_
  refine as_ (vi 8) rfl rfl ?_
  refine RL.nt ?_
  refine RC.rb ?_
  refine thenQ_r ?_
  obtain rfl := oi hb
  exact ⟨rfl, fin1 rfl rfl ⟨rfl, hw.drop 1 rfl⟩⟩
 ·intro r σ w e hK
  subst e
  refine thenQ_r ?_
  obtain rfl := oi hb
  exact hK
 intro s2 σ w e hJ
 subst e
 rw [Fo.cs_go] at hb
 obtain ⟨ha, hw⟩ := hJ
 obtain ⟨τ, rfl⟩ := ha.ups
 refine thenQ_n ?_
 refine RC.sr ?_
 refine as_ (vi 0) rfl rfl ?_
 refine RL.nt ?_
 refine RC.ret ?_
 obtain rfl := oi hb
 exact fin1 rfl rfl ⟨rfl, hw.drop 1 rfl⟩
def etchhouseref2_IsPath_R (E : World) (Γ : List HP) (res : Bool) (v : Value) (w : World) : Prop := v = (vb res) ∧ Holds E w Γ
def etchhouseref2_IsPath_K (E : World) (Γ : List HP) (r : Bool) (σ : Nat → Value) (w : World) : Prop := finQ Tryd.prog 19 Tryd.f102 (etchhouseref2_IsPath_R E Γ r) .ret σ w
theorem etchhouseref2_IsPath_ok (N : Nat) {E w : World} {Γ : List HP} {p0 : Str} {res : Bool} (hw : Holds E w Γ)  (hb : etchhouseref2_IsPath N p0 = some res) :
    Calls Tryd.prog 102 [(str p0)].toArray w (Ret (etchhouseref2_IsPath_R E Γ res)) := by
 unfold etchhouseref2_IsPath at hb
 refine enter Tryd.func102 rfl rfl (Nat.le_of_ble_eq_true rfl) ?_
 refine RC.sr ?_
 refine as_ (vb false) rfl rfl ?_
 refine RL.nq ?_
 refine RC.sr ?_
 refine mv (str p0) rfl rfl ?_
 obtain ⟨x1, hx1, hb⟩ := bd hb
 refine RL.call trivial rfl fn60 [(str p0), (str ⟨[47]⟩)] rfl (Calls_ret (strings_Split_ok N (p0 := p0) (p1 := ⟨[47]⟩)  hw  hx1) ?_)
 rintro v2 w hw
 refine RL.len_own (i := 0) (l := x1) trivial rfl hw rfl rfl un55 ?_
 refine mv (vi 0) rfl rfl ?_
 refine RL.nt ?_
 obtain ⟨o9, hN, hb⟩ := bd hb
 refine RC.range (fun (k3 : Nat) (s4 : Unit) (σ : Nat → Value) (w : World) => agree σ [(0, (str p0)), (6, v2), (7, (vi (x1.length : Int))), (8, (vi (k3 : Int)))] ∧ Holds E w ([own 9 v2 x1] ++ Γ)) (fun (s4 : Unit) (σ : Nat → Value) (w : World) => agree σ [(0, (str p0))] ∧ Holds E w ([own 9 v2 x1] ++ Γ)) (etchhouseref2_IsPath_K E Γ) hN ?_ ?_ ?_ ?_ ?_ 
 ·exact ⟨⟨rfl, rfl, rfl, rfl, trivial⟩, hw.pick 1 [0] (new := [own 9 v2 x1]) rfl rfl (by decide) (by decide)⟩
 ·intro hm s4 σ w hI
  obtain ⟨ha, hw⟩ := hI
  obtain ⟨τ, rfl⟩ := ha.ups
  refine RC.sr ?_
  refine ic ((x1.length : Int)) ((x1.length : Int)) rfl rfl rfl rfl ?_
  refine RL.nq ?_
  refine RC.cond_f dge ?_
  refine RC.ex ?_
  exact ⟨rfl, ⟨rfl, trivial⟩, hw.pick 1 [0] (new := [own 9 v2 x1]) rfl rfl (by decide) (by decide)⟩
 ·intro hm k3 s4 fl σ w hk hI hb
  obtain ⟨ha, hw⟩ := hI
  obtain ⟨τ, rfl⟩ := ha.ups
  refine RC.sr ?_
  refine ic ((k3 : Int)) ((x1.length : Int)) rfl rfl rfl rfl ?_
  refine RL.nq ?_
  refine RC.cond_t (dlt hk) ?_
  refine RC.ss ?_
  refine RC.bs ?_
  obtain ⟨x7, hx7, hb⟩ := bd hb
  refine RL.ia_ownA (i := 0) trivial rfl hw rfl rfl rfl sl55 hx7 ?_
  refine RL.load_els (i := 0) (f := (fun x => x)) trivial rfl hw rfl (elp hw (i := 0) rfl hx7 0) rfl (idx_some hx7).2.1 Fd.self ty9 ?_
  refine as_ (str x7) rfl rfl ?_
  refine RL.ns ?_
  refine mv (str x7) rfl rfl ?_
  obtain ⟨x8, hx8, hb⟩ := bd hb
  refine RL.call trivial rfl fn135 [(str x7)] rfl (Calls_ret (etchhouseref2_IsWord_ok N (p0 := x7)  hw  hx8) ?_)
  rintro _ w ⟨rfl, hw⟩
  refine RL.not (b := x8) trivial rfl rfl ?_
  refine RL.nt ?_
  refine RC.cond (b := (!x8)) rfl (fun hc => ?_) (fun hc => ?_)
  rotate_left
  ·replace hb := cF hc hb
   refine RC.skip ?_
   refine blkQ_n ?_
   refine thenQ_n ?_
   refine RC.region ?_
   refine RL.inc trivial rfl hk hm rfl rfl ?_
   refine mv (vi ((k3 + 1 : Nat) : Int)) rfl rfl ?_
   refine RL.nil ?_
   obtain rfl := oi hb
   exact ⟨rfl, ⟨rfl, rfl, rfl, rfl, trivial⟩, hw.pick 1 [0] (new := [own 9 v2 x1]) rfl rfl (by decide) (by decide)⟩
  replace hb := cT hc hb
  refine RC.sr ?_
  refine as_ (vb false) rfl rfl ?_
  refine RL.nt ?_
  refine RC.rb ?_
  refine thenQ_r ?_
  obtain rfl := oi hb
  exact ⟨rfl, fin1 rfl rfl ⟨rfl, hw.drop 1 rfl⟩⟩
 ·intro r σ w e hK
  subst e
  refine thenQ_r ?_
  obtain rfl := oi hb
  exact hK
 intro s4 σ w e hJ
 subst e
 rw [Fo.cs_go] at hb
 obtain ⟨ha, hw⟩ := hJ
 obtain ⟨τ, rfl⟩ := ha.ups
 refine thenQ_n ?_
 refine RC.sr ?_
 refine mv (str p0) rfl rfl ?_
 refine RL.lens (s := p0) trivial rfl rfl un9 ?_
 refine ic ((p0.toL.length : Int)) 200 rfl rfl rfl rfl ?_
 refine as_ (vb (decide ((p0.toL.length : Int) ≤ 200))) rfl rfl ?_
 refine RL.nt ?_
 refine RC.ret ?_
 obtain rfl := oi hb
 exact fin1 rfl rfl ⟨rfl, hw.drop 1 rfl⟩
def etchhouseref2_typeOf_R (E : World) (Γ : List HP) (res : Int) (v : Value) (w : World) : Prop := v = (vi res) ∧ Holds E w Γ
def etchhouseref2_typeOf_K (E : World) (Γ : List HP) (r : Int) (σ : Nat → Value) (w : World) : Prop := finQ Tryd.prog 20 Tryd.f69 (etchhouseref2_typeOf_R E Γ r) .ret σ w
theorem etchhouseref2_typeOf_ok (N : Nat) {E w : World} {Γ : List HP} {i0 : Nat} {v0 : Value} {p0 : (List PartType)} {p1 : Str} {res : Int} (hw : Holds E w Γ) (h0 : Γ[i0]? = some (rd v0 p0)) (hb : etchhouseref2_typeOf N p0 p1 = some res) :
    Calls Tryd.prog 69 [v0, (str p1)].toArray w (Ret (etchhouseref2_typeOf_R E Γ res)) := by
 unfold etchhouseref2_typeOf at hb
 refine enter Tryd.func69 rfl rfl (Nat.le_of_ble_eq_true rfl) ?_
 have hw := hw.dup (i := i0 + 0) h0
 refine RC.sr ?_
 refine as_ (vi 0) rfl rfl ?_
 refine RL.nq ?_
 refine RC.sr ?_
 refine mv v0 rfl rfl ?_
 refine RL.len_rd (i := 0) (l := p0) trivial rfl hw rfl rfl un22 ?_
 refine mv (vi 0) rfl rfl ?_
 refine RL.nt ?_
 obtain ⟨o11, hN, hb⟩ := bd hb
 refine RC.range (fun (k1 : Nat) (s2 : Unit) (σ : Nat → Value) (w : World) => agree σ [(1, (str p1)), (7, v0), (8, (vi (p0.length : Int))), (9, (vi (k1 : Int)))] ∧ Holds E w ([rd v0 p0] ++ Γ)) (fun (s2 : Unit) (σ : Nat → Value) (w : World) => agree σ [] ∧ Holds E w ([rd v0 p0] ++ Γ)) (etchhouseref2_typeOf_K E Γ) hN ?_ ?_ ?_ ?_ ?_ 
 ·exact ⟨⟨rfl, rfl, rfl, rfl, trivial⟩, hw.pick 1 [0] (new := [rd v0 p0]) rfl rfl (by decide) (by decide)⟩
 ·intro hm s2 σ w hI
  obtain ⟨ha, hw⟩ := hI
  obtain ⟨τ, rfl⟩ := ha.ups
  refine RC.sr ?_
  refine ic ((p0.length : Int)) ((p0.length : Int)) rfl rfl rfl rfl ?_
  refine RL.nq ?_
  refine RC.cond_f dge ?_
  refine RC.ex ?_
  exact ⟨rfl, trivial, hw.pick 1 [0] (new := [rd v0 p0]) rfl rfl (by decide) (by decide)⟩
 ·intro hm k1 s2 fl σ w hk hI hb
  obtain ⟨ha, hw⟩ := hI
  obtain ⟨τ, rfl⟩ := ha.ups
  refine RC.sr ?_
  refine ic ((k1 : Int)) ((p0.length : Int)) rfl rfl rfl rfl ?_
  refine RL.nq ?_
  refine RC.cond_t (dlt hk) ?_
  refine RC.ss ?_
  refine RC.bs ?_
  refine mv (vi (k1 : Int)) rfl rfl ?_
  obtain ⟨x7, hx7, hb⟩ := bd hb
  refine RL.ia_rd (i := 0) trivial rfl hw rfl rfl rfl sl22 hx7 fun v8 hw => ?_
  refine RL.load_pt (i := 0) (x := x7) trivial rfl hw rfl rfl ty85 fun v9 hw => ?_
  refine RL.alloc trivial rfl hw ze85.z fun b10 w hw => ?_
  refine as_ (vi (k1 : Int)) rfl rfl ?_
  refine RL.store_raw (i := 0) (j := 1) trivial hw rfl rfl rfl rfl ty85 rfl fun w hw => ?_
  refine RL.ns ?_
  refine RL.fa_b trivial rfl rfl fa85_0 ?_
  refine RL.load_bfs (i := 0) (f := (fun x => x.Name)) trivial rfl hw rfl rfl fd_PartType_0 ty9 ?_
  refine mv (str p1) rfl rfl ?_
  refine RL.scmp (a := x7.Name) (b := p1) trivial rfl rfl rfl rfl ?_
  refine RL.nt ?_
  refine RC.cond (b := (x7.Name.eqb p1)) rfl (fun hc => ?_) (fun hc => ?_)
  rotate_left
  ·replace hb := cF hc hb
   refine RC.skip ?_
   refine blkQ_n ?_
   refine thenQ_n ?_
   refine RC.region ?_
   refine RL.inc trivial rfl hk hm rfl rfl ?_
   refine mv (vi ((k1 + 1 : Nat) : Int)) rfl rfl ?_
   refine RL.nil ?_
   obtain rfl := oi hb
   exact ⟨rfl, ⟨rfl, rfl, rfl, rfl, trivial⟩, hw.pick 4 [3] (new := [rd v0 p0]) rfl rfl (by decide) (by decide)⟩
  replace hb := cT hc hb
  refine RC.sr ?_
  refine mv (vi (k1 : Int)) rfl rfl ?_
  refine as_ (vi (k1 : Int)) rfl rfl ?_
  refine RL.nt ?_
  refine RC.rb ?_
  refine thenQ_r ?_
  obtain rfl := oi hb
  exact ⟨rfl, fin1 rfl rfl ⟨rfl, hw.drop 4 rfl⟩⟩
 ·intro r σ w e hK
  subst e
  refine thenQ_r ?_
  obtain rfl := oi hb
  exact hK
 intro s2 σ w e hJ
 subst e
 rw [Fo.cs_go] at hb
 obtain ⟨ha, hw⟩ := hJ
 obtain ⟨τ, rfl⟩ := ha.ups
 refine thenQ_n ?_
 refine RC.sr ?_
 refine as_ (vi (-1)) rfl rfl ?_
 refine RL.nt ?_
 refine RC.ret ?_
 obtain rfl := oi hb
 exact fin1 rfl rfl ⟨rfl, hw.drop 1 rfl⟩
def etchhouseref2_partOf_R (E : World) (Γ : List HP) (res : Int) (v : Value) (w : World) : Prop := v = (vi res) ∧ Holds E w Γ
def etchhouseref2_partOf_K (E : World) (Γ : List HP) (r : Int) (σ : Nat → Value) (w : World) : Prop := finQ Tryd.prog 20 Tryd.f68 (etchhouseref2_partOf_R E Γ r) .ret σ w
theorem etchhouseref2_partOf_ok (N : Nat) {E w : World} {Γ : List HP} {i0 : Nat} {v0 : Value} {p0 : (List Part)} {p1 : Str} {res : Int} (hw : Holds E w Γ) (h0 : Γ[i0]? = some (rd v0 p0)) (hb : etchhouseref2_partOf N p0 p1 = some res) :
    Calls Tryd.prog 68 [v0, (str p1)].toArray w (Ret (etchhouseref2_partOf_R E Γ res)) := by
 unfold etchhouseref2_partOf at hb
 refine enter Tryd.func68 rfl rfl (Nat.le_of_ble_eq_true rfl) ?_
 have hw := hw.dup (i := i0 + 0) h0
 refine RC.sr ?_
 refine as_ (vi 0) rfl rfl ?_
 refine RL.nq ?_
 refine RC.sr ?_
 refine mv v0 rfl rfl ?_
 refine RL.len_rd (i := 0) (l := p0) trivial rfl hw rfl rfl un23 ?_
 refine mv (vi 0) rfl rfl ?_
 refine RL.nt ?_
 obtain ⟨o11, hN, hb⟩ := bd hb
 refine RC.range (fun (k1 : Nat) (s2 : Unit) (σ : Nat → Value) (w : World) => agree σ [(1, (str p1)), (7, v0), (8, (vi (p0.length : Int))), (9, (vi (k1 : Int)))] ∧ Holds E w ([rd v0 p0] ++ Γ)) (fun (s2 : Unit) (σ : Nat → Value) (w : World) => agree σ [] ∧ Holds E w ([rd v0 p0] ++ Γ)) (etchhouseref2_partOf_K E Γ) hN ?_ ?_ ?_ ?_ ?_ 
 ·exact ⟨⟨rfl, rfl, rfl, rfl, trivial⟩, hw.pick 1 [0] (new := [rd v0 p0]) rfl rfl (by decide) (by decide)⟩
 ·intro hm s2 σ w hI
  obtain ⟨ha, hw⟩ := hI
  obtain ⟨τ, rfl⟩ := ha.ups
  refine RC.sr ?_
  refine ic ((p0.length : Int)) ((p0.length : Int)) rfl rfl rfl rfl ?_
  refine RL.nq ?_
  refine RC.cond_f dge ?_
  refine RC.ex ?_
  exact ⟨rfl, trivial, hw.pick 1 [0] (new := [rd v0 p0]) rfl rfl (by decide) (by decide)⟩
 ·intro hm k1 s2 fl σ w hk hI hb
  obtain ⟨ha, hw⟩ := hI
  obtain ⟨τ, rfl⟩ := ha.ups
  refine RC.sr ?_
  refine ic ((k1 : Int)) ((p0.length : Int)) rfl rfl rfl rfl ?_
  refine RL.nq ?_
  refine RC.cond_t (dlt hk) ?_
  refine RC.ss ?_
  refine RC.bs ?_
  refine mv (vi (k1 : Int)) rfl rfl ?_
  obtain ⟨x7, hx7, hb⟩ := bd hb
  refine RL.ia_rd (i := 0) trivial rfl hw rfl rfl rfl sl23 hx7 fun v8 hw => ?_
  refine RL.load_pt (i := 0) (x := x7) trivial rfl hw rfl rfl ty87 fun v9 hw => ?_
  refine RL.alloc trivial rfl hw ze87.z fun b10 w hw => ?_
  refine as_ (vi (k1 : Int)) rfl rfl ?_
  refine RL.store_raw (i := 0) (j := 1) trivial hw rfl rfl rfl rfl ty87 rfl fun w hw => ?_
  refine RL.ns ?_
  refine RL.fa_b trivial rfl rfl fa87_0 ?_
  refine RL.load_bfs (i := 0) (f := (fun x => x.Name)) trivial rfl hw rfl rfl fd_Part_0 ty9 ?_
  refine mv (str p1) rfl rfl ?_
  refine RL.scmp (a := x7.Name) (b := p1) trivial rfl rfl rfl rfl ?_
  refine RL.nt ?_
  refine RC.cond (b := (x7.Name.eqb p1)) rfl (fun hc => ?_) (fun hc => ?_)
  rotate_left
  ·replace hb := cF hc hb
   refine RC.skip ?_
   refine blkQ_n ?_
   refine thenQ_n ?_
   refine RC.region ?_
   refine RL.inc trivial rfl hk hm rfl rfl ?_
   refine mv (vi ((k1 + 1 : Nat) : Int)) rfl rfl ?_
   refine RL.nil ?_
   obtain rfl := oi hb
   exact ⟨rfl, ⟨rfl, rfl, rfl, rfl, trivial⟩, hw.pick 4 [3] (new := [rd v0 p0]) rfl rfl (by decide) (by decide)⟩
  replace hb := cT hc hb
  refine RC.sr ?_
  refine mv (vi (k1 : Int)) rfl rfl ?_
  refine as_ (vi (k1 : Int)) rfl rfl ?_
  refine RL.nt ?_
  refine RC.rb ?_
  refine thenQ_r ?_
  obtain rfl := oi hb
  exact ⟨rfl, fin1 rfl rfl ⟨rfl, hw.drop 4 rfl⟩⟩
 ·intro r σ w e hK
  subst e
  refine thenQ_r ?_
  obtain rfl := oi hb
  exact hK
 intro s2 σ w e hJ
 subst e
 rw [Fo.cs_go] at hb
 obtain ⟨ha, hw⟩ := hJ
 obtain ⟨τ, rfl⟩ := ha.ups
 refine thenQ_n ?_
 refine RC.sr ?_
 refine as_ (vi (-1)) rfl rfl ?_
 refine RL.nt ?_
 refine RC.ret ?_
 obtain rfl := oi hb
 exact fin1 rfl rfl ⟨rfl, hw.drop 1 rfl⟩
def etchhouseref2_pinOf_R (E : World) (Γ : List HP) (res : Int) (v : Value) (w : World) : Prop := v = (vi res) ∧ Holds E w Γ
def etchhouseref2_pinOf_K (E : World) (Γ : List HP) (r : Int) (σ : Nat → Value) (w : World) : Prop := finQ Tryd.prog 21 Tryd.f94 (etchhouseref2_pinOf_R E Γ r) .ret σ w
theorem etchhouseref2_pinOf_ok (N : Nat) {E w : World} {Γ : List HP} {i0 : Nat} {v0 : Value} {p0 : PartType} {p1 : Str} {res : Int} (hw : Holds E w Γ) (h0 : Γ[i0]? = some (rd v0 p0)) (hb : etchhouseref2_pinOf N p0 p1 = some res) :
    Calls Tryd.prog 94 [v0, (str p1)].toArray w (Ret (etchhouseref2_pinOf_R E Γ res)) := by
 unfold etchhouseref2_pinOf at hb
 refine enter Tryd.func94 rfl rfl (Nat.le_of_ble_eq_true rfl) ?_
 have hw := hw.dup (i := i0 + 0) h0
 refine RC.sr ?_
 refine RL.box_rd (i := 0) (v := v0) trivial rfl hw rfl rfl fun b1 w hw => ?_
 refine as_ (vi 0) rfl rfl ?_
 refine RL.nq ?_
 refine RC.sr ?_
 refine RL.fa_b trivial rfl rfl fa85_1 ?_
 refine RL.load_bf (i := 0) (f := (fun x => x.Pins)) trivial rfl hw rfl rfl fd_PartType_1 ty83 fun v2 hw => ?_
 refine RL.len_rd (i := 0) (l := p0.Pins) trivial rfl hw rfl rfl un83 ?_
 refine mv (vi 0) rfl rfl ?_
 refine RL.nt ?_
 obtain ⟨o13, hN, hb⟩ := bd hb
 refine RC.range (fun (k3 : Nat) (s4 : Unit) (σ : Nat → Value) (w : World) => agree σ [(1, (str p1)), (8, v2), (9, (vi (p0.Pins.length : Int))), (10, (vi (k3 : Int)))] ∧ Holds E w ([rd v2 p0.Pins] ++ Γ)) (fun (s4 : Unit) (σ : Nat → Value) (w : World) => agree σ [] ∧ Holds E w ([rd v2 p0.Pins] ++ Γ)) (etchhouseref2_pinOf_K E Γ) hN ?_ ?_ ?_ ?_ ?_ 
 ·exact ⟨⟨rfl, rfl, rfl, rfl, trivial⟩, hw.pick 3 [0] (new := [rd v2 p0.Pins]) rfl rfl (by decide) (by decide)⟩
 ·intro hm s4 σ w hI
  obtain ⟨ha, hw⟩ := hI
  obtain ⟨τ, rfl⟩ := ha.ups
  refine RC.sr ?_
  refine ic ((p0.Pins.length : Int)) ((p0.Pins.length : Int)) rfl rfl rfl rfl ?_
  refine RL.nq ?_
  refine RC.cond_f dge ?_
  refine RC.ex ?_
  exact ⟨rfl, trivial, hw.pick 1 [0] (new := [rd v2 p0.Pins]) rfl rfl (by decide) (by decide)⟩
 ·intro hm k3 s4 fl σ w hk hI hb
  obtain ⟨ha, hw⟩ := hI
  obtain ⟨τ, rfl⟩ := ha.ups
  refine RC.sr ?_
  refine ic ((k3 : Int)) ((p0.Pins.length : Int)) rfl rfl rfl rfl ?_
  refine RL.nq ?_
  refine RC.cond_t (dlt hk) ?_
  refine RC.ss ?_
  refine RC.bs ?_
  refine mv (vi (k3 : Int)) rfl rfl ?_
  obtain ⟨x9, hx9, hb⟩ := bd hb
  refine RL.ia_rd (i := 0) trivial rfl hw rfl rfl rfl sl83 hx9 fun v10 hw => ?_
  refine RL.load_pt (i := 0) (x := x9) trivial rfl hw rfl rfl ty82 fun v11 hw => ?_
  refine RL.alloc trivial rfl hw ze82.z fun b12 w hw => ?_
  refine as_ (vi (k3 : Int)) rfl rfl ?_
  refine RL.store_raw (i := 0) (j := 1) trivial hw rfl rfl rfl rfl ty82 rfl fun w hw => ?_
  refine RL.ns ?_
  refine RL.fa_b trivial rfl rfl fa82_0 ?_
  refine RL.load_bfs (i := 0) (f := (fun x => x.Name)) trivial rfl hw rfl rfl fd_PinType_0 ty9 ?_
  refine mv (str p1) rfl rfl ?_
  refine RL.scmp (a := x9.Name) (b := p1) trivial rfl rfl rfl rfl ?_
  refine RL.nt ?_
  refine RC.cond (b := (x9.Name.eqb p1)) rfl (fun hc => ?_) (fun hc => ?_)
  rotate_left
  ·replace hb := cF hc hb
   refine RC.skip ?_
   refine blkQ_n ?_
   refine thenQ_n ?_
   refine RC.region ?_
   refine RL.inc trivial rfl hk hm rfl rfl ?_
   refine mv (vi ((k3 + 1 : Nat) : Int)) rfl rfl ?_
   refine RL.nil ?_
   obtain rfl := oi hb
   exact ⟨rfl, ⟨rfl, rfl, rfl, rfl, trivial⟩, hw.pick 4 [3] (new := [rd v2 p0.Pins]) rfl rfl (by decide) (by decide)⟩
  replace hb := cT hc hb
  refine RC.sr ?_
  refine mv (vi (k3 : Int)) rfl rfl ?_
  refine as_ (vi (k3 : Int)) rfl rfl ?_
  refine RL.nt ?_
  refine RC.rb ?_
  refine thenQ_r ?_
  obtain rfl := oi hb
  exact ⟨rfl, fin1 rfl rfl ⟨rfl, hw.drop 4 rfl⟩⟩
 ·intro r σ w e hK
  subst e
  refine thenQ_r ?_
  obtain rfl := oi hb
  exact hK
 intro s4 σ w e hJ
 subst e
 rw [Fo.cs_go] at hb
 obtain ⟨ha, hw⟩ := hJ
 obtain ⟨τ, rfl⟩ := ha.ups
 refine thenQ_n ?_
 refine RC.sr ?_
 refine as_ (vi (-1)) rfl rfl ?_
 refine RL.nt ?_
 refine RC.ret ?_
 obtain rfl := oi hb
 exact fin1 rfl rfl ⟨rfl, hw.drop 1 rfl⟩
def etchhouseref2_HasPin_R (E : World) (Γ : List HP) (res : Bool) (v : Value) (w : World) : Prop := v = (vb res) ∧ Holds E w Γ
def etchhouseref2_HasPin_K (E : World) (Γ : List HP) (r : Bool) (σ : Nat → Value) (w : World) : Prop := finQ Tryd.prog 32 Tryd.f38 (etchhouseref2_HasPin_R E Γ r) .ret σ w
theorem etchhouseref2_HasPin_ok (N : Nat) {E w : World} {Γ : List HP} {i0 : Nat} {v0 : Value} {p0 : (List PartType)} {i1 : Nat} {v1 : Value} {p1 : Netlist} {i2 : Nat} {v2 : Value} {p2 : Pin} {res : Bool} (hw : Holds E w Γ) (h0 : Γ[i0]? = some (rd v0 p0)) (h1 : Γ[i1]? = some (rd v1 p1)) (h2 : Γ[i2]? = some (rd v2 p2)) (hb : etchhouseref2_HasPin N p0 p1 p2 = some res) :
    Calls Tryd.prog 38 [v0, v1, v2].toArray w (Ret (etchhouseref2_HasPin_R E Γ res)) := by
 unfold etchhouseref2_HasPin at hb
 refine enter Tryd.func38 rfl rfl (Nat.le_of_ble_eq_true rfl) ?_
 have hw := hw.dup (i := i0 + 0) h0
 have hw := hw.dup (i := i1 + 1) h1
 have hw := hw.dup (i := i2 + 2) h2
 refine RC.sr ?_
 refine RL.box_rd (i := 1) (v := v1) trivial rfl hw rfl rfl fun b1 w hw => ?_
 refine RL.box_rd (i := 1) (v := v2) trivial rfl hw rfl rfl fun b2 w hw => ?_
 refine as_ (vb false) rfl rfl ?_
 refine RL.ns ?_
 refine RL.fa_b trivial rfl rfl fa26_0 ?_
 refine RL.load_bf (i := 1) (f := (fun x => x.Parts)) trivial rfl hw rfl rfl fd_Netlist_0 ty23 fun v3 hw => ?_
 refine RL.fa_b trivial rfl rfl fa28_0 ?_
 refine RL.load_bfs (i := 1) (f := (fun x => x.Part)) trivial rfl hw rfl rfl fd_Pin_0 ty9 ?_
 obtain ⟨x4, hx4, hb⟩ := bd hb
 refine RL.call trivial rfl fn68 [v3, (str p2.Part)] rfl (Calls_ret (etchhouseref2_partOf_ok N (p1 := p2.Part) (i0 := 0) hw rfl hx4) ?_)
 rintro _ w ⟨rfl, hw⟩
 refine as_ (vi x4) rfl rfl ?_
 refine RL.nq ?_
 obtain ⟨s20, hj, hb⟩ := bd hb
 refine RC.jn (fun (s20 : Bool) (σ : Nat → Value) (w : World) => agree σ [(6, (vb s20))] ∧ Holds E w ([] ++ Γ)) s20 ?_ ?_
 ·rcases Bool.eq_false_or_eq_true (decide (x4 ≥ 0)) with hg21 | hg21
  rotate_left
  ·replace hj := cF hg21 hj
   refine RC.drw mixed rfl (fun (D : Nat → Bool) (σ : Nat → Value) (w : World) => doneV D σ [(0, 13, (vi x4)), (1, 14, (vb (decide (x4 ≥ 0)))), (2, 15, (vb (decide (x4 ≥ 0)))), (3, 16, undef), (4, 17, undef), (5, 18, undef), (6, 19, undef), (7, 20, undef), (8, 21, undef), (9, 22, undef), (10, 23, undef), (11, 24, undef), (12, 25, undef), (13, 26, undef), (14, 27, undef), (15, 28, undef), (16, 29, undef), (17, 30, undef), (18, 31, (vb false)), (19, 6, (vb false))] ∧ agree σ [(0, v0), (4, (vp b1 0)), (5, (vp b2 0)), (7, (vi x4))] ∧ Holds E w ([rd v3 p1.Parts, bx 28 b2 p2, bx 26 b1 p1, rd v2 p2, rd v1 p1, rd v0 p0] ++ Γ)) ?_ ⟨?_, ?_, ?_, ?_, ?_, ?_, ?_, ?_, ?_, ?_, ?_, ?_, ?_, ?_, ?_, ?_, ?_, ?_, ?_, ?_, trivial⟩ ?_
   ·have hw := hw.drew
    exact ⟨doneV.none, ⟨rfl, rfl, rfl, rfl, trivial⟩, hw⟩
   ·rintro D σ w hD hdep hcl ⟨hv, ha, hw⟩
    obtain ⟨τ, rfl⟩ := (ac (ha.at 3 rfl) az).ups
    refine mv (vi x4) rfl rfl ?_
    refine RL.nil ?_
    exact ⟨rfl, hv.put 0 rfl rfl, ha.up rfl, hw⟩
   ·rintro D σ w hD hdep hcl ⟨hv, ha, hw⟩
    obtain ⟨τ, rfl⟩ := (ac (hv.at 0 rfl (hdep.1 rfl)) az).ups
    refine ic x4 0 rfl rfl rfl rfl ?_
    refine RL.nil ?_
    exact ⟨rfl, hv.put 1 rfl rfl, ha.up rfl, hw⟩
   ·rintro D σ w hD hdep hcl ⟨hv, ha, hw⟩
    obtain ⟨τ, rfl⟩ := (ac (hv.at 1 rfl (hdep.1 rfl)) az).ups
    refine mv (vb (decide (x4 ≥ 0))) rfl rfl ?_
    refine RL.nil ?_
    exact ⟨rfl, hv.put 2 rfl rfl, ha.up rfl, hw⟩
   ·rintro D σ w hD hdep hcl ⟨hv, ha, hw⟩
    obtain ⟨τ, rfl⟩ := (ac (hv.at 2 rfl (hdep.1 rfl)) (ac (ha.at 0 rfl) az)).ups
    refine sk rfl (.inl (cb hg21)) rfl ?_
    refine RL.nil ?_
    exact ⟨rfl, hv.put 3 rfl rfl, ha.up rfl, hw⟩
   ·rintro D σ w hD hdep hcl ⟨hv, ha, hw⟩
    obtain ⟨τ, rfl⟩ := (ac (hv.at 2 rfl (hdep.1 rfl)) (ac (ha.at 0 rfl) az)).ups
    refine sk rfl (.inl (cb hg21)) rfl ?_
    refine RL.nil ?_
    exact ⟨rfl, hv.put 4 rfl rfl, ha.up rfl, hw⟩
   ·rintro D σ w hD hdep hcl ⟨hv, ha, hw⟩
    obtain ⟨τ, rfl⟩ := (ac (hv.at 2 rfl (hdep.1 rfl)) (ac (ha.at 1 rfl) az)).ups
    refine sk rfl (.inl (cb hg21)) rfl ?_
    refine RL.nil ?_
    exact ⟨rfl, hv.put 5 rfl rfl, ha.up rfl, hw⟩
   ·rintro D σ w hD hdep hcl ⟨hv, ha, hw⟩
    obtain ⟨τ, rfl⟩ := (ac (hv.at 2 rfl (hdep.2.1 rfl)) (ac (hv.at 5 rfl (hdep.1 rfl)) az)).ups
    refine sk rfl (.inl (cb hg21)) rfl ?_
    refine RL.nil ?_
    exact ⟨rfl, hv.put 6 rfl rfl, ha.up rfl, hw⟩
   ·rintro D σ w hD hdep hcl ⟨hv, ha, hw⟩
    obtain ⟨τ, rfl⟩ := (ac (hv.at 2 rfl (hdep.1 rfl)) (ac (ha.at 3 rfl) az)).ups
    refine sk rfl (.inl (cb hg21)) rfl ?_
    refine RL.nil ?_
    exact ⟨rfl, hv.put 7 rfl rfl, ha.up rfl, hw⟩
   ·rintro D σ w hD hdep hcl ⟨hv, ha, hw⟩
    obtain ⟨τ, rfl⟩ := (ac (hv.at 2 rfl (hdep.2.2.1 rfl)) (ac (hv.at 6 rfl (hdep.1 rfl)) (ac (hv.at 7 rfl (hdep.2.1 rfl)) az))).ups
    refine sk rfl (.inl (cb hg21)) rfl ?_
    refine RL.nil ?_
    exact ⟨rfl, hv.put 8 rfl rfl, ha.up rfl, hw⟩
   ·rintro D σ w hD hdep hcl ⟨hv, ha, hw⟩
    obtain ⟨τ, rfl⟩ := (ac (hv.at 2 rfl (hdep.2.1 rfl)) (ac (hv.at 8 rfl (hdep.1 rfl)) az)).ups
    refine sk rfl (.inl (cb hg21)) rfl ?_
    refine RL.nil ?_
    exact ⟨rfl, hv.put 9 rfl rfl, ha.up rfl, hw⟩
   ·rintro D σ w hD hdep hcl ⟨hv, ha, hw⟩
    obtain ⟨τ, rfl⟩ := (ac (hv.at 2 rfl (hdep.2.1 rfl)) (ac (hv.at 9 rfl (hdep.1 rfl)) az)).ups
    refine sk rfl (.inl (cb hg21)) rfl ?_
    refine RL.nil ?_
    exact ⟨rfl, hv.put 10 rfl rfl, ha.up rfl, hw⟩
   ·rintro D σ w hD hdep hcl ⟨hv, ha, hw⟩
    obtain ⟨τ, rfl⟩ := (ac (hv.at 2 rfl (hdep.2.2.1 rfl)) (ac (hv.at 4 rfl (hdep.1 rfl)) (ac (hv.at 10 rfl (hdep.2.1 rfl)) az))).ups
    refine sk rfl (.inl (cb hg21)) rfl ?_
    refine RL.nil ?_
    exact ⟨rfl, hv.put 11 rfl rfl, ha.up rfl, hw⟩
   ·rintro D σ w hD hdep hcl ⟨hv, ha, hw⟩
    obtain ⟨τ, rfl⟩ := (ac (hv.at 2 rfl (hdep.2.2.1 rfl)) (ac (hv.at 3 rfl (hdep.1 rfl)) (ac (hv.at 11 rfl (hdep.2.1 rfl)) az))).ups
    refine sk rfl (.inl (cb hg21)) rfl ?_
    refine RL.nil ?_
    exact ⟨rfl, hv.put 12 rfl rfl, ha.up rfl, hw⟩
   ·rintro D σ w hD hdep hcl ⟨hv, ha, hw⟩
    obtain ⟨τ, rfl⟩ := (ac (hv.at 2 rfl (hdep.2.1 rfl)) (ac (hv.at 12 rfl (hdep.1 rfl)) az)).ups
    refine sk rfl (.inl (cb hg21)) rfl ?_
    refine RL.nil ?_
    exact ⟨rfl, hv.put 13 rfl rfl, ha.up rfl, hw⟩
   ·rintro D σ w hD hdep hcl ⟨hv, ha, hw⟩
    obtain ⟨τ, rfl⟩ := (ac (hv.at 2 rfl (hdep.1 rfl)) (ac (ha.at 2 rfl) az)).ups
    refine sk rfl (.inl (cb hg21)) rfl ?_
    refine RL.nil ?_
    exact ⟨rfl, hv.put 14 rfl rfl, ha.up rfl, hw⟩
   ·rintro D σ w hD hdep hcl ⟨hv, ha, hw⟩
    obtain ⟨τ, rfl⟩ := (ac (hv.at 2 rfl (hdep.2.1 rfl)) (ac (hv.at 14 rfl (hdep.1 rfl)) az)).ups
    refine sk rfl (.inl (cb hg21)) rfl ?_
    refine RL.nil ?_
    exact ⟨rfl, hv.put 15 rfl rfl, ha.up rfl, hw⟩
   ·rintro D σ w hD hdep hcl ⟨hv, ha, hw⟩
    obtain ⟨τ, rfl⟩ := (ac (hv.at 2 rfl (hdep.2.2.2.1 rfl)) (ac (hv.at 13 rfl (hdep.1 rfl)) (ac (hv.at 15 rfl (hdep.2.1 rfl)) az))).ups
    refine sk rfl (.inl (cb hg21)) rfl ?_
    refine RL.nil ?_
    exact ⟨rfl, hv.put 16 rfl rfl, ha.up rfl, hw⟩
   ·rintro D σ w hD hdep hcl ⟨hv, ha, hw⟩
    obtain ⟨τ, rfl⟩ := (ac (hv.at 2 rfl (hdep.2.1 rfl)) (ac (hv.at 16 rfl (hdep.1 rfl)) az)).ups
    refine sk rfl (.inl (cb hg21)) rfl ?_
    refine RL.nil ?_
    exact ⟨rfl, hv.put 17 rfl rfl, ha.up rfl, hw⟩
   ·rintro D σ w hD hdep hcl ⟨hv, ha, hw⟩
    obtain ⟨τ, rfl⟩ := (ac (hv.at 2 rfl (hdep.1 rfl)) (ac (hv.at 17 rfl (hdep.2.1 rfl)) az)).ups
    refine RL.pick (b := (decide (x4 ≥ 0))) (v := (vb false)) trivial rfl rfl (by rw [hg21]; rfl) ?_
    refine RL.nil ?_
    exact ⟨rfl, hv.put 18 rfl rfl, ha.up rfl, hw⟩
   ·rintro D σ w hD hdep hcl ⟨hv, ha, hw⟩
    obtain ⟨τ, rfl⟩ := (ac (hv.at 18 rfl (hdep.1 rfl)) az).ups
    refine as_ (vb false) rfl rfl ?_
    refine RL.nil ?_
    exact ⟨rfl, hv.put 19 rfl rfl, ha.up rfl, hw⟩
   rintro D σ w hall ⟨hv, ha, hw⟩
   obtain ⟨τ, rfl⟩ := (ac (hv.at 19 rfl (hall 19 (by decide))) (ac (ha.at 0 rfl) (ac (ha.at 1 rfl) (ac (ha.at 2 rfl) (ac (ha.at 3 rfl) az))))).ups
   obtain rfl := oi hj
   exact ⟨rfl, ⟨rfl, trivial⟩, hw.pick 6 [] (new := []) rfl rfl (by decide) (by decide)⟩
  replace hj := cT hg21 hj
  obtain ⟨x23, hx23, hj⟩ := bd hj
  obtain ⟨x26, hx26, hj⟩ := bd hj
  obtain ⟨x27, hx27, hj⟩ := bd hj
  obtain ⟨x30, hx30, hj⟩ := bd hj
  refine RC.drw mixed rfl (fun (D : Nat → Bool) (σ : Nat → Value) (w : World) => ∃ (v22 : Value) (v24 : Value) (v25 : Value) (v28 : Value) (v29 : Value), doneV D σ [(0, 13, (vi x4)), (1, 14, (vb (decide (x4 ≥ 0)))), (2, 15, (vb (decide (x4 ≥ 0)))), (3, 16, v0), (4, 17, v0), (5, 18, (vp b1 0)), (6, 19, v22), (7, 20, (vi x4)), (8, 21, v24), (9, 22, v25), (10, 23, (str x23.Type_)), (11, 24, (vi x26)), (12, 25, v28), (13, 26, v29), (14, 27, (vp b2 1)), (15, 28, (str p2.Pin)), (16, 29, (vi x30)), (17, 30, (vb (decide (x30 ≥ 0)))), (18, 31, (vb (decide (x30 ≥ 0)))), (19, 6, (vb (decide (x30 ≥ 0))))] ∧ agree σ [(0, v0), (4, (vp b1 0)), (5, (vp b2 0)), (7, (vi x4))] ∧ Holds E w ([bif D 6 then (rd v22 p1.Parts) else junk, bif D 8 then (pt v24 x23) else junk, bif D 9 then (pt v25 x23.Type_) else junk, bif D 12 then (pt v28 x27) else junk, bif D 13 then (rd v29 x27) else junk, rd v3 p1.Parts, bx 28 b2 p2, bx 26 b1 p1, rd v2 p2, rd v1 p1, rd v0 p0] ++ Γ)) ?_ ⟨?_, ?_, ?_, ?_, ?_, ?_, ?_, ?_, ?_, ?_, ?_, ?_, ?_, ?_, ?_, ?_, ?_, ?_, ?_, ?_, trivial⟩ ?_
  ·have hw := hw.drew
   have hw := hw.junk
   have hw := hw.junk
   have hw := hw.junk
   have hw := hw.junk
   have hw := hw.junk
   exact ⟨undef, undef, undef, undef, undef, doneV.none, ⟨rfl, rfl, rfl, rfl, trivial⟩, hw⟩
  ·rintro D σ w hD hdep hcl ⟨v22, v24, v25, v28, v29, hv, ha, hw⟩
   obtain ⟨τ, rfl⟩ := (ac (ha.at 3 rfl) az).ups
   refine mv (vi x4) rfl rfl ?_
   refine RL.nil ?_
   exact ⟨rfl, v22, v24, v25, v28, v29, hv.put 0 rfl rfl, ha.up rfl, hw⟩
  ·rintro D σ w hD hdep hcl ⟨v22, v24, v25, v28, v29, hv, ha, hw⟩
   obtain ⟨τ, rfl⟩ := (ac (hv.at 0 rfl (hdep.1 rfl)) az).ups
   refine ic x4 0 rfl rfl rfl rfl ?_
   refine RL.nil ?_
   exact ⟨rfl, v22, v24, v25, v28, v29, hv.put 1 rfl rfl, ha.up rfl, hw⟩
  ·rintro D σ w hD hdep hcl ⟨v22, v24, v25, v28, v29, hv, ha, hw⟩
   obtain ⟨τ, rfl⟩ := (ac (hv.at 1 rfl (hdep.1 rfl)) az).ups
   refine mv (vb (decide (x4 ≥ 0))) rfl rfl ?_
   refine RL.nil ?_
   exact ⟨rfl, v22, v24, v25, v28, v29, hv.put 2 rfl rfl, ha.up rfl, hw⟩
  ·rintro D σ w hD hdep hcl ⟨v22, v24, v25, v28, v29, hv, ha, hw⟩
   obtain ⟨τ, rfl⟩ := (ac (hv.at 2 rfl (hdep.1 rfl)) (ac (ha.at 0 rfl) az)).ups
   refine RL.move (v := v0) ⟨_, rfl, cb hg21⟩ rfl rfl ?_
   refine RL.nil ?_
   exact ⟨rfl, v22, v24, v25, v28, v29, hv.put 3 rfl rfl, ha.up rfl, hw⟩
  ·rintro D σ w hD hdep hcl ⟨v22, v24, v25, v28, v29, hv, ha, hw⟩
   obtain ⟨τ, rfl⟩ := (ac (hv.at 2 rfl (hdep.1 rfl)) (ac (ha.at 0 rfl) az)).ups
   refine RL.move (v := v0) ⟨_, rfl, cb hg21⟩ rfl rfl ?_
   refine RL.nil ?_
   exact ⟨rfl, v22, v24, v25, v28, v29, hv.put 4 rfl rfl, ha.up rfl, hw⟩
  ·rintro D σ w hD hdep hcl ⟨v22, v24, v25, v28, v29, hv, ha, hw⟩
   obtain ⟨τ, rfl⟩ := (ac (hv.at 2 rfl (hdep.1 rfl)) (ac (ha.at 1 rfl) az)).ups
   refine RL.fa_b ⟨_, rfl, cb hg21⟩ rfl rfl fa26_0 ?_
   refine RL.nil ?_
   exact ⟨rfl, v22, v24, v25, v28, v29, hv.put 5 rfl rfl, ha.up rfl, hw⟩
  ·rintro D σ w hD hdep hcl ⟨v22, v24, v25, v28, v29, hv, ha, hw⟩
   obtain ⟨τ, rfl⟩ := (ac (hv.at 2 rfl (hdep.2.1 rfl)) (ac (hv.at 5 rfl (hdep.1 rfl)) az)).ups
   have hw := hw.selF (i := 0) rfl hD
   refine RL.load_bf (i := 7) (f := (fun x => x.Parts)) ⟨_, rfl, cb hg21⟩ rfl hw rfl rfl fd_Netlist_0 ty23 fun v31 hw => ?_
   have hw := hw.pick 12 [0, 2, 3, 4, 5, 6, 7, 8, 9, 10, 11] (new := [rd v31 p1.Parts, bif D 8 then (pt v24 x23) else junk, bif D 9 then (pt v25 x23.Type_) else junk, bif D 12 then (pt v28 x27) else junk, bif D 13 then (rd v29 x27) else junk, rd v3 p1.Parts, bx 28 b2 p2, bx 26 b1 p1, rd v2 p2, rd v1 p1, rd v0 p0]) rfl rfl (by decide) (by decide)
   have hw := hw.altT (i := 0) (b := true) rfl rfl (junk)
   refine RL.nil ?_
   exact ⟨rfl, v31, v24, v25, v28, v29, hv.put 6 rfl rfl, ha.up rfl, hw⟩
  ·rintro D σ w hD hdep hcl ⟨v22, v24, v25, v28, v29, hv, ha, hw⟩
   obtain ⟨τ, rfl⟩ := (ac (hv.at 2 rfl (hdep.1 rfl)) (ac (ha.at 3 rfl) az)).ups
   refine RL.move (v := (vi x4)) ⟨_, rfl, cb hg21⟩ rfl rfl ?_
   refine RL.nil ?_
   exact ⟨rfl, v22, v24, v25, v28, v29, hv.put 7 rfl rfl, ha.up rfl, hw⟩
  ·rintro D σ w hD hdep hcl ⟨v22, v24, v25, v28, v29, hv, ha, hw⟩
   obtain ⟨τ, rfl⟩ := (ac (hv.at 2 rfl (hdep.2.2.1 rfl)) (ac (hv.at 6 rfl (hdep.1 rfl)) (ac (hv.at 7 rfl (hdep.2.1 rfl)) az))).ups
   have hw := hw.selT (i := 0) rfl (hdep.1 rfl)
   have hw := hw.selF (i := 1) rfl hD
   refine RL.ia_rd (i := 0) ⟨_, rfl, cb hg21⟩ rfl hw rfl rfl rfl sl23 hx23 fun v32 hw => ?_
   have hw := hw.pick 12 [1, 0, 3, 4, 5, 6, 7, 8, 9, 10, 11] (new := [rd v22 p1.Parts, pt v32 x23, bif D 9 then (pt v25 x23.Type_) else junk, bif D 12 then (pt v28 x27) else junk, bif D 13 then (rd v29 x27) else junk, rd v3 p1.Parts, bx 28 b2 p2, bx 26 b1 p1, rd v2 p2, rd v1 p1, rd v0 p0]) rfl rfl (by decide) (by decide)
   have hw := hw.altT (i := 0) (b := D 6) rfl (hdep.1 rfl) (junk)
   have hw := hw.altT (i := 1) (b := true) rfl rfl (junk)
   refine RL.nil ?_
   exact ⟨rfl, v22, v32, v25, v28, v29, hv.put 8 rfl rfl, ha.up rfl, hw⟩
  ·rintro D σ w hD hdep hcl ⟨v22, v24, v25, v28, v29, hv, ha, hw⟩
   obtain ⟨τ, rfl⟩ := (ac (hv.at 2 rfl (hdep.2.1 rfl)) (ac (hv.at 8 rfl (hdep.1 rfl)) az)).ups
   have hw := hw.selT (i := 1) rfl (hdep.1 rfl)
   have hw := hw.selF (i := 2) rfl hD
   refine RL.fa_pt (i := 1) (f := fun (x : Part) => x.Type_) ⟨_, rfl, cb hg21⟩ rfl hw rfl rfl fa87_1 fd_Part_1 fun v33 hw => ?_
   have hw := hw.pick 12 [1, 2, 0, 4, 5, 6, 7, 8, 9, 10, 11] (new := [bif D 6 then (rd v22 p1.Parts) else junk, pt v24 x23, pt v33 x23.Type_, bif D 12 then (pt v28 x27) else junk, bif D 13 then (rd v29 x27) else junk, rd v3 p1.Parts, bx 28 b2 p2, bx 26 b1 p1, rd v2 p2, rd v1 p1, rd v0 p0]) rfl rfl (by decide) (by decide)
   have hw := hw.altT (i := 1) (b := D 8) rfl (hdep.1 rfl) (junk)
   have hw := hw.altT (i := 2) (b := true) rfl rfl (junk)
   refine RL.nil ?_
   exact ⟨rfl, v22, v24, v33, v28, v29, hv.put 9 rfl rfl, ha.up rfl, hw⟩
  ·rintro D σ w hD hdep hcl ⟨v22, v24, v25, v28, v29, hv, ha, hw⟩
   obtain ⟨τ, rfl⟩ := (ac (hv.at 2 rfl (hdep.2.1 rfl)) (ac (hv.at 9 rfl (hdep.1 rfl)) az)).ups
   have hw := hw.selT (i := 2) rfl (hdep.1 rfl)
   refine RL.load_pts (i := 2) (y := x23.Type_) ⟨_, rfl, cb hg21⟩ rfl hw rfl rfl ty9 ?_
   have hw := hw.altT (i := 2) (b := D 9) rfl (hdep.1 rfl) (junk)
   refine RL.nil ?_
   exact ⟨rfl, v22, v24, v25, v28, v29, hv.put 10 rfl rfl, ha.up rfl, hw⟩
  ·rintro D σ w hD hdep hcl ⟨v22, v24, v25, v28, v29, hv, ha, hw⟩
   obtain ⟨τ, rfl⟩ := (ac (hv.at 2 rfl (hdep.2.2.1 rfl)) (ac (hv.at 4 rfl (hdep.1 rfl)) (ac (hv.at 10 rfl (hdep.2.1 rfl)) az))).ups
   refine RL.call ⟨_, rfl, cb hg21⟩ rfl fn69 [v0, (str x23.Type_)] rfl (Calls_ret (etchhouseref2_typeOf_ok N (p1 := x23.Type_) (i0 := 10) hw rfl hx26) ?_)
   rintro _ w ⟨rfl, hw⟩
   refine RL.nil ?_
   exact ⟨rfl, v22, v24, v25, v28, v29, hv.put 11 rfl rfl, ha.up rfl, hw⟩
  ·rintro D σ w hD hdep hcl ⟨v22, v24, v25, v28, v29, hv, ha, hw⟩
   obtain ⟨τ, rfl⟩ := (ac (hv.at 2 rfl (hdep.2.2.1 rfl)) (ac (hv.at 3 rfl (hdep.1 rfl)) (ac (hv.at 11 rfl (hdep.2.1 rfl)) az))).ups
   have hw := hw.selF (i := 3) rfl hD
   refine RL.ia_rd (i := 10) ⟨_, rfl, cb hg21⟩ rfl hw rfl rfl rfl sl22 hx27 fun v34 hw => ?_
   have hw := hw.pick 12 [1, 2, 3, 0, 5, 6, 7, 8, 9, 10, 11] (new := [bif D 6 then (rd v22 p1.Parts) else junk, bif D 8 then (pt v24 x23) else junk, bif D 9 then (pt v25 x23.Type_) else junk, pt v34 x27, bif D 13 then (rd v29 x27) else junk, rd v3 p1.Parts, bx 28 b2 p2, bx 26 b1 p1, rd v2 p2, rd v1 p1, rd v0 p0]) rfl rfl (by decide) (by decide)
   have hw := hw.altT (i := 3) (b := true) rfl rfl (junk)
   refine RL.nil ?_
   exact ⟨rfl, v22, v24, v25, v34, v29, hv.put 12 rfl rfl, ha.up rfl, hw⟩
  ·rintro D σ w hD hdep hcl ⟨v22, v24, v25, v28, v29, hv, ha, hw⟩
   obtain ⟨τ, rfl⟩ := (ac (hv.at 2 rfl (hdep.2.1 rfl)) (ac (hv.at 12 rfl (hdep.1 rfl)) az)).ups
   have hw := hw.selT (i := 3) rfl (hdep.1 rfl)
   have hw := hw.selF (i := 4) rfl hD
   refine RL.load_pt (i := 3) (x := x27) ⟨_, rfl, cb hg21⟩ rfl hw rfl rfl ty85 fun v35 hw => ?_
   have hw := hw.pick 12 [1, 2, 3, 4, 0, 6, 7, 8, 9, 10, 11] (new := [bif D 6 then (rd v22 p1.Parts) else junk, bif D 8 then (pt v24 x23) else junk, bif D 9 then (pt v25 x23.Type_) else junk, pt v28 x27, rd v35 x27, rd v3 p1.Parts, bx 28 b2 p2, bx 26 b1 p1, rd v2 p2, rd v1 p1, rd v0 p0]) rfl rfl (by decide) (by decide)
   have hw := hw.altT (i := 3) (b := D 12) rfl (hdep.1 rfl) (junk)
   have hw := hw.altT (i := 4) (b := true) rfl rfl (junk)
   refine RL.nil ?_
   exact ⟨rfl, v22, v24, v25, v28, v35, hv.put 13 rfl rfl, ha.up rfl, hw⟩
  ·rintro D σ w hD hdep hcl ⟨v22, v24, v25, v28, v29, hv, ha, hw⟩
   obtain ⟨τ, rfl⟩ := (ac (hv.at 2 rfl (hdep.1 rfl)) (ac (ha.at 2 rfl) az)).ups
   refine RL.fa_b ⟨_, rfl, cb hg21⟩ rfl rfl fa28_1 ?_
   refine RL.nil ?_
   exact ⟨rfl, v22, v24, v25, v28, v29, hv.put 14 rfl rfl, ha.up rfl, hw⟩
  ·rintro D σ w hD hdep hcl ⟨v22, v24, v25, v28, v29, hv, ha, hw⟩
   obtain ⟨τ, rfl⟩ := (ac (hv.at 2 rfl (hdep.2.1 rfl)) (ac (hv.at 14 rfl (hdep.1 rfl)) az)).ups
   refine RL.load_bfs (i := 6) (f := (fun x => x.Pin)) ⟨_, rfl, cb hg21⟩ rfl hw rfl rfl fd_Pin_1 ty9 ?_
   refine RL.nil ?_
   exact ⟨rfl, v22, v24, v25, v28, v29, hv.put 15 rfl rfl, ha.up rfl, hw⟩
  ·rintro D σ w hD hdep hcl ⟨v22, v24, v25, v28, v29, hv, ha, hw⟩
   obtain ⟨τ, rfl⟩ := (ac (hv.at 2 rfl (hdep.2.2.2.1 rfl)) (ac (hv.at 13 rfl (hdep.1 rfl)) (ac (hv.at 15 rfl (hdep.2.1 rfl)) az))).ups
   have hw := hw.selT (i := 4) rfl (hdep.1 rfl)
   refine RL.call ⟨_, rfl, cb hg21⟩ rfl fn94 [v29, (str p2.Pin)] rfl (Calls_ret (etchhouseref2_pinOf_ok N (p1 := p2.Pin) (i0 := 4) hw rfl hx30) ?_)
   rintro _ w ⟨rfl, hw⟩
   have hw := hw.altT (i := 4) (b := D 13) rfl (hdep.1 rfl) (junk)
   refine RL.nil ?_
   exact ⟨rfl, v22, v24, v25, v28, v29, hv.put 16 rfl rfl, ha.up rfl, hw⟩
  ·rintro D σ w hD hdep hcl ⟨v22, v24, v25, v28, v29, hv, ha, hw⟩
   obtain ⟨τ, rfl⟩ := (ac (hv.at 2 rfl (hdep.2.1 rfl)) (ac (hv.at 16 rfl (hdep.1 rfl)) az)).ups
   refine RL.icmp (a := x30) (b := 0) ⟨_, rfl, cb hg21⟩ rfl rfl rfl rfl ?_
   refine RL.nil ?_
   exact ⟨rfl, v22, v24, v25, v28, v29, hv.put 17 rfl rfl, ha.up rfl, hw⟩
  ·rintro D σ w hD hdep hcl ⟨v22, v24, v25, v28, v29, hv, ha, hw⟩
   obtain ⟨τ, rfl⟩ := (ac (hv.at 2 rfl (hdep.1 rfl)) (ac (hv.at 17 rfl (hdep.2.1 rfl)) az)).ups
   refine RL.pick (b := (decide (x4 ≥ 0))) (v := (vb (decide (x30 ≥ 0)))) trivial rfl rfl (by rw [hg21]; rfl) ?_
   refine RL.nil ?_
   exact ⟨rfl, v22, v24, v25, v28, v29, hv.put 18 rfl rfl, ha.up rfl, hw⟩
  ·rintro D σ w hD hdep hcl ⟨v22, v24, v25, v28, v29, hv, ha, hw⟩
   obtain ⟨τ, rfl⟩ := (ac (hv.at 18 rfl (hdep.1 rfl)) az).ups
   refine as_ (vb (decide (x30 ≥ 0))) rfl rfl ?_
   refine RL.nil ?_
   exact ⟨rfl, v22, v24, v25, v28, v29, hv.put 19 rfl rfl, ha.up rfl, hw⟩
  rintro D σ w hall ⟨v22, v24, v25, v28, v29, hv, ha, hw⟩
  rw [hall 6 (by decide), hall 8 (by decide), hall 9 (by decide), hall 12 (by decide), hall 13 (by decide)] at hw
  obtain ⟨τ, rfl⟩ := (ac (hv.at 19 rfl (hall 19 (by decide))) (ac (ha.at 0 rfl) (ac (ha.at 1 rfl) (ac (ha.at 2 rfl) (ac (ha.at 3 rfl) az))))).ups
  obtain rfl := oi hj
  exact ⟨rfl, ⟨rfl, trivial⟩, hw.pick 11 [] (new := []) rfl rfl (by decide) (by decide)⟩
 rintro σ w ⟨ha, hw⟩
 obtain ⟨τ, rfl⟩ := ha.ups
 refine thenQ_n ?_
 refine RC.ret ?_
 obtain rfl := oi hb
 exact fin1 rfl rfl ⟨rfl, hw.drop 0 rfl⟩
def etchhouseref2_before_R (E : World) (Γ : List HP) (res : Bool) (v : Value) (w : World) : Prop := v = (vb res) ∧ Holds E w Γ
def etchhouseref2_before_K (E : World) (Γ : List HP) (r : Bool) (σ : Nat → Value) (w : World) : Prop := finQ Tryd.prog 24 Tryd.f103 (etchhouseref2_before_R E Γ r) .ret σ w
theorem etchhouseref2_before_ok (N : Nat) {E w : World} {Γ : List HP} {i0 : Nat} {v0 : Value} {p0 : Pin} {i1 : Nat} {v1 : Value} {p1 : Pin} {res : Bool} (hw : Holds E w Γ) (h0 : Γ[i0]? = some (rd v0 p0)) (h1 : Γ[i1]? = some (rd v1 p1)) (hb : etchhouseref2_before N p0 p1 = some res) :
    Calls Tryd.prog 103 [v0, v1].toArray w (Ret (etchhouseref2_before_R E Γ res)) := by
 unfold etchhouseref2_before at hb
 refine enter Tryd.func103 rfl rfl (Nat.le_of_ble_eq_true rfl) ?_
 have hw := hw.dup (i := i0 + 0) h0
 have hw := hw.dup (i := i1 + 1) h1
 refine RC.sr ?_
 refine RL.box_rd (i := 1) (v := v0) trivial rfl hw rfl rfl fun b1 w hw => ?_
 refine RL.box_rd (i := 1) (v := v1) trivial rfl hw rfl rfl fun b2 w hw => ?_
 refine as_ (vb false) rfl rfl ?_
 refine RL.ns ?_
 refine RL.fa_b trivial rfl rfl fa28_0 ?_
 refine RL.load_bfs (i := 1) (f := (fun x => x.Part)) trivial rfl hw rfl rfl fd_Pin_0 ty9 ?_
 refine RL.fa_b trivial rfl rfl fa28_0 ?_
 refine RL.load_bfs (i := 0) (f := (fun x => x.Part)) trivial rfl hw rfl rfl fd_Pin_0 ty9 ?_
 refine RL.scmp (a := p0.Part) (b := p1.Part) trivial rfl rfl rfl rfl ?_
 refine mv (vb (p0.Part.ltb p1.Part)) rfl rfl ?_
 refine RL.gs (c := true) (b := (p0.Part.ltb p1.Part)) (v := (vp b1 0)) rfl rfl rfl (gs_fa_b rfl (fun _ => rfl) fa28_0) ?_
 refine RL.gs (c := true) (b := (p0.Part.ltb p1.Part)) (v := (str p0.Part)) rfl rfl rfl (gs_load_bfs (i := 1) (f := (fun x => x.Part)) rfl hw (fun h => by exact (cv_t h : cv (true && ((p0.Part.ltb p1.Part) == false)) (vp b1 0) = (vp b1 0))) rfl fd_Pin_0 ty9) ?_
 refine RL.gs (c := true) (b := (p0.Part.ltb p1.Part)) (v := (vp b2 0)) rfl rfl rfl (gs_fa_b rfl (fun _ => rfl) fa28_0) ?_
 refine RL.gs (c := true) (b := (p0.Part.ltb p1.Part)) (v := (str p1.Part)) rfl rfl rfl (gs_load_bfs (i := 0) (f := (fun x => x.Part)) rfl hw (fun h => by exact (cv_t h : cv (true && ((p0.Part.ltb p1.Part) == false)) (vp b2 0) = (vp b2 0))) rfl fd_Pin_0 ty9) ?_
 refine RL.gs (c := true) (b := (p0.Part.ltb p1.Part)) (v := (vb (p0.Part.eqb p1.Part))) rfl rfl rfl (gs_scmp (bop := .eql) (a := p0.Part) (b := p1.Part) rfl (fun h => by exact (cv_t h : cv (true && ((p0.Part.ltb p1.Part) == false)) (str p0.Part) = (str p0.Part))) (fun h => by exact (cv_t h : cv (true && ((p0.Part.ltb p1.Part) == false)) (str p1.Part) = (str p1.Part))) rfl) ?_
 refine RL.gs (c := true) (b := (p0.Part.ltb p1.Part)) (v := (vb (p0.Part.eqb p1.Part))) rfl rfl rfl (gs_move rfl (fun h => by exact (cv_t h : cv (true && ((p0.Part.ltb p1.Part) == false)) (vb (p0.Part.eqb p1.Part)) = (vb (p0.Part.eqb p1.Part))))) ?_
 refine RL.gs (c := (true && ((p0.Part.ltb p1.Part) == false))) (b := (p0.Part.eqb p1.Part)) (v := (vp b1 1)) rfl rfl rfl (gs_fa_b rfl (fun _ => rfl) fa28_1) ?_
 refine RL.gs (c := (true && ((p0.Part.ltb p1.Part) == false))) (b := (p0.Part.eqb p1.Part)) (v := (str p0.Pin)) rfl rfl rfl (gs_load_bfs (i := 1) (f := (fun x => x.Pin)) rfl hw (fun h => by exact (cv_t h : cv ((true && ((p0.Part.ltb p1.Part) == false)) && ((p0.Part.eqb p1.Part) == true)) (vp b1 1) = (vp b1 1))) rfl fd_Pin_1 ty9) ?_
 refine RL.gs (c := (true && ((p0.Part.ltb p1.Part) == false))) (b := (p0.Part.eqb p1.Part)) (v := (vp b2 1)) rfl rfl rfl (gs_fa_b rfl (fun _ => rfl) fa28_1) ?_
 refine RL.gs (c := (true && ((p0.Part.ltb p1.Part) == false))) (b := (p0.Part.eqb p1.Part)) (v := (str p1.Pin)) rfl rfl rfl (gs_load_bfs (i := 0) (f := (fun x => x.Pin)) rfl hw (fun h => by exact (cv_t h : cv ((true && ((p0.Part.ltb p1.Part) == false)) && ((p0.Part.eqb p1.Part) == true)) (vp b2 1) = (vp b2 1))) rfl fd_Pin_1 ty9) ?_
 refine RL.gs (c := (true && ((p0.Part.ltb p1.Part) == false))) (b := (p0.Part.eqb p1.Part)) (v := (vb (p0.Pin.ltb p1.Pin))) rfl rfl rfl (gs_scmp (bop := .lss) (a := p0.Pin) (b := p1.Pin) rfl (fun h => by exact (cv_t h : cv ((true && ((p0.Part.ltb p1.Part) == false)) && ((p0.Part.eqb p1.Part) == true)) (str p0.Pin) = (str p0.Pin))) (fun h => by exact (cv_t h : cv ((true && ((p0.Part.ltb p1.Part) == false)) && ((p0.Part.eqb p1.Part) == true)) (str p1.Pin) = (str p1.Pin))) rfl) ?_
 refine RL.gs (c := true) (b := (p0.Part.ltb p1.Part)) (v := (vb ((p0.Part.eqb p1.Part) && (p0.Pin.ltb p1.Pin)))) rfl rfl rfl (gs_pick (b := (p0.Part.eqb p1.Part)) rfl (fun h => by exact (cv_t h : cv (true && ((p0.Part.ltb p1.Part) == false)) (vb (p0.Part.eqb p1.Part)) = (vb (p0.Part.eqb p1.Part)))) (fun h => by exact pk_and (c := (true && ((p0.Part.ltb p1.Part) == false))) h)) ?_
 refine RL.pick (b := (p0.Part.ltb p1.Part)) (v := (vb ((p0.Part.ltb p1.Part) || ((p0.Part.eqb p1.Part) && (p0.Pin.ltb p1.Pin))))) trivial rfl rfl (pk_or (c := true) rfl) ?_
 refine as_ (vb ((p0.Part.ltb p1.Part) || ((p0.Part.eqb p1.Part) && (p0.Pin.ltb p1.Pin)))) rfl rfl ?_
 refine RL.nt ?_
 refine RC.ret ?_
 obtain rfl := oi hb
 exact fin1 rfl rfl ⟨rfl, hw.drop 4 rfl⟩
def slices_Index_Pin_R (E : World) (Γ : List HP) (res : Int) (v : Value) (w : World) : Prop := v = (vi res) ∧ Holds E w Γ
def slices_Index_Pin_K (E : World) (Γ : List HP) (r : Int) (σ : Nat → Value) (w : World) : Prop := finQ Tryd.prog 19 Tryd.f130 (slices_Index_Pin_R E Γ r) .ret σ w
theorem slices_Index_Pin_ok (N : Nat) {E w : World} {Γ : List HP} {i0 : Nat} {v0 : Value} {p0 : (List Pin)} {i1 : Nat} {v1 : Value} {p1 : Pin} {res : Int} (hw : Holds E w Γ) (h0 : Γ[i0]? = some (rd v0 p0)) (h1 : Γ[i1]? = some (rd v1 p1)) (hb : slices_Index_Pin N p0 p1 = some res) :
    Calls Tryd.prog 130 [v0, v1].toArray w (Ret (slices_Index_Pin_R E Γ res)) := by
 unfold slices_Index_Pin at hb
 refine enter Tryd.func130 rfl rfl (Nat.le_of_ble_eq_true rfl) ?_
 have hw := hw.dup (i := i0 + 0) h0
 have hw := hw.dup (i := i1 + 1) h1
 refine RC.sr ?_
 refine RL.box_rd (i := 0) (v := v1) trivial rfl hw rfl rfl fun b1 w hw => ?_
 refine as_ (vi 0) rfl rfl ?_
 refine RL.nq ?_
 refine RC.sr ?_
 refine mv v0 rfl rfl ?_
 refine RL.len_rd (i := 2) (l := p0) trivial rfl hw rfl rfl un33 ?_
 refine mv (vi 0) rfl rfl ?_
 refine RL.nt ?_
 obtain ⟨o18, hN, hb⟩ := bd hb
 refine RC.range (fun (k2 : Nat) (s3 : Unit) (σ : Nat → Value) (w : World) => agree σ [(0, v0), (3, (vp b1 0)), (7, (vi (p0.length : Int))), (8, (vi (k2 : Int)))] ∧ Holds E w ([rd v0 p0, bx 28 b1 p1] ++ Γ)) (fun (s3 : Unit) (σ : Nat → Value) (w : World) => agree σ [] ∧ Holds E w ([rd v0 p0, bx 28 b1 p1] ++ Γ)) (slices_Index_Pin_K E Γ) hN ?_ ?_ ?_ ?_ ?_ 
 ·exact ⟨⟨rfl, rfl, rfl, rfl, trivial⟩, hw.pick 3 [2, 0] (new := [rd v0 p0, bx 28 b1 p1]) rfl rfl (by decide) (by decide)⟩
 ·intro hm s3 σ w hI
  obtain ⟨ha, hw⟩ := hI
  obtain ⟨τ, rfl⟩ := ha.ups
  refine RC.sr ?_
  refine ic ((p0.length : Int)) ((p0.length : Int)) rfl rfl rfl rfl ?_
  refine RL.nq ?_
  refine RC.cond_f dge ?_
  refine RC.ex ?_
  exact ⟨rfl, trivial, hw.pick 2 [0, 1] (new := [rd v0 p0, bx 28 b1 p1]) rfl rfl (by decide) (by decide)⟩
 ·intro hm k2 s3 fl σ w hk hI hb
  obtain ⟨ha, hw⟩ := hI
  obtain ⟨τ, rfl⟩ := ha.ups
  refine RC.sr ?_
  refine ic ((k2 : Int)) ((p0.length : Int)) rfl rfl rfl rfl ?_
  refine RL.nq ?_
  refine RC.cond_t (dlt hk) ?_
  refine RC.ss ?_
  refine RC.bs ?_
  refine mv (vi (k2 : Int)) rfl rfl ?_
  refine as_ (vi (k2 : Int)) rfl rfl ?_
  refine RL.nq ?_
  obtain ⟨x12, hx12, hb⟩ := bd hb
  refine RC.drw mixed rfl (fun (D : Nat → Bool) (σ : Nat → Value) (w : World) => ∃ (v11 : Value) (v13 : Value) (v14 : Value), doneV D σ [(0, 11, v11), (1, 12, v0), (2, 13, (vi (k2 : Int))), (3, 14, v13), (4, 15, v14), (5, 16, (vb (decide (p1 = x12))))] ∧ agree σ [(0, v0), (3, (vp b1 0)), (5, (vi (k2 : Int))), (7, (vi (p0.length : Int))), (8, (vi (k2 : Int)))] ∧ Holds E w ([bif D 0 then (rd v11 p1) else junk, bif D 3 then (pt v13 x12) else junk, bif D 4 then (rd v14 x12) else junk, rd v0 p0, bx 28 b1 p1] ++ Γ)) ?_ ⟨?_, ?_, ?_, ?_, ?_, ?_, trivial⟩ ?_
  ·have hw := hw.drew
   have hw := hw.junk
   have hw := hw.junk
   have hw := hw.junk
   exact ⟨undef, undef, undef, doneV.none, ⟨rfl, rfl, rfl, rfl, rfl, trivial⟩, hw⟩
  ·rintro D σ w hD hdep hcl ⟨v11, v13, v14, hv, ha, hw⟩
   obtain ⟨τ, rfl⟩ := (ac (ha.at 1 rfl) az).ups
   have hw := hw.selF (i := 0) rfl hD
   refine RL.load_bf (i := 4) (f := (fun x => x)) trivial rfl hw rfl rfl Fd.self ty28 fun v15 hw => ?_
   have hw := hw.pick 6 [0, 2, 3, 4, 5] (new := [rd v15 p1, bif D 3 then (pt v13 x12) else junk, bif D 4 then (rd v14 x12) else junk, rd v0 p0, bx 28 b1 p1]) rfl rfl (by decide) (by decide)
   have hw := hw.altT (i := 0) (b := true) rfl rfl (junk)
   refine RL.nil ?_
   exact ⟨rfl, v15, v13, v14, hv.put 0 rfl rfl, ha.up rfl, hw⟩
  ·rintro D σ w hD hdep hcl ⟨v11, v13, v14, hv, ha, hw⟩
   obtain ⟨τ, rfl⟩ := (ac (ha.at 0 rfl) az).ups
   refine mv v0 rfl rfl ?_
   refine RL.nil ?_
   exact ⟨rfl, v11, v13, v14, hv.put 1 rfl rfl, ha.up rfl, hw⟩
  ·rintro D σ w hD hdep hcl ⟨v11, v13, v14, hv, ha, hw⟩
   obtain ⟨τ, rfl⟩ := (ac (ha.at 2 rfl) az).ups
   refine mv (vi (k2 : Int)) rfl rfl ?_
   refine RL.nil ?_
   exact ⟨rfl, v11, v13, v14, hv.put 2 rfl rfl, ha.up rfl, hw⟩
  ·rintro D σ w hD hdep hcl ⟨v11, v13, v14, hv, ha, hw⟩
   obtain ⟨τ, rfl⟩ := (ac (hv.at 1 rfl (hdep.1 rfl)) (ac (hv.at 2 rfl (hdep.2.1 rfl)) az)).ups
   have hw := hw.selF (i := 1) rfl hD
   refine RL.ia_rd (i := 3) trivial rfl hw rfl rfl rfl sl33 hx12 fun v16 hw => ?_
   have hw := hw.pick 6 [1, 0, 3, 4, 5] (new := [bif D 0 then (rd v11 p1) else junk, pt v16 x12, bif D 4 then (rd v14 x12) else junk, rd v0 p0, bx 28 b1 p1]) rfl rfl (by decide) (by decide)
   have hw := hw.altT (i := 1) (b := true) rfl rfl (junk)
   refine RL.nil ?_
   exact ⟨rfl, v11, v16, v14, hv.put 3 rfl rfl, ha.up rfl, hw⟩
  ·rintro D σ w hD hdep hcl ⟨v11, v13, v14, hv, ha, hw⟩
   obtain ⟨τ, rfl⟩ := (ac (hv.at 3 rfl (hdep.1 rfl)) az).ups
   have hw := hw.selT (i := 1) rfl (hdep.1 rfl)
   have hw := hw.selF (i := 2) rfl hD
   refine RL.load_pt (i := 1) (x := x12) trivial rfl hw rfl rfl ty28 fun v17 hw => ?_
   have hw := hw.pick 6 [1, 2, 0, 4, 5] (new := [bif D 0 then (rd v11 p1) else junk, pt v13 x12, rd v17 x12, rd v0 p0, bx 28 b1 p1]) rfl rfl (by decide) (by decide)
   have hw := hw.altT (i := 1) (b := D 3) rfl (hdep.1 rfl) (junk)
   have hw := hw.altT (i := 2) (b := true) rfl rfl (junk)
   refine RL.nil ?_
   exact ⟨rfl, v11, v13, v17, hv.put 4 rfl rfl, ha.up rfl, hw⟩
  ·rintro D σ w hD hdep hcl ⟨v11, v13, v14, hv, ha, hw⟩
   obtain ⟨τ, rfl⟩ := (ac (hv.at 0 rfl (hdep.1 rfl)) (ac (hv.at 4 rfl (hdep.2.1 rfl)) az)).ups
   have hw := hw.selT (i := 0) rfl (hdep.1 rfl)
   have hw := hw.selT (i := 2) rfl (hdep.2.1 rfl)
   refine RL.seq (i := 0) (j := 2) (a := p1) (b := x12) trivial rfl hw rfl rfl rfl rfl eqt28 rfl ?_
   have hw := hw.altT (i := 0) (b := D 0) rfl (hdep.1 rfl) (junk)
   have hw := hw.altT (i := 2) (b := D 4) rfl (hdep.2.1 rfl) (junk)
   refine RL.nil ?_
   exact ⟨rfl, v11, v13, v14, hv.put 5 rfl rfl, ha.up rfl, hw⟩
  rintro D σ w hall ⟨v11, v13, v14, hv, ha, hw⟩
  rw [hall 0 (by decide), hall 3 (by decide), hall 4 (by decide)] at hw
  obtain ⟨τ, rfl⟩ := (ac (hv.at 5 rfl (hall 5 (by decide))) (ac (ha.at 0 rfl) (ac (ha.at 1 rfl) (ac (ha.at 2 rfl) (ac (ha.at 3 rfl) (ac (ha.at 4 rfl) az)))))).ups
  refine thenQ_n ?_
  refine RC.cond (b := (decide (p1 = x12))) rfl (fun hc => ?_) (fun hc => ?_)
  rotate_left
  ·replace hb := cF hc hb
   refine RC.skip ?_
   refine blkQ_n ?_
   refine thenQ_n ?_
   refine RC.region ?_
   refine RL.inc trivial rfl hk hm rfl rfl ?_
   refine mv (vi ((k2 + 1 : Nat) : Int)) rfl rfl ?_
   refine RL.nil ?_
   obtain rfl := oi hb
   exact ⟨rfl, ⟨rfl, rfl, rfl, rfl, trivial⟩, hw.pick 5 [3, 4] (new := [rd v0 p0, bx 28 b1 p1]) rfl rfl (by decide) (by decide)⟩
  replace hb := cT hc hb
  refine RC.sr ?_
  refine mv (vi (k2 : Int)) rfl rfl ?_
  refine as_ (vi (k2 : Int)) rfl rfl ?_
  refine RL.nt ?_
  refine RC.rb ?_
  refine thenQ_r ?_
  obtain rfl := oi hb
  exact ⟨rfl, fin1 rfl rfl ⟨rfl, hw.drop 5 rfl⟩⟩
 ·intro r σ w e hK
  subst e
  refine thenQ_r ?_
  obtain rfl := oi hb
  exact hK
 intro s3 σ w e hJ
 subst e
 rw [Fo.cs_go] at hb
 obtain ⟨ha, hw⟩ := hJ
 obtain ⟨τ, rfl⟩ := ha.ups
 refine thenQ_n ?_
 refine RC.sr ?_
 refine as_ (vi (-1)) rfl rfl ?_
 refine RL.nt ?_
 refine RC.ret ?_
 obtain rfl := oi hb
 exact fin1 rfl rfl ⟨rfl, hw.drop 2 rfl⟩
def slices_Contains_Pin_R (E : World) (Γ : List HP) (res : Bool) (v : Value) (w : World) : Prop := v = (vb res) ∧ Holds E w Γ
def slices_Contains_Pin_K (E : World) (Γ : List HP) (r : Bool) (σ : Nat → Value) (w : World) : Prop := finQ Tryd.prog 9 Tryd.f95 (slices_Contains_Pin_R E Γ r) .ret σ w
theorem slices_Contains_Pin_ok (N : Nat) {E w : World} {Γ : List HP} {i0 : Nat} {v0 : Value} {p0 : (List Pin)} {i1 : Nat} {v1 : Value} {p1 : Pin} {res : Bool} (hw : Holds E w Γ) (h0 : Γ[i0]? = some (rd v0 p0)) (h1 : Γ[i1]? = some (rd v1 p1)) (hb : slices_Contains_Pin N p0 p1 = some res) :
    Calls Tryd.prog 95 [v0, v1].toArray w (Ret (slices_Contains_Pin_R E Γ res)) := by
 unfold slices_Contains_Pin at hb
 refine enter Tryd.func95 rfl rfl (Nat.le_of_ble_eq_true rfl) ?_
 have hw := hw.dup (i := i0 + 0) h0
 have hw := hw.dup (i := i1 + 1) h1
 refine RC.sr ?_
 refine RL.box_rd (i := 0) (v := v1) trivial rfl hw rfl rfl fun b1 w hw => ?_
 refine as_ (vb false) rfl rfl ?_
 refine RL.ns ?_
 refine mv v0 rfl rfl ?_
 refine RL.load_bf (i := 0) (f := (fun x => x)) trivial rfl hw rfl rfl Fd.self ty28 fun v2 hw => ?_
 obtain ⟨x3, hx3, hb⟩ := bd hb
 refine RL.call trivial rfl fn130 [v0, v2] rfl (Calls_ret (slices_Index_Pin_ok N  (i0 := 3) (i1 := 0) hw rfl rfl hx3) ?_)
 rintro _ w ⟨rfl, hw⟩
 refine ic x3 0 rfl rfl rfl rfl ?_
 refine as_ (vb (decide (x3 ≥ 0))) rfl rfl ?_
 refine RL.nt ?_
 refine RC.ret ?_
 obtain rfl := oi hb
 exact fin1 rfl rfl ⟨rfl, hw.drop 4 rfl⟩
def etchhouseref2_inNets_R (E : World) (Γ : List HP) (res : Bool) (v : Value) (w : World) : Prop := v = (vb res) ∧ Holds E w Γ
def etchhouseref2_inNets_K (E : World) (Γ : List HP) (r : Bool) (σ : Nat → Value) (w : World) : Prop := finQ Tryd.prog 18 Tryd.f104 (etchhouseref2_inNets_R E Γ r) .ret σ w
theorem etchhouseref2_inNets_ok (N : Nat) {E w : World} {Γ : List HP} {i0 : Nat} {v0 : Value} {p0 : (List Net)} {i1 : Nat} {v1 : Value} {p1 : Pin} {res : Bool} (hw : Holds E w Γ) (h0 : Γ[i0]? = some (rd v0 p0)) (h1 : Γ[i1]? = some (rd v1 p1)) (hb : etchhouseref2_inNets N p0 p1 = some res) :
    Calls Tryd.prog 104 [v0, v1].toArray w (Ret (etchhouseref2_inNets_R E Γ res)) := by
 unfold etchhouseref2_inNets at hb
 refine enter Tryd.func104 rfl rfl (Nat.le_of_ble_eq_true rfl) ?_
 have hw := hw.dup (i := i0 + 0) h0
 have hw := hw.dup (i := i1 + 1) h1
 refine RC.sr ?_
 refine RL.box_rd (i := 0) (v := v1) trivial rfl hw rfl rfl fun b1 w hw => ?_
 refine as_ (vb false) rfl rfl ?_
 refine RL.nq ?_
 refine RC.sr ?_
 refine mv v0 rfl rfl ?_
 refine RL.len_rd (i := 2) (l := p0) trivial rfl hw rfl rfl un24 ?_
 refine mv (vi 0) rfl rfl ?_
 refine RL.nt ?_
 obtain ⟨o18, hN, hb⟩ := bd hb
 refine RC.range (fun (k2 : Nat) (s3 : Unit) (σ : Nat → Value) (w : World) => agree σ [(3, (vp b1 0)), (7, v0), (8, (vi (p0.length : Int))), (9, (vi (k2 : Int)))] ∧ Holds E w ([bx 28 b1 p1, rd v0 p0] ++ Γ)) (fun (s3 : Unit) (σ : Nat → Value) (w : World) => agree σ [] ∧ Holds E w ([bx 28 b1 p1, rd v0 p0] ++ Γ)) (etchhouseref2_inNets_K E Γ) hN ?_ ?_ ?_ ?_ ?_ 
 ·exact ⟨⟨rfl, rfl, rfl, rfl, trivial⟩, hw.pick 3 [0, 2] (new := [bx 28 b1 p1, rd v0 p0]) rfl rfl (by decide) (by decide)⟩
 ·intro hm s3 σ w hI
  obtain ⟨ha, hw⟩ := hI
  obtain ⟨τ, rfl⟩ := ha.ups
  refine RC.sr ?_
  refine ic ((p0.length : Int)) ((p0.length : Int)) rfl rfl rfl rfl ?_
  refine RL.nq ?_
  refine RC.cond_f dge ?_
  refine RC.ex ?_
  exact ⟨rfl, trivial, hw.pick 2 [0, 1] (new := [bx 28 b1 p1, rd v0 p0]) rfl rfl (by decide) (by decide)⟩
 ·intro hm k2 s3 fl σ w hk hI hb
  obtain ⟨ha, hw⟩ := hI
  obtain ⟨τ, rfl⟩ := ha.ups
  refine RC.sr ?_
  refine ic ((k2 : Int)) ((p0.length : Int)) rfl rfl rfl rfl ?_
  refine RL.nq ?_
  refine RC.cond_t (dlt hk) ?_
  refine RC.ss ?_
  refine RC.bs ?_
  obtain ⟨x11, hx11, hb⟩ := bd hb
  refine RL.ia_rd (i := 1) trivial rfl hw rfl rfl rfl sl24 hx11 fun v12 hw => ?_
  refine RL.load_pt (i := 0) (x := x11) trivial rfl hw rfl rfl ty64 fun v13 hw => ?_
  refine RL.alloc trivial rfl hw ze64.z fun b14 w hw => ?_
  refine RL.store_raw (i := 0) (j := 1) trivial hw rfl rfl rfl rfl ty64 rfl fun w hw => ?_
  refine RL.ns ?_
  refine RL.fa_b trivial rfl rfl fa64_1 ?_
  refine RL.load_bf (i := 0) (f := (fun x => x.Pins)) trivial rfl hw rfl rfl fd_Net_1 ty33 fun v15 hw => ?_
  refine RL.load_bf (i := 4) (f := (fun x => x)) trivial rfl hw rfl rfl Fd.self ty28 fun v16 hw => ?_
  obtain ⟨x17, hx17, hb⟩ := bd hb
  refine RL.call trivial rfl fn95 [v15, v16] rfl (Calls_ret (slices_Contains_Pin_ok N  (i0 := 1) (i1 := 0) hw rfl rfl hx17) ?_)
  rintro _ w ⟨rfl, hw⟩
  refine RL.nt ?_
  refine RC.cond (b := x17) rfl (fun hc => ?_) (fun hc => ?_)
  rotate_left
  ·replace hb := cF hc hb
   refine RC.skip ?_
   refine blkQ_n ?_
   refine thenQ_n ?_
   refine RC.region ?_
   refine RL.inc trivial rfl hk hm rfl rfl ?_
   refine mv (vi ((k2 + 1 : Nat) : Int)) rfl rfl ?_
   refine RL.nil ?_
   obtain rfl := oi hb
   exact ⟨rfl, ⟨rfl, rfl, rfl, rfl, trivial⟩, hw.pick 7 [5, 6] (new := [bx 28 b1 p1, rd v0 p0]) rfl rfl (by decide) (by decide)⟩
  replace hb := cT hc hb
  refine RC.sr ?_
  refine as_ (vb true) rfl rfl ?_
  refine RL.nt ?_
  refine RC.rb ?_
  refine thenQ_r ?_
  obtain rfl := oi hb
  exact ⟨rfl, fin1 rfl rfl ⟨rfl, hw.drop 7 rfl⟩⟩
 ·intro r σ w e hK
  subst e
  refine thenQ_r ?_
  obtain rfl := oi hb
  exact hK
 intro s3 σ w e hJ
 subst e
 rw [Fo.cs_go] at hb
 obtain ⟨ha, hw⟩ := hJ
 obtain ⟨τ, rfl⟩ := ha.ups
 refine thenQ_n ?_
 refine RC.sr ?_
 refine as_ (vb false) rfl rfl ?_
 refine RL.nt ?_
 refine RC.ret ?_
 obtain rfl := oi hb
 exact fin1 rfl rfl ⟨rfl, hw.drop 2 rfl⟩
end Go.Gk
