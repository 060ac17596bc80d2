/-
  Printed by gen.py: Go functions as plain functions, and that they are.
-/
import Derived.Test.YtnjoaggeheokeaaDoorT
import Derived.Test.YtnjoaggeheokeaaDoorF1
set_option linter.unusedVariables false
set_option linter.unusedSimpArgs false
set_option linter.unusedSectionVars false
set_option maxRecDepth 100000
set_option maxHeartbeats 4000000

namespace Go.Gk
open Go Go.Proofs
def stringslite_Cut_R (E : World) (Γ : List HP) (res : Str × Str × Bool) (v : Value) (w : World) : Prop := v = .tuple #[(str res.1), (str res.2.1), (vb res.2.2)] ∧ Holds E w Γ
def stringslite_Cut_K (E : World) (Γ : List HP) (r : Str × Str × Bool) (σ : Nat → Value) (w : World) : Prop := finQ Tryd.prog 23 Tryd.f113 (stringslite_Cut_R E Γ r) .ret σ w
theorem stringslite_Cut_ok (N : Nat) {E w : World} {Γ : List HP} {p0 : Str} {p1 : Str} {res : Str × Str × Bool} (hw : Holds E w Γ)  (hb : stringslite_Cut N p0 p1 = some res) :
    Calls Tryd.prog 113 [(str p0), (str p1)].toArray w (Ret (stringslite_Cut_R E Γ res)) := by
 unfold stringslite_Cut at hb
 refine enter Tryd.func113 rfl rfl (Nat.le_of_ble_eq_true rfl) ?_
 refine RC.sr ?_
 refine as_ (str ⟨[]⟩) rfl rfl ?_
 refine as_ (str ⟨[]⟩) rfl rfl ?_
 refine as_ (vb false) rfl rfl ?_
 refine RL.nq ?_
 refine RC.sr ?_
 refine mv (str p0) rfl rfl ?_
 refine mv (str p1) rfl rfl ?_
 obtain ⟨x1, hx1, hb⟩ := bd hb
 refine RL.call trivial rfl fn139 [(str p0), (str p1)] rfl (Calls_ret (stringslite_Index_ok N (p0 := p0) (p1 := p1)  hw  hx1) ?_)
 rintro _ w ⟨rfl, hw⟩
 refine as_ (vi x1) rfl rfl ?_
 refine RL.ns ?_
 refine mv (vi x1) rfl rfl ?_
 refine ic x1 0 rfl rfl rfl rfl ?_
 refine RL.nt ?_
 refine RC.cond (b := (decide (x1 ≥ 0))) rfl (fun hc => ?_) (fun hc => ?_)
 rotate_left
 ·replace hb := cF hc hb
  refine RC.sx ?_
  refine mv (str p0) rfl rfl ?_
  refine as_ (str p0) rfl rfl ?_
  refine as_ (str ⟨[]⟩) rfl rfl ?_
  refine as_ (vb false) rfl rfl ?_
  refine RL.nt ?_
  refine RC.ret ?_
  obtain rfl := oi hb
  exact fin3 rfl rfl rfl rfl ⟨rfl, hw.drop 0 rfl⟩
 replace hb := cT hc hb
 refine RC.seq ?_
 obtain ⟨x4, hx4, hb⟩ := bd hb
 obtain ⟨x5, hx5, hb⟩ := bd hb
 refine RC.drw mixed rfl (fun (D : Nat → Bool) (σ : Nat → Value) (w : World) => doneV D σ [(0, 13, (str p0)), (1, 14, (vi x1)), (2, 15, (str x4)), (3, 16, (str p0)), (4, 17, (vi x1)), (5, 18, (str p1)), (6, 19, (vi (p1.toL.length : Int))), (7, 20, (vi (IntKind.wrap .i64 (x1 + (p1.toL.length : Int))))), (8, 21, (str x5)), (9, 4, (str x4)), (10, 5, (str x5)), (11, 6, (vb true))] ∧ agree σ [(0, (str p0)), (1, (str p1)), (7, (vi x1))] ∧ Holds E w ([] ++ Γ)) ?_ ⟨?_, ?_, ?_, ?_, ?_, ?_, ?_, ?_, ?_, ?_, ?_, ?_, trivial⟩ ?_
 ·have hw := hw.drew
  exact ⟨doneV.none, ⟨rfl, rfl, rfl, trivial⟩, hw⟩
 ·rintro D σ w hD hdep hcl ⟨hv, ha, hw⟩
  obtain ⟨τ, rfl⟩ := (ac (ha.at 0 rfl) az).ups
  refine mv (str p0) rfl rfl ?_
  refine RL.nil ?_
  exact ⟨rfl, hv.put 0 rfl rfl, ha.up rfl, hw⟩
 ·rintro D σ w hD hdep hcl ⟨hv, ha, hw⟩
  obtain ⟨τ, rfl⟩ := (ac (ha.at 2 rfl) az).ups
  refine mv (vi x1) rfl rfl ?_
  refine RL.nil ?_
  exact ⟨rfl, hv.put 1 rfl rfl, ha.up rfl, hw⟩
 ·rintro D σ w hD hdep hcl ⟨hv, ha, hw⟩
  obtain ⟨τ, rfl⟩ := (ac (hv.at 0 rfl (hdep.1 rfl)) (ac (hv.at 1 rfl (hdep.2.1 rfl)) az)).ups
  refine RL.scut (s := p0) trivial rfl rfl un9 (.inr ⟨rfl, rfl⟩) (.inl rfl) hx4 ?_
  refine RL.nil ?_
  exact ⟨rfl, hv.put 2 rfl rfl, ha.up rfl, hw⟩
 ·rintro D σ w hD hdep hcl ⟨hv, ha, hw⟩
  obtain ⟨τ, rfl⟩ := (ac (ha.at 0 rfl) az).ups
  refine mv (str p0) rfl rfl ?_
  refine RL.nil ?_
  exact ⟨rfl, hv.put 3 rfl rfl, ha.up rfl, hw⟩
 ·rintro D σ w hD hdep hcl ⟨hv, ha, hw⟩
  obtain ⟨τ, rfl⟩ := (ac (ha.at 2 rfl) az).ups
  refine mv (vi x1) rfl rfl ?_
  refine RL.nil ?_
  exact ⟨rfl, hv.put 4 rfl rfl, ha.up rfl, hw⟩
 ·rintro D σ w hD hdep hcl ⟨hv, ha, hw⟩
  obtain ⟨τ, rfl⟩ := (ac (ha.at 1 rfl) az).ups
  refine mv (str p1) rfl rfl ?_
  refine RL.nil ?_
  exact ⟨rfl, hv.put 5 rfl rfl, ha.up rfl, hw⟩
 ·rintro D σ w hD hdep hcl ⟨hv, ha, hw⟩
  obtain ⟨τ, rfl⟩ := (ac (hv.at 5 rfl (hdep.1 rfl)) az).ups
  refine RL.lens (s := p1) trivial rfl rfl un9 ?_
  refine RL.nil ?_
  exact ⟨rfl, hv.put 6 rfl rfl, ha.up rfl, hw⟩
 ·rintro D σ w hD hdep hcl ⟨hv, ha, hw⟩
  obtain ⟨τ, rfl⟩ := (ac (hv.at 4 rfl (hdep.1 rfl)) (ac (hv.at 6 rfl (hdep.2.1 rfl)) az)).ups
  refine RL.iar (a := x1) (b := (p1.toL.length : Int)) trivial rfl rfl rfl rfl ?_
  refine RL.nil ?_
  exact ⟨rfl, hv.put 7 rfl rfl, ha.up rfl, hw⟩
 ·rintro D σ w hD hdep hcl ⟨hv, ha, hw⟩
  obtain ⟨τ, rfl⟩ := (ac (hv.at 3 rfl (hdep.1 rfl)) (ac (hv.at 7 rfl (hdep.2.1 rfl)) az)).ups
  refine RL.scut (s := p0) trivial rfl rfl un9 (.inl rfl) (.inr ⟨rfl, rfl⟩) hx5 ?_
  refine RL.nil ?_
  exact ⟨rfl, hv.put 8 rfl rfl, ha.up rfl, hw⟩
 ·rintro D σ w hD hdep hcl ⟨hv, ha, hw⟩
  obtain ⟨τ, rfl⟩ := (ac (hv.at 2 rfl (hdep.1 rfl)) az).ups
  refine as_ (str x4) rfl rfl ?_
  refine RL.nil ?_
  exact ⟨rfl, hv.put 9 rfl rfl, ha.up rfl, hw⟩
 ·rintro D σ w hD hdep hcl ⟨hv, ha, hw⟩
  obtain ⟨τ, rfl⟩ := (ac (hv.at 8 rfl (hdep.1 rfl)) az).ups
  refine as_ (str x5) rfl rfl ?_
  refine RL.nil ?_
  exact ⟨rfl, hv.put 10 rfl rfl, ha.up rfl, hw⟩
 ·rintro D σ w hD hdep hcl ⟨hv, ha, hw⟩
  obtain ⟨τ, rfl⟩ := (az (σ := σ)).ups
  refine as_ (vb true) rfl rfl ?_
  refine RL.nil ?_
  exact ⟨rfl, hv.put 11 rfl rfl, ha.up rfl, hw⟩
 rintro D σ w hall ⟨hv, ha, hw⟩
 obtain ⟨τ, rfl⟩ := (ac (hv.at 9 rfl (hall 9 (by decide))) (ac (hv.at 10 rfl (hall 10 (by decide))) (ac (hv.at 11 rfl (hall 11 (by decide))) (ac (ha.at 0 rfl) (ac (ha.at 1 rfl) (ac (ha.at 2 rfl) az)))))).ups
 refine thenQ_n ?_
 refine RC.rt ?_
 obtain rfl := oi hb
 exact fin3 rfl rfl rfl rfl ⟨rfl, hw.drop 0 rfl⟩
def strings_Cut_R (E : World) (Γ : List HP) (res : Str × Str × Bool) (v : Value) (w : World) : Prop := v = .tuple #[(str res.1), (str res.2.1), (vb res.2.2)] ∧ Holds E w Γ
def strings_Cut_K (E : World) (Γ : List HP) (r : Str × Str × Bool) (σ : Nat → Value) (w : World) : Prop := finQ Tryd.prog 13 Tryd.f58 (strings_Cut_R E Γ r) .ret σ w
theorem strings_Cut_ok (N : Nat) {E w : World} {Γ : List HP} {p0 : Str} {p1 : Str} {res : Str × Str × Bool} (hw : Holds E w Γ)  (hb : strings_Cut N p0 p1 = some res) :
    Calls Tryd.prog 58 [(str p0), (str p1)].toArray w (Ret (strings_Cut_R E Γ res)) := by
 unfold strings_Cut at hb
 refine enter Tryd.func58 rfl rfl (Nat.le_of_ble_eq_true rfl) ?_
 refine RC.sr ?_
 refine as_ (str ⟨[]⟩) rfl rfl ?_
 refine as_ (str ⟨[]⟩) rfl rfl ?_
 refine as_ (vb false) rfl rfl ?_
 refine RL.ns ?_
 refine mv (str p0) rfl rfl ?_
 refine mv (str p1) rfl rfl ?_
 obtain ⟨x1, hx1, hb⟩ := bd hb
 refine RL.call trivial rfl fn113 [(str p0), (str p1)] rfl (Calls_ret (stringslite_Cut_ok N (p0 := p0) (p1 := p1)  hw  hx1) ?_)
 rintro _ w ⟨rfl, hw⟩
 refine RL.extract (v := (str x1.1)) trivial rfl rfl rfl ?_
 refine RL.extract (v := (str x1.2.1)) trivial rfl rfl rfl ?_
 refine RL.extract (v := (vb x1.2.2)) trivial rfl rfl rfl ?_
 refine as_ (str x1.1) rfl rfl ?_
 refine as_ (str x1.2.1) rfl rfl ?_
 refine as_ (vb x1.2.2) rfl rfl ?_
 refine RL.nt ?_
 refine RC.ret ?_
 obtain rfl := oi hb
 exact fin3 rfl rfl rfl rfl ⟨rfl, hw.drop 0 rfl⟩
def strings_indexFunc_R (E : World) (Γ : List HP) (res : Int) (v : Value) (w : World) : Prop := v = (vi res) ∧ Holds E w Γ
def strings_indexFunc_K (E : World) (Γ : List HP) (r : Int) (σ : Nat → Value) (w : World) : Prop := finQ Tryd.prog 21 Tryd.f158 (strings_indexFunc_R E Γ r) .ret σ w
theorem strings_indexFunc_ok (N : Nat) {E w : World} {Γ : List HP} {p0 : Str} {v1 : Value} {p1 : R32 → Option Bool} {p2 : Bool} {res : Int} (hw : Holds E w Γ) (h1 : Fn1 Tryd.prog E Γ v1 p1 (fun (r : Bool) => Value.bool r)) (hb : strings_indexFunc N p0 p1 p2 = some res) :
    Calls Tryd.prog 158 [(str p0), v1, (vb p2)].toArray w (Ret (strings_indexFunc_R E Γ res)) := by
 unfold strings_indexFunc at hb
 refine enter Tryd.func158 rfl rfl (Nat.le_of_ble_eq_true rfl) ?_
 refine RC.sr ?_
 refine as_ (vi 0) rfl rfl ?_
 refine RL.nq ?_
 refine RC.sr ?_
 refine mv (str p0) rfl rfl ?_
 refine RL.range_s (s := p0) trivial rfl hw rfl un9 fun b1 w hw => ?_
 refine RL.nt ?_
 obtain ⟨o10, hN, hb⟩ := bd hb
 refine RC.iter (fun (s3 : Nat) (σ : Nat → Value) (w : World) => agree σ [(1, v1), (2, (vb p2)), (10, (vp b1 0))] ∧ Holds E w ([it b1 p0 s3] ++ Γ)) (fun (s3 : Nat) (σ : Nat → Value) (w : World) => agree σ [] ∧ Holds E w ([it b1 p0 s3] ++ Γ)) (strings_indexFunc_K E Γ) hN ?_ ?_ ?_ ?_ 
 ·exact ⟨⟨rfl, rfl, rfl, trivial⟩, hw.pick 1 [0] (new := [it b1 p0 0]) rfl rfl (by decide) (by decide)⟩
 ·intro s3 fl σ w hI hb
  obtain ⟨ha, hw⟩ := hI
  obtain ⟨τ, rfl⟩ := ha.ups
  refine RC.sr ?_
  rcases Bool.eq_false_or_eq_true (decide (s3 < p0.toL.length)) with hn8 | hn8
  rotate_left
  ·replace hb := cF hn8 hb
   refine RL.next_f (i := 0) (s := p0) (p := s3) trivial rfl hw rfl rfl hn8 ?_
   refine RL.extract (v := (vb false)) trivial rfl rfl rfl ?_
   refine RL.nq ?_
   refine RC.cond_f rfl ?_
   refine RC.ex ?_
   obtain rfl := oi hb
   exact ⟨rfl, trivial, hw.pick 1 [0] (new := [it b1 p0 s3]) rfl rfl (by decide) (by decide)⟩
  replace hb := cT hn8 hb
  refine RL.next_t (i := 0) (s := p0) (p := s3) trivial rfl hw rfl rfl hn8 fun w hw => ?_
  refine RL.extract (v := (vb true)) trivial rfl rfl rfl ?_
  refine RL.nq ?_
  refine RC.cond_t rfl ?_
  refine RC.sn ?_
  refine RC.bs ?_
  refine RL.extract (v := (vi (s3 : Int))) trivial rfl rfl rfl ?_
  refine RL.extract (v := (.int .i32 (((Utf8.decode (bs p0) s3).1 : Nat) : Int))) trivial rfl rfl rfl ?_
  refine as_ (vi (s3 : Int)) rfl rfl ?_
  refine as_ (.int .i32 (((Utf8.decode (bs p0) s3).1 : Nat) : Int)) rfl rfl ?_
  refine RL.ns ?_
  refine mv v1 rfl rfl ?_
  refine mv (.int .i32 (((Utf8.decode (bs p0) s3).1 : Nat) : Int)) rfl rfl ?_
  have hw := hw.sc (γ := R32) ⟨(((Utf8.decode (bs p0) s3).1 : Nat) : Int)⟩
  obtain ⟨x9, hx9, hb⟩ := bd hb
  refine RL.callF1 (i := 0) trivial rfl hw rfl h1 2 rfl rfl rfl hx9 fun w hw => ?_
  refine mv (vb p2) rfl rfl ?_
  refine RL.bcmp_eq (a := x9) (b := p2) trivial rfl rfl rfl un4 ?_
  refine RL.nt ?_
  refine RC.cond (b := (x9 == p2)) rfl (fun hc => ?_) (fun hc => ?_)
  rotate_left
  ·replace hb := cF hc hb
   refine RC.skip ?_
   refine blkQ_n ?_
   obtain rfl := oi hb
   exact ⟨rfl, ⟨rfl, rfl, rfl, trivial⟩, hw.pick 2 [1] (new := [it b1 p0 (s3 + (Utf8.decode (bs p0) s3).2)]) rfl rfl (by decide) (by decide)⟩
  replace hb := cT hc hb
  refine RC.sr ?_
  refine mv (vi (s3 : Int)) rfl rfl ?_
  refine as_ (vi (s3 : Int)) rfl rfl ?_
  refine RL.nt ?_
  refine RC.rb ?_
  obtain rfl := oi hb
  exact ⟨rfl, fin1 rfl rfl ⟨rfl, hw.drop 2 rfl⟩⟩
 ·intro r σ w e hK
  subst e
  refine thenQ_r ?_
  obtain rfl := oi hb
  exact hK
 intro s3 σ w e hJ
 subst e
 rw [Fo.cs_go] at hb
 obtain ⟨ha, hw⟩ := hJ
 obtain ⟨τ, rfl⟩ := ha.ups
 refine thenQ_n ?_
 refine RC.sr ?_
 refine as_ (vi (-1)) rfl rfl ?_
 refine RL.nt ?_
 refine RC.ret ?_
 obtain rfl := oi hb
 exact fin1 rfl rfl ⟨rfl, hw.drop 1 rfl⟩
def strings_IndexFunc_R (E : World) (Γ : List HP) (res : Int) (v : Value) (w : World) : Prop := v = (vi res) ∧ Holds E w Γ
def strings_IndexFunc_K (E : World) (Γ : List HP) (r : Int) (σ : Nat → Value) (w : World) : Prop := finQ Tryd.prog 8 Tryd.f145 (strings_IndexFunc_R E Γ r) .ret σ w
theorem strings_IndexFunc_ok (N : Nat) {E w : World} {Γ : List HP} {p0 : Str} {v1 : Value} {p1 : R32 → Option Bool} {res : Int} (hw : Holds E w Γ) (h1 : Fn1 Tryd.prog E Γ v1 p1 (fun (r : Bool) => Value.bool r)) (hb : strings_IndexFunc N p0 p1 = some res) :
    Calls Tryd.prog 145 [(str p0), v1].toArray w (Ret (strings_IndexFunc_R E Γ res)) := by
 unfold strings_IndexFunc at hb
 refine enter Tryd.func145 rfl rfl (Nat.le_of_ble_eq_true rfl) ?_
 refine RC.sr ?_
 refine as_ (vi 0) rfl rfl ?_
 refine RL.ns ?_
 refine mv (str p0) rfl rfl ?_
 refine mv v1 rfl rfl ?_
 obtain ⟨x1, hx1, hb⟩ := bd hb
 refine RL.call trivial rfl fn158 [(str p0), v1, (vb true)] rfl (Calls_ret (strings_indexFunc_ok N (p0 := p0) (p2 := true)  hw (h1.lift 0 rfl) hx1) ?_)
 rintro _ w ⟨rfl, hw⟩
 refine as_ (vi x1) rfl rfl ?_
 refine RL.nt ?_
 refine RC.ret ?_
 obtain rfl := oi hb
 exact fin1 rfl rfl ⟨rfl, hw.drop 0 rfl⟩
def strings_ContainsFunc_R (E : World) (Γ : List HP) (res : Bool) (v : Value) (w : World) : Prop := v = (vb res) ∧ Holds E w Γ
def strings_ContainsFunc_K (E : World) (Γ : List HP) (r : Bool) (σ : Nat → Value) (w : World) : Prop := finQ Tryd.prog 9 Tryd.f123 (strings_ContainsFunc_R E Γ r) .ret σ w
theorem strings_ContainsFunc_ok (N : Nat) {E w : World} {Γ : List HP} {p0 : Str} {v1 : Value} {p1 : R32 → Option Bool} {res : Bool} (hw : Holds E w Γ) (h1 : Fn1 Tryd.prog E Γ v1 p1 (fun (r : Bool) => Value.bool r)) (hb : strings_ContainsFunc N p0 p1 = some res) :
    Calls Tryd.prog 123 [(str p0), v1].toArray w (Ret (strings_ContainsFunc_R E Γ res)) := by
 unfold strings_ContainsFunc at hb
 refine enter Tryd.func123 rfl rfl (Nat.le_of_ble_eq_true rfl) ?_
 refine RC.sr ?_
 refine as_ (vb false) rfl rfl ?_
 refine RL.ns ?_
 refine mv (str p0) rfl rfl ?_
 refine mv v1 rfl rfl ?_
 obtain ⟨x1, hx1, hb⟩ := bd hb
 refine RL.call trivial rfl fn145 [(str p0), v1] rfl (Calls_ret (strings_IndexFunc_ok N (p0 := p0)  hw (h1.lift 0 rfl) hx1) ?_)
 rintro _ w ⟨rfl, hw⟩
 refine ic x1 0 rfl rfl rfl rfl ?_
 refine as_ (vb (decide (x1 ≥ 0))) rfl rfl ?_
 refine RL.nt ?_
 refine RC.ret ?_
 obtain rfl := oi hb
 exact fin1 rfl rfl ⟨rfl, hw.drop 0 rfl⟩
def netlist_isPlain_c1_R (E : World) (Γ : List HP) (res : Bool) (v : Value) (w : World) : Prop := v = (vb res) ∧ Holds E w Γ
def netlist_isPlain_c1_K (E : World) (Γ : List HP) (r : Bool) (σ : Nat → Value) (w : World) : Prop := finQ Tryd.prog 13 Tryd.f124 (netlist_isPlain_c1_R E Γ r) .ret σ w
theorem netlist_isPlain_c1_ok (N : Nat) {E w : World} {Γ : List HP} {p0 : Int} {res : Bool} (hw : Holds E w Γ)  (hb : netlist_isPlain_c1 N p0 = some res) :
    Calls Tryd.prog 124 [(.int .i32 p0)].toArray w (Ret (netlist_isPlain_c1_R E Γ res)) := by
 unfold netlist_isPlain_c1 at hb
 refine enter Tryd.func124 rfl rfl (Nat.le_of_ble_eq_true rfl) ?_
 refine RC.sr ?_
 refine as_ (vb false) rfl rfl ?_
 refine RL.ns ?_
 refine mv (.int .i32 p0) rfl rfl ?_
 refine ic p0 33 rfl rfl rfl rfl ?_
 refine mv (vb (decide (p0 < 33))) rfl rfl ?_
 refine RL.gs (c := true) (b := (decide (p0 < 33))) (v := (.int .i32 p0)) rfl rfl rfl (gs_move rfl (fun _ => rfl)) ?_
 refine RL.gs (c := true) (b := (decide (p0 < 33))) (v := (vb (decide (p0 > 126)))) rfl rfl rfl (gs_icmp (bop := .gtr) (K := .i32) (a := p0) (b := 126) rfl (fun h => by exact (cv_t h : cv (true && ((decide (p0 < 33)) == false)) (.int .i32 p0) = (.int .i32 p0))) (fun _ => rfl) rfl) ?_
 refine RL.pick (b := (decide (p0 < 33))) (v := (vb ((decide (p0 < 33)) || (decide (p0 > 126))))) trivial rfl rfl (pk_or (c := true) rfl) ?_
 refine mv (vb ((decide (p0 < 33)) || (decide (p0 > 126)))) rfl rfl ?_
 refine RL.gs (c := true) (b := ((decide (p0 < 33)) || (decide (p0 > 126)))) (v := (.int .i32 p0)) rfl rfl rfl (gs_move rfl (fun _ => rfl)) ?_
 refine RL.gs (c := true) (b := ((decide (p0 < 33)) || (decide (p0 > 126)))) (v := (vb (p0 == 46))) rfl rfl rfl (gs_icmp (bop := .eql) (K := .i32) (a := p0) (b := 46) rfl (fun h => by exact (cv_t h : cv (true && (((decide (p0 < 33)) || (decide (p0 > 126))) == false)) (.int .i32 p0) = (.int .i32 p0))) (fun _ => rfl) rfl) ?_
 refine RL.pick (b := ((decide (p0 < 33)) || (decide (p0 > 126)))) (v := (vb (((decide (p0 < 33)) || (decide (p0 > 126))) || (p0 == 46)))) trivial rfl rfl (pk_or (c := true) rfl) ?_
 refine as_ (vb (((decide (p0 < 33)) || (decide (p0 > 126))) || (p0 == 46))) rfl rfl ?_
 refine RL.nt ?_
 refine RC.ret ?_
 obtain rfl := oi hb
 exact fin1 rfl rfl ⟨rfl, hw.drop 0 rfl⟩
def netlist_isPlain_R (E : World) (Γ : List HP) (res : Bool) (v : Value) (w : World) : Prop := v = (vb res) ∧ Holds E w Γ
def netlist_isPlain_K (E : World) (Γ : List HP) (r : Bool) (σ : Nat → Value) (w : World) : Prop := finQ Tryd.prog 10 Tryd.f83 (netlist_isPlain_R E Γ r) .ret σ w
theorem netlist_isPlain_ok (N : Nat) {E w : World} {Γ : List HP} {p0 : Str} {res : Bool} (hw : Holds E w Γ)  (hb : netlist_isPlain N p0 = some res) :
    Calls Tryd.prog 83 [(str p0)].toArray w (Ret (netlist_isPlain_R E Γ res)) := by
 unfold netlist_isPlain at hb
 refine enter Tryd.func83 rfl rfl (Nat.le_of_ble_eq_true rfl) ?_
 refine RC.sr ?_
 refine as_ (vb false) rfl rfl ?_
 refine RL.nq ?_
 obtain ⟨s3, hj, hb⟩ := bd hb
 refine RC.jn (fun (s3 : Bool) (σ : Nat → Value) (w : World) => agree σ [(2, (vb s3))] ∧ Holds E w ([] ++ Γ)) s3 ?_ ?_
 ·refine RC.region ?_
  refine mv (str p0) rfl rfl ?_
  refine RL.scmp (a := p0) (b := ⟨[]⟩) trivial rfl rfl rfl rfl ?_
  refine mv (vb (!p0.eqb (⟨[]⟩))) rfl rfl ?_
  rcases Bool.eq_false_or_eq_true (!p0.eqb (⟨[]⟩)) with hg4 | hg4
  rotate_left
  ·replace hj := cF hg4 hj
   refine sk rfl (.inl (cb hg4)) rfl ?_
   refine sk rfl (.inl (cb hg4)) rfl ?_
   refine sk rfl (.inl (cb hg4)) rfl ?_
   refine RL.pick (b := (!p0.eqb (⟨[]⟩))) (v := (vb false)) trivial rfl rfl (by rw [hg4]; rfl) ?_
   refine as_ (vb false) rfl rfl ?_
   refine RL.nil ?_
   obtain rfl := oi hj
   exact ⟨rfl, ⟨rfl, trivial⟩, hw.pick 0 [] (new := []) rfl rfl (by decide) (by decide)⟩
  replace hj := cT hg4 hj
  refine RL.move (v := (str p0)) ⟨_, rfl, cb hg4⟩ rfl rfl ?_
  obtain ⟨x5, hx5, hj⟩ := bd hj
  refine RL.call ⟨_, rfl, cb hg4⟩ rfl fn123 [(str p0), (.func (.func 124) #[] #[])] rfl (Calls_ret (strings_ContainsFunc_ok N (p0 := p0)  hw ⟨124, [], rfl, fn124, fun w Γl v y0 r i hw hi hr => by obtain rfl := hw.ofSc (γ := R32) hi; exact Calls_ret (netlist_isPlain_c1_ok N (p0 := y0.n) hw hr) fun _ _ h => h⟩ hx5) ?_)
  rintro _ w ⟨rfl, hw⟩
  refine RL.not (b := x5) ⟨_, rfl, cb hg4⟩ rfl rfl ?_
  refine RL.pick (b := (!p0.eqb (⟨[]⟩))) (v := (vb (!x5))) trivial rfl rfl (by rw [hg4]; rfl) ?_
  refine as_ (vb (!x5)) rfl rfl ?_
  refine RL.nil ?_
  obtain rfl := oi hj
  exact ⟨rfl, ⟨rfl, trivial⟩, hw.pick 0 [] (new := []) rfl rfl (by decide) (by decide)⟩
 rintro σ w ⟨ha, hw⟩
 obtain ⟨τ, rfl⟩ := ha.ups
 refine thenQ_n ?_
 refine RC.ret ?_
 obtain rfl := oi hb
 exact fin1 rfl rfl ⟨rfl, hw.drop 0 rfl⟩
def netlist_readLine_R (E : World) (Γ : List HP) (b0 : Nat) (res : Bool × (List Part) × (List Net)) (v : Value) (w : World) : Prop := ∃ u0_0 u0_1 : Value, v = (vb res.1) ∧ Holds E w (bc 26 b0 [u0_0, u0_1] :: own 87 u0_0 res.2.1 :: own 64 u0_1 res.2.2 :: Γ)
def netlist_readLine_K (E : World) (Γ : List HP) (b0 : Nat) (r : Bool × (List Part) × (List Net)) (σ : Nat → Value) (w : World) : Prop := finQ Tryd.prog 120 Tryd.f59 (netlist_readLine_R E Γ b0 r) .ret σ w
theorem netlist_readLine_ok (N : Nat) {E w : World} {Γ : List HP} {b0 : Nat} {v0_0 : Value} {p0_0 : (List Part)} {v0_1 : Value} {p0_1 : (List Net)} {p1 : Str} {res : Bool × (List Part) × (List Net)} (hw : Holds E w (bc 26 b0 [v0_0, v0_1] :: own 87 v0_0 p0_0 :: own 64 v0_1 p0_1 :: Γ))  (hb : netlist_readLine N p0_0 p0_1 p1 = some res) :
    Calls Tryd.prog 59 [(vp b0 0), (str p1)].toArray w (Ret (netlist_readLine_R E Γ b0 res)) := by
 unfold netlist_readLine at hb
 refine enter Tryd.func59 rfl rfl (Nat.le_of_ble_eq_true rfl) ?_
 refine RC.sr ?_
 refine as_ (vb false) rfl rfl ?_
 refine RL.ns ?_
 refine mv (str p1) rfl rfl ?_
 obtain ⟨x1, hx1, hb⟩ := bd hb
 refine RL.call trivial rfl fn60 [(str p1), (str ⟨[32]⟩)] rfl (Calls_ret (strings_Split_ok N (p0 := p1) (p1 := ⟨[32]⟩)  hw  hx1) ?_)
 rintro v2 w hw
 refine as_ v2 rfl rfl ?_
 refine RL.nq ?_
 refine RC.block ?_
 refine RC.seq ?_
 obtain ⟨s9, hj, hb⟩ := bd hb
 refine RC.jn (fun (s9 : Bool) (σ : Nat → Value) (w : World) => agree σ [(0, (vp b0 0)), (5, v2), (14, (vb s9))] ∧ Holds E w ([bc 26 b0 [v0_0, v0_1], own 87 v0_0 p0_0, own 64 v0_1 p0_1, own 9 v2 x1] ++ Γ)) s9 ?_ ?_
 ·refine RC.region ?_
  refine mv v2 rfl rfl ?_
  obtain ⟨x10, hx10, hj⟩ := bd hj
  refine RL.ia_ownA (i := 0) trivial rfl hw rfl rfl rfl sl55 hx10 ?_
  refine RL.load_els (i := 0) (f := (fun x => x)) trivial rfl hw rfl (elp hw (i := 0) rfl hx10 0) rfl (idx_some hx10).2.1 Fd.self ty9 ?_
  refine RL.scmp (a := x10) (b := ⟨[112, 97, 114, 116]⟩) trivial rfl rfl rfl rfl ?_
  refine mv (vb (x10.eqb (⟨[112, 97, 114, 116]⟩))) rfl rfl ?_
  rcases Bool.eq_false_or_eq_true (x10.eqb (⟨[112, 97, 114, 116]⟩)) with hg11 | hg11
  rotate_left
  ·replace hj := cF hg11 hj
   refine sk rfl (.inl (cb hg11)) rfl ?_
   refine sk rfl (.inl (cb hg11)) rfl ?_
   refine sk rfl (.inl (cb hg11)) rfl ?_
   refine RL.pick (b := (x10.eqb (⟨[112, 97, 114, 116]⟩))) (v := (vb false)) trivial rfl rfl (by rw [hg11]; rfl) ?_
   refine mv (vb false) rfl rfl ?_
   refine sk rfl (.inl rfl) rfl ?_
   refine sk rfl (.inl rfl) rfl ?_
   refine sk rfl (.inl rfl) rfl ?_
   refine sk rfl (.inl rfl) rfl ?_
   refine sk rfl (.inl rfl) rfl ?_
   refine sk rfl (.inl rfl) rfl ?_
   refine RL.pick (b := false) (v := (vb false)) trivial rfl rfl rfl ?_
   refine as_ (vb false) rfl rfl ?_
   refine RL.nil ?_
   obtain rfl := oi hj
   exact ⟨rfl, ⟨rfl, rfl, rfl, trivial⟩, hw.pick 4 [1, 2, 3, 0] (new := [bc 26 b0 [v0_0, v0_1], own 87 v0_0 p0_0, own 64 v0_1 p0_1, own 9 v2 x1]) rfl rfl (by decide) (by decide)⟩
  replace hj := cT hg11 hj
  refine RL.move (v := v2) ⟨_, rfl, cb hg11⟩ rfl rfl ?_
  refine RL.len_own (i := 0) (l := x1) ⟨_, rfl, cb hg11⟩ rfl hw rfl rfl un55 ?_
  refine RL.icmp (a := (x1.length : Int)) (b := 3) ⟨_, rfl, cb hg11⟩ rfl rfl rfl rfl ?_
  refine RL.pick (b := (x10.eqb (⟨[112, 97, 114, 116]⟩))) (v := (vb ((x1.length : Int) == 3))) trivial rfl rfl (by rw [hg11]; rfl) ?_
  refine mv (vb ((x1.length : Int) == 3)) rfl rfl ?_
  rcases Bool.eq_false_or_eq_true ((x1.length : Int) == 3) with hg12 | hg12
  ·replace hj := cT hg12 hj
   refine RL.move (v := (vp b0 0)) ⟨_, rfl, cb hg12⟩ rfl rfl ?_
   refine RL.nilCheck ⟨_, rfl, cb hg12⟩ rfl rfl ?_
   refine RL.fa_b ⟨_, rfl, cb hg12⟩ rfl rfl fa26_1 ?_
   refine RL.load_bc (i := 1) (v := v0_1) ⟨_, rfl, cb hg12⟩ rfl hw rfl rfl rfl ty24 ?_
   refine RL.len_own (i := 3) (l := p0_1) ⟨_, rfl, cb hg12⟩ rfl hw rfl rfl un24 ?_
   refine RL.icmp (a := (p0_1.length : Int)) (b := 0) ⟨_, rfl, cb hg12⟩ rfl rfl rfl rfl ?_
   refine RL.pick (b := ((x1.length : Int) == 3)) (v := (vb ((p0_1.length : Int) == 0))) trivial rfl rfl (by rw [hg12]; rfl) ?_
   refine as_ (vb ((p0_1.length : Int) == 0)) rfl rfl ?_
   refine RL.nil ?_
   obtain rfl := oi hj
   exact ⟨rfl, ⟨rfl, rfl, rfl, trivial⟩, hw.pick 4 [1, 2, 3, 0] (new := [bc 26 b0 [v0_0, v0_1], own 87 v0_0 p0_0, own 64 v0_1 p0_1, own 9 v2 x1]) rfl rfl (by decide) (by decide)⟩
  replace hj := cF hg12 hj
  refine sk rfl (.inl (cb hg12)) rfl ?_
  refine sk rfl (.inl (cb hg12)) rfl ?_
  refine sk rfl (.inl (cb hg12)) rfl ?_
  refine sk rfl (.inl (cb hg12)) rfl ?_
  refine sk rfl (.inl (cb hg12)) rfl ?_
  refine sk rfl (.inl (cb hg12)) rfl ?_
  refine RL.pick (b := ((x1.length : Int) == 3)) (v := (vb false)) trivial rfl rfl (by rw [hg12]; rfl) ?_
  refine as_ (vb false) rfl rfl ?_
  refine RL.nil ?_
  obtain rfl := oi hj
  exact ⟨rfl, ⟨rfl, rfl, rfl, trivial⟩, hw.pick 4 [1, 2, 3, 0] (new := [bc 26 b0 [v0_0, v0_1], own 87 v0_0 p0_0, own 64 v0_1 p0_1, own 9 v2 x1]) rfl rfl (by decide) (by decide)⟩
 rintro σ w ⟨ha, hw⟩
 obtain ⟨τ, rfl⟩ := ha.ups
 refine thenQ_n ?_
 refine RC.cond (b := s9) rfl (fun hc => ?_) (fun hc => ?_)
 ·replace hb := cT hc hb
  refine RC.seq ?_
  obtain ⟨x195, hx195, hb⟩ := bd hb
  obtain ⟨x196, hx196, hb⟩ := bd hb
  obtain ⟨x199, hx199, hb⟩ := bd hb
  refine RC.drw mixed rfl (fun (D : Nat → Bool) (σ : Nat → Value) (w : World) => ∃ (v197 : Value) (v198 : Value) (v200 : Value), doneV D σ [(0, 32, (vp b0 0)), (1, 33, (vp b0 0)), (2, 34, (vp b0 0)), (3, 35, (vp b0 0)), (4, 36, v0_0), (5, 37, v2), (6, 38, (elA v2 (Int.toNat 1) 1 0)), (7, 39, (str x195)), (8, 40, v2), (9, 41, (elA v2 (Int.toNat 2) 1 0)), (10, 42, (str x196)), (11, 43, v197), (12, 44, v198), (13, 45, v200), (14, 46, (vp b0 0)), (15, 47, (vp b0 0))] ∧ agree σ [(0, (vp b0 0)), (5, v2)] ∧ Holds E w ([bif D 11 then (rd v197 (⟨x195, x196⟩ : Part)) else junk, bif D 13 then (rd v198 ([(⟨x195, x196⟩ : Part)] : (List Part))) else (bif D 12 then (own 87 v198 ([(⟨x195, x196⟩ : Part)] : (List Part))) else junk), bif D 16 then (bc 26 b0 [v200, v0_1]) else (bc 26 b0 [v0_0, v0_1]), bif D 13 then (own 87 v200 x199) else (own 87 v0_0 p0_0), own 64 v0_1 p0_1, own 9 v2 x1] ++ Γ)) ?_ ⟨?_, ?_, ?_, ?_, ?_, ?_, ?_, ?_, ?_, ?_, ?_, ?_, ?_, ?_, ?_, ?_, ?_, trivial⟩ ?_
  ·have hw := hw.drew
   have hw := hw.junk
   have hw := hw.junk
   exact ⟨undef, undef, undef, doneV.none, ⟨rfl, rfl, trivial⟩, hw⟩
  ·rintro D σ w hD hdep hcl ⟨v197, v198, v200, hv, ha, hw⟩
   obtain ⟨τ, rfl⟩ := (ac (ha.at 0 rfl) az).ups
   refine mv (vp b0 0) rfl rfl ?_
   refine RL.nil ?_
   exact ⟨rfl, v197, v198, v200, hv.put 0 rfl rfl, ha.up rfl, hw⟩
  ·rintro D σ w hD hdep hcl ⟨v197, v198, v200, hv, ha, hw⟩
   obtain ⟨τ, rfl⟩ := (ac (ha.at 0 rfl) az).ups
   refine mv (vp b0 0) rfl rfl ?_
   refine RL.nil ?_
   exact ⟨rfl, v197, v198, v200, hv.put 1 rfl rfl, ha.up rfl, hw⟩
  ·rintro D σ w hD hdep hcl ⟨v197, v198, v200, hv, ha, hw⟩
   obtain ⟨τ, rfl⟩ := (ac (hv.at 1 rfl (hdep.1 rfl)) az).ups
   refine RL.nilCheck trivial rfl rfl ?_
   refine RL.nil ?_
   exact ⟨rfl, v197, v198, v200, hv.put 2 rfl rfl, ha.up rfl, hw⟩
  ·rintro D σ w hD hdep hcl ⟨v197, v198, v200, hv, ha, hw⟩
   obtain ⟨τ, rfl⟩ := (ac (hv.at 2 rfl (hdep.1 rfl)) az).ups
   refine RL.fa_b trivial rfl rfl fa26_0 ?_
   refine RL.nil ?_
   exact ⟨rfl, v197, v198, v200, hv.put 3 rfl rfl, ha.up rfl, hw⟩
  ·rintro D σ w hD hdep hcl ⟨v197, v198, v200, hv, ha, hw⟩
   obtain ⟨τ, rfl⟩ := (ac (hv.at 3 rfl (hdep.1 rfl)) az).ups
   have hw := hw.selF (i := 2) rfl (nf (fun h => ft hD ((hcl 16 _ rfl h).2.2.2.2.2.2.2.1 rfl)))
   refine RL.load_bc (i := 2) (v := v0_0) trivial rfl hw rfl rfl rfl ty23 ?_
   have hw := hw.altF (i := 2) (b := D 16) rfl (nf (fun h => ft hD ((hcl 16 _ rfl h).2.2.2.2.2.2.2.1 rfl))) (bc 26 b0 [v200, v0_1])
   refine RL.nil ?_
   exact ⟨rfl, v197, v198, v200, hv.put 4 rfl rfl, ha.up rfl, hw⟩
  ·rintro D σ w hD hdep hcl ⟨v197, v198, v200, hv, ha, hw⟩
   obtain ⟨τ, rfl⟩ := (ac (ha.at 1 rfl) az).ups
   refine mv v2 rfl rfl ?_
   refine RL.nil ?_
   exact ⟨rfl, v197, v198, v200, hv.put 5 rfl rfl, ha.up rfl, hw⟩
  ·rintro D σ w hD hdep hcl ⟨v197, v198, v200, hv, ha, hw⟩
   obtain ⟨τ, rfl⟩ := (ac (hv.at 5 rfl (hdep.1 rfl)) az).ups
   refine RL.ia_ownA (i := 5) trivial rfl hw rfl rfl rfl sl55 hx195 ?_
   refine RL.nil ?_
   exact ⟨rfl, v197, v198, v200, hv.put 6 rfl rfl, ha.up rfl, hw⟩
  ·rintro D σ w hD hdep hcl ⟨v197, v198, v200, hv, ha, hw⟩
   obtain ⟨τ, rfl⟩ := (ac (hv.at 6 rfl (hdep.1 rfl)) az).ups
   refine RL.load_els (i := 5) (f := (fun x => x)) trivial rfl hw rfl (elp hw (i := 5) rfl hx195 0) rfl (idx_some hx195).2.1 Fd.self ty9 ?_
   refine RL.nil ?_
   exact ⟨rfl, v197, v198, v200, hv.put 7 rfl rfl, ha.up rfl, hw⟩
  ·rintro D σ w hD hdep hcl ⟨v197, v198, v200, hv, ha, hw⟩
   obtain ⟨τ, rfl⟩ := (ac (ha.at 1 rfl) az).ups
   refine mv v2 rfl rfl ?_
   refine RL.nil ?_
   exact ⟨rfl, v197, v198, v200, hv.put 8 rfl rfl, ha.up rfl, hw⟩
  ·rintro D σ w hD hdep hcl ⟨v197, v198, v200, hv, ha, hw⟩
   obtain ⟨τ, rfl⟩ := (ac (hv.at 8 rfl (hdep.1 rfl)) az).ups
   refine RL.ia_ownA (i := 5) trivial rfl hw rfl rfl rfl sl55 hx196 ?_
   refine RL.nil ?_
   exact ⟨rfl, v197, v198, v200, hv.put 9 rfl rfl, ha.up rfl, hw⟩
  ·rintro D σ w hD hdep hcl ⟨v197, v198, v200, hv, ha, hw⟩
   obtain ⟨τ, rfl⟩ := (ac (hv.at 9 rfl (hdep.1 rfl)) az).ups
   refine RL.load_els (i := 5) (f := (fun x => x)) trivial rfl hw rfl (elp hw (i := 5) rfl hx196 0) rfl (idx_some hx196).2.1 Fd.self ty9 ?_
   refine RL.nil ?_
   exact ⟨rfl, v197, v198, v200, hv.put 10 rfl rfl, ha.up rfl, hw⟩
  ·rintro D σ w hD hdep hcl ⟨v197, v198, v200, hv, ha, hw⟩
   obtain ⟨τ, rfl⟩ := (ac (hv.at 7 rfl (hdep.1 rfl)) (ac (hv.at 10 rfl (hdep.2.1 rfl)) az)).ups
   have hw := hw.selF (i := 0) rfl hD
   have hw := hw.sc (γ := Str) x195
   have hw := hw.sc (γ := Str) x196
   refine RL.build (y := (⟨x195, x196⟩ : Part)) trivial rfl hw [(0, (str x195)), (1, (str x196))] rfl st87 rfl (fun M hs g => by have h := z_Part M; exact Fills.cons (f := fun (x : Part) y => { x with Name := y }) rfl h fs_Part_0 (by decide) (g.sat 1 _ rfl).1 fun _ h => Fills.cons (f := fun (x : Part) y => { x with Type_ := y }) rfl h fs_Part_1 (by decide) (g.sat 0 _ rfl).1 fun _ h => Fills.nil h) fun v201 hw => ?_
   have hw := hw.pick 9 [0, 4, 5, 6, 7, 8] (new := [rd v201 (⟨x195, x196⟩ : Part), bif D 13 then (rd v198 ([(⟨x195, x196⟩ : Part)] : (List Part))) else (bif D 12 then (own 87 v198 ([(⟨x195, x196⟩ : Part)] : (List Part))) else junk), bif D 16 then (bc 26 b0 [v200, v0_1]) else (bc 26 b0 [v0_0, v0_1]), bif D 13 then (own 87 v200 x199) else (own 87 v0_0 p0_0), own 64 v0_1 p0_1, own 9 v2 x1]) rfl rfl (by decide) (by decide)
   have hw := hw.altT (i := 0) (b := true) rfl rfl (junk)
   refine RL.nil ?_
   exact ⟨rfl, v201, v198, v200, hv.put 11 rfl rfl, ha.up rfl, hw⟩
  ·rintro D σ w hD hdep hcl ⟨v197, v198, v200, hv, ha, hw⟩
   obtain ⟨τ, rfl⟩ := (ac (hv.at 11 rfl (hdep.1 rfl)) az).ups
   have hw := hw.selT (i := 0) rfl (hdep.1 rfl)
   have hw := hw.selF (i := 1) rfl (nf (fun h => ft hD ((hcl 13 _ rfl h).2.1 rfl)))
   have hw := hw.selF (i := 1) rfl hD
   refine RL.bslice (l := ([(⟨x195, x196⟩ : Part)] : (List Part))) trivial rfl hw [v197] rfl rfl rfl sl23 ze87 (fun M hs g => ⟨(g.sat 0 _ rfl).1, trivial⟩) fun v202 w hw => ?_
   have hw := hw.pick 7 [1, 0, 3, 4, 5, 6] (new := [rd v197 (⟨x195, x196⟩ : Part), own 87 v202 ([(⟨x195, x196⟩ : Part)] : (List Part)), bif D 16 then (bc 26 b0 [v200, v0_1]) else (bc 26 b0 [v0_0, v0_1]), bif D 13 then (own 87 v200 x199) else (own 87 v0_0 p0_0), own 64 v0_1 p0_1, own 9 v2 x1]) rfl rfl (by decide) (by decide)
   have hw := hw.altT (i := 0) (b := D 11) rfl (hdep.1 rfl) (junk)
   have hw := hw.altT (i := 1) (b := true) rfl rfl (junk)
   have hw := hw.altF (i := 1) (b := D 13) rfl (nf (fun h => ft hD ((hcl 13 _ rfl h).2.1 rfl))) (rd v202 ([(⟨x195, x196⟩ : Part)] : (List Part)))
   refine RL.nil ?_
   exact ⟨rfl, v197, v202, v200, hv.put 12 rfl rfl, ha.up rfl, hw⟩
  ·rintro D σ w hD hdep hcl ⟨v197, v198, v200, hv, ha, hw⟩
   obtain ⟨τ, rfl⟩ := (ac (hv.at 4 rfl (hdep.1 rfl)) (ac (hv.at 12 rfl (hdep.2.1 rfl)) az)).ups
   have hw := hw.selF (i := 1) rfl hD
   have hw := hw.selT (i := 1) rfl (hdep.2.1 rfl)
   have hw := hw.selF (i := 2) rfl (nf (fun h => ft hD ((hcl 16 _ rfl h).2.1 rfl)))
   have hw := hw.selF (i := 3) rfl hD
   have hw := hw.freeze (i := 1) rfl
   refine RL.app (i := 3) (j := 1) trivial rfl hw rfl rfl rfl rfl el23 hx199 fun v203 w hw => ?_
   have hw := hw.altT (i := 1) (b := true) rfl rfl (bif D 12 then (own 87 v198 ([(⟨x195, x196⟩ : Part)] : (List Part))) else junk)
   have hw := hw.altF (i := 2) (b := D 16) rfl (nf (fun h => ft hD ((hcl 16 _ rfl h).2.1 rfl))) (bc 26 b0 [v203, v0_1])
   have hw := hw.altT (i := 3) (b := true) rfl rfl (own 87 v0_0 p0_0)
   refine RL.nil ?_
   exact ⟨rfl, v197, v198, v203, hv.put 13 rfl rfl, ha.up rfl, hw⟩
  ·rintro D σ w hD hdep hcl ⟨v197, v198, v200, hv, ha, hw⟩
   obtain ⟨τ, rfl⟩ := (ac (hv.at 0 rfl (hdep.1 rfl)) az).ups
   refine RL.nilCheck trivial rfl rfl ?_
   refine RL.nil ?_
   exact ⟨rfl, v197, v198, v200, hv.put 14 rfl rfl, ha.up rfl, hw⟩
  ·rintro D σ w hD hdep hcl ⟨v197, v198, v200, hv, ha, hw⟩
   obtain ⟨τ, rfl⟩ := (ac (hv.at 14 rfl (hdep.1 rfl)) az).ups
   refine RL.fa_b trivial rfl rfl fa26_0 ?_
   refine RL.nil ?_
   exact ⟨rfl, v197, v198, v200, hv.put 15 rfl rfl, ha.up rfl, hw⟩
  ·rintro D σ w hD hdep hcl ⟨v197, v198, v200, hv, ha, hw⟩
   obtain ⟨τ, rfl⟩ := (ac (hv.at 13 rfl (hdep.2.1 rfl)) (ac (hv.at 15 rfl (hdep.1 rfl)) az)).ups
   have hw := hw.selF (i := 2) rfl hD
   have hw := hw.selT (i := 3) rfl (hdep.2.1 rfl)
   refine RL.store_bc (i := 2) (v := v200) trivial hw rfl rfl rfl rfl (one_own hw (i := 3) rfl) ty23 fun w hw => ?_
   have hw := hw.altT (i := 2) (b := true) rfl rfl (bc 26 b0 [v0_0, v0_1])
   have hw := hw.altT (i := 3) (b := D 13) rfl (hdep.2.1 rfl) (own 87 v0_0 p0_0)
   refine RL.nil ?_
   exact ⟨rfl, v197, v198, v200, hv.no rfl, ha, hw⟩
  rintro D σ w hall ⟨v197, v198, v200, hv, ha, hw⟩
  rw [hall 11 (by decide), hall 12 (by decide), hall 13 (by decide), hall 16 (by decide)] at hw
  obtain ⟨τ, rfl⟩ := (ac (ha.at 0 rfl) (ac (ha.at 1 rfl) az)).ups
  refine thenQ_n ?_
  refine RC.seq ?_
  obtain ⟨s211, hj, hb⟩ := bd hb
  refine RC.jn (fun (s211 : Bool) (σ : Nat → Value) (w : World) => agree σ [(0, (vp b0 0)), (4, (vb s211))] ∧ Holds E w ([bc 26 b0 [v200, v0_1], own 87 v200 x199, own 64 v0_1 p0_1] ++ Γ)) s211 ?_ ?_
  ·refine RC.region ?_
   refine mv v2 rfl rfl ?_
   obtain ⟨x212, hx212, hj⟩ := bd hj
   refine RL.ia_ownA (i := 5) trivial rfl hw rfl rfl rfl sl55 hx212 ?_
   refine RL.load_els (i := 5) (f := (fun x => x)) trivial rfl hw rfl (elp hw (i := 5) rfl hx212 0) rfl (idx_some hx212).2.1 Fd.self ty9 ?_
   obtain ⟨x213, hx213, hj⟩ := bd hj
   refine RL.call trivial rfl fn83 [(str x212)] rfl (Calls_ret (netlist_isPlain_ok N (p0 := x212)  hw  hx213) ?_)
   rintro _ w ⟨rfl, hw⟩
   refine mv (vb x213) rfl rfl ?_
   rcases Bool.eq_false_or_eq_true x213 with hg214 | hg214
   rotate_left
   ·replace hj := cF hg214 hj
    refine sk rfl (.inl (cb hg214)) rfl ?_
    refine sk rfl (.inl (cb hg214)) rfl ?_
    refine sk rfl (.inl (cb hg214)) rfl ?_
    refine sk rfl (.inl (cb hg214)) rfl ?_
    refine RL.pick (b := x213) (v := (vb false)) trivial rfl rfl (by rw [hg214]; rfl) ?_
    refine as_ (vb false) rfl rfl ?_
    refine RL.nil ?_
    obtain rfl := oi hj
    exact ⟨rfl, ⟨rfl, rfl, trivial⟩, hw.pick 6 [2, 3, 4] (new := [bc 26 b0 [v200, v0_1], own 87 v200 x199, own 64 v0_1 p0_1]) rfl rfl (by decide) (by decide)⟩
   replace hj := cT hg214 hj
   refine RL.move (v := v2) ⟨_, rfl, cb hg214⟩ rfl rfl ?_
   obtain ⟨x215, hx215, hj⟩ := bd hj
   refine RL.ia_ownA (i := 5) ⟨_, rfl, cb hg214⟩ rfl hw rfl rfl rfl sl55 hx215 ?_
   refine RL.load_els (i := 5) (f := (fun x => x)) ⟨_, rfl, cb hg214⟩ rfl hw rfl (elp hw (i := 5) rfl hx215 0) rfl (idx_some hx215).2.1 Fd.self ty9 ?_
   obtain ⟨x216, hx216, hj⟩ := bd hj
   refine RL.call ⟨_, rfl, cb hg214⟩ rfl fn83 [(str x215)] rfl (Calls_ret (netlist_isPlain_ok N (p0 := x215)  hw  hx216) ?_)
   rintro _ w ⟨rfl, hw⟩
   refine RL.pick (b := x213) (v := (vb x216)) trivial rfl rfl (by rw [hg214]; rfl) ?_
   refine as_ (vb x216) rfl rfl ?_
   refine RL.nil ?_
   obtain rfl := oi hj
   exact ⟨rfl, ⟨rfl, rfl, trivial⟩, hw.pick 6 [2, 3, 4] (new := [bc 26 b0 [v200, v0_1], own 87 v200 x199, own 64 v0_1 p0_1]) rfl rfl (by decide) (by decide)⟩
  rintro σ w ⟨ha, hw⟩
  obtain ⟨τ, rfl⟩ := ha.ups
  refine thenQ_n ?_
  refine RC.rb ?_
  refine thenQ_r ?_
  obtain rfl := oi hb
  exact fin1 rfl rfl ⟨v200, v0_1, rfl, hw.pick 3 [0, 1, 2] (new := [bc 26 b0 [v200, v0_1], own 87 v200 x199, own 64 v0_1 p0_1]) rfl rfl (by decide) (by decide)⟩
 replace hb := cF hc hb
 refine RC.seq ?_
 obtain ⟨s220, hj, hb⟩ := bd hb
 refine RC.jn (fun (s220 : Bool) (σ : Nat → Value) (w : World) => agree σ [(0, (vp b0 0)), (5, v2), (58, (vb s220))] ∧ Holds E w ([bc 26 b0 [v0_0, v0_1], own 87 v0_0 p0_0, own 64 v0_1 p0_1, own 9 v2 x1] ++ Γ)) s220 ?_ ?_
 ·refine RC.region ?_
  refine mv v2 rfl rfl ?_
  obtain ⟨x221, hx221, hj⟩ := bd hj
  refine RL.ia_ownA (i := 3) trivial rfl hw rfl rfl rfl sl55 hx221 ?_
  refine RL.load_els (i := 3) (f := (fun x => x)) trivial rfl hw rfl (elp hw (i := 3) rfl hx221 0) rfl (idx_some hx221).2.1 Fd.self ty9 ?_
  refine RL.scmp (a := x221) (b := ⟨[110, 101, 116]⟩) trivial rfl rfl rfl rfl ?_
  refine mv (vb (x221.eqb (⟨[110, 101, 116]⟩))) rfl rfl ?_
  rcases Bool.eq_false_or_eq_true (x221.eqb (⟨[110, 101, 116]⟩)) with hg222 | hg222
  ·replace hj := cT hg222 hj
   refine RL.move (v := v2) ⟨_, rfl, cb hg222⟩ rfl rfl ?_
   refine RL.len_own (i := 3) (l := x1) ⟨_, rfl, cb hg222⟩ rfl hw rfl rfl un55 ?_
   refine RL.icmp (a := (x1.length : Int)) (b := 2) ⟨_, rfl, cb hg222⟩ rfl rfl rfl rfl ?_
   refine RL.pick (b := (x221.eqb (⟨[110, 101, 116]⟩))) (v := (vb (decide ((x1.length : Int) ≥ 2)))) trivial rfl rfl (by rw [hg222]; rfl) ?_
   refine as_ (vb (decide ((x1.length : Int) ≥ 2))) rfl rfl ?_
   refine RL.nil ?_
   obtain rfl := oi hj
   exact ⟨rfl, ⟨rfl, rfl, rfl, trivial⟩, hw.pick 4 [0, 1, 2, 3] (new := [bc 26 b0 [v0_0, v0_1], own 87 v0_0 p0_0, own 64 v0_1 p0_1, own 9 v2 x1]) rfl rfl (by decide) (by decide)⟩
  replace hj := cF hg222 hj
  refine sk rfl (.inl (cb hg222)) rfl ?_
  refine sk rfl (.inl (cb hg222)) rfl ?_
  refine sk rfl (.inl (cb hg222)) rfl ?_
  refine RL.pick (b := (x221.eqb (⟨[110, 101, 116]⟩))) (v := (vb false)) trivial rfl rfl (by rw [hg222]; rfl) ?_
  refine as_ (vb false) rfl rfl ?_
  refine RL.nil ?_
  obtain rfl := oi hj
  exact ⟨rfl, ⟨rfl, rfl, rfl, trivial⟩, hw.pick 4 [0, 1, 2, 3] (new := [bc 26 b0 [v0_0, v0_1], own 87 v0_0 p0_0, own 64 v0_1 p0_1, own 9 v2 x1]) rfl rfl (by decide) (by decide)⟩
 rintro σ w ⟨ha, hw⟩
 obtain ⟨τ, rfl⟩ := ha.ups
 refine thenQ_n ?_
 refine RC.cond (b := s220) rfl (fun hc => ?_) (fun hc => ?_)
 rotate_left
 ·replace hb := cF hc hb
  refine RC.skip ?_
  refine blkQ_n ?_
  refine thenQ_n ?_
  refine RC.sr ?_
  refine as_ (vb false) rfl rfl ?_
  refine RL.nt ?_
  refine RC.ret ?_
  obtain rfl := oi hb
  exact fin1 rfl rfl ⟨v0_0, v0_1, rfl, hw.pick 4 [0, 1, 2] (new := [bc 26 b0 [v0_0, v0_1], own 87 v0_0 p0_0, own 64 v0_1 p0_1]) rfl rfl (by decide) (by decide)⟩
 replace hb := cT hc hb
 refine RC.sr ?_
 refine mv v2 rfl rfl ?_
 obtain ⟨x300, hx300, hb⟩ := bd hb
 refine RL.ia_ownA (i := 3) trivial rfl hw rfl rfl rfl sl55 hx300 ?_
 refine RL.load_els (i := 3) (f := (fun x => x)) trivial rfl hw rfl (elp hw (i := 3) rfl hx300 0) rfl (idx_some hx300).2.1 Fd.self ty9 ?_
 refine RL.buildc (zs := [(.string ⟨#[]⟩), (.slice none 0 0), (.slice none 0 0)]) (cs := [(str x300), (.slice none 0 0), (.slice none 0 0)]) trivial rfl [(0, (str x300))] rfl st64 ⟨rfl, trivial⟩ rfl ?_
 refine RL.alloc_bc trivial rfl hw zc64 rfl fun b301 w hw => ?_
 refine RL.store_bca (i := 0) (cs := [(str x300), (.slice none 0 0), (.slice none 0 0)]) trivial hw rfl rfl rfl (oneL.all (⟨rfl, rfl, rfl, trivial⟩ : oneL [(str x300), (.slice none 0 0), (.slice none 0 0)])) ty64 rfl rfl fun w hw => ?_
 refine RL.nq ?_
 refine RC.sr ?_
 refine mv v2 rfl rfl ?_
 have hw := hw.freeze (i := 4) rfl
 obtain ⟨x302, hx302, hb⟩ := bd hb
 refine RL.cut (i := 4) trivial rfl hw rfl rfl sl55 (.inl rfl) (.inr ⟨rfl, rfl⟩) hx302 fun v303 hw => ?_
 refine RL.len_rd (i := 0) (l := x302) trivial rfl hw rfl rfl un55 ?_
 refine mv (vi 0) rfl rfl ?_
 refine RL.nt ?_
 obtain ⟨o376, hN, hb⟩ := bd hb
 refine RC.range (fun (k304 : Nat) (s305 : (List Pin)) (σ : Nat → Value) (w : World) => ∃ v344 : Value, agree σ [(0, (vp b0 0)), (5, v2), (6, (vp b301 0)), (73, v303), (74, (vi (x302.length : Int))), (75, (vi (k304 : Int)))] ∧ Holds E w ([bc 26 b0 [v0_0, v0_1], own 87 v0_0 p0_0, own 64 v0_1 p0_1, rd v2 x1, bc 64 b301 [(str x300), v344, (.slice none 0 0)], own 28 v344 s305, rd v303 x302] ++ Γ)) (fun (s305 : (List Pin)) (σ : Nat → Value) (w : World) => ∃ v345 : Value, agree σ [(0, (vp b0 0)), (5, v2), (6, (vp b301 0))] ∧ Holds E w ([bc 26 b0 [v0_0, v0_1], own 87 v0_0 p0_0, own 64 v0_1 p0_1, rd v2 x1, bc 64 b301 [(str x300), v345, (.slice none 0 0)], own 28 v345 s305, rd v303 x302] ++ Γ)) (netlist_readLine_K E Γ b0) hN ?_ ?_ ?_ ?_ ?_ 
 ·have hw := hw.own_nil Pin 28
  exact ⟨(.slice none 0 0), ⟨rfl, rfl, rfl, rfl, rfl, rfl, trivial⟩, hw.pick 7 [3, 4, 5, 6, 2, 0, 1] (new := [bc 26 b0 [v0_0, v0_1], own 87 v0_0 p0_0, own 64 v0_1 p0_1, rd v2 x1, bc 64 b301 [(str x300), (.slice none 0 0), (.slice none 0 0)], own 28 (.slice none 0 0) ([] : (List Pin)), rd v303 x302]) rfl rfl (by decide) (by decide)⟩
 ·intro hm s305 σ w hI
  obtain ⟨v365, ha, hw⟩ := hI
  obtain ⟨τ, rfl⟩ := ha.ups
  refine RC.sr ?_
  refine ic ((x302.length : Int)) ((x302.length : Int)) rfl rfl rfl rfl ?_
  refine RL.nq ?_
  refine RC.cond_f dge ?_
  refine RC.ex ?_
  exact ⟨rfl, v365, ⟨rfl, rfl, rfl, trivial⟩, hw.pick 7 [0, 1, 2, 3, 4, 5, 6] (new := [bc 26 b0 [v0_0, v0_1], own 87 v0_0 p0_0, own 64 v0_1 p0_1, rd v2 x1, bc 64 b301 [(str x300), v365, (.slice none 0 0)], own 28 v365 s305, rd v303 x302]) rfl rfl (by decide) (by decide)⟩
 ·intro hm k304 s305 fl σ w hk hI hb
  obtain ⟨v346, ha, hw⟩ := hI
  obtain ⟨τ, rfl⟩ := ha.ups
  refine RC.sr ?_
  refine ic ((k304 : Int)) ((x302.length : Int)) rfl rfl rfl rfl ?_
  refine RL.nq ?_
  refine RC.cond_t (dlt hk) ?_
  refine RC.ss ?_
  refine RC.bs ?_
  obtain ⟨x347, hx347, hb⟩ := bd hb
  refine RL.ia_rd (i := 6) trivial rfl hw rfl rfl rfl sl55 hx347 fun v348 hw => ?_
  refine RL.load_pts (i := 0) (y := x347) trivial rfl hw rfl rfl ty9 ?_
  refine as_ (str x347) rfl rfl ?_
  refine RL.ns ?_
  refine mv (str x347) rfl rfl ?_
  obtain ⟨x349, hx349, hb⟩ := bd hb
  refine RL.call trivial rfl fn58 [(str x347), (str ⟨[46]⟩)] rfl (Calls_ret (strings_Cut_ok N (p0 := x347) (p1 := ⟨[46]⟩)  hw  hx349) ?_)
  rintro _ w ⟨rfl, hw⟩
  refine mv (.tuple #[(str x349.1), (str x349.2.1), (vb x349.2.2)]) rfl rfl ?_
  refine RL.extract (v := (str x349.1)) trivial rfl rfl rfl ?_
  refine RL.extract (v := (str x349.2.1)) trivial rfl rfl rfl ?_
  refine RL.extract (v := (vb x349.2.2)) trivial rfl rfl rfl ?_
  refine as_ (str x349.1) rfl rfl ?_
  refine as_ (str x349.2.1) rfl rfl ?_
  refine as_ (vb x349.2.2) rfl rfl ?_
  refine RL.nq ?_
  refine RC.seq ?_
  obtain ⟨s356, hj, hb⟩ := bd hb
  refine RC.jn (fun (s356 : Bool) (σ : Nat → Value) (w : World) => agree σ [(0, (vp b0 0)), (5, v2), (6, (vp b301 0)), (9, (str x349.1)), (10, (str x349.2.1)), (73, v303), (74, (vi (x302.length : Int))), (75, (vi (k304 : Int))), (96, (vb s356))] ∧ Holds E w ([bc 26 b0 [v0_0, v0_1], own 87 v0_0 p0_0, own 64 v0_1 p0_1, rd v2 x1, bc 64 b301 [(str x300), v346, (.slice none 0 0)], own 28 v346 s305, rd v303 x302] ++ Γ)) s356 ?_ ?_
  ·refine RC.region ?_
   refine mv (vb x349.2.2) rfl rfl ?_
   refine RL.not (b := x349.2.2) trivial rfl rfl ?_
   refine mv (vb (!x349.2.2)) rfl rfl ?_
   rcases Bool.eq_false_or_eq_true (!x349.2.2) with hg357 | hg357
   ·replace hj := cT hg357 hj
    refine sk rfl (.inl (cb hg357)) rfl ?_
    refine sk rfl (.inl (cb hg357)) rfl ?_
    refine sk rfl (.inl (cb hg357)) rfl ?_
    refine RL.pick (b := (!x349.2.2)) (v := (vb true)) trivial rfl rfl (by rw [hg357]; rfl) ?_
    refine mv (vb true) rfl rfl ?_
    refine sk rfl (.inl rfl) rfl ?_
    refine sk rfl (.inl rfl) rfl ?_
    refine sk rfl (.inl rfl) rfl ?_
    refine RL.pick (b := true) (v := (vb true)) trivial rfl rfl rfl ?_
    refine RL.nil ?_
    obtain rfl := oi hj
    exact ⟨rfl, ⟨rfl, rfl, rfl, rfl, rfl, rfl, rfl, rfl, rfl, trivial⟩, hw.pick 8 [1, 2, 3, 4, 5, 6, 7] (new := [bc 26 b0 [v0_0, v0_1], own 87 v0_0 p0_0, own 64 v0_1 p0_1, rd v2 x1, bc 64 b301 [(str x300), v346, (.slice none 0 0)], own 28 v346 s305, rd v303 x302]) rfl rfl (by decide) (by decide)⟩
   replace hj := cF hg357 hj
   refine RL.move (v := (str x349.1)) ⟨_, rfl, cb hg357⟩ rfl rfl ?_
   obtain ⟨x358, hx358, hj⟩ := bd hj
   refine RL.call ⟨_, rfl, cb hg357⟩ rfl fn83 [(str x349.1)] rfl (Calls_ret (netlist_isPlain_ok N (p0 := x349.1)  hw  hx358) ?_)
   rintro _ w ⟨rfl, hw⟩
   refine RL.not (b := x358) ⟨_, rfl, cb hg357⟩ rfl rfl ?_
   refine RL.pick (b := (!x349.2.2)) (v := (vb (!x358))) trivial rfl rfl (by rw [hg357]; rfl) ?_
   refine mv (vb (!x358)) rfl rfl ?_
   rcases Bool.eq_false_or_eq_true (!x358) with hg359 | hg359
   ·replace hj := cT hg359 hj
    refine sk rfl (.inl (cb hg359)) rfl ?_
    refine sk rfl (.inl (cb hg359)) rfl ?_
    refine sk rfl (.inl (cb hg359)) rfl ?_
    refine RL.pick (b := (!x358)) (v := (vb true)) trivial rfl rfl (by rw [hg359]; rfl) ?_
    refine RL.nil ?_
    obtain rfl := oi hj
    exact ⟨rfl, ⟨rfl, rfl, rfl, rfl, rfl, rfl, rfl, rfl, rfl, trivial⟩, hw.pick 8 [1, 2, 3, 4, 5, 6, 7] (new := [bc 26 b0 [v0_0, v0_1], own 87 v0_0 p0_0, own 64 v0_1 p0_1, rd v2 x1, bc 64 b301 [(str x300), v346, (.slice none 0 0)], own 28 v346 s305, rd v303 x302]) rfl rfl (by decide) (by decide)⟩
   replace hj := cF hg359 hj
   refine RL.move (v := (str x349.2.1)) ⟨_, rfl, cb hg359⟩ rfl rfl ?_
   obtain ⟨x360, hx360, hj⟩ := bd hj
   refine RL.call ⟨_, rfl, cb hg359⟩ rfl fn83 [(str x349.2.1)] rfl (Calls_ret (netlist_isPlain_ok N (p0 := x349.2.1)  hw  hx360) ?_)
   rintro _ w ⟨rfl, hw⟩
   refine RL.not (b := x360) ⟨_, rfl, cb hg359⟩ rfl rfl ?_
   refine RL.pick (b := (!x358)) (v := (vb (!x360))) trivial rfl rfl (by rw [hg359]; rfl) ?_
   refine RL.nil ?_
   obtain rfl := oi hj
   exact ⟨rfl, ⟨rfl, rfl, rfl, rfl, rfl, rfl, rfl, rfl, rfl, trivial⟩, hw.pick 8 [1, 2, 3, 4, 5, 6, 7] (new := [bc 26 b0 [v0_0, v0_1], own 87 v0_0 p0_0, own 64 v0_1 p0_1, rd v2 x1, bc 64 b301 [(str x300), v346, (.slice none 0 0)], own 28 v346 s305, rd v303 x302]) rfl rfl (by decide) (by decide)⟩
  rintro σ w ⟨ha, hw⟩
  obtain ⟨τ, rfl⟩ := ha.ups
  refine thenQ_n ?_
  refine RC.cond (b := s356) rfl (fun hc => ?_) (fun hc => ?_)
  ·replace hb := cT hc hb
   refine RC.sr ?_
   refine as_ (vb false) rfl rfl ?_
   refine RL.nt ?_
   refine RC.rt ?_
   refine blkQ_r ?_
   refine thenQ_r ?_
   obtain rfl := oi hb
   exact ⟨rfl, fin1 rfl rfl ⟨v0_0, v0_1, rfl, hw.pick 7 [0, 1, 2] (new := [bc 26 b0 [v0_0, v0_1], own 87 v0_0 p0_0, own 64 v0_1 p0_1]) rfl rfl (by decide) (by decide)⟩⟩
  replace hb := cF hc hb
  refine RC.sn ?_
  refine RC.region ?_
  refine RL.fa_b trivial rfl rfl fa64_1 ?_
  refine RL.load_bc (i := 4) (v := v346) trivial rfl hw rfl rfl rfl ty33 ?_
  refine mv (str x349.1) rfl rfl ?_
  refine mv (str x349.2.1) rfl rfl ?_
  have hw := hw.sc (γ := Str) x349.1
  have hw := hw.sc (γ := Str) x349.2.1
  refine RL.build (y := (⟨x349.1, x349.2.1⟩ : Pin)) trivial rfl hw [(0, (str x349.1)), (1, (str x349.2.1))] rfl st28 rfl (fun M hs g => by have h := z_Pin M; exact Fills.cons (f := fun (x : Pin) y => { x with Part := y }) rfl h fs_Pin_0 (by decide) (g.sat 1 _ rfl).1 fun _ h => Fills.cons (f := fun (x : Pin) y => { x with Pin := y }) rfl h fs_Pin_1 (by decide) (g.sat 0 _ rfl).1 fun _ h => Fills.nil h) fun v361 hw => ?_
  refine RL.bslice (l := ([(⟨x349.1, x349.2.1⟩ : Pin)] : (List Pin))) trivial rfl hw [v361] rfl rfl rfl sl33 ze28 (fun M hs g => ⟨(g.sat 0 _ rfl).1, trivial⟩) fun v362 w hw => ?_
  have hw := hw.freeze (i := 0) rfl
  obtain ⟨x363, hx363, hb⟩ := bd hb
  refine RL.app (i := 9) (j := 0) trivial rfl hw rfl rfl rfl rfl el33 hx363 fun v364 w hw => ?_
  refine RL.fa_b trivial rfl rfl fa64_1 ?_
  refine RL.store_bc (i := 8) (v := v364) trivial hw rfl rfl rfl rfl (one_own hw (i := 9) rfl) ty33 fun w hw => ?_
  refine RL.nil ?_
  refine blkQ_n ?_
  refine thenQ_n ?_
  refine RC.region ?_
  refine RL.inc trivial rfl hk hm rfl rfl ?_
  refine mv (vi ((k304 + 1 : Nat) : Int)) rfl rfl ?_
  refine RL.nil ?_
  obtain rfl := oi hb
  exact ⟨rfl, v364, ⟨rfl, rfl, rfl, rfl, rfl, rfl, trivial⟩, hw.pick 11 [4, 5, 6, 7, 8, 9, 10] (new := [bc 26 b0 [v0_0, v0_1], own 87 v0_0 p0_0, own 64 v0_1 p0_1, rd v2 x1, bc 64 b301 [(str x300), v364, (.slice none 0 0)], own 28 v364 x363, rd v303 x302]) rfl rfl (by decide) (by decide)⟩
 ·intro r σ w e hK
  subst e
  refine thenQ_r ?_
  refine blkQ_r ?_
  refine thenQ_r ?_
  obtain rfl := oi hb
  exact hK
 intro s305 σ w e hJ
 subst e
 rw [Fo.cs_go] at hb
 obtain ⟨v345, ha, hw⟩ := hJ
 obtain ⟨τ, rfl⟩ := ha.ups
 refine thenQ_n ?_
 refine RC.seq ?_
 obtain ⟨x368, hx368, hb⟩ := bd hb
 refine RC.drw mixed rfl (fun (D : Nat → Bool) (σ : Nat → Value) (w : World) => ∃ (v366 : Value) (v367 : Value) (v369 : Value), doneV D σ [(0, 106, (vp b0 0)), (1, 107, (vp b0 0)), (2, 108, (vp b0 0)), (3, 109, (vp b0 1)), (4, 110, v0_1), (5, 111, v366), (6, 112, v367), (7, 113, v369), (8, 114, (vp b0 0)), (9, 115, (vp b0 1))] ∧ agree σ [(0, (vp b0 0)), (5, v2), (6, (vp b301 0))] ∧ Holds E w ([bif D 5 then (rd v366 (⟨x300, s305, ([] : (List Str))⟩ : Net)) else junk, bif D 7 then (rd v367 ([(⟨x300, s305, ([] : (List Str))⟩ : Net)] : (List Net))) else (bif D 6 then (own 64 v367 ([(⟨x300, s305, ([] : (List Str))⟩ : Net)] : (List Net))) else junk), bif D 10 then (bc 26 b0 [v0_0, v369]) else (bc 26 b0 [v0_0, v0_1]), own 87 v0_0 p0_0, bif D 7 then (own 64 v369 x368) else (own 64 v0_1 p0_1), rd v2 x1, bif D 5 then (bx 64 b301 (⟨x300, s305, ([] : (List Str))⟩ : Net)) else (bc 64 b301 [(str x300), v345, (.slice none 0 0)]), bif D 5 then (rd v345 s305) else (own 28 v345 s305), rd v303 x302] ++ Γ)) ?_ ⟨?_, ?_, ?_, ?_, ?_, ?_, ?_, ?_, ?_, ?_, ?_, trivial⟩ ?_
 ·have hw := hw.drew
  have hw := hw.junk
  have hw := hw.junk
  exact ⟨undef, undef, undef, doneV.none, ⟨rfl, rfl, rfl, trivial⟩, hw⟩
 ·rintro D σ w hD hdep hcl ⟨v366, v367, v369, hv, ha, hw⟩
  obtain ⟨τ, rfl⟩ := (ac (ha.at 0 rfl) az).ups
  refine mv (vp b0 0) rfl rfl ?_
  refine RL.nil ?_
  exact ⟨rfl, v366, v367, v369, hv.put 0 rfl rfl, ha.up rfl, hw⟩
 ·rintro D σ w hD hdep hcl ⟨v366, v367, v369, hv, ha, hw⟩
  obtain ⟨τ, rfl⟩ := (ac (ha.at 0 rfl) az).ups
  refine mv (vp b0 0) rfl rfl ?_
  refine RL.nil ?_
  exact ⟨rfl, v366, v367, v369, hv.put 1 rfl rfl, ha.up rfl, hw⟩
 ·rintro D σ w hD hdep hcl ⟨v366, v367, v369, hv, ha, hw⟩
  obtain ⟨τ, rfl⟩ := (ac (hv.at 1 rfl (hdep.1 rfl)) az).ups
  refine RL.nilCheck trivial rfl rfl ?_
  refine RL.nil ?_
  exact ⟨rfl, v366, v367, v369, hv.put 2 rfl rfl, ha.up rfl, hw⟩
 ·rintro D σ w hD hdep hcl ⟨v366, v367, v369, hv, ha, hw⟩
  obtain ⟨τ, rfl⟩ := (ac (hv.at 2 rfl (hdep.1 rfl)) az).ups
  refine RL.fa_b trivial rfl rfl fa26_1 ?_
  refine RL.nil ?_
  exact ⟨rfl, v366, v367, v369, hv.put 3 rfl rfl, ha.up rfl, hw⟩
 ·rintro D σ w hD hdep hcl ⟨v366, v367, v369, hv, ha, hw⟩
  obtain ⟨τ, rfl⟩ := (ac (hv.at 3 rfl (hdep.1 rfl)) az).ups
  have hw := hw.selF (i := 2) rfl (nf (fun h => ft hD ((hcl 10 _ rfl h).2.2.2.2.2.2.2.1 rfl)))
  refine RL.load_bc (i := 2) (v := v0_1) trivial rfl hw rfl rfl rfl ty24 ?_
  have hw := hw.altF (i := 2) (b := D 10) rfl (nf (fun h => ft hD ((hcl 10 _ rfl h).2.2.2.2.2.2.2.1 rfl))) (bc 26 b0 [v0_0, v369])
  refine RL.nil ?_
  exact ⟨rfl, v366, v367, v369, hv.put 4 rfl rfl, ha.up rfl, hw⟩
 ·rintro D σ w hD hdep hcl ⟨v366, v367, v369, hv, ha, hw⟩
  obtain ⟨τ, rfl⟩ := (ac (ha.at 2 rfl) az).ups
  have hw := hw.selF (i := 0) rfl hD
  have hw := hw.selF (i := 6) rfl hD
  have hw := hw.selF (i := 7) rfl hD
  have hw := hw.freeze (i := 7) rfl
  have hw := hw.rd_nil Str
  have hw := hw.close_bc (i := 7) (x := (⟨x300, s305, ([] : (List Str))⟩ : Net)) rfl (fun M hs g => ⟨[(str x300)], [v345, (.slice none 0 0)], rfl, rfl, ⟨[v345], [(.slice none 0 0)], rfl, (rd_one rfl (g.sat 8 _ rfl).1), (rd_one rfl (g.sat 0 _ rfl).1)⟩⟩)
  refine RL.load_bf (i := 7) (f := (fun x => x)) trivial rfl hw rfl rfl Fd.self ty64 fun v370 hw => ?_
  have hw := hw.pick 11 [0, 3, 4, 5, 6, 7, 8, 9, 10] (new := [rd v370 (⟨x300, s305, ([] : (List Str))⟩ : Net), bif D 7 then (rd v367 ([(⟨x300, s305, ([] : (List Str))⟩ : Net)] : (List Net))) else (bif D 6 then (own 64 v367 ([(⟨x300, s305, ([] : (List Str))⟩ : Net)] : (List Net))) else junk), bif D 10 then (bc 26 b0 [v0_0, v369]) else (bc 26 b0 [v0_0, v0_1]), own 87 v0_0 p0_0, bif D 7 then (own 64 v369 x368) else (own 64 v0_1 p0_1), rd v2 x1, bx 64 b301 (⟨x300, s305, ([] : (List Str))⟩ : Net), rd v345 s305, rd v303 x302]) rfl rfl (by decide) (by decide)
  have hw := hw.altT (i := 0) (b := true) rfl rfl (junk)
  have hw := hw.altT (i := 6) (b := true) rfl rfl (bc 64 b301 [(str x300), v345, (.slice none 0 0)])
  have hw := hw.altT (i := 7) (b := true) rfl rfl (own 28 v345 s305)
  refine RL.nil ?_
  exact ⟨rfl, v370, v367, v369, hv.put 5 rfl rfl, ha.up rfl, hw⟩
 ·rintro D σ w hD hdep hcl ⟨v366, v367, v369, hv, ha, hw⟩
  obtain ⟨τ, rfl⟩ := (ac (hv.at 5 rfl (hdep.1 rfl)) az).ups
  have hw := hw.selT (i := 0) rfl (hdep.1 rfl)
  have hw := hw.selF (i := 1) rfl (nf (fun h => ft hD ((hcl 7 _ rfl h).2.1 rfl)))
  have hw := hw.selF (i := 1) rfl hD
  refine RL.bslice (l := ([(⟨x300, s305, ([] : (List Str))⟩ : Net)] : (List Net))) trivial rfl hw [v366] rfl rfl rfl sl24 ze64 (fun M hs g => ⟨(g.sat 0 _ rfl).1, trivial⟩) fun v371 w hw => ?_
  have hw := hw.pick 10 [1, 0, 3, 4, 5, 6, 7, 8, 9] (new := [rd v366 (⟨x300, s305, ([] : (List Str))⟩ : Net), own 64 v371 ([(⟨x300, s305, ([] : (List Str))⟩ : Net)] : (List Net)), bif D 10 then (bc 26 b0 [v0_0, v369]) else (bc 26 b0 [v0_0, v0_1]), own 87 v0_0 p0_0, bif D 7 then (own 64 v369 x368) else (own 64 v0_1 p0_1), rd v2 x1, bif D 5 then (bx 64 b301 (⟨x300, s305, ([] : (List Str))⟩ : Net)) else (bc 64 b301 [(str x300), v345, (.slice none 0 0)]), bif D 5 then (rd v345 s305) else (own 28 v345 s305), rd v303 x302]) rfl rfl (by decide) (by decide)
  have hw := hw.altT (i := 0) (b := D 5) rfl (hdep.1 rfl) (junk)
  have hw := hw.altT (i := 1) (b := true) rfl rfl (junk)
  have hw := hw.altF (i := 1) (b := D 7) rfl (nf (fun h => ft hD ((hcl 7 _ rfl h).2.1 rfl))) (rd v371 ([(⟨x300, s305, ([] : (List Str))⟩ : Net)] : (List Net)))
  refine RL.nil ?_
  exact ⟨rfl, v366, v371, v369, hv.put 6 rfl rfl, ha.up rfl, hw⟩
 ·rintro D σ w hD hdep hcl ⟨v366, v367, v369, hv, ha, hw⟩
  obtain ⟨τ, rfl⟩ := (ac (hv.at 4 rfl (hdep.1 rfl)) (ac (hv.at 6 rfl (hdep.2.1 rfl)) az)).ups
  have hw := hw.selF (i := 1) rfl hD
  have hw := hw.selT (i := 1) rfl (hdep.2.1 rfl)
  have hw := hw.selF (i := 2) rfl (nf (fun h => ft hD ((hcl 10 _ rfl h).2.1 rfl)))
  have hw := hw.selF (i := 4) rfl hD
  have hw := hw.freeze (i := 1) rfl
  refine RL.app (i := 4) (j := 1) trivial rfl hw rfl rfl rfl rfl el24 hx368 fun v372 w hw => ?_
  have hw := hw.altT (i := 1) (b := true) rfl rfl (bif D 6 then (own 64 v367 ([(⟨x300, s305, ([] : (List Str))⟩ : Net)] : (List Net))) else junk)
  have hw := hw.altF (i := 2) (b := D 10) rfl (nf (fun h => ft hD ((hcl 10 _ rfl h).2.1 rfl))) (bc 26 b0 [v0_0, v372])
  have hw := hw.altT (i := 4) (b := true) rfl rfl (own 64 v0_1 p0_1)
  refine RL.nil ?_
  exact ⟨rfl, v366, v367, v372, hv.put 7 rfl rfl, ha.up rfl, hw⟩
 ·rintro D σ w hD hdep hcl ⟨v366, v367, v369, hv, ha, hw⟩
  obtain ⟨τ, rfl⟩ := (ac (hv.at 0 rfl (hdep.1 rfl)) az).ups
  refine RL.nilCheck trivial rfl rfl ?_
  refine RL.nil ?_
  exact ⟨rfl, v366, v367, v369, hv.put 8 rfl rfl, ha.up rfl, hw⟩
 ·rintro D σ w hD hdep hcl ⟨v366, v367, v369, hv, ha, hw⟩
  obtain ⟨τ, rfl⟩ := (ac (hv.at 8 rfl (hdep.1 rfl)) az).ups
  refine RL.fa_b trivial rfl rfl fa26_1 ?_
  refine RL.nil ?_
  exact ⟨rfl, v366, v367, v369, hv.put 9 rfl rfl, ha.up rfl, hw⟩
 ·rintro D σ w hD hdep hcl ⟨v366, v367, v369, hv, ha, hw⟩
  obtain ⟨τ, rfl⟩ := (ac (hv.at 7 rfl (hdep.2.1 rfl)) (ac (hv.at 9 rfl (hdep.1 rfl)) az)).ups
  have hw := hw.selF (i := 2) rfl hD
  have hw := hw.selT (i := 4) rfl (hdep.2.1 rfl)
  refine RL.store_bc (i := 2) (v := v369) trivial hw rfl rfl rfl rfl (one_own hw (i := 4) rfl) ty24 fun w hw => ?_
  have hw := hw.altT (i := 2) (b := true) rfl rfl (bc 26 b0 [v0_0, v0_1])
  have hw := hw.altT (i := 4) (b := D 7) rfl (hdep.2.1 rfl) (own 64 v0_1 p0_1)
  refine RL.nil ?_
  exact ⟨rfl, v366, v367, v369, hv.no rfl, ha, hw⟩
 rintro D σ w hall ⟨v366, v367, v369, hv, ha, hw⟩
 rw [hall 5 (by decide), hall 6 (by decide), hall 7 (by decide), hall 10 (by decide)] at hw
 obtain ⟨τ, rfl⟩ := (ac (ha.at 0 rfl) (ac (ha.at 1 rfl) (ac (ha.at 2 rfl) az))).ups
 refine thenQ_n ?_
 refine RC.sr ?_
 refine mv v2 rfl rfl ?_
 obtain ⟨x373, hx373, hb⟩ := bd hb
 refine RL.ia_rd (i := 5) trivial rfl hw rfl rfl rfl sl55 hx373 fun v374 hw => ?_
 refine RL.load_pts (i := 0) (y := x373) trivial rfl hw rfl rfl ty9 ?_
 obtain ⟨x375, hx375, hb⟩ := bd hb
 refine RL.call trivial rfl fn83 [(str x373)] rfl (Calls_ret (netlist_isPlain_ok N (p0 := x373)  hw  hx375) ?_)
 rintro _ w ⟨rfl, hw⟩
 refine as_ (vb x375) rfl rfl ?_
 refine RL.nt ?_
 refine RC.rb ?_
 refine thenQ_r ?_
 obtain rfl := oi hb
 exact fin1 rfl rfl ⟨v0_0, v369, rfl, hw.pick 10 [3, 4, 5] (new := [bc 26 b0 [v0_0, v369], own 87 v0_0 p0_0, own 64 v369 x368]) rfl rfl (by decide) (by decide)⟩
def netlist_Read_R (E : World) (Γ : List HP) (res : Netlist × Int × Int) (v : Value) (w : World) : Prop := ∃ u0 : Value, v = .tuple #[u0, (vi res.2.1), (vi res.2.2)] ∧ Holds E w (rd u0 res.1 :: Γ)
def netlist_Read_K (E : World) (Γ : List HP) (r : Netlist × Int × Int) (σ : Nat → Value) (w : World) : Prop := finQ Tryd.prog 35 Tryd.f22 (netlist_Read_R E Γ r) .ret σ w
theorem netlist_Read_ok (N : Nat) {E w : World} {Γ : List HP} {p0 : Str} {res : Netlist × Int × Int} (hw : Holds E w Γ)  (hb : netlist_Read N p0 = some res) :
    Calls Tryd.prog 22 [(str p0)].toArray w (Ret (netlist_Read_R E Γ res)) := by
 unfold netlist_Read at hb
 refine enter Tryd.func22 rfl rfl (Nat.le_of_ble_eq_true rfl) ?_
 refine RC.sr ?_
 refine RL.alloc trivial rfl hw ze26.z fun b1 w hw => ?_
 refine as_ (vi 0) rfl rfl ?_
 refine as_ (vi 0) rfl rfl ?_
 refine RL.nq ?_
 refine RC.sr ?_
 refine mv (str p0) rfl rfl ?_
 refine RL.lens (s := p0) trivial rfl rfl un9 ?_
 refine ic ((p0.toL.length : Int)) 2000000 rfl rfl rfl rfl ?_
 refine RL.nt ?_
 refine RC.cond (b := (decide ((p0.toL.length : Int) > 2000000))) rfl (fun hc => ?_) (fun hc => ?_)
 ·replace hb := cT hc hb
  refine RC.sr ?_
  refine RL.buildc (zs := [(.slice none 0 0), (.slice none 0 0)]) (cs := [(.slice none 0 0), (.slice none 0 0)]) trivial rfl [] rfl st26 trivial rfl ?_
  have hw := hw.rd_nil Part
  have hw := hw.rd_nil Net
  have hw := hw.rd_agg (cs := [(.slice none 0 0), (.slice none 0 0)]) (x := (⟨([] : (List Part)), ([] : (List Net))⟩ : Netlist)) (fun M hs g => ⟨[(.slice none 0 0)], [(.slice none 0 0)], rfl, (rd_one rfl (g.sat 1 _ rfl).1), (rd_one rfl (g.sat 0 _ rfl).1)⟩) rfl
  refine RL.store_raw (i := 3) (j := 0) trivial hw rfl rfl rfl rfl ty26 rfl fun w hw => ?_
  refine as_ (vi 0) rfl rfl ?_
  refine as_ (vi 2) rfl rfl ?_
  refine RL.nt ?_
  refine RC.rt ?_
  obtain rfl := oi hb
  exact finC3 (i := 3) rfl hw rfl rfl ty26 rfl rfl fun v2 hw => ⟨v2, rfl, hw.pick 5 [0] (new := [rd v2 (⟨([] : (List Part)), ([] : (List Net))⟩ : Netlist)]) rfl rfl (by decide) (by decide)⟩
 replace hb := cF hc hb
 refine RC.sx ?_
 refine RL.alloc_bc trivial rfl hw zc26 rfl fun b3 w hw => ?_
 refine RL.nq ?_
 refine RC.sr ?_
 refine as_ (vi 1) rfl rfl ?_
 refine RL.nt ?_
 obtain ⟨o55, hN, hb⟩ := bd hb
 refine RC.iter (fun (s5 : Str × (List Part) × (List Net) × Int) (σ : Nat → Value) (w : World) => ∃ v34 v35 : Value, agree σ [(0, (str s5.1)), (2, (vp b1 0)), (5, (vp b3 0)), (6, (vi s5.2.2.2))] ∧ Holds E w ([raw 26 b1 2, bc 26 b3 [v34, v35], own 87 v34 s5.2.1, own 64 v35 s5.2.2.1] ++ Γ)) (fun (s5 : Str × (List Part) × (List Net) × Int) (σ : Nat → Value) (w : World) => ∃ v36 v37 : Value, agree σ [(2, (vp b1 0)), (5, (vp b3 0))] ∧ Holds E w ([raw 26 b1 2, bc 26 b3 [v36, v37], own 87 v36 s5.2.1, own 64 v37 s5.2.2.1] ++ Γ)) (netlist_Read_K E Γ) hN ?_ ?_ ?_ ?_ 
 ·have hw := hw.own_nil Part 87
  have hw := hw.own_nil Net 64
  exact ⟨(.slice none 0 0), (.slice none 0 0), ⟨rfl, rfl, rfl, rfl, trivial⟩, hw.pick 4 [3, 2, 1, 0] (new := [raw 26 b1 2, bc 26 b3 [(.slice none 0 0), (.slice none 0 0)], own 87 (.slice none 0 0) ([] : (List Part)), own 64 (.slice none 0 0) ([] : (List Net))]) rfl rfl (by decide) (by decide)⟩
 ·intro s5 fl σ w hI hb
  obtain ⟨v38, v39, ha, hw⟩ := hI
  obtain ⟨τ, rfl⟩ := ha.ups
  refine RC.seq ?_
  refine RC.sr ?_
  refine mv (str s5.1) rfl rfl ?_
  refine RL.scmp (a := s5.1) (b := ⟨[]⟩) trivial rfl rfl rfl rfl ?_
  refine RL.nt ?_
  refine RC.cond (b := (!s5.1.eqb (⟨[]⟩))) rfl (fun hc => ?_) (fun hc => ?_)
  rotate_left
  ·replace hb := cF hc hb
   refine RC.ex ?_
   obtain rfl := oi hb
   exact ⟨rfl, v38, v39, ⟨rfl, rfl, trivial⟩, hw.pick 4 [0, 1, 2, 3] (new := [raw 26 b1 2, bc 26 b3 [v38, v39], own 87 v38 s5.2.1, own 64 v39 s5.2.2.1]) rfl rfl (by decide) (by decide)⟩
  replace hb := cT hc hb
  refine RC.ss ?_
  refine RC.bs ?_
  refine mv (str s5.1) rfl rfl ?_
  obtain ⟨x40, hx40, hb⟩ := bd hb
  refine RL.call trivial rfl fn58 [(str s5.1), (str ⟨[10]⟩)] rfl (Calls_ret (strings_Cut_ok N (p0 := s5.1) (p1 := ⟨[10]⟩)  hw  hx40) ?_)
  rintro _ w ⟨rfl, hw⟩
  refine mv (.tuple #[(str x40.1), (str x40.2.1), (vb x40.2.2)]) rfl rfl ?_
  refine RL.extract (v := (str x40.1)) trivial rfl rfl rfl ?_
  refine RL.extract (v := (str x40.2.1)) trivial rfl rfl rfl ?_
  refine RL.extract (v := (vb x40.2.2)) trivial rfl rfl rfl ?_
  refine as_ (str x40.1) rfl rfl ?_
  refine as_ (str x40.2.1) rfl rfl ?_
  refine as_ (vb x40.2.2) rfl rfl ?_
  refine RL.nq ?_
  refine RC.seq ?_
  obtain ⟨s45, hj, hb⟩ := bd hb
  refine RC.jn (fun (s45 : (List Part) × (List Net) × Bool) (σ : Nat → Value) (w : World) => ∃ v46 v47 : Value, agree σ [(2, (vp b1 0)), (5, (vp b3 0)), (6, (vi s5.2.2.2)), (8, (str x40.2.1)), (30, (vb s45.2.2))] ∧ Holds E w ([raw 26 b1 2, bc 26 b3 [v46, v47], own 87 v46 s45.1, own 64 v47 s45.2.1] ++ Γ)) s45 ?_ ?_
  ·refine RC.region ?_
   refine mv (vb x40.2.2) rfl rfl ?_
   refine RL.not (b := x40.2.2) trivial rfl rfl ?_
   refine mv (vb (!x40.2.2)) rfl rfl ?_
   rcases Bool.eq_false_or_eq_true (!x40.2.2) with hg48 | hg48
   ·replace hj := cT hg48 hj
    refine sk rfl (.inl (cb hg48)) rfl ?_
    refine sk rfl (.inl (cb hg48)) rfl ?_
    refine sk rfl (.inl (cb hg48)) rfl ?_
    refine RL.pick (b := (!x40.2.2)) (v := (vb true)) trivial rfl rfl (by rw [hg48]; rfl) ?_
    refine RL.nil ?_
    obtain rfl := oi hj
    exact ⟨rfl, v38, v39, ⟨rfl, rfl, rfl, rfl, rfl, trivial⟩, hw.pick 4 [0, 1, 2, 3] (new := [raw 26 b1 2, bc 26 b3 [v38, v39], own 87 v38 s5.2.1, own 64 v39 s5.2.2.1]) rfl rfl (by decide) (by decide)⟩
   replace hj := cF hg48 hj
   refine RL.move (v := (str x40.1)) ⟨_, rfl, cb hg48⟩ rfl rfl ?_
   have hw := hw.pull (i := 3) rfl
   have hw := hw.pull (i := 3) rfl
   have hw := hw.pull (i := 3) rfl
   obtain ⟨x49, hx49, hj⟩ := bd hj
   refine RL.call ⟨_, rfl, cb hg48⟩ rfl fn59 [(vp b3 0), (str x40.1)] rfl (Calls_ret (netlist_readLine_ok N (p1 := x40.1)  hw  hx49) ?_)
   rintro _ w ⟨v50, v51, rfl, hw⟩
   refine RL.not (b := x49.1) ⟨_, rfl, cb hg48⟩ rfl rfl ?_
   refine RL.pick (b := (!x40.2.2)) (v := (vb (!x49.1))) trivial rfl rfl (by rw [hg48]; rfl) ?_
   refine RL.nil ?_
   obtain rfl := oi hj
   exact ⟨rfl, v50, v51, ⟨rfl, rfl, rfl, rfl, rfl, trivial⟩, hw.pick 7 [3, 0, 1, 2] (new := [raw 26 b1 2, bc 26 b3 [v50, v51], own 87 v50 x49.2.1, own 64 v51 x49.2.2]) rfl rfl (by decide) (by decide)⟩
  rintro σ w ⟨v46, v47, ha, hw⟩
  obtain ⟨τ, rfl⟩ := ha.ups
  refine thenQ_n ?_
  refine RC.cond (b := s45.2.2) rfl (fun hc => ?_) (fun hc => ?_)
  rotate_left
  ·replace hb := cF hc hb
   refine RC.sn ?_
   refine RC.region ?_
   refine mv (str x40.2.1) rfl rfl ?_
   refine as_ (str x40.2.1) rfl rfl ?_
   refine RL.nil ?_
   refine blkQ_n ?_
   refine thenQ_n ?_
   refine RC.region ?_
   refine mv (vi s5.2.2.2) rfl rfl ?_
   refine RL.iar (a := s5.2.2.2) (b := 1) trivial rfl rfl rfl rfl ?_
   refine as_ (vi (IntKind.wrap .i64 (s5.2.2.2 + 1))) rfl rfl ?_
   refine RL.nil ?_
   obtain rfl := oi hb
   exact ⟨rfl, v46, v47, ⟨rfl, rfl, rfl, rfl, trivial⟩, hw.pick 4 [0, 1, 2, 3] (new := [raw 26 b1 2, bc 26 b3 [v46, v47], own 87 v46 s45.1, own 64 v47 s45.2.1]) rfl rfl (by decide) (by decide)⟩
  replace hb := cT hc hb
  refine RC.sr ?_
  refine RL.buildc (zs := [(.slice none 0 0), (.slice none 0 0)]) (cs := [(.slice none 0 0), (.slice none 0 0)]) trivial rfl [] rfl st26 trivial rfl ?_
  refine mv (vi s5.2.2.2) rfl rfl ?_
  have hw := hw.rd_nil Part
  have hw := hw.rd_nil Net
  have hw := hw.rd_agg (cs := [(.slice none 0 0), (.slice none 0 0)]) (x := (⟨([] : (List Part)), ([] : (List Net))⟩ : Netlist)) (fun M hs g => ⟨[(.slice none 0 0)], [(.slice none 0 0)], rfl, (rd_one rfl (g.sat 1 _ rfl).1), (rd_one rfl (g.sat 0 _ rfl).1)⟩) rfl
  refine RL.store_raw (i := 3) (j := 0) trivial hw rfl rfl rfl rfl ty26 rfl fun w hw => ?_
  refine as_ (vi s5.2.2.2) rfl rfl ?_
  refine as_ (vi 10) rfl rfl ?_
  refine RL.nt ?_
  refine RC.rt ?_
  refine blkQ_r ?_
  refine thenQ_r ?_
  obtain rfl := oi hb
  exact ⟨rfl, finC3 (i := 3) rfl hw rfl rfl ty26 rfl rfl fun v52 hw => ⟨v52, rfl, hw.pick 8 [0] (new := [rd v52 (⟨([] : (List Part)), ([] : (List Net))⟩ : Netlist)]) rfl rfl (by decide) (by decide)⟩⟩
 ·intro r σ w e hK
  subst e
  refine thenQ_r ?_
  obtain rfl := oi hb
  exact hK
 intro s5 σ w e hJ
 subst e
 rw [Fo.cs_go] at hb
 obtain ⟨v36, v37, ha, hw⟩ := hJ
 obtain ⟨τ, rfl⟩ := ha.ups
 refine thenQ_n ?_
 refine RC.sr ?_
 have hw := hw.freeze (i := 2) rfl
 have hw := hw.freeze (i := 3) rfl
 have hw := hw.close_bc (i := 1) (x := (⟨s5.2.1, s5.2.2.1⟩ : Netlist)) rfl (fun M hs g => ⟨[v36], [v37], rfl, (rd_one rfl (g.sat 2 _ rfl).1), (rd_one rfl (g.sat 3 _ rfl).1)⟩)
 refine RL.load_bf (i := 1) (f := (fun x => x)) trivial rfl hw rfl rfl Fd.self ty26 fun v53 hw => ?_
 refine RL.store_raw (i := 1) (j := 0) trivial hw rfl rfl rfl rfl ty26 rfl fun w hw => ?_
 refine as_ (vi 0) rfl rfl ?_
 refine as_ (vi 0) rfl rfl ?_
 refine RL.nt ?_
 refine RC.ret ?_
 obtain rfl := oi hb
 exact finC3 (i := 1) rfl hw rfl rfl ty26 rfl rfl fun v54 hw => ⟨v54, rfl, hw.pick 6 [0] (new := [rd v54 (⟨s5.2.1, s5.2.2.1⟩ : Netlist)]) rfl rfl (by decide) (by decide)⟩
def etchhouseref2_isListWord_R (E : World) (Γ : List HP) (res : Bool) (v : Value) (w : World) : Prop := v = (vb res) ∧ Holds E w Γ
def etchhouseref2_isListWord_K (E : World) (Γ : List HP) (r : Bool) (σ : Nat → Value) (w : World) : Prop := finQ Tryd.prog 28 Tryd.f61 (etchhouseref2_isListWord_R E Γ r) .ret σ w
theorem etchhouseref2_isListWord_ok (N : Nat) {E w : World} {Γ : List HP} {p0 : Str} {res : Bool} (hw : Holds E w Γ)  (hb : etchhouseref2_isListWord N p0 = some res) :
    Calls Tryd.prog 61 [(str p0)].toArray w (Ret (etchhouseref2_isListWord_R E Γ res)) := by
 unfold etchhouseref2_isListWord at hb
 refine enter Tryd.func61 rfl rfl (Nat.le_of_ble_eq_true rfl) ?_
 refine RC.sr ?_
 refine as_ (vb false) rfl rfl ?_
 refine RL.nq ?_
 refine RC.sr ?_
 refine mv (str p0) rfl rfl ?_
 refine RL.lens (s := p0) trivial rfl rfl un9 ?_
 refine mv (vi 0) rfl rfl ?_
 refine RL.nt ?_
 obtain ⟨o33, hN, hb⟩ := bd hb
 refine RC.range (fun (k1 : Nat) (s2 : Unit) (σ : Nat → Value) (w : World) => agree σ [(0, (str p0)), (5, (vi (p0.toL.length : Int))), (6, (vi (k1 : Int)))] ∧ Holds E w ([] ++ Γ)) (fun (s2 : Unit) (σ : Nat → Value) (w : World) => agree σ [(0, (str p0))] ∧ Holds E w ([] ++ Γ)) (etchhouseref2_isListWord_K E Γ) hN ?_ ?_ ?_ ?_ ?_ 
 ·exact ⟨⟨rfl, rfl, rfl, trivial⟩, hw.pick 0 [] (new := []) rfl rfl (by decide) (by decide)⟩
 ·intro hm s2 σ w hI
  obtain ⟨ha, hw⟩ := hI
  obtain ⟨τ, rfl⟩ := ha.ups
  refine RC.sr ?_
  refine ic ((p0.toL.length : Int)) ((p0.toL.length : Int)) rfl rfl rfl rfl ?_
  refine RL.nq ?_
  refine RC.cond_f dge ?_
  refine RC.ex ?_
  exact ⟨rfl, ⟨rfl, trivial⟩, hw.pick 0 [] (new := []) rfl rfl (by decide) (by decide)⟩
 ·intro hm k1 s2 fl σ w hk hI hb
  obtain ⟨ha, hw⟩ := hI
  obtain ⟨τ, rfl⟩ := ha.ups
  refine RC.sr ?_
  refine ic ((k1 : Int)) ((p0.toL.length : Int)) rfl rfl rfl rfl ?_
  refine RL.nq ?_
  refine RC.cond_t (dlt hk) ?_
  refine RC.ss ?_
  refine RC.bs ?_
  refine mv (vi (k1 : Int)) rfl rfl ?_
  refine as_ (vi (k1 : Int)) rfl rfl ?_
  refine RL.nq ?_
  obtain ⟨s27, hj, hb⟩ := bd hb
  refine RC.jn (fun (s27 : Bool) (σ : Nat → Value) (w : World) => agree σ [(0, (str p0)), (5, (vi (p0.toL.length : Int))), (6, (vi (k1 : Int))), (24, (vb s27))] ∧ Holds E w ([] ++ Γ)) s27 ?_ ?_
  ·refine RC.region ?_
   refine mv (str p0) rfl rfl ?_
   refine mv (vi (k1 : Int)) rfl rfl ?_
   obtain ⟨x28, hx28, hj⟩ := bd hj
   refine RL.idxs (s := p0) (i := (k1 : Int)) (c := x28) trivial rfl rfl rfl un9 hx28 ?_
   refine ic ((x28.toNat : Int)) 33 rfl rfl rfl rfl ?_
   refine mv (vb (decide ((x28.toNat : Int) < 33))) rfl rfl ?_
   rcases Bool.eq_false_or_eq_true (decide ((x28.toNat : Int) < 33)) with hg29 | hg29
   ·replace hj := cT hg29 hj
    refine sk rfl (.inl (cb hg29)) rfl ?_
    refine sk rfl (.inl (cb hg29)) rfl ?_
    refine sk rfl (.inl (cb hg29)) rfl ?_
    refine sk rfl (.inl (cb hg29)) rfl ?_
    refine RL.pick (b := (decide ((x28.toNat : Int) < 33))) (v := (vb true)) trivial rfl rfl (by rw [hg29]; rfl) ?_
    refine mv (vb true) rfl rfl ?_
    refine sk rfl (.inl rfl) rfl ?_
    refine sk rfl (.inl rfl) rfl ?_
    refine sk rfl (.inl rfl) rfl ?_
    refine sk rfl (.inl rfl) rfl ?_
    refine RL.pick (b := true) (v := (vb true)) trivial rfl rfl rfl ?_
    refine RL.nil ?_
    obtain rfl := oi hj
    exact ⟨rfl, ⟨rfl, rfl, rfl, rfl, trivial⟩, hw.pick 0 [] (new := []) rfl rfl (by decide) (by decide)⟩
   replace hj := cF hg29 hj
   refine RL.move (v := (str p0)) ⟨_, rfl, cb hg29⟩ rfl rfl ?_
   refine RL.move (v := (vi (k1 : Int))) ⟨_, rfl, cb hg29⟩ rfl rfl ?_
   obtain ⟨x30, hx30, hj⟩ := bd hj
   refine RL.idxs (s := p0) (i := (k1 : Int)) (c := x30) ⟨_, rfl, cb hg29⟩ rfl rfl rfl un9 hx30 ?_
   refine RL.icmp (a := (x30.toNat : Int)) (b := 126) ⟨_, rfl, cb hg29⟩ rfl rfl rfl rfl ?_
   refine RL.pick (b := (decide ((x28.toNat : Int) < 33))) (v := (vb (decide ((x30.toNat : Int) > 126)))) trivial rfl rfl (by rw [hg29]; rfl) ?_
   refine mv (vb (decide ((x30.toNat : Int) > 126))) rfl rfl ?_
   rcases Bool.eq_false_or_eq_true (decide ((x30.toNat : Int) > 126)) with hg31 | hg31
   ·replace hj := cT hg31 hj
    refine sk rfl (.inl (cb hg31)) rfl ?_
    refine sk rfl (.inl (cb hg31)) rfl ?_
    refine sk rfl (.inl (cb hg31)) rfl ?_
    refine sk rfl (.inl (cb hg31)) rfl ?_
    refine RL.pick (b := (decide ((x30.toNat : Int) > 126))) (v := (vb true)) trivial rfl rfl (by rw [hg31]; rfl) ?_
    refine RL.nil ?_
    obtain rfl := oi hj
    exact ⟨rfl, ⟨rfl, rfl, rfl, rfl, trivial⟩, hw.pick 0 [] (new := []) rfl rfl (by decide) (by decide)⟩
   replace hj := cF hg31 hj
   refine RL.move (v := (str p0)) ⟨_, rfl, cb hg31⟩ rfl rfl ?_
   refine RL.move (v := (vi (k1 : Int))) ⟨_, rfl, cb hg31⟩ rfl rfl ?_
   obtain ⟨x32, hx32, hj⟩ := bd hj
   refine RL.idxs (s := p0) (i := (k1 : Int)) (c := x32) ⟨_, rfl, cb hg31⟩ rfl rfl rfl un9 hx32 ?_
   refine RL.icmp (a := (x32.toNat : Int)) (b := 46) ⟨_, rfl, cb hg31⟩ rfl rfl rfl rfl ?_
   refine RL.pick (b := (decide ((x30.toNat : Int) > 126))) (v := (vb ((x32.toNat : Int) == 46))) trivial rfl rfl (by rw [hg31]; rfl) ?_
   refine RL.nil ?_
   obtain rfl := oi hj
   exact ⟨rfl, ⟨rfl, rfl, rfl, rfl, trivial⟩, hw.pick 0 [] (new := []) rfl rfl (by decide) (by decide)⟩
  rintro σ w ⟨ha, hw⟩
  obtain ⟨τ, rfl⟩ := ha.ups
  refine thenQ_n ?_
  refine RC.cond (b := s27) rfl (fun hc => ?_) (fun hc => ?_)
  rotate_left
  ·replace hb := cF hc hb
   refine RC.skip ?_
   refine blkQ_n ?_
   refine thenQ_n ?_
   refine RC.region ?_
   refine RL.inc trivial rfl hk hm rfl rfl ?_
   refine mv (vi ((k1 + 1 : Nat) : Int)) rfl rfl ?_
   refine RL.nil ?_
   obtain rfl := oi hb
   exact ⟨rfl, ⟨rfl, rfl, rfl, trivial⟩, hw.pick 0 [] (new := []) rfl rfl (by decide) (by decide)⟩
  replace hb := cT hc hb
  refine RC.sr ?_
  refine as_ (vb false) rfl rfl ?_
  refine RL.nt ?_
  refine RC.rb ?_
  refine thenQ_r ?_
  obtain rfl := oi hb
  exact ⟨rfl, fin1 rfl rfl ⟨rfl, hw.drop 0 rfl⟩⟩
 ·intro r σ w e hK
  subst e
  refine thenQ_r ?_
  obtain rfl := oi hb
  exact hK
 intro s2 σ w e hJ
 subst e
 rw [Fo.cs_go] at hb
 obtain ⟨ha, hw⟩ := hJ
 obtain ⟨τ, rfl⟩ := ha.ups
 refine thenQ_n ?_
 refine RC.sr ?_
 refine mv (str p0) rfl rfl ?_
 refine RL.scmp (a := p0) (b := ⟨[]⟩) trivial rfl rfl rfl rfl ?_
 refine as_ (vb (!p0.eqb (⟨[]⟩))) rfl rfl ?_
 refine RL.nt ?_
 refine RC.ret ?_
 obtain rfl := oi hb
 exact fin1 rfl rfl ⟨rfl, hw.drop 0 rfl⟩
def etchhouseref2_readNet_R (E : World) (Γ : List HP) (res : Net × Bool) (v : Value) (w : World) : Prop := ∃ u0 : Value, v = .tuple #[u0, (vb res.2)] ∧ Holds E w (rd u0 res.1 :: Γ)
def etchhouseref2_readNet_K (E : World) (Γ : List HP) (r : Net × Bool) (σ : Nat → Value) (w : World) : Prop := finQ Tryd.prog 54 Tryd.f62 (etchhouseref2_readNet_R E Γ r) .ret σ w
theorem etchhouseref2_readNet_ok (N : Nat) {E w : World} {Γ : List HP} {i0 : Nat} {v0 : Value} {p0 : (List Str)} {res : Net × Bool} (hw : Holds E w Γ) (h0 : Γ[i0]? = some (rd v0 p0)) (hb : etchhouseref2_readNet N p0 = some res) :
    Calls Tryd.prog 62 [v0].toArray w (Ret (etchhouseref2_readNet_R E Γ res)) := by
 unfold etchhouseref2_readNet at hb
 refine enter Tryd.func62 rfl rfl (Nat.le_of_ble_eq_true rfl) ?_
 have hw := hw.dup (i := i0 + 0) h0
 refine RC.sr ?_
 refine RL.alloc trivial rfl hw ze64.z fun b1 w hw => ?_
 refine as_ (vb false) rfl rfl ?_
 refine RL.ns ?_
 refine mv v0 rfl rfl ?_
 obtain ⟨x2, hx2, hb⟩ := bd hb
 refine RL.ia_rd (i := 1) trivial rfl hw rfl rfl rfl sl55 hx2 fun v3 hw => ?_
 refine RL.load_pts (i := 0) (y := x2) trivial rfl hw rfl rfl ty9 ?_
 refine RL.buildc (zs := [(.string ⟨#[]⟩), (.slice none 0 0), (.slice none 0 0)]) (cs := [(str x2), (.slice none 0 0), (.slice none 0 0)]) trivial rfl [(0, (str x2))] rfl st64 ⟨rfl, trivial⟩ rfl ?_
 refine RL.alloc_bc trivial rfl hw zc64 rfl fun b4 w hw => ?_
 refine RL.store_bca (i := 0) (cs := [(str x2), (.slice none 0 0), (.slice none 0 0)]) trivial hw rfl rfl rfl (oneL.all (⟨rfl, rfl, rfl, trivial⟩ : oneL [(str x2), (.slice none 0 0), (.slice none 0 0)])) ty64 rfl rfl fun w hw => ?_
 refine RL.nq ?_
 refine RC.sr ?_
 refine mv v0 rfl rfl ?_
 obtain ⟨x5, hx5, hb⟩ := bd hb
 refine RL.cut (i := 3) trivial rfl hw rfl rfl sl55 (.inl rfl) (.inr ⟨rfl, rfl⟩) hx5 fun v6 hw => ?_
 refine RL.len_rd (i := 0) (l := x5) trivial rfl hw rfl rfl un55 ?_
 refine mv (vi 0) rfl rfl ?_
 refine RL.nt ?_
 obtain ⟨o83, hN, hb⟩ := bd hb
 refine RC.range (fun (k7 : Nat) (s8 : (List Pin)) (σ : Nat → Value) (w : World) => ∃ v51 : Value, agree σ [(0, v0), (2, (vp b1 0)), (4, (vp b4 0)), (15, v6), (16, (vi (x5.length : Int))), (17, (vi (k7 : Int)))] ∧ Holds E w ([rd v0 p0, raw 64 b1 3, bc 64 b4 [(str x2), v51, (.slice none 0 0)], own 28 v51 s8, rd v6 x5] ++ Γ)) (fun (s8 : (List Pin)) (σ : Nat → Value) (w : World) => ∃ v52 : Value, agree σ [(0, v0), (2, (vp b1 0)), (4, (vp b4 0))] ∧ Holds E w ([rd v0 p0, raw 64 b1 3, bc 64 b4 [(str x2), v52, (.slice none 0 0)], own 28 v52 s8, rd v6 x5] ++ Γ)) (etchhouseref2_readNet_K E Γ) hN ?_ ?_ ?_ ?_ ?_ 
 ·have hw := hw.own_nil Pin 28
  exact ⟨(.slice none 0 0), ⟨rfl, rfl, rfl, rfl, rfl, rfl, trivial⟩, hw.pick 6 [5, 4, 2, 0, 1] (new := [rd v0 p0, raw 64 b1 3, bc 64 b4 [(str x2), (.slice none 0 0), (.slice none 0 0)], own 28 (.slice none 0 0) ([] : (List Pin)), rd v6 x5]) rfl rfl (by decide) (by decide)⟩
 ·intro hm s8 σ w hI
  obtain ⟨v75, ha, hw⟩ := hI
  obtain ⟨τ, rfl⟩ := ha.ups
  refine RC.sr ?_
  refine ic ((x5.length : Int)) ((x5.length : Int)) rfl rfl rfl rfl ?_
  refine RL.nq ?_
  refine RC.cond_f dge ?_
  refine RC.ex ?_
  exact ⟨rfl, v75, ⟨rfl, rfl, rfl, trivial⟩, hw.pick 5 [0, 1, 2, 3, 4] (new := [rd v0 p0, raw 64 b1 3, bc 64 b4 [(str x2), v75, (.slice none 0 0)], own 28 v75 s8, rd v6 x5]) rfl rfl (by decide) (by decide)⟩
 ·intro hm k7 s8 fl σ w hk hI hb
  obtain ⟨v53, ha, hw⟩ := hI
  obtain ⟨τ, rfl⟩ := ha.ups
  refine RC.sr ?_
  refine ic ((k7 : Int)) ((x5.length : Int)) rfl rfl rfl rfl ?_
  refine RL.nq ?_
  refine RC.cond_t (dlt hk) ?_
  refine RC.ss ?_
  refine RC.bs ?_
  obtain ⟨x54, hx54, hb⟩ := bd hb
  refine RL.ia_rd (i := 4) trivial rfl hw rfl rfl rfl sl55 hx54 fun v55 hw => ?_
  refine RL.load_pts (i := 0) (y := x54) trivial rfl hw rfl rfl ty9 ?_
  refine as_ (str x54) rfl rfl ?_
  refine RL.ns ?_
  refine mv (str x54) rfl rfl ?_
  obtain ⟨x56, hx56, hb⟩ := bd hb
  refine RL.call trivial rfl fn58 [(str x54), (str ⟨[46]⟩)] rfl (Calls_ret (strings_Cut_ok N (p0 := x54) (p1 := ⟨[46]⟩)  hw  hx56) ?_)
  rintro _ w ⟨rfl, hw⟩
  refine mv (.tuple #[(str x56.1), (str x56.2.1), (vb x56.2.2)]) rfl rfl ?_
  refine RL.extract (v := (str x56.1)) trivial rfl rfl rfl ?_
  refine RL.extract (v := (str x56.2.1)) trivial rfl rfl rfl ?_
  refine RL.extract (v := (vb x56.2.2)) trivial rfl rfl rfl ?_
  refine as_ (str x56.1) rfl rfl ?_
  refine as_ (str x56.2.1) rfl rfl ?_
  refine as_ (vb x56.2.2) rfl rfl ?_
  refine RL.nq ?_
  refine RC.seq ?_
  obtain ⟨s63, hj, hb⟩ := bd hb
  refine RC.jn (fun (s63 : Bool) (σ : Nat → Value) (w : World) => agree σ [(0, v0), (2, (vp b1 0)), (4, (vp b4 0)), (7, (str x56.1)), (8, (str x56.2.1)), (15, v6), (16, (vi (x5.length : Int))), (17, (vi (k7 : Int))), (38, (vb s63))] ∧ Holds E w ([rd v0 p0, raw 64 b1 3, bc 64 b4 [(str x2), v53, (.slice none 0 0)], own 28 v53 s8, rd v6 x5] ++ Γ)) s63 ?_ ?_
  ·refine RC.region ?_
   refine mv (vb x56.2.2) rfl rfl ?_
   refine RL.not (b := x56.2.2) trivial rfl rfl ?_
   refine mv (vb (!x56.2.2)) rfl rfl ?_
   rcases Bool.eq_false_or_eq_true (!x56.2.2) with hg64 | hg64
   ·replace hj := cT hg64 hj
    refine sk rfl (.inl (cb hg64)) rfl ?_
    refine sk rfl (.inl (cb hg64)) rfl ?_
    refine sk rfl (.inl (cb hg64)) rfl ?_
    refine RL.pick (b := (!x56.2.2)) (v := (vb true)) trivial rfl rfl (by rw [hg64]; rfl) ?_
    refine mv (vb true) rfl rfl ?_
    refine sk rfl (.inl rfl) rfl ?_
    refine sk rfl (.inl rfl) rfl ?_
    refine sk rfl (.inl rfl) rfl ?_
    refine RL.pick (b := true) (v := (vb true)) trivial rfl rfl rfl ?_
    refine RL.nil ?_
    obtain rfl := oi hj
    exact ⟨rfl, ⟨rfl, rfl, rfl, rfl, rfl, rfl, rfl, rfl, rfl, trivial⟩, hw.pick 6 [1, 2, 3, 4, 5] (new := [rd v0 p0, raw 64 b1 3, bc 64 b4 [(str x2), v53, (.slice none 0 0)], own 28 v53 s8, rd v6 x5]) rfl rfl (by decide) (by decide)⟩
   replace hj := cF hg64 hj
   refine RL.move (v := (str x56.1)) ⟨_, rfl, cb hg64⟩ rfl rfl ?_
   obtain ⟨x65, hx65, hj⟩ := bd hj
   refine RL.call ⟨_, rfl, cb hg64⟩ rfl fn61 [(str x56.1)] rfl (Calls_ret (etchhouseref2_isListWord_ok N (p0 := x56.1)  hw  hx65) ?_)
   rintro _ w ⟨rfl, hw⟩
   refine RL.not (b := x65) ⟨_, rfl, cb hg64⟩ rfl rfl ?_
   refine RL.pick (b := (!x56.2.2)) (v := (vb (!x65))) trivial rfl rfl (by rw [hg64]; rfl) ?_
   refine mv (vb (!x65)) rfl rfl ?_
   rcases Bool.eq_false_or_eq_true (!x65) with hg66 | hg66
   ·replace hj := cT hg66 hj
    refine sk rfl (.inl (cb hg66)) rfl ?_
    refine sk rfl (.inl (cb hg66)) rfl ?_
    refine sk rfl (.inl (cb hg66)) rfl ?_
    refine RL.pick (b := (!x65)) (v := (vb true)) trivial rfl rfl (by rw [hg66]; rfl) ?_
    refine RL.nil ?_
    obtain rfl := oi hj
    exact ⟨rfl, ⟨rfl, rfl, rfl, rfl, rfl, rfl, rfl, rfl, rfl, trivial⟩, hw.pick 6 [1, 2, 3, 4, 5] (new := [rd v0 p0, raw 64 b1 3, bc 64 b4 [(str x2), v53, (.slice none 0 0)], own 28 v53 s8, rd v6 x5]) rfl rfl (by decide) (by decide)⟩
   replace hj := cF hg66 hj
   refine RL.move (v := (str x56.2.1)) ⟨_, rfl, cb hg66⟩ rfl rfl ?_
   obtain ⟨x67, hx67, hj⟩ := bd hj
   refine RL.call ⟨_, rfl, cb hg66⟩ rfl fn61 [(str x56.2.1)] rfl (Calls_ret (etchhouseref2_isListWord_ok N (p0 := x56.2.1)  hw  hx67) ?_)
   rintro _ w ⟨rfl, hw⟩
   refine RL.not (b := x67) ⟨_, rfl, cb hg66⟩ rfl rfl ?_
   refine RL.pick (b := (!x65)) (v := (vb (!x67))) trivial rfl rfl (by rw [hg66]; rfl) ?_
   refine RL.nil ?_
   obtain rfl := oi hj
   exact ⟨rfl, ⟨rfl, rfl, rfl, rfl, rfl, rfl, rfl, rfl, rfl, trivial⟩, hw.pick 6 [1, 2, 3, 4, 5] (new := [rd v0 p0, raw 64 b1 3, bc 64 b4 [(str x2), v53, (.slice none 0 0)], own 28 v53 s8, rd v6 x5]) rfl rfl (by decide) (by decide)⟩
  rintro σ w ⟨ha, hw⟩
  obtain ⟨τ, rfl⟩ := ha.ups
  refine thenQ_n ?_
  refine RC.cond (b := s63) rfl (fun hc => ?_) (fun hc => ?_)
  ·replace hb := cT hc hb
   refine RC.sr ?_
   have hw := hw.freeze (i := 3) rfl
   have hw := hw.rd_nil Str
   have hw := hw.close_bc (i := 3) (x := (⟨x2, s8, ([] : (List Str))⟩ : Net)) rfl (fun M hs g => ⟨[(str x2)], [v53, (.slice none 0 0)], rfl, rfl, ⟨[v53], [(.slice none 0 0)], rfl, (rd_one rfl (g.sat 4 _ rfl).1), (rd_one rfl (g.sat 0 _ rfl).1)⟩⟩)
   refine RL.load_bf (i := 3) (f := (fun x => x)) trivial rfl hw rfl rfl Fd.self ty64 fun v69 hw => ?_
   refine RL.store_raw (i := 3) (j := 0) trivial hw rfl rfl rfl rfl ty64 rfl fun w hw => ?_
   refine as_ (vb false) rfl rfl ?_
   refine RL.nt ?_
   refine RC.rt ?_
   refine blkQ_r ?_
   refine thenQ_r ?_
   obtain rfl := oi hb
   exact ⟨rfl, finC2 (i := 3) rfl hw rfl rfl ty64 rfl fun v70 hw => ⟨v70, rfl, hw.pick 8 [0] (new := [rd v70 (⟨x2, s8, ([] : (List Str))⟩ : Net)]) rfl rfl (by decide) (by decide)⟩⟩
  replace hb := cF hc hb
  refine RC.sn ?_
  refine RC.region ?_
  refine RL.fa_b trivial rfl rfl fa64_1 ?_
  refine RL.load_bc (i := 2) (v := v53) trivial rfl hw rfl rfl rfl ty33 ?_
  refine mv (str x56.1) rfl rfl ?_
  refine mv (str x56.2.1) rfl rfl ?_
  have hw := hw.sc (γ := Str) x56.1
  have hw := hw.sc (γ := Str) x56.2.1
  refine RL.build (y := (⟨x56.1, x56.2.1⟩ : Pin)) trivial rfl hw [(0, (str x56.1)), (1, (str x56.2.1))] rfl st28 rfl (fun M hs g => by have h := z_Pin M; exact Fills.cons (f := fun (x : Pin) y => { x with Part := y }) rfl h fs_Pin_0 (by decide) (g.sat 1 _ rfl).1 fun _ h => Fills.cons (f := fun (x : Pin) y => { x with Pin := y }) rfl h fs_Pin_1 (by decide) (g.sat 0 _ rfl).1 fun _ h => Fills.nil h) fun v71 hw => ?_
  refine RL.bslice (l := ([(⟨x56.1, x56.2.1⟩ : Pin)] : (List Pin))) trivial rfl hw [v71] rfl rfl rfl sl33 ze28 (fun M hs g => ⟨(g.sat 0 _ rfl).1, trivial⟩) fun v72 w hw => ?_
  have hw := hw.freeze (i := 0) rfl
  obtain ⟨x73, hx73, hb⟩ := bd hb
  refine RL.app (i := 7) (j := 0) trivial rfl hw rfl rfl rfl rfl el33 hx73 fun v74 w hw => ?_
  refine RL.fa_b trivial rfl rfl fa64_1 ?_
  refine RL.store_bc (i := 6) (v := v74) trivial hw rfl rfl rfl rfl (one_own hw (i := 7) rfl) ty33 fun w hw => ?_
  refine RL.nil ?_
  refine blkQ_n ?_
  refine thenQ_n ?_
  refine RC.region ?_
  refine RL.inc trivial rfl hk hm rfl rfl ?_
  refine mv (vi ((k7 + 1 : Nat) : Int)) rfl rfl ?_
  refine RL.nil ?_
  obtain rfl := oi hb
  exact ⟨rfl, v74, ⟨rfl, rfl, rfl, rfl, rfl, rfl, trivial⟩, hw.pick 9 [4, 5, 6, 7, 8] (new := [rd v0 p0, raw 64 b1 3, bc 64 b4 [(str x2), v74, (.slice none 0 0)], own 28 v74 x73, rd v6 x5]) rfl rfl (by decide) (by decide)⟩
 ·intro r σ w e hK
  subst e
  refine thenQ_r ?_
  obtain rfl := oi hb
  exact hK
 intro s8 σ w e hJ
 subst e
 rw [Fo.cs_go] at hb
 obtain ⟨v52, ha, hw⟩ := hJ
 obtain ⟨τ, rfl⟩ := ha.ups
 refine thenQ_n ?_
 refine RC.seq ?_
 obtain ⟨x77, hx77, hb⟩ := bd hb
 obtain ⟨x79, hx79, hb⟩ := bd hb
 refine RC.drw mixed rfl (fun (D : Nat → Bool) (σ : Nat → Value) (w : World) => ∃ (v76 : Value) (v78 : Value), doneV D σ [(0, 49, v76), (1, 50, v0), (2, 51, v78), (3, 52, (str x77)), (4, 53, (vb x79)), (6, 3, (vb x79))] ∧ agree σ [(0, v0), (2, (vp b1 0)), (4, (vp b4 0))] ∧ Holds E w ([bif D 0 then (rd v76 (⟨x2, s8, ([] : (List Str))⟩ : Net)) else junk, bif D 2 then (pt v78 x77) else junk, rd v0 p0, bif D 5 then (bx 64 b1 (⟨x2, s8, ([] : (List Str))⟩ : Net)) else (raw 64 b1 3), bif D 0 then (bx 64 b4 (⟨x2, s8, ([] : (List Str))⟩ : Net)) else (bc 64 b4 [(str x2), v52, (.slice none 0 0)]), bif D 0 then (rd v52 s8) else (own 28 v52 s8), rd v6 x5] ++ Γ)) ?_ ⟨?_, ?_, ?_, ?_, ?_, ?_, ?_, trivial⟩ ?_
 ·have hw := hw.drew
  have hw := hw.junk
  have hw := hw.junk
  exact ⟨undef, undef, doneV.none, ⟨rfl, rfl, rfl, trivial⟩, hw⟩
 ·rintro D σ w hD hdep hcl ⟨v76, v78, hv, ha, hw⟩
  obtain ⟨τ, rfl⟩ := (ac (ha.at 2 rfl) az).ups
  have hw := hw.selF (i := 0) rfl hD
  have hw := hw.selF (i := 4) rfl hD
  have hw := hw.selF (i := 5) rfl hD
  have hw := hw.freeze (i := 5) rfl
  have hw := hw.rd_nil Str
  have hw := hw.close_bc (i := 5) (x := (⟨x2, s8, ([] : (List Str))⟩ : Net)) rfl (fun M hs g => ⟨[(str x2)], [v52, (.slice none 0 0)], rfl, rfl, ⟨[v52], [(.slice none 0 0)], rfl, (rd_one rfl (g.sat 6 _ rfl).1), (rd_one rfl (g.sat 0 _ rfl).1)⟩⟩)
  refine RL.load_bf (i := 5) (f := (fun x => x)) trivial rfl hw rfl rfl Fd.self ty64 fun v80 hw => ?_
  have hw := hw.pick 9 [0, 3, 4, 5, 6, 7, 8] (new := [rd v80 (⟨x2, s8, ([] : (List Str))⟩ : Net), bif D 2 then (pt v78 x77) else junk, rd v0 p0, bif D 5 then (bx 64 b1 (⟨x2, s8, ([] : (List Str))⟩ : Net)) else (raw 64 b1 3), bx 64 b4 (⟨x2, s8, ([] : (List Str))⟩ : Net), rd v52 s8, rd v6 x5]) rfl rfl (by decide) (by decide)
  have hw := hw.altT (i := 0) (b := true) rfl rfl (junk)
  have hw := hw.altT (i := 4) (b := true) rfl rfl (bc 64 b4 [(str x2), v52, (.slice none 0 0)])
  have hw := hw.altT (i := 5) (b := true) rfl rfl (own 28 v52 s8)
  refine RL.nil ?_
  exact ⟨rfl, v80, v78, hv.put 0 rfl rfl, ha.up rfl, hw⟩
 ·rintro D σ w hD hdep hcl ⟨v76, v78, hv, ha, hw⟩
  obtain ⟨τ, rfl⟩ := (ac (ha.at 0 rfl) az).ups
  refine mv v0 rfl rfl ?_
  refine RL.nil ?_
  exact ⟨rfl, v76, v78, hv.put 1 rfl rfl, ha.up rfl, hw⟩
 ·rintro D σ w hD hdep hcl ⟨v76, v78, hv, ha, hw⟩
  obtain ⟨τ, rfl⟩ := (ac (hv.at 1 rfl (hdep.1 rfl)) az).ups
  have hw := hw.selF (i := 1) rfl hD
  refine RL.ia_rd (i := 2) trivial rfl hw rfl rfl rfl sl55 hx77 fun v81 hw => ?_
  have hw := hw.pick 8 [1, 0, 3, 4, 5, 6, 7] (new := [bif D 0 then (rd v76 (⟨x2, s8, ([] : (List Str))⟩ : Net)) else junk, pt v81 x77, rd v0 p0, bif D 5 then (bx 64 b1 (⟨x2, s8, ([] : (List Str))⟩ : Net)) else (raw 64 b1 3), bif D 0 then (bx 64 b4 (⟨x2, s8, ([] : (List Str))⟩ : Net)) else (bc 64 b4 [(str x2), v52, (.slice none 0 0)]), bif D 0 then (rd v52 s8) else (own 28 v52 s8), rd v6 x5]) rfl rfl (by decide) (by decide)
  have hw := hw.altT (i := 1) (b := true) rfl rfl (junk)
  refine RL.nil ?_
  exact ⟨rfl, v76, v81, hv.put 2 rfl rfl, ha.up rfl, hw⟩
 ·rintro D σ w hD hdep hcl ⟨v76, v78, hv, ha, hw⟩
  obtain ⟨τ, rfl⟩ := (ac (hv.at 2 rfl (hdep.1 rfl)) az).ups
  have hw := hw.selT (i := 1) rfl (hdep.1 rfl)
  refine RL.load_pts (i := 1) (y := x77) trivial rfl hw rfl rfl ty9 ?_
  have hw := hw.altT (i := 1) (b := D 2) rfl (hdep.1 rfl) (junk)
  refine RL.nil ?_
  exact ⟨rfl, v76, v78, hv.put 3 rfl rfl, ha.up rfl, hw⟩
 ·rintro D σ w hD hdep hcl ⟨v76, v78, hv, ha, hw⟩
  obtain ⟨τ, rfl⟩ := (ac (hv.at 3 rfl (hdep.1 rfl)) az).ups
  refine RL.call trivial rfl fn61 [(str x77)] rfl (Calls_ret (etchhouseref2_isListWord_ok N (p0 := x77)  hw  hx79) ?_)
  rintro _ w ⟨rfl, hw⟩
  refine RL.nil ?_
  exact ⟨rfl, v76, v78, hv.put 4 rfl rfl, ha.up rfl, hw⟩
 ·rintro D σ w hD hdep hcl ⟨v76, v78, hv, ha, hw⟩
  obtain ⟨τ, rfl⟩ := (ac (hv.at 0 rfl (hdep.1 rfl)) (ac (ha.at 1 rfl) az)).ups
  have hw := hw.selT (i := 0) rfl (hdep.1 rfl)
  have hw := hw.selF (i := 3) rfl hD
  refine RL.store_raw (i := 3) (j := 0) trivial hw rfl rfl rfl rfl ty64 rfl fun w hw => ?_
  have hw := hw.altT (i := 0) (b := D 0) rfl (hdep.1 rfl) (junk)
  have hw := hw.altT (i := 3) (b := true) rfl rfl (raw 64 b1 3)
  refine RL.nil ?_
  exact ⟨rfl, v76, v78, hv.no rfl, ha, hw⟩
 ·rintro D σ w hD hdep hcl ⟨v76, v78, hv, ha, hw⟩
  obtain ⟨τ, rfl⟩ := (ac (hv.at 4 rfl (hdep.1 rfl)) az).ups
  refine as_ (vb x79) rfl rfl ?_
  refine RL.nil ?_
  exact ⟨rfl, v76, v78, hv.put 5 rfl rfl, ha.up rfl, hw⟩
 rintro D σ w hall ⟨v76, v78, hv, ha, hw⟩
 rw [hall 0 (by decide), hall 2 (by decide), hall 5 (by decide)] at hw
 obtain ⟨τ, rfl⟩ := (ac (hv.at 5 rfl (hall 6 (by decide))) (ac (ha.at 0 rfl) (ac (ha.at 1 rfl) (ac (ha.at 2 rfl) az)))).ups
 refine thenQ_n ?_
 refine RC.ret ?_
 obtain rfl := oi hb
 exact finC2 (i := 3) rfl hw rfl rfl ty64 rfl fun v82 hw => ⟨v82, rfl, hw.pick 8 [0] (new := [rd v82 (⟨x2, s8, ([] : (List Str))⟩ : Net)]) rfl rfl (by decide) (by decide)⟩
def etchhouseref2_Read_R (E : World) (Γ : List HP) (res : Netlist × Int × Int) (v : Value) (w : World) : Prop := ∃ u0 : Value, v = .tuple #[u0, (vi res.2.1), (vi res.2.2)] ∧ Holds E w (rd u0 res.1 :: Γ)
def etchhouseref2_Read_K (E : World) (Γ : List HP) (r : Netlist × Int × Int) (σ : Nat → Value) (w : World) : Prop := finQ Tryd.prog 99 Tryd.f23 (etchhouseref2_Read_R E Γ r) .ret σ w
theorem etchhouseref2_Read_ok (N : Nat) {E w : World} {Γ : List HP} {p0 : Str} {res : Netlist × Int × Int} (hw : Holds E w Γ)  (hb : etchhouseref2_Read N p0 = some res) :
    Calls Tryd.prog 23 [(str p0)].toArray w (Ret (etchhouseref2_Read_R E Γ res)) := by
 unfold etchhouseref2_Read at hb
 refine enter Tryd.func23 rfl rfl (Nat.le_of_ble_eq_true rfl) ?_
 refine RC.sr ?_
 refine RL.alloc trivial rfl hw ze26.z fun b1 w hw => ?_
 refine as_ (vi 0) rfl rfl ?_
 refine as_ (vi 0) rfl rfl ?_
 refine RL.nq ?_
 refine RC.sr ?_
 refine mv (str p0) rfl rfl ?_
 refine RL.lens (s := p0) trivial rfl rfl un9 ?_
 refine ic ((p0.toL.length : Int)) 2000000 rfl rfl rfl rfl ?_
 refine RL.nt ?_
 refine RC.cond (b := (decide ((p0.toL.length : Int) > 2000000))) rfl (fun hc => ?_) (fun hc => ?_)
 ·replace hb := cT hc hb
  refine RC.sr ?_
  refine RL.buildc (zs := [(.slice none 0 0), (.slice none 0 0)]) (cs := [(.slice none 0 0), (.slice none 0 0)]) trivial rfl [] rfl st26 trivial rfl ?_
  have hw := hw.rd_nil Part
  have hw := hw.rd_nil Net
  have hw := hw.rd_agg (cs := [(.slice none 0 0), (.slice none 0 0)]) (x := (⟨([] : (List Part)), ([] : (List Net))⟩ : Netlist)) (fun M hs g => ⟨[(.slice none 0 0)], [(.slice none 0 0)], rfl, (rd_one rfl (g.sat 1 _ rfl).1), (rd_one rfl (g.sat 0 _ rfl).1)⟩) rfl
  refine RL.store_raw (i := 3) (j := 0) trivial hw rfl rfl rfl rfl ty26 rfl fun w hw => ?_
  refine as_ (vi 0) rfl rfl ?_
  refine as_ (vi 2) rfl rfl ?_
  refine RL.nt ?_
  refine RC.rt ?_
  obtain rfl := oi hb
  exact finC3 (i := 3) rfl hw rfl rfl ty26 rfl rfl fun v2 hw => ⟨v2, rfl, hw.pick 5 [0] (new := [rd v2 (⟨([] : (List Part)), ([] : (List Net))⟩ : Netlist)]) rfl rfl (by decide) (by decide)⟩
 replace hb := cF hc hb
 refine RC.sx ?_
 refine RL.alloc_bc trivial rfl hw zc26 rfl fun b3 w hw => ?_
 refine RL.nq ?_
 refine RC.sr ?_
 refine as_ (vi 1) rfl rfl ?_
 refine RL.nt ?_
 obtain ⟨o355, hN, hb⟩ := bd hb
 refine RC.iter (fun (s5 : Str × (List Part) × (List Net) × Int) (σ : Nat → Value) (w : World) => ∃ v234 v235 : Value, agree σ [(0, (str s5.1)), (2, (vp b1 0)), (5, (vp b3 0)), (6, (vi s5.2.2.2))] ∧ Holds E w ([raw 26 b1 2, bc 26 b3 [v234, v235], own 87 v234 s5.2.1, own 64 v235 s5.2.2.1] ++ Γ)) (fun (s5 : Str × (List Part) × (List Net) × Int) (σ : Nat → Value) (w : World) => ∃ v236 v237 : Value, agree σ [(2, (vp b1 0)), (5, (vp b3 0))] ∧ Holds E w ([raw 26 b1 2, bc 26 b3 [v236, v237], own 87 v236 s5.2.1, own 64 v237 s5.2.2.1] ++ Γ)) (etchhouseref2_Read_K E Γ) hN ?_ ?_ ?_ ?_ 
 ·have hw := hw.own_nil Part 87
  have hw := hw.own_nil Net 64
  exact ⟨(.slice none 0 0), (.slice none 0 0), ⟨rfl, rfl, rfl, rfl, trivial⟩, hw.pick 4 [3, 2, 1, 0] (new := [raw 26 b1 2, bc 26 b3 [(.slice none 0 0), (.slice none 0 0)], own 87 (.slice none 0 0) ([] : (List Part)), own 64 (.slice none 0 0) ([] : (List Net))]) rfl rfl (by decide) (by decide)⟩
 ·intro s5 fl σ w hI hb
  obtain ⟨v238, v239, ha, hw⟩ := hI
  obtain ⟨τ, rfl⟩ := ha.ups
  refine RC.seq ?_
  refine RC.sr ?_
  refine mv (str s5.1) rfl rfl ?_
  refine RL.scmp (a := s5.1) (b := ⟨[]⟩) trivial rfl rfl rfl rfl ?_
  refine RL.nt ?_
  refine RC.cond (b := (!s5.1.eqb (⟨[]⟩))) rfl (fun hc => ?_) (fun hc => ?_)
  rotate_left
  ·replace hb := cF hc hb
   refine RC.ex ?_
   obtain rfl := oi hb
   exact ⟨rfl, v238, v239, ⟨rfl, rfl, trivial⟩, hw.pick 4 [0, 1, 2, 3] (new := [raw 26 b1 2, bc 26 b3 [v238, v239], own 87 v238 s5.2.1, own 64 v239 s5.2.2.1]) rfl rfl (by decide) (by decide)⟩
  replace hb := cT hc hb
  refine RC.ss ?_
  refine RC.bs ?_
  refine mv (str s5.1) rfl rfl ?_
  obtain ⟨x240, hx240, hb⟩ := bd hb
  refine RL.call trivial rfl fn58 [(str s5.1), (str ⟨[10]⟩)] rfl (Calls_ret (strings_Cut_ok N (p0 := s5.1) (p1 := ⟨[10]⟩)  hw  hx240) ?_)
  rintro _ w ⟨rfl, hw⟩
  refine mv (.tuple #[(str x240.1), (str x240.2.1), (vb x240.2.2)]) rfl rfl ?_
  refine RL.extract (v := (str x240.1)) trivial rfl rfl rfl ?_
  refine RL.extract (v := (str x240.2.1)) trivial rfl rfl rfl ?_
  refine RL.extract (v := (vb x240.2.2)) trivial rfl rfl rfl ?_
  refine as_ (str x240.1) rfl rfl ?_
  refine as_ (str x240.2.1) rfl rfl ?_
  refine as_ (vb x240.2.2) rfl rfl ?_
  refine RL.ns ?_
  refine mv (str x240.1) rfl rfl ?_
  obtain ⟨x241, hx241, hb⟩ := bd hb
  refine RL.call trivial rfl fn60 [(str x240.1), (str ⟨[32]⟩)] rfl (Calls_ret (strings_Split_ok N (p0 := x240.1) (p1 := ⟨[32]⟩)  hw  hx241) ?_)
  rintro v242 w hw
  refine as_ v242 rfl rfl ?_
  refine RL.ns ?_
  refine as_ (vb false) rfl rfl ?_
  refine RL.nq ?_
  refine RC.block ?_
  refine RC.seq ?_
  obtain ⟨s249, hj, hb⟩ := bd hb
  refine RC.jn (fun (s249 : Bool) (σ : Nat → Value) (w : World) => agree σ [(2, (vp b1 0)), (5, (vp b3 0)), (6, (vi s5.2.2.2)), (8, (str x240.2.1)), (9, (vb x240.2.2)), (10, v242), (11, (vb false)), (29, (vb s249))] ∧ Holds E w ([raw 26 b1 2, bc 26 b3 [v238, v239], own 87 v238 s5.2.1, own 64 v239 s5.2.2.1, own 9 v242 x241] ++ Γ)) s249 ?_ ?_
  ·refine RC.region ?_
   refine mv v242 rfl rfl ?_
   obtain ⟨x250, hx250, hj⟩ := bd hj
   refine RL.ia_ownA (i := 0) trivial rfl hw rfl rfl rfl sl55 hx250 ?_
   refine RL.load_els (i := 0) (f := (fun x => x)) trivial rfl hw rfl (elp hw (i := 0) rfl hx250 0) rfl (idx_some hx250).2.1 Fd.self ty9 ?_
   refine RL.scmp (a := x250) (b := ⟨[112, 97, 114, 116]⟩) trivial rfl rfl rfl rfl ?_
   refine mv (vb (x250.eqb (⟨[112, 97, 114, 116]⟩))) rfl rfl ?_
   rcases Bool.eq_false_or_eq_true (x250.eqb (⟨[112, 97, 114, 116]⟩)) with hg251 | hg251
   rotate_left
   ·replace hj := cF hg251 hj
    refine sk rfl (.inl (cb hg251)) rfl ?_
    refine sk rfl (.inl (cb hg251)) rfl ?_
    refine sk rfl (.inl (cb hg251)) rfl ?_
    refine RL.pick (b := (x250.eqb (⟨[112, 97, 114, 116]⟩))) (v := (vb false)) trivial rfl rfl (by rw [hg251]; rfl) ?_
    refine mv (vb false) rfl rfl ?_
    refine sk rfl (.inl rfl) rfl ?_
    refine sk rfl (.inl rfl) rfl ?_
    refine sk rfl (.inl rfl) rfl ?_
    refine sk rfl (.inl rfl) rfl ?_
    refine RL.pick (b := false) (v := (vb false)) trivial rfl rfl rfl ?_
    refine as_ (vb false) rfl rfl ?_
    refine RL.nil ?_
    obtain rfl := oi hj
    exact ⟨rfl, ⟨rfl, rfl, rfl, rfl, rfl, rfl, rfl, rfl, trivial⟩, hw.pick 5 [1, 2, 3, 4, 0] (new := [raw 26 b1 2, bc 26 b3 [v238, v239], own 87 v238 s5.2.1, own 64 v239 s5.2.2.1, own 9 v242 x241]) rfl rfl (by decide) (by decide)⟩
   replace hj := cT hg251 hj
   refine RL.move (v := v242) ⟨_, rfl, cb hg251⟩ rfl rfl ?_
   refine RL.len_own (i := 0) (l := x241) ⟨_, rfl, cb hg251⟩ rfl hw rfl rfl un55 ?_
   refine RL.icmp (a := (x241.length : Int)) (b := 3) ⟨_, rfl, cb hg251⟩ rfl rfl rfl rfl ?_
   refine RL.pick (b := (x250.eqb (⟨[112, 97, 114, 116]⟩))) (v := (vb ((x241.length : Int) == 3))) trivial rfl rfl (by rw [hg251]; rfl) ?_
   refine mv (vb ((x241.length : Int) == 3)) rfl rfl ?_
   rcases Bool.eq_false_or_eq_true ((x241.length : Int) == 3) with hg252 | hg252
   ·replace hj := cT hg252 hj
    refine RL.fa_b ⟨_, rfl, cb hg252⟩ rfl rfl fa26_1 ?_
    refine RL.load_bc (i := 2) (v := v239) ⟨_, rfl, cb hg252⟩ rfl hw rfl rfl rfl ty24 ?_
    refine RL.len_own (i := 4) (l := s5.2.2.1) ⟨_, rfl, cb hg252⟩ rfl hw rfl rfl un24 ?_
    refine RL.icmp (a := (s5.2.2.1.length : Int)) (b := 0) ⟨_, rfl, cb hg252⟩ rfl rfl rfl rfl ?_
    refine RL.pick (b := ((x241.length : Int) == 3)) (v := (vb ((s5.2.2.1.length : Int) == 0))) trivial rfl rfl (by rw [hg252]; rfl) ?_
    refine as_ (vb ((s5.2.2.1.length : Int) == 0)) rfl rfl ?_
    refine RL.nil ?_
    obtain rfl := oi hj
    exact ⟨rfl, ⟨rfl, rfl, rfl, rfl, rfl, rfl, rfl, rfl, trivial⟩, hw.pick 5 [1, 2, 3, 4, 0] (new := [raw 26 b1 2, bc 26 b3 [v238, v239], own 87 v238 s5.2.1, own 64 v239 s5.2.2.1, own 9 v242 x241]) rfl rfl (by decide) (by decide)⟩
   replace hj := cF hg252 hj
   refine sk rfl (.inl (cb hg252)) rfl ?_
   refine sk rfl (.inl (cb hg252)) rfl ?_
   refine sk rfl (.inl (cb hg252)) rfl ?_
   refine sk rfl (.inl (cb hg252)) rfl ?_
   refine RL.pick (b := ((x241.length : Int) == 3)) (v := (vb false)) trivial rfl rfl (by rw [hg252]; rfl) ?_
   refine as_ (vb false) rfl rfl ?_
   refine RL.nil ?_
   obtain rfl := oi hj
   exact ⟨rfl, ⟨rfl, rfl, rfl, rfl, rfl, rfl, rfl, rfl, trivial⟩, hw.pick 5 [1, 2, 3, 4, 0] (new := [raw 26 b1 2, bc 26 b3 [v238, v239], own 87 v238 s5.2.1, own 64 v239 s5.2.2.1, own 9 v242 x241]) rfl rfl (by decide) (by decide)⟩
  rintro σ w ⟨ha, hw⟩
  obtain ⟨τ, rfl⟩ := ha.ups
  refine thenQ_n ?_
  obtain ⟨s301, hj, hb⟩ := bd hb
  refine RC.jn (fun (s301 : (List Part) × (List Net) × Bool) (σ : Nat → Value) (w : World) => ∃ v302 v303 : Value, agree σ [(2, (vp b1 0)), (5, (vp b3 0)), (6, (vi s5.2.2.2)), (8, (str x240.2.1)), (9, (vb x240.2.2)), (11, (vb s301.2.2))] ∧ Holds E w ([raw 26 b1 2, bc 26 b3 [v302, v303], own 87 v302 s301.1, own 64 v303 s301.2.1] ++ Γ)) s301 ?_ ?_
  ·refine RC.cond (b := s249) rfl (fun hc => ?_) (fun hc => ?_)
   rotate_left
   ·replace hj := cF hc hj
    refine RC.seq ?_
    obtain ⟨s329, hjj, hj⟩ := bd hj
    refine RC.jn (fun (s329 : Bool) (σ : Nat → Value) (w : World) => agree σ [(2, (vp b1 0)), (5, (vp b3 0)), (6, (vi s5.2.2.2)), (8, (str x240.2.1)), (9, (vb x240.2.2)), (10, v242), (11, (vb false)), (67, (vb s329))] ∧ Holds E w ([raw 26 b1 2, bc 26 b3 [v238, v239], own 87 v238 s5.2.1, own 64 v239 s5.2.2.1, own 9 v242 x241] ++ Γ)) s329 ?_ ?_
    ·refine RC.region ?_
     refine mv v242 rfl rfl ?_
     obtain ⟨x330, hx330, hjj⟩ := bd hjj
     refine RL.ia_ownA (i := 4) trivial rfl hw rfl rfl rfl sl55 hx330 ?_
     refine RL.load_els (i := 4) (f := (fun x => x)) trivial rfl hw rfl (elp hw (i := 4) rfl hx330 0) rfl (idx_some hx330).2.1 Fd.self ty9 ?_
     refine RL.scmp (a := x330) (b := ⟨[110, 101, 116]⟩) trivial rfl rfl rfl rfl ?_
     refine mv (vb (x330.eqb (⟨[110, 101, 116]⟩))) rfl rfl ?_
     rcases Bool.eq_false_or_eq_true (x330.eqb (⟨[110, 101, 116]⟩)) with hg331 | hg331
     ·replace hjj := cT hg331 hjj
      refine RL.move (v := v242) ⟨_, rfl, cb hg331⟩ rfl rfl ?_
      refine RL.len_own (i := 4) (l := x241) ⟨_, rfl, cb hg331⟩ rfl hw rfl rfl un55 ?_
      refine RL.icmp (a := (x241.length : Int)) (b := 1) ⟨_, rfl, cb hg331⟩ rfl rfl rfl rfl ?_
      refine RL.pick (b := (x330.eqb (⟨[110, 101, 116]⟩))) (v := (vb (decide ((x241.length : Int) > 1)))) trivial rfl rfl (by rw [hg331]; rfl) ?_
      refine as_ (vb (decide ((x241.length : Int) > 1))) rfl rfl ?_
      refine RL.nil ?_
      obtain rfl := oi hjj
      exact ⟨rfl, ⟨rfl, rfl, rfl, rfl, rfl, rfl, rfl, rfl, trivial⟩, hw.pick 5 [0, 1, 2, 3, 4] (new := [raw 26 b1 2, bc 26 b3 [v238, v239], own 87 v238 s5.2.1, own 64 v239 s5.2.2.1, own 9 v242 x241]) rfl rfl (by decide) (by decide)⟩
     replace hjj := cF hg331 hjj
     refine sk rfl (.inl (cb hg331)) rfl ?_
     refine sk rfl (.inl (cb hg331)) rfl ?_
     refine sk rfl (.inl (cb hg331)) rfl ?_
     refine RL.pick (b := (x330.eqb (⟨[110, 101, 116]⟩))) (v := (vb false)) trivial rfl rfl (by rw [hg331]; rfl) ?_
     refine as_ (vb false) rfl rfl ?_
     refine RL.nil ?_
     obtain rfl := oi hjj
     exact ⟨rfl, ⟨rfl, rfl, rfl, rfl, rfl, rfl, rfl, rfl, trivial⟩, hw.pick 5 [0, 1, 2, 3, 4] (new := [raw 26 b1 2, bc 26 b3 [v238, v239], own 87 v238 s5.2.1, own 64 v239 s5.2.2.1, own 9 v242 x241]) rfl rfl (by decide) (by decide)⟩
    rintro σ w ⟨ha, hw⟩
    obtain ⟨τ, rfl⟩ := ha.ups
    refine thenQ_n ?_
    obtain ⟨s341, hjj, hj⟩ := bd hj
    refine RC.jn (fun (s341 : (List Net) × Bool) (σ : Nat → Value) (w : World) => ∃ v342 : Value, agree σ [(2, (vp b1 0)), (5, (vp b3 0)), (6, (vi s5.2.2.2)), (8, (str x240.2.1)), (9, (vb x240.2.2)), (11, (vb s341.2))] ∧ Holds E w ([raw 26 b1 2, bc 26 b3 [v238, v342], own 64 v342 s341.1, own 87 v238 s5.2.1] ++ Γ)) s341 ?_ ?_
    ·refine RC.cond (b := s329) rfl (fun hc => ?_) (fun hc => ?_)
     rotate_left
     ·replace hjj := cF hc hjj
      refine RC.skip ?_
      obtain rfl := oi hjj
      exact ⟨rfl, v239, ⟨rfl, rfl, rfl, rfl, rfl, rfl, trivial⟩, hw.pick 5 [0, 1, 3, 2] (new := [raw 26 b1 2, bc 26 b3 [v238, v239], own 64 v239 s5.2.2.1, own 87 v238 s5.2.1]) rfl rfl (by decide) (by decide)⟩
     replace hjj := cT hc hjj
     refine RC.sr ?_
     refine RL.alloc trivial rfl hw ze64.z fun b343 w hw => ?_
     refine RL.ns ?_
     refine mv v242 rfl rfl ?_
     obtain ⟨x344, hx344, hjj⟩ := bd hjj
     refine RL.cut_own (i := 5) trivial rfl hw rfl rfl sl55 (.inl rfl) (.inr ⟨rfl, rfl⟩) hx344 fun v345 hw => ?_
     have hw := hw.freeze (i := 5) rfl
     obtain ⟨x346, hx346, hjj⟩ := bd hjj
     refine RL.call trivial rfl fn62 [v345] rfl (Calls_ret (etchhouseref2_readNet_ok N  (i0 := 5) hw rfl hx346) ?_)
     rintro _ w ⟨v347, rfl, hw⟩
     refine mv (.tuple #[v347, (vb x346.2)]) rfl rfl ?_
     refine RL.extract (v := v347) trivial rfl rfl rfl ?_
     refine RL.extract (v := (vb x346.2)) trivial rfl rfl rfl ?_
     refine RL.store_raw (i := 1) (j := 0) trivial hw rfl rfl rfl rfl ty64 rfl fun w hw => ?_
     refine as_ (vb x346.2) rfl rfl ?_
     refine RL.nt ?_
     refine RC.region ?_
     refine RL.fa_b trivial rfl rfl fa26_1 ?_
     refine RL.load_bc (i := 3) (v := v239) trivial rfl hw rfl rfl rfl ty24 ?_
     refine RL.load_bf (i := 1) (f := (fun x => x)) trivial rfl hw rfl rfl Fd.self ty64 fun v348 hw => ?_
     refine RL.bslice (l := ([x346.1] : (List Net))) trivial rfl hw [v348] rfl rfl rfl sl24 ze64 (fun M hs g => ⟨(g.sat 0 _ rfl).1, trivial⟩) fun v349 w hw => ?_
     have hw := hw.freeze (i := 0) rfl
     obtain ⟨x350, hx350, hjj⟩ := bd hjj
     refine RL.app (i := 7) (j := 0) trivial rfl hw rfl rfl rfl rfl el24 hx350 fun v351 w hw => ?_
     refine RL.fa_b trivial rfl rfl fa26_1 ?_
     refine RL.store_bc (i := 5) (v := v351) trivial hw rfl rfl rfl rfl (one_own hw (i := 7) rfl) ty24 fun w hw => ?_
     refine RL.nil ?_
     obtain rfl := oi hjj
     exact ⟨rfl, v351, ⟨rfl, rfl, rfl, rfl, rfl, rfl, trivial⟩, hw.pick 9 [4, 5, 7, 6] (new := [raw 26 b1 2, bc 26 b3 [v238, v351], own 64 v351 x350, own 87 v238 s5.2.1]) rfl rfl (by decide) (by decide)⟩
    rintro σ w ⟨v342, ha, hw⟩
    obtain ⟨τ, rfl⟩ := ha.ups
    obtain rfl := oi hj
    exact ⟨rfl, v238, v342, ⟨rfl, rfl, rfl, rfl, rfl, rfl, trivial⟩, hw.pick 4 [0, 1, 3, 2] (new := [raw 26 b1 2, bc 26 b3 [v238, v342], own 87 v238 s5.2.1, own 64 v342 s341.1]) rfl rfl (by decide) (by decide)⟩
   replace hj := cT hc hj
   refine RC.seq ?_
   obtain ⟨s311, hjj, hj⟩ := bd hj
   refine RC.jn (fun (s311 : Bool) (σ : Nat → Value) (w : World) => agree σ [(2, (vp b1 0)), (5, (vp b3 0)), (6, (vi s5.2.2.2)), (8, (str x240.2.1)), (9, (vb x240.2.2)), (10, v242), (11, (vb s311))] ∧ Holds E w ([raw 26 b1 2, bc 26 b3 [v238, v239], own 87 v238 s5.2.1, own 64 v239 s5.2.2.1, own 9 v242 x241] ++ Γ)) s311 ?_ ?_
   ·refine RC.region ?_
    refine mv v242 rfl rfl ?_
    obtain ⟨x312, hx312, hjj⟩ := bd hjj
    refine RL.ia_ownA (i := 4) trivial rfl hw rfl rfl rfl sl55 hx312 ?_
    refine RL.load_els (i := 4) (f := (fun x => x)) trivial rfl hw rfl (elp hw (i := 4) rfl hx312 0) rfl (idx_some hx312).2.1 Fd.self ty9 ?_
    obtain ⟨x313, hx313, hjj⟩ := bd hjj
    refine RL.call trivial rfl fn61 [(str x312)] rfl (Calls_ret (etchhouseref2_isListWord_ok N (p0 := x312)  hw  hx313) ?_)
    rintro _ w ⟨rfl, hw⟩
    refine mv (vb x313) rfl rfl ?_
    rcases Bool.eq_false_or_eq_true x313 with hg314 | hg314
    rotate_left
    ·replace hjj := cF hg314 hjj
     refine sk rfl (.inl (cb hg314)) rfl ?_
     refine sk rfl (.inl (cb hg314)) rfl ?_
     refine sk rfl (.inl (cb hg314)) rfl ?_
     refine sk rfl (.inl (cb hg314)) rfl ?_
     refine RL.pick (b := x313) (v := (vb false)) trivial rfl rfl (by rw [hg314]; rfl) ?_
     refine as_ (vb false) rfl rfl ?_
     refine RL.nil ?_
     obtain rfl := oi hjj
     exact ⟨rfl, ⟨rfl, rfl, rfl, rfl, rfl, rfl, rfl, trivial⟩, hw.pick 5 [0, 1, 2, 3, 4] (new := [raw 26 b1 2, bc 26 b3 [v238, v239], own 87 v238 s5.2.1, own 64 v239 s5.2.2.1, own 9 v242 x241]) rfl rfl (by decide) (by decide)⟩
    replace hjj := cT hg314 hjj
    refine RL.move (v := v242) ⟨_, rfl, cb hg314⟩ rfl rfl ?_
    obtain ⟨x315, hx315, hjj⟩ := bd hjj
    refine RL.ia_ownA (i := 4) ⟨_, rfl, cb hg314⟩ rfl hw rfl rfl rfl sl55 hx315 ?_
    refine RL.load_els (i := 4) (f := (fun x => x)) ⟨_, rfl, cb hg314⟩ rfl hw rfl (elp hw (i := 4) rfl hx315 0) rfl (idx_some hx315).2.1 Fd.self ty9 ?_
    obtain ⟨x316, hx316, hjj⟩ := bd hjj
    refine RL.call ⟨_, rfl, cb hg314⟩ rfl fn61 [(str x315)] rfl (Calls_ret (etchhouseref2_isListWord_ok N (p0 := x315)  hw  hx316) ?_)
    rintro _ w ⟨rfl, hw⟩
    refine RL.pick (b := x313) (v := (vb x316)) trivial rfl rfl (by rw [hg314]; rfl) ?_
    refine as_ (vb x316) rfl rfl ?_
    refine RL.nil ?_
    obtain rfl := oi hjj
    exact ⟨rfl, ⟨rfl, rfl, rfl, rfl, rfl, rfl, rfl, trivial⟩, hw.pick 5 [0, 1, 2, 3, 4] (new := [raw 26 b1 2, bc 26 b3 [v238, v239], own 87 v238 s5.2.1, own 64 v239 s5.2.2.1, own 9 v242 x241]) rfl rfl (by decide) (by decide)⟩
   rintro σ w ⟨ha, hw⟩
   obtain ⟨τ, rfl⟩ := ha.ups
   refine thenQ_n ?_
   obtain ⟨x317, hx317, hj⟩ := bd hj
   obtain ⟨x318, hx318, hj⟩ := bd hj
   obtain ⟨x321, hx321, hj⟩ := bd hj
   refine RC.drw mixed rfl (fun (D : Nat → Bool) (σ : Nat → Value) (w : World) => ∃ (v319 : Value) (v320 : Value) (v322 : Value), doneV D σ [(0, 55, (vp b3 0)), (1, 56, v238), (2, 57, v242), (3, 58, (elA v242 (Int.toNat 1) 1 0)), (4, 59, (str x317)), (5, 60, v242), (6, 61, (elA v242 (Int.toNat 2) 1 0)), (7, 62, (str x318)), (8, 63, v319), (9, 64, v320), (10, 65, v322), (11, 66, (vp b3 0))] ∧ agree σ [(2, (vp b1 0)), (5, (vp b3 0)), (6, (vi s5.2.2.2)), (8, (str x240.2.1)), (9, (vb x240.2.2)), (10, v242), (11, (vb s311))] ∧ Holds E w ([bif D 8 then (rd v319 (⟨x317, x318⟩ : Part)) else junk, bif D 10 then (rd v320 ([(⟨x317, x318⟩ : Part)] : (List Part))) else (bif D 9 then (own 87 v320 ([(⟨x317, x318⟩ : Part)] : (List Part))) else junk), raw 26 b1 2, bif D 12 then (bc 26 b3 [v322, v239]) else (bc 26 b3 [v238, v239]), bif D 10 then (own 87 v322 x321) else (own 87 v238 s5.2.1), own 64 v239 s5.2.2.1, own 9 v242 x241] ++ Γ)) ?_ ⟨?_, ?_, ?_, ?_, ?_, ?_, ?_, ?_, ?_, ?_, ?_, ?_, ?_, trivial⟩ ?_
   ·have hw := hw.drew
    have hw := hw.junk
    have hw := hw.junk
    exact ⟨undef, undef, undef, doneV.none, ⟨rfl, rfl, rfl, rfl, rfl, rfl, rfl, trivial⟩, hw⟩
   ·rintro D σ w hD hdep hcl ⟨v319, v320, v322, hv, ha, hw⟩
    obtain ⟨τ, rfl⟩ := (ac (ha.at 1 rfl) az).ups
    refine RL.fa_b trivial rfl rfl fa26_0 ?_
    refine RL.nil ?_
    exact ⟨rfl, v319, v320, v322, hv.put 0 rfl rfl, ha.up rfl, hw⟩
   ·rintro D σ w hD hdep hcl ⟨v319, v320, v322, hv, ha, hw⟩
    obtain ⟨τ, rfl⟩ := (ac (hv.at 0 rfl (hdep.1 rfl)) az).ups
    have hw := hw.selF (i := 3) rfl (nf (fun h => ft hD ((hcl 12 _ rfl h).2.2.2.2.1 rfl)))
    refine RL.load_bc (i := 3) (v := v238) trivial rfl hw rfl rfl rfl ty23 ?_
    have hw := hw.altF (i := 3) (b := D 12) rfl (nf (fun h => ft hD ((hcl 12 _ rfl h).2.2.2.2.1 rfl))) (bc 26 b3 [v322, v239])
    refine RL.nil ?_
    exact ⟨rfl, v319, v320, v322, hv.put 1 rfl rfl, ha.up rfl, hw⟩
   ·rintro D σ w hD hdep hcl ⟨v319, v320, v322, hv, ha, hw⟩
    obtain ⟨τ, rfl⟩ := (ac (ha.at 5 rfl) az).ups
    refine mv v242 rfl rfl ?_
    refine RL.nil ?_
    exact ⟨rfl, v319, v320, v322, hv.put 2 rfl rfl, ha.up rfl, hw⟩
   ·rintro D σ w hD hdep hcl ⟨v319, v320, v322, hv, ha, hw⟩
    obtain ⟨τ, rfl⟩ := (ac (hv.at 2 rfl (hdep.1 rfl)) az).ups
    refine RL.ia_ownA (i := 6) trivial rfl hw rfl rfl rfl sl55 hx317 ?_
    refine RL.nil ?_
    exact ⟨rfl, v319, v320, v322, hv.put 3 rfl rfl, ha.up rfl, hw⟩
   ·rintro D σ w hD hdep hcl ⟨v319, v320, v322, hv, ha, hw⟩
    obtain ⟨τ, rfl⟩ := (ac (hv.at 3 rfl (hdep.1 rfl)) az).ups
    refine RL.load_els (i := 6) (f := (fun x => x)) trivial rfl hw rfl (elp hw (i := 6) rfl hx317 0) rfl (idx_some hx317).2.1 Fd.self ty9 ?_
    refine RL.nil ?_
    exact ⟨rfl, v319, v320, v322, hv.put 4 rfl rfl, ha.up rfl, hw⟩
   ·rintro D σ w hD hdep hcl ⟨v319, v320, v322, hv, ha, hw⟩
    obtain ⟨τ, rfl⟩ := (ac (ha.at 5 rfl) az).ups
    refine mv v242 rfl rfl ?_
    refine RL.nil ?_
    exact ⟨rfl, v319, v320, v322, hv.put 5 rfl rfl, ha.up rfl, hw⟩
   ·rintro D σ w hD hdep hcl ⟨v319, v320, v322, hv, ha, hw⟩
    obtain ⟨τ, rfl⟩ := (ac (hv.at 5 rfl (hdep.1 rfl)) az).ups
    refine RL.ia_ownA (i := 6) trivial rfl hw rfl rfl rfl sl55 hx318 ?_
    refine RL.nil ?_
    exact ⟨rfl, v319, v320, v322, hv.put 6 rfl rfl, ha.up rfl, hw⟩
   ·rintro D σ w hD hdep hcl ⟨v319, v320, v322, hv, ha, hw⟩
    obtain ⟨τ, rfl⟩ := (ac (hv.at 6 rfl (hdep.1 rfl)) az).ups
    refine RL.load_els (i := 6) (f := (fun x => x)) trivial rfl hw rfl (elp hw (i := 6) rfl hx318 0) rfl (idx_some hx318).2.1 Fd.self ty9 ?_
    refine RL.nil ?_
    exact ⟨rfl, v319, v320, v322, hv.put 7 rfl rfl, ha.up rfl, hw⟩
   ·rintro D σ w hD hdep hcl ⟨v319, v320, v322, hv, ha, hw⟩
    obtain ⟨τ, rfl⟩ := (ac (hv.at 4 rfl (hdep.1 rfl)) (ac (hv.at 7 rfl (hdep.2.1 rfl)) az)).ups
    have hw := hw.selF (i := 0) rfl hD
    have hw := hw.sc (γ := Str) x317
    have hw := hw.sc (γ := Str) x318
    refine RL.build (y := (⟨x317, x318⟩ : Part)) trivial rfl hw [(0, (str x317)), (1, (str x318))] rfl st87 rfl (fun M hs g => by have h := z_Part M; exact Fills.cons (f := fun (x : Part) y => { x with Name := y }) rfl h fs_Part_0 (by decide) (g.sat 1 _ rfl).1 fun _ h => Fills.cons (f := fun (x : Part) y => { x with Type_ := y }) rfl h fs_Part_1 (by decide) (g.sat 0 _ rfl).1 fun _ h => Fills.nil h) fun v323 hw => ?_
    have hw := hw.pick 10 [0, 4, 5, 6, 7, 8, 9] (new := [rd v323 (⟨x317, x318⟩ : Part), bif D 10 then (rd v320 ([(⟨x317, x318⟩ : Part)] : (List Part))) else (bif D 9 then (own 87 v320 ([(⟨x317, x318⟩ : Part)] : (List Part))) else junk), raw 26 b1 2, bif D 12 then (bc 26 b3 [v322, v239]) else (bc 26 b3 [v238, v239]), bif D 10 then (own 87 v322 x321) else (own 87 v238 s5.2.1), own 64 v239 s5.2.2.1, own 9 v242 x241]) rfl rfl (by decide) (by decide)
    have hw := hw.altT (i := 0) (b := true) rfl rfl (junk)
    refine RL.nil ?_
    exact ⟨rfl, v323, v320, v322, hv.put 8 rfl rfl, ha.up rfl, hw⟩
   ·rintro D σ w hD hdep hcl ⟨v319, v320, v322, hv, ha, hw⟩
    obtain ⟨τ, rfl⟩ := (ac (hv.at 8 rfl (hdep.1 rfl)) az).ups
    have hw := hw.selT (i := 0) rfl (hdep.1 rfl)
    have hw := hw.selF (i := 1) rfl (nf (fun h => ft hD ((hcl 10 _ rfl h).2.1 rfl)))
    have hw := hw.selF (i := 1) rfl hD
    refine RL.bslice (l := ([(⟨x317, x318⟩ : Part)] : (List Part))) trivial rfl hw [v319] rfl rfl rfl sl23 ze87 (fun M hs g => ⟨(g.sat 0 _ rfl).1, trivial⟩) fun v324 w hw => ?_
    have hw := hw.pick 8 [1, 0, 3, 4, 5, 6, 7] (new := [rd v319 (⟨x317, x318⟩ : Part), own 87 v324 ([(⟨x317, x318⟩ : Part)] : (List Part)), raw 26 b1 2, bif D 12 then (bc 26 b3 [v322, v239]) else (bc 26 b3 [v238, v239]), bif D 10 then (own 87 v322 x321) else (own 87 v238 s5.2.1), own 64 v239 s5.2.2.1, own 9 v242 x241]) rfl rfl (by decide) (by decide)
    have hw := hw.altT (i := 0) (b := D 8) rfl (hdep.1 rfl) (junk)
    have hw := hw.altT (i := 1) (b := true) rfl rfl (junk)
    have hw := hw.altF (i := 1) (b := D 10) rfl (nf (fun h => ft hD ((hcl 10 _ rfl h).2.1 rfl))) (rd v324 ([(⟨x317, x318⟩ : Part)] : (List Part)))
    refine RL.nil ?_
    exact ⟨rfl, v319, v324, v322, hv.put 9 rfl rfl, ha.up rfl, hw⟩
   ·rintro D σ w hD hdep hcl ⟨v319, v320, v322, hv, ha, hw⟩
    obtain ⟨τ, rfl⟩ := (ac (hv.at 1 rfl (hdep.1 rfl)) (ac (hv.at 9 rfl (hdep.2.1 rfl)) az)).ups
    have hw := hw.selF (i := 1) rfl hD
    have hw := hw.selT (i := 1) rfl (hdep.2.1 rfl)
    have hw := hw.selF (i := 3) rfl (nf (fun h => ft hD ((hcl 12 _ rfl h).2.1 rfl)))
    have hw := hw.selF (i := 4) rfl hD
    have hw := hw.freeze (i := 1) rfl
    refine RL.app (i := 4) (j := 1) trivial rfl hw rfl rfl rfl rfl el23 hx321 fun v325 w hw => ?_
    have hw := hw.altT (i := 1) (b := true) rfl rfl (bif D 9 then (own 87 v320 ([(⟨x317, x318⟩ : Part)] : (List Part))) else junk)
    have hw := hw.altF (i := 3) (b := D 12) rfl (nf (fun h => ft hD ((hcl 12 _ rfl h).2.1 rfl))) (bc 26 b3 [v325, v239])
    have hw := hw.altT (i := 4) (b := true) rfl rfl (own 87 v238 s5.2.1)
    refine RL.nil ?_
    exact ⟨rfl, v319, v320, v325, hv.put 10 rfl rfl, ha.up rfl, hw⟩
   ·rintro D σ w hD hdep hcl ⟨v319, v320, v322, hv, ha, hw⟩
    obtain ⟨τ, rfl⟩ := (ac (ha.at 1 rfl) az).ups
    refine RL.fa_b trivial rfl rfl fa26_0 ?_
    refine RL.nil ?_
    exact ⟨rfl, v319, v320, v322, hv.put 11 rfl rfl, ha.up rfl, hw⟩
   ·rintro D σ w hD hdep hcl ⟨v319, v320, v322, hv, ha, hw⟩
    obtain ⟨τ, rfl⟩ := (ac (hv.at 10 rfl (hdep.2.1 rfl)) (ac (hv.at 11 rfl (hdep.1 rfl)) az)).ups
    have hw := hw.selF (i := 3) rfl hD
    have hw := hw.selT (i := 4) rfl (hdep.2.1 rfl)
    refine RL.store_bc (i := 3) (v := v322) trivial hw rfl rfl rfl rfl (one_own hw (i := 4) rfl) ty23 fun w hw => ?_
    have hw := hw.altT (i := 3) (b := true) rfl rfl (bc 26 b3 [v238, v239])
    have hw := hw.altT (i := 4) (b := D 10) rfl (hdep.2.1 rfl) (own 87 v238 s5.2.1)
    refine RL.nil ?_
    exact ⟨rfl, v319, v320, v322, hv.no rfl, ha, hw⟩
   rintro D σ w hall ⟨v319, v320, v322, hv, ha, hw⟩
   rw [hall 8 (by decide), hall 9 (by decide), hall 10 (by decide), hall 12 (by decide)] at hw
   obtain ⟨τ, rfl⟩ := (ac (ha.at 0 rfl) (ac (ha.at 1 rfl) (ac (ha.at 2 rfl) (ac (ha.at 3 rfl) (ac (ha.at 4 rfl) (ac (ha.at 5 rfl) (ac (ha.at 6 rfl) az))))))).ups
   obtain rfl := oi hj
   exact ⟨rfl, v322, v239, ⟨rfl, rfl, rfl, rfl, rfl, rfl, trivial⟩, hw.pick 7 [2, 3, 4, 5] (new := [raw 26 b1 2, bc 26 b3 [v322, v239], own 87 v322 x321, own 64 v239 s5.2.2.1]) rfl rfl (by decide) (by decide)⟩
  rintro σ w ⟨v302, v303, ha, hw⟩
  obtain ⟨τ, rfl⟩ := ha.ups
  refine blkQ_n ?_
  refine thenQ_n ?_
  refine RC.seq ?_
  refine RC.sr ?_
  refine mv (vb s301.2.2) rfl rfl ?_
  refine RL.not (b := s301.2.2) trivial rfl rfl ?_
  refine mv (vb (!s301.2.2)) rfl rfl ?_
  refine RL.gs (c := true) (b := (!s301.2.2)) (v := (vb x240.2.2)) rfl rfl rfl (gs_move rfl (fun _ => rfl)) ?_
  refine RL.gs (c := true) (b := (!s301.2.2)) (v := (vb (!x240.2.2))) rfl rfl rfl (gs_not (b := x240.2.2) rfl (fun h => by exact (cv_t h : cv (true && ((!s301.2.2) == false)) (vb x240.2.2) = (vb x240.2.2)))) ?_
  refine RL.pick (b := (!s301.2.2)) (v := (vb ((!s301.2.2) || (!x240.2.2)))) trivial rfl rfl (pk_or (c := true) rfl) ?_
  refine RL.nt ?_
  refine RC.cond (b := ((!s301.2.2) || (!x240.2.2))) rfl (fun hc => ?_) (fun hc => ?_)
  rotate_left
  ·replace hb := cF hc hb
   refine RC.sn ?_
   refine RC.region ?_
   refine mv (str x240.2.1) rfl rfl ?_
   refine as_ (str x240.2.1) rfl rfl ?_
   refine RL.nil ?_
   refine blkQ_n ?_
   refine thenQ_n ?_
   refine RC.region ?_
   refine mv (vi s5.2.2.2) rfl rfl ?_
   refine RL.iar (a := s5.2.2.2) (b := 1) trivial rfl rfl rfl rfl ?_
   refine as_ (vi (IntKind.wrap .i64 (s5.2.2.2 + 1))) rfl rfl ?_
   refine RL.nil ?_
   obtain rfl := oi hb
   exact ⟨rfl, v302, v303, ⟨rfl, rfl, rfl, rfl, trivial⟩, hw.pick 4 [0, 1, 2, 3] (new := [raw 26 b1 2, bc 26 b3 [v302, v303], own 87 v302 s301.1, own 64 v303 s301.2.1]) rfl rfl (by decide) (by decide)⟩
  replace hb := cT hc hb
  refine RC.sr ?_
  refine RL.buildc (zs := [(.slice none 0 0), (.slice none 0 0)]) (cs := [(.slice none 0 0), (.slice none 0 0)]) trivial rfl [] rfl st26 trivial rfl ?_
  refine mv (vi s5.2.2.2) rfl rfl ?_
  have hw := hw.rd_nil Part
  have hw := hw.rd_nil Net
  have hw := hw.rd_agg (cs := [(.slice none 0 0), (.slice none 0 0)]) (x := (⟨([] : (List Part)), ([] : (List Net))⟩ : Netlist)) (fun M hs g => ⟨[(.slice none 0 0)], [(.slice none 0 0)], rfl, (rd_one rfl (g.sat 1 _ rfl).1), (rd_one rfl (g.sat 0 _ rfl).1)⟩) rfl
  refine RL.store_raw (i := 3) (j := 0) trivial hw rfl rfl rfl rfl ty26 rfl fun w hw => ?_
  refine as_ (vi s5.2.2.2) rfl rfl ?_
  refine as_ (vi 10) rfl rfl ?_
  refine RL.nt ?_
  refine RC.rt ?_
  refine blkQ_r ?_
  refine thenQ_r ?_
  obtain rfl := oi hb
  exact ⟨rfl, finC3 (i := 3) rfl hw rfl rfl ty26 rfl rfl fun v352 hw => ⟨v352, rfl, hw.pick 8 [0] (new := [rd v352 (⟨([] : (List Part)), ([] : (List Net))⟩ : Netlist)]) rfl rfl (by decide) (by decide)⟩⟩
 ·intro r σ w e hK
  subst e
  refine thenQ_r ?_
  obtain rfl := oi hb
  exact hK
 intro s5 σ w e hJ
 subst e
 rw [Fo.cs_go] at hb
 obtain ⟨v236, v237, ha, hw⟩ := hJ
 obtain ⟨τ, rfl⟩ := ha.ups
 refine thenQ_n ?_
 refine RC.sr ?_
 have hw := hw.freeze (i := 2) rfl
 have hw := hw.freeze (i := 3) rfl
 have hw := hw.close_bc (i := 1) (x := (⟨s5.2.1, s5.2.2.1⟩ : Netlist)) rfl (fun M hs g => ⟨[v236], [v237], rfl, (rd_one rfl (g.sat 2 _ rfl).1), (rd_one rfl (g.sat 3 _ rfl).1)⟩)
 refine RL.load_bf (i := 1) (f := (fun x => x)) trivial rfl hw rfl rfl Fd.self ty26 fun v353 hw => ?_
 refine RL.store_raw (i := 1) (j := 0) trivial hw rfl rfl rfl rfl ty26 rfl fun w hw => ?_
 refine as_ (vi 0) rfl rfl ?_
 refine as_ (vi 0) rfl rfl ?_
 refine RL.nt ?_
 refine RC.ret ?_
 obtain rfl := oi hb
 exact finC3 (i := 1) rfl hw rfl rfl ty26 rfl rfl fun v354 hw => ⟨v354, rfl, hw.pick 6 [0] (new := [rd v354 (⟨s5.2.1, s5.2.2.1⟩ : Netlist)]) rfl rfl (by decide) (by decide)⟩
end Go.Gk
