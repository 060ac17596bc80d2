/-
  Printed by gen.py: Go functions as plain functions, and that they are.
-/
import Derived.Test.YtnjoaggeheokeaaDoorT
set_option linter.unusedVariables false
set_option linter.unusedSimpArgs false
set_option linter.unusedSectionVars false
set_option maxRecDepth 100000
set_option maxHeartbeats 4000000

namespace Go.Gk
open Go Go.Proofs
def netlist_checkNames_R (E : World) (Γ : List HP) (res : Int) (v : Value) (w : World) : Prop := v = (vi res) ∧ Holds E w Γ
def netlist_checkNames_K (E : World) (Γ : List HP) (r : Int) (σ : Nat → Value) (w : World) : Prop := finQ Tryd.prog 36 Tryd.f72 (netlist_checkNames_R E Γ r) .ret σ w
theorem netlist_checkNames_ok (N : Nat) {E w : World} {Γ : List HP} {i0 : Nat} {v0 : Value} {p0 : (List Str)} {p1 : Int} {v2 : Value} {p2 : Str → Option Bool} {res : Int} (hw : Holds E w Γ) (h0 : Γ[i0]? = some (rd v0 p0)) (h2 : Fn1 Tryd.prog E Γ v2 p2 (fun (r : Bool) => Value.bool r)) (hb : netlist_checkNames N p0 p1 p2 = some res) :
    Calls Tryd.prog 72 [v0, (vi p1), v2].toArray w (Ret (netlist_checkNames_R E Γ res)) := by
 unfold netlist_checkNames at hb
 refine enter Tryd.func72 rfl rfl (Nat.le_of_ble_eq_true rfl) ?_
 have hw := hw.dup (i := i0 + 0) h0
 refine RC.sr ?_
 refine as_ (vi 0) rfl rfl ?_
 refine RL.nq ?_
 refine RC.sr ?_
 refine mv v0 rfl rfl ?_
 refine RL.len_rd (i := 0) (l := p0) trivial rfl hw rfl rfl un55 ?_
 refine mv (vi p1) rfl rfl ?_
 refine ic ((p0.length : Int)) p1 rfl rfl rfl rfl ?_
 refine RL.nt ?_
 refine RC.cond (b := (decide ((p0.length : Int) > p1))) rfl (fun hc => ?_) (fun hc => ?_)
 ·replace hb := cT hc hb
  refine RC.sr ?_
  refine as_ (vi 2) rfl rfl ?_
  refine RL.nt ?_
  refine RC.rt ?_
  obtain rfl := oi hb
  exact fin1 rfl rfl ⟨rfl, hw.drop 1 rfl⟩
 replace hb := cF hc hb
 refine RC.ss ?_
 refine RC.sr ?_
 refine mv v0 rfl rfl ?_
 refine RL.len_rd (i := 0) (l := p0) trivial rfl hw rfl rfl un55 ?_
 refine mv (vi 0) rfl rfl ?_
 refine RL.nt ?_
 obtain ⟨o53, hN, hb⟩ := bd hb
 refine RC.range (fun (k31 : Nat) (s32 : Unit) (σ : Nat → Value) (w : World) => agree σ [(0, v0), (2, v2), (13, v0), (14, (vi (p0.length : Int))), (15, (vi (k31 : Int)))] ∧ Holds E w ([rd v0 p0] ++ Γ)) (fun (s32 : Unit) (σ : Nat → Value) (w : World) => agree σ [] ∧ Holds E w ([rd v0 p0] ++ Γ)) (netlist_checkNames_K E Γ) hN ?_ ?_ ?_ ?_ ?_ 
 ·exact ⟨⟨rfl, rfl, rfl, rfl, rfl, trivial⟩, hw.pick 1 [0] (new := [rd v0 p0]) rfl rfl (by decide) (by decide)⟩
 ·intro hm s32 σ w hI
  obtain ⟨ha, hw⟩ := hI
  obtain ⟨τ, rfl⟩ := ha.ups
  refine RC.sr ?_
  refine ic ((p0.length : Int)) ((p0.length : Int)) rfl rfl rfl rfl ?_
  refine RL.nq ?_
  refine RC.cond_f dge ?_
  refine RC.ex ?_
  exact ⟨rfl, trivial, hw.pick 1 [0] (new := [rd v0 p0]) rfl rfl (by decide) (by decide)⟩
 ·intro hm k31 s32 fl σ w hk hI hb
  obtain ⟨ha, hw⟩ := hI
  obtain ⟨τ, rfl⟩ := ha.ups
  refine RC.sr ?_
  refine ic ((k31 : Int)) ((p0.length : Int)) rfl rfl rfl rfl ?_
  refine RL.nq ?_
  refine RC.cond_t (dlt hk) ?_
  refine RC.ss ?_
  refine RC.bs ?_
  refine mv (vi (k31 : Int)) rfl rfl ?_
  obtain ⟨x43, hx43, hb⟩ := bd hb
  refine RL.ia_rd (i := 0) trivial rfl hw rfl rfl rfl sl55 hx43 fun v44 hw => ?_
  refine RL.load_pts (i := 0) (y := x43) trivial rfl hw rfl rfl ty9 ?_
  refine as_ (vi (k31 : Int)) rfl rfl ?_
  refine as_ (str x43) rfl rfl ?_
  refine RL.nq ?_
  refine RC.sr ?_
  refine mv v2 rfl rfl ?_
  refine mv (str x43) rfl rfl ?_
  have hw := hw.sc (γ := Str) x43
  obtain ⟨x45, hx45, hb⟩ := bd hb
  refine RL.callF1 (i := 0) trivial rfl hw rfl h2 3 rfl rfl rfl hx45 fun w hw => ?_
  refine RL.not (b := x45) trivial rfl rfl ?_
  refine RL.nt ?_
  refine RC.cond (b := (!x45)) rfl (fun hc => ?_) (fun hc => ?_)
  ·replace hb := cT hc hb
   refine RC.sr ?_
   refine as_ (vi 9) rfl rfl ?_
   refine RL.nt ?_
   refine RC.rt ?_
   refine blkQ_r ?_
   refine thenQ_r ?_
   obtain rfl := oi hb
   exact ⟨rfl, fin1 rfl rfl ⟨rfl, hw.drop 3 rfl⟩⟩
  replace hb := cF hc hb
  refine RC.ss ?_
  obtain ⟨s49, hj, hb⟩ := bd hb
  refine RC.jn (fun (s49 : Bool) (σ : Nat → Value) (w : World) => agree σ [(0, v0), (2, v2), (13, v0), (14, (vi (p0.length : Int))), (15, (vi (k31 : Int))), (34, (vb s49))] ∧ Holds E w ([rd v0 p0] ++ Γ)) s49 ?_ ?_
  ·refine RC.region ?_
   refine mv (vi (k31 : Int)) rfl rfl ?_
   refine ic ((k31 : Int)) 0 rfl rfl rfl rfl ?_
   refine mv (vb (decide ((k31 : Int) > 0))) rfl rfl ?_
   rcases Bool.eq_false_or_eq_true (decide ((k31 : Int) > 0)) with hg50 | hg50
   rotate_left
   ·replace hj := cF hg50 hj
    refine sk rfl (.inl (cb hg50)) rfl ?_
    refine sk rfl (.inl (cb hg50)) rfl ?_
    refine sk rfl (.inl (cb hg50)) rfl ?_
    refine sk rfl (.inl (cb hg50)) rfl ?_
    refine sk rfl (.inl (cb hg50)) rfl ?_
    refine sk rfl (.inl (cb hg50)) rfl ?_
    refine sk rfl (.inl (cb hg50)) rfl ?_
    refine RL.pick (b := (decide ((k31 : Int) > 0))) (v := (vb false)) trivial rfl rfl (by rw [hg50]; rfl) ?_
    refine RL.nil ?_
    obtain rfl := oi hj
    exact ⟨rfl, ⟨rfl, rfl, rfl, rfl, rfl, rfl, trivial⟩, hw.pick 3 [2] (new := [rd v0 p0]) rfl rfl (by decide) (by decide)⟩
   replace hj := cT hg50 hj
   refine RL.move (v := (str x43)) ⟨_, rfl, cb hg50⟩ rfl rfl ?_
   refine RL.move (v := v0) ⟨_, rfl, cb hg50⟩ rfl rfl ?_
   refine RL.move (v := (vi (k31 : Int))) ⟨_, rfl, cb hg50⟩ rfl rfl ?_
   refine RL.iar (a := (k31 : Int)) (b := 1) ⟨_, rfl, cb hg50⟩ rfl rfl rfl rfl ?_
   obtain ⟨x51, hx51, hj⟩ := bd hj
   refine RL.ia_rd (i := 2) ⟨_, rfl, cb hg50⟩ rfl hw rfl rfl rfl sl55 hx51 fun v52 hw => ?_
   refine RL.load_pts (i := 0) (y := x51) ⟨_, rfl, cb hg50⟩ rfl hw rfl rfl ty9 ?_
   refine RL.scmp (a := x43) (b := x51) ⟨_, rfl, cb hg50⟩ rfl rfl rfl rfl ?_
   refine RL.pick (b := (decide ((k31 : Int) > 0))) (v := (vb (x43.ltb x51 || x43.eqb x51))) trivial rfl rfl (by rw [hg50]; rfl) ?_
   refine RL.nil ?_
   obtain rfl := oi hj
   exact ⟨rfl, ⟨rfl, rfl, rfl, rfl, rfl, rfl, trivial⟩, hw.pick 4 [3] (new := [rd v0 p0]) rfl rfl (by decide) (by decide)⟩
  rintro σ w ⟨ha, hw⟩
  obtain ⟨τ, rfl⟩ := ha.ups
  refine thenQ_n ?_
  refine RC.cond (b := s49) rfl (fun hc => ?_) (fun hc => ?_)
  rotate_left
  ·replace hb := cF hc hb
   refine RC.skip ?_
   refine blkQ_n ?_
   refine thenQ_n ?_
   refine RC.region ?_
   refine RL.inc trivial rfl hk hm rfl rfl ?_
   refine mv (vi ((k31 + 1 : Nat) : Int)) rfl rfl ?_
   refine RL.nil ?_
   obtain rfl := oi hb
   exact ⟨rfl, ⟨rfl, rfl, rfl, rfl, rfl, trivial⟩, hw.pick 1 [0] (new := [rd v0 p0]) rfl rfl (by decide) (by decide)⟩
  replace hb := cT hc hb
  refine RC.sr ?_
  refine as_ (vi 8) rfl rfl ?_
  refine RL.nt ?_
  refine RC.rb ?_
  refine thenQ_r ?_
  obtain rfl := oi hb
  exact ⟨rfl, fin1 rfl rfl ⟨rfl, hw.drop 1 rfl⟩⟩
 ·intro r σ w e hK
  subst e
  refine thenQ_r ?_
  obtain rfl := oi hb
  exact hK
 intro s32 σ w e hJ
 subst e
 rw [Fo.cs_go] at hb
 obtain ⟨ha, hw⟩ := hJ
 obtain ⟨τ, rfl⟩ := ha.ups
 refine thenQ_n ?_
 refine RC.sr ?_
 refine as_ (vi 0) rfl rfl ?_
 refine RL.nt ?_
 refine RC.ret ?_
 obtain rfl := oi hb
 exact fin1 rfl rfl ⟨rfl, hw.drop 1 rfl⟩
def cmp_isNaN_string_R (E : World) (Γ : List HP) (res : Bool) (v : Value) (w : World) : Prop := v = (vb res) ∧ Holds E w Γ
def cmp_isNaN_string_K (E : World) (Γ : List HP) (r : Bool) (σ : Nat → Value) (w : World) : Prop := finQ Tryd.prog 6 Tryd.f157 (cmp_isNaN_string_R E Γ r) .ret σ w
theorem cmp_isNaN_string_ok (N : Nat) {E w : World} {Γ : List HP} {p0 : Str} {res : Bool} (hw : Holds E w Γ)  (hb : cmp_isNaN_string N p0 = some res) :
    Calls Tryd.prog 157 [(str p0)].toArray w (Ret (cmp_isNaN_string_R E Γ res)) := by
 unfold cmp_isNaN_string at hb
 refine enter Tryd.func157 rfl rfl (Nat.le_of_ble_eq_true rfl) ?_
 refine RC.sr ?_
 refine as_ (vb false) rfl rfl ?_
 refine RL.ns ?_
 refine mv (str p0) rfl rfl ?_
 refine mv (str p0) rfl rfl ?_
 refine RL.scmp (a := p0) (b := p0) trivial rfl rfl rfl rfl ?_
 refine as_ (vb (!p0.eqb p0)) rfl rfl ?_
 refine RL.nt ?_
 refine RC.ret ?_
 obtain rfl := oi hb
 exact fin1 rfl rfl ⟨rfl, hw.drop 0 rfl⟩
def cmp_Less_string_R (E : World) (Γ : List HP) (res : Bool) (v : Value) (w : World) : Prop := v = (vb res) ∧ Holds E w Γ
def cmp_Less_string_K (E : World) (Γ : List HP) (r : Bool) (σ : Nat → Value) (w : World) : Prop := finQ Tryd.prog 17 Tryd.f143 (cmp_Less_string_R E Γ r) .ret σ w
theorem cmp_Less_string_ok (N : Nat) {E w : World} {Γ : List HP} {p0 : Str} {p1 : Str} {res : Bool} (hw : Holds E w Γ)  (hb : cmp_Less_string N p0 p1 = some res) :
    Calls Tryd.prog 143 [(str p0), (str p1)].toArray w (Ret (cmp_Less_string_R E Γ res)) := by
 unfold cmp_Less_string at hb
 refine enter Tryd.func143 rfl rfl (Nat.le_of_ble_eq_true rfl) ?_
 refine RC.sr ?_
 refine as_ (vb false) rfl rfl ?_
 refine RL.nq ?_
 obtain ⟨s35, hj, hb⟩ := bd hb
 refine RC.jn (fun (s35 : Bool) (σ : Nat → Value) (w : World) => agree σ [(4, (vb s35))] ∧ Holds E w ([] ++ Γ)) s35 ?_ ?_
 ·refine RC.region ?_
  refine mv (str p0) rfl rfl ?_
  obtain ⟨x36, hx36, hj⟩ := bd hj
  refine RL.call trivial rfl fn157 [(str p0)] rfl (Calls_ret (cmp_isNaN_string_ok N (p0 := p0)  hw  hx36) ?_)
  rintro _ w ⟨rfl, hw⟩
  refine mv (vb x36) rfl rfl ?_
  rcases Bool.eq_false_or_eq_true x36 with hg37 | hg37
  rotate_left
  ·replace hj := cF hg37 hj
   refine sk rfl (.inl (cb hg37)) rfl ?_
   refine sk rfl (.inl (cb hg37)) rfl ?_
   refine sk rfl (.inl (cb hg37)) rfl ?_
   refine RL.pick (b := x36) (v := (vb false)) trivial rfl rfl (by rw [hg37]; rfl) ?_
   refine mv (vb false) rfl rfl ?_
   refine RL.move (v := (str p0)) ⟨_, rfl, rfl⟩ rfl rfl ?_
   refine RL.move (v := (str p1)) ⟨_, rfl, rfl⟩ rfl rfl ?_
   refine RL.scmp (a := p0) (b := p1) ⟨_, rfl, rfl⟩ rfl rfl rfl rfl ?_
   refine RL.pick (b := false) (v := (vb (p0.ltb p1))) trivial rfl rfl rfl ?_
   refine as_ (vb (p0.ltb p1)) rfl rfl ?_
   refine RL.nil ?_
   obtain rfl := oi hj
   exact ⟨rfl, ⟨rfl, trivial⟩, hw.pick 0 [] (new := []) rfl rfl (by decide) (by decide)⟩
  replace hj := cT hg37 hj
  refine RL.move (v := (str p1)) ⟨_, rfl, cb hg37⟩ rfl rfl ?_
  obtain ⟨x38, hx38, hj⟩ := bd hj
  refine RL.call ⟨_, rfl, cb hg37⟩ rfl fn157 [(str p1)] rfl (Calls_ret (cmp_isNaN_string_ok N (p0 := p1)  hw  hx38) ?_)
  rintro _ w ⟨rfl, hw⟩
  refine RL.not (b := x38) ⟨_, rfl, cb hg37⟩ rfl rfl ?_
  refine RL.pick (b := x36) (v := (vb (!x38))) trivial rfl rfl (by rw [hg37]; rfl) ?_
  refine mv (vb (!x38)) rfl rfl ?_
  refine RL.gs (c := true) (b := (!x38)) (v := (str p0)) rfl rfl rfl (gs_move rfl (fun _ => rfl)) ?_
  refine RL.gs (c := true) (b := (!x38)) (v := (str p1)) rfl rfl rfl (gs_move rfl (fun _ => rfl)) ?_
  refine RL.gs (c := true) (b := (!x38)) (v := (vb (p0.ltb p1))) rfl rfl rfl (gs_scmp (bop := .lss) (a := p0) (b := p1) rfl (fun h => by exact (cv_t h : cv (true && ((!x38) == false)) (str p0) = (str p0))) (fun h => by exact (cv_t h : cv (true && ((!x38) == false)) (str p1) = (str p1))) rfl) ?_
  refine RL.pick (b := (!x38)) (v := (vb ((!x38) || (p0.ltb p1)))) trivial rfl rfl (pk_or (c := true) rfl) ?_
  refine as_ (vb ((!x38) || (p0.ltb p1))) rfl rfl ?_
  refine RL.nil ?_
  obtain rfl := oi hj
  exact ⟨rfl, ⟨rfl, trivial⟩, hw.pick 0 [] (new := []) rfl rfl (by decide) (by decide)⟩
 rintro σ w ⟨ha, hw⟩
 obtain ⟨τ, rfl⟩ := ha.ups
 refine thenQ_n ?_
 refine RC.ret ?_
 obtain rfl := oi hb
 exact fin1 rfl rfl ⟨rfl, hw.drop 0 rfl⟩
def slices_isNaN_string_R (E : World) (Γ : List HP) (res : Bool) (v : Value) (w : World) : Prop := v = (vb res) ∧ Holds E w Γ
def slices_isNaN_string_K (E : World) (Γ : List HP) (r : Bool) (σ : Nat → Value) (w : World) : Prop := finQ Tryd.prog 6 Tryd.f144 (slices_isNaN_string_R E Γ r) .ret σ w
theorem slices_isNaN_string_ok (N : Nat) {E w : World} {Γ : List HP} {p0 : Str} {res : Bool} (hw : Holds E w Γ)  (hb : slices_isNaN_string N p0 = some res) :
    Calls Tryd.prog 144 [(str p0)].toArray w (Ret (slices_isNaN_string_R E Γ res)) := by
 unfold slices_isNaN_string at hb
 refine enter Tryd.func144 rfl rfl (Nat.le_of_ble_eq_true rfl) ?_
 refine RC.sr ?_
 refine as_ (vb false) rfl rfl ?_
 refine RL.ns ?_
 refine mv (str p0) rfl rfl ?_
 refine mv (str p0) rfl rfl ?_
 refine RL.scmp (a := p0) (b := p0) trivial rfl rfl rfl rfl ?_
 refine as_ (vb (!p0.eqb p0)) rfl rfl ?_
 refine RL.nt ?_
 refine RC.ret ?_
 obtain rfl := oi hb
 exact fin1 rfl rfl ⟨rfl, hw.drop 0 rfl⟩
def slices_BinarySearch_string_R (E : World) (Γ : List HP) (res : Int × Bool) (v : Value) (w : World) : Prop := v = .tuple #[(vi res.1), (vb res.2)] ∧ Holds E w Γ
def slices_BinarySearch_string_K (E : World) (Γ : List HP) (r : Int × Bool) (σ : Nat → Value) (w : World) : Prop := finQ Tryd.prog 54 Tryd.f119 (slices_BinarySearch_string_R E Γ r) .ret σ w
theorem slices_BinarySearch_string_ok (N : Nat) {E w : World} {Γ : List HP} {i0 : Nat} {v0 : Value} {p0 : (List Str)} {p1 : Str} {res : Int × Bool} (hw : Holds E w Γ) (h0 : Γ[i0]? = some (rd v0 p0)) (hb : slices_BinarySearch_string N p0 p1 = some res) :
    Calls Tryd.prog 119 [v0, (str p1)].toArray w (Ret (slices_BinarySearch_string_R E Γ res)) := by
 unfold slices_BinarySearch_string at hb
 refine enter Tryd.func119 rfl rfl (Nat.le_of_ble_eq_true rfl) ?_
 have hw := hw.dup (i := i0 + 0) h0
 refine RC.sr ?_
 refine as_ (vi 0) rfl rfl ?_
 refine as_ (vb false) rfl rfl ?_
 refine RL.ns ?_
 refine mv v0 rfl rfl ?_
 refine RL.len_rd (i := 0) (l := p0) trivial rfl hw rfl rfl un55 ?_
 refine as_ (vi (p0.length : Int)) rfl rfl ?_
 refine RL.ns ?_
 refine mv (vi (p0.length : Int)) rfl rfl ?_
 refine as_ (vi 0) rfl rfl ?_
 refine as_ (vi (p0.length : Int)) rfl rfl ?_
 refine RL.nq ?_
 obtain ⟨o74, hN, hb⟩ := bd hb
 refine RC.iter (fun (s32 : Int × Int) (σ : Nat → Value) (w : World) => agree σ [(0, v0), (1, (str p1)), (6, (vi (p0.length : Int))), (7, (vi s32.1)), (8, (vi s32.2))] ∧ Holds E w ([rd v0 p0] ++ Γ)) (fun (s32 : Int × Int) (σ : Nat → Value) (w : World) => agree σ [(0, v0), (1, (str p1)), (6, (vi (p0.length : Int))), (7, (vi s32.1))] ∧ Holds E w ([rd v0 p0] ++ Γ)) (fun (r : Empty) (_ : Nat → Value) (_ : World) => r.elim) hN ?_ ?_ ?_ ?_ 
 ·exact ⟨⟨rfl, rfl, rfl, rfl, rfl, trivial⟩, hw.pick 1 [0] (new := [rd v0 p0]) rfl rfl (by decide) (by decide)⟩
 ·intro s32 fl σ w hI hb
  obtain ⟨ha, hw⟩ := hI
  obtain ⟨τ, rfl⟩ := ha.ups
  refine RC.seq ?_
  refine RC.sr ?_
  refine mv (vi s32.1) rfl rfl ?_
  refine mv (vi s32.2) rfl rfl ?_
  refine ic (s32.1) (s32.2) rfl rfl rfl rfl ?_
  refine RL.nt ?_
  refine RC.cond (b := (decide (s32.1 < s32.2))) rfl (fun hc => ?_) (fun hc => ?_)
  rotate_left
  ·replace hb := cF hc hb
   refine RC.ex ?_
   obtain rfl := oi hb
   exact ⟨rfl, ⟨rfl, rfl, rfl, rfl, trivial⟩, hw.pick 1 [0] (new := [rd v0 p0]) rfl rfl (by decide) (by decide)⟩
  replace hb := cT hc hb
  refine RC.sn ?_
  refine RC.bs ?_
  refine mv (vi s32.1) rfl rfl ?_
  refine mv (vi s32.2) rfl rfl ?_
  refine RL.iar (a := s32.1) (b := s32.2) trivial rfl rfl rfl rfl ?_
  refine RL.conv (a := (IntKind.wrap .i64 (s32.1 + s32.2))) trivial rfl rfl ⟨_, un3⟩ un180 ?_
  refine RL.bin (v := (.int .u64 (IntKind.wrap .u64 (IntKind.wrap .i64 (s32.1 + s32.2))))) (v' := (.int .u64 1)) (u := (.int .u64 (Int.fdiv (IntKind.wrap .u64 (IntKind.wrap .i64 (s32.1 + s32.2))) 2))) trivial rfl rfl rfl (fun _ => rfl) (fun _ => rfl) ?_
  refine RL.conv (a := (Int.fdiv (IntKind.wrap .u64 (IntKind.wrap .i64 (s32.1 + s32.2))) 2)) trivial rfl rfl ⟨_, un180⟩ un3 ?_
  refine as_ (vi (IntKind.wrap .i64 (Int.fdiv (IntKind.wrap .u64 (IntKind.wrap .i64 (s32.1 + s32.2))) 2))) rfl rfl ?_
  refine RL.ns ?_
  refine mv v0 rfl rfl ?_
  refine mv (vi (IntKind.wrap .i64 (Int.fdiv (IntKind.wrap .u64 (IntKind.wrap .i64 (s32.1 + s32.2))) 2))) rfl rfl ?_
  obtain ⟨x41, hx41, hb⟩ := bd hb
  refine RL.ia_rd (i := 0) trivial rfl hw rfl rfl rfl sl55 hx41 fun v42 hw => ?_
  refine RL.load_pts (i := 0) (y := x41) trivial rfl hw rfl rfl ty9 ?_
  refine mv (str p1) rfl rfl ?_
  obtain ⟨x43, hx43, hb⟩ := bd hb
  refine RL.call trivial rfl fn143 [(str x41), (str p1)] rfl (Calls_ret (cmp_Less_string_ok N (p0 := x41) (p1 := p1)  hw  hx43) ?_)
  rintro _ w ⟨rfl, hw⟩
  refine RL.nt ?_
  obtain ⟨s44, hj, hb⟩ := bd hb
  refine RC.jn (fun (s44 : Int × Int) (σ : Nat → Value) (w : World) => agree σ [(0, v0), (1, (str p1)), (6, (vi (p0.length : Int))), (7, (vi s44.1)), (8, (vi s44.2))] ∧ Holds E w ([rd v0 p0] ++ Γ)) s44 ?_ ?_
  ·refine RC.cond (b := x43) rfl (fun hc => ?_) (fun hc => ?_)
   rotate_left
   ·replace hj := cF hc hj
    refine RC.region ?_
    refine mv (vi (IntKind.wrap .i64 (Int.fdiv (IntKind.wrap .u64 (IntKind.wrap .i64 (s32.1 + s32.2))) 2))) rfl rfl ?_
    refine as_ (vi (IntKind.wrap .i64 (Int.fdiv (IntKind.wrap .u64 (IntKind.wrap .i64 (s32.1 + s32.2))) 2))) rfl rfl ?_
    refine RL.nil ?_
    obtain rfl := oi hj
    exact ⟨rfl, ⟨rfl, rfl, rfl, rfl, rfl, trivial⟩, hw.pick 2 [1] (new := [rd v0 p0]) rfl rfl (by decide) (by decide)⟩
   replace hj := cT hc hj
   refine RC.region ?_
   refine mv (vi (IntKind.wrap .i64 (Int.fdiv (IntKind.wrap .u64 (IntKind.wrap .i64 (s32.1 + s32.2))) 2))) rfl rfl ?_
   refine RL.iar (a := (IntKind.wrap .i64 (Int.fdiv (IntKind.wrap .u64 (IntKind.wrap .i64 (s32.1 + s32.2))) 2))) (b := 1) trivial rfl rfl rfl rfl ?_
   refine as_ (vi (IntKind.wrap .i64 ((IntKind.wrap .i64 (Int.fdiv (IntKind.wrap .u64 (IntKind.wrap .i64 (s32.1 + s32.2))) 2)) + 1))) rfl rfl ?_
   refine RL.nil ?_
   obtain rfl := oi hj
   exact ⟨rfl, ⟨rfl, rfl, rfl, rfl, rfl, trivial⟩, hw.pick 2 [1] (new := [rd v0 p0]) rfl rfl (by decide) (by decide)⟩
  rintro σ w ⟨ha, hw⟩
  obtain ⟨τ, rfl⟩ := ha.ups
  refine blkQ_n ?_
  obtain rfl := oi hb
  exact ⟨rfl, ⟨rfl, rfl, rfl, rfl, rfl, trivial⟩, hw.pick 1 [0] (new := [rd v0 p0]) rfl rfl (by decide) (by decide)⟩
 ·intro r _ _ _ _
  exact r.elim
 intro s32 σ w e hJ
 subst e
 rw [Fo.cs_go] at hb
 obtain ⟨ha, hw⟩ := hJ
 obtain ⟨τ, rfl⟩ := ha.ups
 refine thenQ_n ?_
 refine RC.seq ?_
 obtain ⟨s64, hj, hb⟩ := bd hb
 refine RC.jn (fun (s64 : Bool) (σ : Nat → Value) (w : World) => agree σ [(4, (vi s32.1)), (5, (vb s64))] ∧ Holds E w ([] ++ Γ)) s64 ?_ ?_
 ·refine RC.region ?_
  refine mv (vi s32.1) rfl rfl ?_
  refine mv (vi s32.1) rfl rfl ?_
  refine mv (vi (p0.length : Int)) rfl rfl ?_
  refine ic (s32.1) ((p0.length : Int)) rfl rfl rfl rfl ?_
  refine mv (vb (decide (s32.1 < (p0.length : Int)))) rfl rfl ?_
  rcases Bool.eq_false_or_eq_true (decide (s32.1 < (p0.length : Int))) with hg65 | hg65
  rotate_left
  ·replace hj := cF hg65 hj
   refine sk rfl (.inl (cb hg65)) rfl ?_
   refine sk rfl (.inl (cb hg65)) rfl ?_
   refine sk rfl (.inl (cb hg65)) rfl ?_
   refine sk rfl (.inl (cb hg65)) rfl ?_
   refine sk rfl (.inl (cb hg65)) rfl ?_
   refine sk rfl (.inl (cb hg65)) rfl ?_
   refine sk rfl (.inl (cb hg65)) rfl ?_
   refine sk rfl (.inr rfl) rfl ?_
   refine sk rfl (.inr rfl) rfl ?_
   refine sk rfl (.inr rfl) rfl ?_
   refine sk rfl (.inr rfl) rfl ?_
   refine sk rfl (.inr rfl) rfl ?_
   refine sk rfl (.inr rfl) rfl ?_
   refine sk rfl (.inr rfl) rfl ?_
   refine sk rfl (.inr rfl) rfl ?_
   refine sk rfl (.inr rfl) rfl ?_
   refine sk rfl (.inl (cb hg65)) rfl ?_
   refine RL.pick (b := (decide (s32.1 < (p0.length : Int)))) (v := (vb false)) trivial rfl rfl (by rw [hg65]; rfl) ?_
   refine as_ (vi s32.1) rfl rfl ?_
   refine as_ (vb false) rfl rfl ?_
   refine RL.nil ?_
   obtain rfl := oi hj
   exact ⟨rfl, ⟨rfl, rfl, trivial⟩, hw.pick 1 [] (new := []) rfl rfl (by decide) (by decide)⟩
  replace hj := cT hg65 hj
  refine RL.move (v := v0) ⟨_, rfl, cb hg65⟩ rfl rfl ?_
  refine RL.move (v := (vi s32.1)) ⟨_, rfl, cb hg65⟩ rfl rfl ?_
  obtain ⟨x66, hx66, hj⟩ := bd hj
  refine RL.ia_rd (i := 0) ⟨_, rfl, cb hg65⟩ rfl hw rfl rfl rfl sl55 hx66 fun v67 hw => ?_
  refine RL.load_pts (i := 0) (y := x66) ⟨_, rfl, cb hg65⟩ rfl hw rfl rfl ty9 ?_
  refine RL.move (v := (str p1)) ⟨_, rfl, cb hg65⟩ rfl rfl ?_
  refine RL.scmp (a := x66) (b := p1) ⟨_, rfl, cb hg65⟩ rfl rfl rfl rfl ?_
  refine RL.move (v := (vb (x66.eqb p1))) ⟨_, rfl, cb hg65⟩ rfl rfl ?_
  rcases Bool.eq_false_or_eq_true (x66.eqb p1) with hg68 | hg68
  ·replace hj := cT hg68 hj
   refine sk rfl (.inl (cb hg68)) rfl ?_
   refine sk rfl (.inl (cb hg68)) rfl ?_
   refine sk rfl (.inl (cb hg68)) rfl ?_
   refine sk rfl (.inl (cb hg68)) rfl ?_
   refine sk rfl (.inl (cb hg68)) rfl ?_
   refine sk rfl (.inl (cb hg68)) rfl ?_
   refine sk rfl (.inr rfl) rfl ?_
   refine sk rfl (.inr rfl) rfl ?_
   refine sk rfl (.inl (cb hg68)) rfl ?_
   refine RL.pick (b := (x66.eqb p1)) (v := (vb true)) ⟨_, rfl, cb hg65⟩ rfl rfl (by rw [hg68]; rfl) ?_
   refine RL.pick (b := (decide (s32.1 < (p0.length : Int)))) (v := (vb true)) trivial rfl rfl (by rw [hg65]; rfl) ?_
   refine as_ (vi s32.1) rfl rfl ?_
   refine as_ (vb true) rfl rfl ?_
   refine RL.nil ?_
   obtain rfl := oi hj
   exact ⟨rfl, ⟨rfl, rfl, trivial⟩, hw.pick 2 [] (new := []) rfl rfl (by decide) (by decide)⟩
  replace hj := cF hg68 hj
  refine RL.move (v := v0) ⟨_, rfl, cb hg68⟩ rfl rfl ?_
  refine RL.move (v := (vi s32.1)) ⟨_, rfl, cb hg68⟩ rfl rfl ?_
  obtain ⟨x69, hx69, hj⟩ := bd hj
  refine RL.ia_rd (i := 1) ⟨_, rfl, cb hg68⟩ rfl hw rfl rfl rfl sl55 hx69 fun v70 hw => ?_
  refine RL.load_pts (i := 0) (y := x69) ⟨_, rfl, cb hg68⟩ rfl hw rfl rfl ty9 ?_
  obtain ⟨x71, hx71, hj⟩ := bd hj
  refine RL.call ⟨_, rfl, cb hg68⟩ rfl fn144 [(str x69)] rfl (Calls_ret (slices_isNaN_string_ok N (p0 := x69)  hw  hx71) ?_)
  rintro _ w ⟨rfl, hw⟩
  refine RL.move (v := (vb x71)) ⟨_, rfl, cb hg68⟩ rfl rfl ?_
  rcases Bool.eq_false_or_eq_true x71 with hg72 | hg72
  rotate_left
  ·replace hj := cF hg72 hj
   refine sk rfl (.inl (cb hg72)) rfl ?_
   refine sk rfl (.inl (cb hg72)) rfl ?_
   refine RL.pick (b := x71) (v := (vb false)) ⟨_, rfl, cb hg68⟩ rfl rfl (by rw [hg72]; rfl) ?_
   refine RL.pick (b := (x66.eqb p1)) (v := (vb false)) ⟨_, rfl, cb hg65⟩ rfl rfl (by rw [hg68]; rfl) ?_
   refine RL.pick (b := (decide (s32.1 < (p0.length : Int)))) (v := (vb false)) trivial rfl rfl (by rw [hg65]; rfl) ?_
   refine as_ (vi s32.1) rfl rfl ?_
   refine as_ (vb false) rfl rfl ?_
   refine RL.nil ?_
   obtain rfl := oi hj
   exact ⟨rfl, ⟨rfl, rfl, trivial⟩, hw.pick 3 [] (new := []) rfl rfl (by decide) (by decide)⟩
  replace hj := cT hg72 hj
  refine RL.move (v := (str p1)) ⟨_, rfl, cb hg72⟩ rfl rfl ?_
  obtain ⟨x73, hx73, hj⟩ := bd hj
  refine RL.call ⟨_, rfl, cb hg72⟩ rfl fn144 [(str p1)] rfl (Calls_ret (slices_isNaN_string_ok N (p0 := p1)  hw  hx73) ?_)
  rintro _ w ⟨rfl, hw⟩
  refine RL.pick (b := x71) (v := (vb x73)) ⟨_, rfl, cb hg68⟩ rfl rfl (by rw [hg72]; rfl) ?_
  refine RL.pick (b := (x66.eqb p1)) (v := (vb x73)) ⟨_, rfl, cb hg65⟩ rfl rfl (by rw [hg68]; rfl) ?_
  refine RL.pick (b := (decide (s32.1 < (p0.length : Int)))) (v := (vb x73)) trivial rfl rfl (by rw [hg65]; rfl) ?_
  refine as_ (vi s32.1) rfl rfl ?_
  refine as_ (vb x73) rfl rfl ?_
  refine RL.nil ?_
  obtain rfl := oi hj
  exact ⟨rfl, ⟨rfl, rfl, trivial⟩, hw.pick 3 [] (new := []) rfl rfl (by decide) (by decide)⟩
 rintro σ w ⟨ha, hw⟩
 obtain ⟨τ, rfl⟩ := ha.ups
 refine thenQ_n ?_
 refine RC.ret ?_
 obtain rfl := oi hb
 exact fin2 rfl rfl rfl ⟨rfl, hw.drop 0 rfl⟩
def netlist_has_R (E : World) (Γ : List HP) (res : Bool) (v : Value) (w : World) : Prop := v = (vb res) ∧ Holds E w Γ
def netlist_has_K (E : World) (Γ : List HP) (r : Bool) (σ : Nat → Value) (w : World) : Prop := finQ Tryd.prog 14 Tryd.f77 (netlist_has_R E Γ r) .ret σ w
theorem netlist_has_ok (N : Nat) {E w : World} {Γ : List HP} {i0 : Nat} {v0 : Value} {p0 : (List Str)} {p1 : Str} {res : Bool} (hw : Holds E w Γ) (h0 : Γ[i0]? = some (rd v0 p0)) (hb : netlist_has N p0 p1 = some res) :
    Calls Tryd.prog 77 [v0, (str p1)].toArray w (Ret (netlist_has_R E Γ res)) := by
 unfold netlist_has at hb
 refine enter Tryd.func77 rfl rfl (Nat.le_of_ble_eq_true rfl) ?_
 have hw := hw.dup (i := i0 + 0) h0
 refine RC.sr ?_
 refine as_ (vb false) rfl rfl ?_
 refine RL.ns ?_
 refine mv v0 rfl rfl ?_
 refine mv (str p1) rfl rfl ?_
 obtain ⟨x31, hx31, hb⟩ := bd hb
 refine RL.call trivial rfl fn119 [v0, (str p1)] rfl (Calls_ret (slices_BinarySearch_string_ok N (p1 := p1) (i0 := 0) hw rfl hx31) ?_)
 rintro _ w ⟨rfl, hw⟩
 refine mv (.tuple #[(vi x31.1), (vb x31.2)]) rfl rfl ?_
 refine RL.extract (v := (vi x31.1)) trivial rfl rfl rfl ?_
 refine RL.extract (v := (vb x31.2)) trivial rfl rfl rfl ?_
 refine as_ (vi x31.1) rfl rfl ?_
 refine as_ (vb x31.2) rfl rfl ?_
 refine RL.ns ?_
 refine mv (vb x31.2) rfl rfl ?_
 refine as_ (vb x31.2) rfl rfl ?_
 refine RL.nt ?_
 refine RC.ret ?_
 obtain rfl := oi hb
 exact fin1 rfl rfl ⟨rfl, hw.drop 1 rfl⟩
end Go.Gk
