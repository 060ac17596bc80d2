/-
  Printed by gen.py: Go functions as plain functions, and that they are.
-/
import Derived.Test.YtnjoaggeheokeaaDoorT
import Derived.Test.YtnjoaggeheokeaaDoorF1
set_option linter.unusedVariables false
set_option linter.unusedSimpArgs false
set_option linter.unusedSectionVars false
set_option maxRecDepth 100000
set_option maxHeartbeats 4000000

namespace Go.Gk
open Go Go.Proofs
def slices_IndexFunc_string_R (E : World) (Γ : List HP) (res : Int) (v : Value) (w : World) : Prop := v = (vi res) ∧ Holds E w Γ
def slices_IndexFunc_string_K (E : World) (Γ : List HP) (r : Int) (σ : Nat → Value) (w : World) : Prop := finQ Tryd.prog 19 Tryd.f134 (slices_IndexFunc_string_R E Γ r) .ret σ w
theorem slices_IndexFunc_string_ok (N : Nat) {E w : World} {Γ : List HP} {i0 : Nat} {v0 : Value} {p0 : (List Str)} {v1 : Value} {p1 : Str → Option Bool} {res : Int} (hw : Holds E w Γ) (h0 : Γ[i0]? = some (rd v0 p0)) (h1 : Fn1 Tryd.prog E Γ v1 p1 (fun (r : Bool) => Value.bool r)) (hb : slices_IndexFunc_string N p0 p1 = some res) :
    Calls Tryd.prog 134 [v0, v1].toArray w (Ret (slices_IndexFunc_string_R E Γ res)) := by
 unfold slices_IndexFunc_string at hb
 refine enter Tryd.func134 rfl rfl (Nat.le_of_ble_eq_true rfl) ?_
 have hw := hw.dup (i := i0 + 0) h0
 refine RC.sr ?_
 refine as_ (vi 0) rfl rfl ?_
 refine RL.nq ?_
 refine RC.sr ?_
 refine mv v0 rfl rfl ?_
 refine RL.len_rd (i := 0) (l := p0) trivial rfl hw rfl rfl un55 ?_
 refine mv (vi 0) rfl rfl ?_
 refine RL.nt ?_
 obtain ⟨o9, hN, hb⟩ := bd hb
 refine RC.range (fun (k1 : Nat) (s2 : Unit) (σ : Nat → Value) (w : World) => agree σ [(0, v0), (1, v1), (7, (vi (p0.length : Int))), (8, (vi (k1 : Int)))] ∧ Holds E w ([rd v0 p0] ++ Γ)) (fun (s2 : Unit) (σ : Nat → Value) (w : World) => agree σ [] ∧ Holds E w ([rd v0 p0] ++ Γ)) (slices_IndexFunc_string_K E Γ) hN ?_ ?_ ?_ ?_ ?_ 
 ·exact ⟨⟨rfl, rfl, rfl, rfl, trivial⟩, hw.pick 1 [0] (new := [rd v0 p0]) rfl rfl (by decide) (by decide)⟩
 ·intro hm s2 σ w hI
  obtain ⟨ha, hw⟩ := hI
  obtain ⟨τ, rfl⟩ := ha.ups
  refine RC.sr ?_
  refine ic ((p0.length : Int)) ((p0.length : Int)) rfl rfl rfl rfl ?_
  refine RL.nq ?_
  refine RC.cond_f dge ?_
  refine RC.ex ?_
  exact ⟨rfl, trivial, hw.pick 1 [0] (new := [rd v0 p0]) rfl rfl (by decide) (by decide)⟩
 ·intro hm k1 s2 fl σ w hk hI hb
  obtain ⟨ha, hw⟩ := hI
  obtain ⟨τ, rfl⟩ := ha.ups
  refine RC.sr ?_
  refine ic ((k1 : Int)) ((p0.length : Int)) rfl rfl rfl rfl ?_
  refine RL.nq ?_
  refine RC.cond_t (dlt hk) ?_
  refine RC.ss ?_
  refine RC.bs ?_
  refine mv (vi (k1 : Int)) rfl rfl ?_
  refine as_ (vi (k1 : Int)) rfl rfl ?_
  refine RL.ns ?_
  refine mv v1 rfl rfl ?_
  refine mv v0 rfl rfl ?_
  refine mv (vi (k1 : Int)) rfl rfl ?_
  obtain ⟨x6, hx6, hb⟩ := bd hb
  refine RL.ia_rd (i := 0) trivial rfl hw rfl rfl rfl sl55 hx6 fun v7 hw => ?_
  refine RL.load_pts (i := 0) (y := x6) trivial rfl hw rfl rfl ty9 ?_
  have hw := hw.sc (γ := Str) x6
  obtain ⟨x8, hx8, hb⟩ := bd hb
  refine RL.callF1 (i := 0) trivial rfl hw rfl h1 3 rfl rfl rfl hx8 fun w hw => ?_
  refine RL.nt ?_
  refine RC.cond (b := x8) rfl (fun hc => ?_) (fun hc => ?_)
  rotate_left
  ·replace hb := cF hc hb
   refine RC.skip ?_
   refine blkQ_n ?_
   refine thenQ_n ?_
   refine RC.region ?_
   refine RL.inc trivial rfl hk hm rfl rfl ?_
   refine mv (vi ((k1 + 1 : Nat) : Int)) rfl rfl ?_
   refine RL.nil ?_
   obtain rfl := oi hb
   exact ⟨rfl, ⟨rfl, rfl, rfl, rfl, trivial⟩, hw.pick 3 [2] (new := [rd v0 p0]) rfl rfl (by decide) (by decide)⟩
  replace hb := cT hc hb
  refine RC.sr ?_
  refine mv (vi (k1 : Int)) rfl rfl ?_
  refine as_ (vi (k1 : Int)) rfl rfl ?_
  refine RL.nt ?_
  refine RC.rb ?_
  refine thenQ_r ?_
  obtain rfl := oi hb
  exact ⟨rfl, fin1 rfl rfl ⟨rfl, hw.drop 3 rfl⟩⟩
 ·intro r σ w e hK
  subst e
  refine thenQ_r ?_
  obtain rfl := oi hb
  exact hK
 intro s2 σ w e hJ
 subst e
 rw [Fo.cs_go] at hb
 obtain ⟨ha, hw⟩ := hJ
 obtain ⟨τ, rfl⟩ := ha.ups
 refine thenQ_n ?_
 refine RC.sr ?_
 refine as_ (vi (-1)) rfl rfl ?_
 refine RL.nt ?_
 refine RC.ret ?_
 obtain rfl := oi hb
 exact fin1 rfl rfl ⟨rfl, hw.drop 1 rfl⟩
def slices_ContainsFunc_string_R (E : World) (Γ : List HP) (res : Bool) (v : Value) (w : World) : Prop := v = (vb res) ∧ Holds E w Γ
def slices_ContainsFunc_string_K (E : World) (Γ : List HP) (r : Bool) (σ : Nat → Value) (w : World) : Prop := finQ Tryd.prog 9 Tryd.f98 (slices_ContainsFunc_string_R E Γ r) .ret σ w
theorem slices_ContainsFunc_string_ok (N : Nat) {E w : World} {Γ : List HP} {i0 : Nat} {v0 : Value} {p0 : (List Str)} {v1 : Value} {p1 : Str → Option Bool} {res : Bool} (hw : Holds E w Γ) (h0 : Γ[i0]? = some (rd v0 p0)) (h1 : Fn1 Tryd.prog E Γ v1 p1 (fun (r : Bool) => Value.bool r)) (hb : slices_ContainsFunc_string N p0 p1 = some res) :
    Calls Tryd.prog 98 [v0, v1].toArray w (Ret (slices_ContainsFunc_string_R E Γ res)) := by
 unfold slices_ContainsFunc_string at hb
 refine enter Tryd.func98 rfl rfl (Nat.le_of_ble_eq_true rfl) ?_
 have hw := hw.dup (i := i0 + 0) h0
 refine RC.sr ?_
 refine as_ (vb false) rfl rfl ?_
 refine RL.ns ?_
 refine mv v0 rfl rfl ?_
 refine mv v1 rfl rfl ?_
 obtain ⟨x1, hx1, hb⟩ := bd hb
 refine RL.call trivial rfl fn134 [v0, v1] rfl (Calls_ret (slices_IndexFunc_string_ok N  (i0 := 0) hw rfl (h1.lift 1 rfl) hx1) ?_)
 rintro _ w ⟨rfl, hw⟩
 refine ic x1 0 rfl rfl rfl rfl ?_
 refine as_ (vb (decide (x1 ≥ 0))) rfl rfl ?_
 refine RL.nt ?_
 refine RC.ret ?_
 obtain rfl := oi hb
 exact fin1 rfl rfl ⟨rfl, hw.drop 1 rfl⟩
def netlist_IsPath_c1_R (E : World) (Γ : List HP) (res : Bool) (v : Value) (w : World) : Prop := v = (vb res) ∧ Holds E w Γ
def netlist_IsPath_c1_K (E : World) (Γ : List HP) (r : Bool) (σ : Nat → Value) (w : World) : Prop := finQ Tryd.prog 6 Tryd.f99 (netlist_IsPath_c1_R E Γ r) .ret σ w
theorem netlist_IsPath_c1_ok (N : Nat) {E w : World} {Γ : List HP} {p0 : Str} {res : Bool} (hw : Holds E w Γ)  (hb : netlist_IsPath_c1 N p0 = some res) :
    Calls Tryd.prog 99 [(str p0)].toArray w (Ret (netlist_IsPath_c1_R E Γ res)) := by
 unfold netlist_IsPath_c1 at hb
 refine enter Tryd.func99 rfl rfl (Nat.le_of_ble_eq_true rfl) ?_
 refine RC.sr ?_
 refine as_ (vb false) rfl rfl ?_
 refine RL.ns ?_
 refine mv (str p0) rfl rfl ?_
 obtain ⟨x1, hx1, hb⟩ := bd hb
 refine RL.call trivial rfl fn96 [(str p0)] rfl (Calls_ret (netlist_IsWord_ok N (p0 := p0)  hw  hx1) ?_)
 rintro _ w ⟨rfl, hw⟩
 refine RL.not (b := x1) trivial rfl rfl ?_
 refine as_ (vb (!x1)) rfl rfl ?_
 refine RL.nt ?_
 refine RC.ret ?_
 obtain rfl := oi hb
 exact fin1 rfl rfl ⟨rfl, hw.drop 0 rfl⟩
def netlist_IsPath_R (E : World) (Γ : List HP) (res : Bool) (v : Value) (w : World) : Prop := v = (vb res) ∧ Holds E w Γ
def netlist_IsPath_K (E : World) (Γ : List HP) (r : Bool) (σ : Nat → Value) (w : World) : Prop := finQ Tryd.prog 12 Tryd.f42 (netlist_IsPath_R E Γ r) .ret σ w
theorem netlist_IsPath_ok (N : Nat) {E w : World} {Γ : List HP} {p0 : Str} {res : Bool} (hw : Holds E w Γ)  (hb : netlist_IsPath N p0 = some res) :
    Calls Tryd.prog 42 [(str p0)].toArray w (Ret (netlist_IsPath_R E Γ res)) := by
 unfold netlist_IsPath at hb
 refine enter Tryd.func42 rfl rfl (Nat.le_of_ble_eq_true rfl) ?_
 refine RC.sr ?_
 refine as_ (vb false) rfl rfl ?_
 refine RL.nq ?_
 obtain ⟨s5, hj, hb⟩ := bd hb
 refine RC.jn (fun (s5 : Bool) (σ : Nat → Value) (w : World) => agree σ [(2, (vb s5))] ∧ Holds E w ([] ++ Γ)) s5 ?_ ?_
 ·refine RC.region ?_
  refine mv (str p0) rfl rfl ?_
  refine RL.lens (s := p0) trivial rfl rfl un9 ?_
  refine ic ((p0.toL.length : Int)) 200 rfl rfl rfl rfl ?_
  refine mv (vb (decide ((p0.toL.length : Int) ≤ 200))) rfl rfl ?_
  rcases Bool.eq_false_or_eq_true (decide ((p0.toL.length : Int) ≤ 200)) with hg6 | hg6
  rotate_left
  ·replace hj := cF hg6 hj
   refine sk rfl (.inl (cb hg6)) rfl ?_
   refine sk rfl (.inl (cb hg6)) rfl ?_
   refine sk rfl (.inl (cb hg6)) rfl ?_
   refine sk rfl (.inl (cb hg6)) rfl ?_
   refine RL.pick (b := (decide ((p0.toL.length : Int) ≤ 200))) (v := (vb false)) trivial rfl rfl (by rw [hg6]; rfl) ?_
   refine as_ (vb false) rfl rfl ?_
   refine RL.nil ?_
   obtain rfl := oi hj
   exact ⟨rfl, ⟨rfl, trivial⟩, hw.pick 0 [] (new := []) rfl rfl (by decide) (by decide)⟩
  replace hj := cT hg6 hj
  refine RL.move (v := (str p0)) ⟨_, rfl, cb hg6⟩ rfl rfl ?_
  obtain ⟨x7, hx7, hj⟩ := bd hj
  refine RL.call ⟨_, rfl, cb hg6⟩ rfl fn60 [(str p0), (str ⟨[47]⟩)] rfl (Calls_ret (strings_Split_ok N (p0 := p0) (p1 := ⟨[47]⟩)  hw  hx7) ?_)
  rintro v8 w hw
  have hw := hw.freeze (i := 0) rfl
  obtain ⟨x9, hx9, hj⟩ := bd hj
  refine RL.call ⟨_, rfl, cb hg6⟩ rfl fn98 [v8, (.func (.func 99) #[] #[])] rfl (Calls_ret (slices_ContainsFunc_string_ok N  (i0 := 0) hw rfl ⟨99, [], rfl, fn99, fun w Γl v y0 r i hw hi hr => by obtain rfl := hw.ofSc (γ := Str) hi; exact Calls_ret (netlist_IsPath_c1_ok N (p0 := y0) hw hr) fun _ _ h => h⟩ hx9) ?_)
  rintro _ w ⟨rfl, hw⟩
  refine RL.not (b := x9) ⟨_, rfl, cb hg6⟩ rfl rfl ?_
  refine RL.pick (b := (decide ((p0.toL.length : Int) ≤ 200))) (v := (vb (!x9))) trivial rfl rfl (by rw [hg6]; rfl) ?_
  refine as_ (vb (!x9)) rfl rfl ?_
  refine RL.nil ?_
  obtain rfl := oi hj
  exact ⟨rfl, ⟨rfl, trivial⟩, hw.pick 1 [] (new := []) rfl rfl (by decide) (by decide)⟩
 rintro σ w ⟨ha, hw⟩
 obtain ⟨τ, rfl⟩ := ha.ups
 refine thenQ_n ?_
 refine RC.ret ?_
 obtain rfl := oi hb
 exact fin1 rfl rfl ⟨rfl, hw.drop 0 rfl⟩
def slices_BinarySearchFunc_Part_string_R (E : World) (Γ : List HP) (res : Int × Bool) (v : Value) (w : World) : Prop := v = .tuple #[(vi res.1), (vb res.2)] ∧ Holds E w Γ
def slices_BinarySearchFunc_Part_string_K (E : World) (Γ : List HP) (r : Int × Bool) (σ : Nat → Value) (w : World) : Prop := finQ Tryd.prog 49 Tryd.f108 (slices_BinarySearchFunc_Part_string_R E Γ r) .ret σ w
theorem slices_BinarySearchFunc_Part_string_ok (N : Nat) {E w : World} {Γ : List HP} {i0 : Nat} {v0 : Value} {p0 : (List Part)} {p1 : Str} {v2 : Value} {p2 : Part → Str → Option Int} {res : Int × Bool} (hw : Holds E w Γ) (h0 : Γ[i0]? = some (rd v0 p0)) (h2 : Fn2 Tryd.prog E Γ v2 p2 (fun (r : Int) => Value.int .i64 r)) (hb : slices_BinarySearchFunc_Part_string N p0 p1 p2 = some res) :
    Calls Tryd.prog 108 [v0, (str p1), v2].toArray w (Ret (slices_BinarySearchFunc_Part_string_R E Γ res)) := by
 unfold slices_BinarySearchFunc_Part_string at hb
 refine enter Tryd.func108 rfl rfl (Nat.le_of_ble_eq_true rfl) ?_
 have hw := hw.dup (i := i0 + 0) h0
 refine RC.sr ?_
 refine as_ (vi 0) rfl rfl ?_
 refine as_ (vb false) rfl rfl ?_
 refine RL.ns ?_
 refine mv v0 rfl rfl ?_
 refine RL.len_rd (i := 0) (l := p0) trivial rfl hw rfl rfl un23 ?_
 refine as_ (vi (p0.length : Int)) rfl rfl ?_
 refine RL.ns ?_
 refine mv (vi (p0.length : Int)) rfl rfl ?_
 refine as_ (vi 0) rfl rfl ?_
 refine as_ (vi (p0.length : Int)) rfl rfl ?_
 refine RL.nq ?_
 obtain ⟨o29, hN, hb⟩ := bd hb
 refine RC.iter (fun (s2 : Int × Int) (σ : Nat → Value) (w : World) => agree σ [(0, v0), (1, (str p1)), (2, v2), (8, (vi (p0.length : Int))), (9, (vi s2.1)), (10, (vi s2.2))] ∧ Holds E w ([rd v0 p0] ++ Γ)) (fun (s2 : Int × Int) (σ : Nat → Value) (w : World) => agree σ [(0, v0), (1, (str p1)), (2, v2), (8, (vi (p0.length : Int))), (9, (vi s2.1))] ∧ Holds E w ([rd v0 p0] ++ Γ)) (fun (r : Empty) (_ : Nat → Value) (_ : World) => r.elim) hN ?_ ?_ ?_ ?_ 
 ·exact ⟨⟨rfl, rfl, rfl, rfl, rfl, rfl, trivial⟩, hw.pick 1 [0] (new := [rd v0 p0]) rfl rfl (by decide) (by decide)⟩
 ·intro s2 fl σ w hI hb
  obtain ⟨ha, hw⟩ := hI
  obtain ⟨τ, rfl⟩ := ha.ups
  refine RC.seq ?_
  refine RC.sr ?_
  refine mv (vi s2.1) rfl rfl ?_
  refine mv (vi s2.2) rfl rfl ?_
  refine ic (s2.1) (s2.2) rfl rfl rfl rfl ?_
  refine RL.nt ?_
  refine RC.cond (b := (decide (s2.1 < s2.2))) rfl (fun hc => ?_) (fun hc => ?_)
  rotate_left
  ·replace hb := cF hc hb
   refine RC.ex ?_
   obtain rfl := oi hb
   exact ⟨rfl, ⟨rfl, rfl, rfl, rfl, rfl, trivial⟩, hw.pick 1 [0] (new := [rd v0 p0]) rfl rfl (by decide) (by decide)⟩
  replace hb := cT hc hb
  refine RC.sn ?_
  refine RC.bs ?_
  refine mv (vi s2.1) rfl rfl ?_
  refine mv (vi s2.2) rfl rfl ?_
  refine RL.iar (a := s2.1) (b := s2.2) trivial rfl rfl rfl rfl ?_
  refine RL.conv (a := (IntKind.wrap .i64 (s2.1 + s2.2))) trivial rfl rfl ⟨_, un3⟩ un180 ?_
  refine RL.bin (v := (.int .u64 (IntKind.wrap .u64 (IntKind.wrap .i64 (s2.1 + s2.2))))) (v' := (.int .u64 1)) (u := (.int .u64 (Int.fdiv (IntKind.wrap .u64 (IntKind.wrap .i64 (s2.1 + s2.2))) 2))) trivial rfl rfl rfl (fun _ => rfl) (fun _ => rfl) ?_
  refine RL.conv (a := (Int.fdiv (IntKind.wrap .u64 (IntKind.wrap .i64 (s2.1 + s2.2))) 2)) trivial rfl rfl ⟨_, un180⟩ un3 ?_
  refine as_ (vi (IntKind.wrap .i64 (Int.fdiv (IntKind.wrap .u64 (IntKind.wrap .i64 (s2.1 + s2.2))) 2))) rfl rfl ?_
  refine RL.ns ?_
  refine mv v2 rfl rfl ?_
  refine mv v0 rfl rfl ?_
  refine mv (vi (IntKind.wrap .i64 (Int.fdiv (IntKind.wrap .u64 (IntKind.wrap .i64 (s2.1 + s2.2))) 2))) rfl rfl ?_
  obtain ⟨x13, hx13, hb⟩ := bd hb
  refine RL.ia_rd (i := 0) trivial rfl hw rfl rfl rfl sl23 hx13 fun v14 hw => ?_
  refine RL.load_pt (i := 0) (x := x13) trivial rfl hw rfl rfl ty87 fun v15 hw => ?_
  refine mv (str p1) rfl rfl ?_
  have hw := hw.sc (γ := Str) p1
  obtain ⟨x16, hx16, hb⟩ := bd hb
  refine RL.callF2 (i := 1) (j := 0) trivial rfl hw rfl h2 4 rfl rfl rfl rfl rfl hx16 fun w hw => ?_
  refine ic x16 0 rfl rfl rfl rfl ?_
  refine RL.nt ?_
  obtain ⟨s17, hj, hb⟩ := bd hb
  refine RC.jn (fun (s17 : Int × Int) (σ : Nat → Value) (w : World) => agree σ [(0, v0), (1, (str p1)), (2, v2), (8, (vi (p0.length : Int))), (9, (vi s17.1)), (10, (vi s17.2))] ∧ Holds E w ([rd v0 p0] ++ Γ)) s17 ?_ ?_
  ·refine RC.cond (b := (decide (x16 < 0))) rfl (fun hc => ?_) (fun hc => ?_)
   rotate_left
   ·replace hj := cF hc hj
    refine RC.region ?_
    refine mv (vi (IntKind.wrap .i64 (Int.fdiv (IntKind.wrap .u64 (IntKind.wrap .i64 (s2.1 + s2.2))) 2))) rfl rfl ?_
    refine as_ (vi (IntKind.wrap .i64 (Int.fdiv (IntKind.wrap .u64 (IntKind.wrap .i64 (s2.1 + s2.2))) 2))) rfl rfl ?_
    refine RL.nil ?_
    obtain rfl := oi hj
    exact ⟨rfl, ⟨rfl, rfl, rfl, rfl, rfl, rfl, trivial⟩, hw.pick 4 [3] (new := [rd v0 p0]) rfl rfl (by decide) (by decide)⟩
   replace hj := cT hc hj
   refine RC.region ?_
   refine mv (vi (IntKind.wrap .i64 (Int.fdiv (IntKind.wrap .u64 (IntKind.wrap .i64 (s2.1 + s2.2))) 2))) rfl rfl ?_
   refine RL.iar (a := (IntKind.wrap .i64 (Int.fdiv (IntKind.wrap .u64 (IntKind.wrap .i64 (s2.1 + s2.2))) 2))) (b := 1) trivial rfl rfl rfl rfl ?_
   refine as_ (vi (IntKind.wrap .i64 ((IntKind.wrap .i64 (Int.fdiv (IntKind.wrap .u64 (IntKind.wrap .i64 (s2.1 + s2.2))) 2)) + 1))) rfl rfl ?_
   refine RL.nil ?_
   obtain rfl := oi hj
   exact ⟨rfl, ⟨rfl, rfl, rfl, rfl, rfl, rfl, trivial⟩, hw.pick 4 [3] (new := [rd v0 p0]) rfl rfl (by decide) (by decide)⟩
  rintro σ w ⟨ha, hw⟩
  obtain ⟨τ, rfl⟩ := ha.ups
  refine blkQ_n ?_
  obtain rfl := oi hb
  exact ⟨rfl, ⟨rfl, rfl, rfl, rfl, rfl, rfl, trivial⟩, hw.pick 1 [0] (new := [rd v0 p0]) rfl rfl (by decide) (by decide)⟩
 ·intro r _ _ _ _
  exact r.elim
 intro s2 σ w e hJ
 subst e
 rw [Fo.cs_go] at hb
 obtain ⟨ha, hw⟩ := hJ
 obtain ⟨τ, rfl⟩ := ha.ups
 refine thenQ_n ?_
 refine RC.seq ?_
 obtain ⟨s23, hj, hb⟩ := bd hb
 refine RC.jn (fun (s23 : Bool) (σ : Nat → Value) (w : World) => agree σ [(6, (vi s2.1)), (7, (vb s23))] ∧ Holds E w ([] ++ Γ)) s23 ?_ ?_
 ·refine RC.region ?_
  refine mv (vi s2.1) rfl rfl ?_
  refine mv (vi s2.1) rfl rfl ?_
  refine mv (vi (p0.length : Int)) rfl rfl ?_
  refine ic (s2.1) ((p0.length : Int)) rfl rfl rfl rfl ?_
  refine mv (vb (decide (s2.1 < (p0.length : Int)))) rfl rfl ?_
  rcases Bool.eq_false_or_eq_true (decide (s2.1 < (p0.length : Int))) with hg24 | hg24
  rotate_left
  ·replace hj := cF hg24 hj
   refine sk rfl (.inl (cb hg24)) rfl ?_
   refine sk rfl (.inl (cb hg24)) rfl ?_
   refine sk rfl (.inl (cb hg24)) rfl ?_
   refine sk rfl (.inl (cb hg24)) rfl ?_
   refine sk rfl (.inl (cb hg24)) rfl ?_
   refine sk rfl (.inl (cb hg24)) rfl ?_
   refine sk rfl (.inl (cb hg24)) rfl ?_
   refine sk rfl (.inl (cb hg24)) rfl ?_
   refine RL.pick (b := (decide (s2.1 < (p0.length : Int)))) (v := (vb false)) trivial rfl rfl (by rw [hg24]; rfl) ?_
   refine as_ (vi s2.1) rfl rfl ?_
   refine as_ (vb false) rfl rfl ?_
   refine RL.nil ?_
   obtain rfl := oi hj
   exact ⟨rfl, ⟨rfl, rfl, trivial⟩, hw.pick 1 [] (new := []) rfl rfl (by decide) (by decide)⟩
  replace hj := cT hg24 hj
  refine RL.move (v := v2) ⟨_, rfl, cb hg24⟩ rfl rfl ?_
  refine RL.move (v := v0) ⟨_, rfl, cb hg24⟩ rfl rfl ?_
  refine RL.move (v := (vi s2.1)) ⟨_, rfl, cb hg24⟩ rfl rfl ?_
  obtain ⟨x25, hx25, hj⟩ := bd hj
  refine RL.ia_rd (i := 0) ⟨_, rfl, cb hg24⟩ rfl hw rfl rfl rfl sl23 hx25 fun v26 hw => ?_
  refine RL.load_pt (i := 0) (x := x25) ⟨_, rfl, cb hg24⟩ rfl hw rfl rfl ty87 fun v27 hw => ?_
  refine RL.move (v := (str p1)) ⟨_, rfl, cb hg24⟩ rfl rfl ?_
  have hw := hw.sc (γ := Str) p1
  obtain ⟨x28, hx28, hj⟩ := bd hj
  refine RL.callF2 (i := 1) (j := 0) ⟨_, rfl, cb hg24⟩ rfl hw rfl h2 4 rfl rfl rfl rfl rfl hx28 fun w hw => ?_
  refine RL.icmp (a := x28) (b := 0) ⟨_, rfl, cb hg24⟩ rfl rfl rfl rfl ?_
  refine RL.pick (b := (decide (s2.1 < (p0.length : Int)))) (v := (vb (x28 == 0))) trivial rfl rfl (by rw [hg24]; rfl) ?_
  refine as_ (vi s2.1) rfl rfl ?_
  refine as_ (vb (x28 == 0)) rfl rfl ?_
  refine RL.nil ?_
  obtain rfl := oi hj
  exact ⟨rfl, ⟨rfl, rfl, trivial⟩, hw.pick 4 [] (new := []) rfl rfl (by decide) (by decide)⟩
 rintro σ w ⟨ha, hw⟩
 obtain ⟨τ, rfl⟩ := ha.ups
 refine thenQ_n ?_
 refine RC.ret ?_
 obtain rfl := oi hb
 exact fin2 rfl rfl rfl ⟨rfl, hw.drop 0 rfl⟩
def netlist_partAt_c1_R (E : World) (Γ : List HP) (res : Int) (v : Value) (w : World) : Prop := v = (vi res) ∧ Holds E w Γ
def netlist_partAt_c1_K (E : World) (Γ : List HP) (r : Int) (σ : Nat → Value) (w : World) : Prop := finQ Tryd.prog 9 Tryd.f109 (netlist_partAt_c1_R E Γ r) .ret σ w
theorem netlist_partAt_c1_ok (N : Nat) {E w : World} {Γ : List HP} {i0 : Nat} {v0 : Value} {p0 : Part} {p1 : Str} {res : Int} (hw : Holds E w Γ) (h0 : Γ[i0]? = some (rd v0 p0)) (hb : netlist_partAt_c1 N p0 p1 = some res) :
    Calls Tryd.prog 109 [v0, (str p1)].toArray w (Ret (netlist_partAt_c1_R E Γ res)) := by
 unfold netlist_partAt_c1 at hb
 refine enter Tryd.func109 rfl rfl (Nat.le_of_ble_eq_true rfl) ?_
 have hw := hw.dup (i := i0 + 0) h0
 refine RC.sr ?_
 refine RL.box_rd (i := 0) (v := v0) trivial rfl hw rfl rfl fun b1 w hw => ?_
 refine as_ (vi 0) rfl rfl ?_
 refine RL.ns ?_
 refine RL.fa_b trivial rfl rfl fa87_0 ?_
 refine RL.load_bfs (i := 0) (f := (fun x => x.Name)) trivial rfl hw rfl rfl fd_Part_0 ty9 ?_
 refine mv (str p1) rfl rfl ?_
 obtain ⟨x2, hx2, hb⟩ := bd hb
 refine RL.call trivial rfl fn107 [(str p0.Name), (str p1)] rfl (Calls_ret (strings_Compare_ok N (p0 := p0.Name) (p1 := p1)  hw  hx2) ?_)
 rintro _ w ⟨rfl, hw⟩
 refine as_ (vi x2) rfl rfl ?_
 refine RL.nt ?_
 refine RC.ret ?_
 obtain rfl := oi hb
 exact fin1 rfl rfl ⟨rfl, hw.drop 2 rfl⟩
def netlist_partAt_R (E : World) (Γ : List HP) (res : Int) (v : Value) (w : World) : Prop := v = (vi res) ∧ Holds E w Γ
def netlist_partAt_K (E : World) (Γ : List HP) (r : Int) (σ : Nat → Value) (w : World) : Prop := finQ Tryd.prog 16 Tryd.f51 (netlist_partAt_R E Γ r) .ret σ w
theorem netlist_partAt_ok (N : Nat) {E w : World} {Γ : List HP} {i0 : Nat} {v0 : Value} {p0 : (List Part)} {p1 : Str} {res : Int} (hw : Holds E w Γ) (h0 : Γ[i0]? = some (rd v0 p0)) (hb : netlist_partAt N p0 p1 = some res) :
    Calls Tryd.prog 51 [v0, (str p1)].toArray w (Ret (netlist_partAt_R E Γ res)) := by
 unfold netlist_partAt at hb
 refine enter Tryd.func51 rfl rfl (Nat.le_of_ble_eq_true rfl) ?_
 have hw := hw.dup (i := i0 + 0) h0
 refine RC.sr ?_
 refine as_ (vi 0) rfl rfl ?_
 refine RL.ns ?_
 refine mv v0 rfl rfl ?_
 refine mv (str p1) rfl rfl ?_
 obtain ⟨x1, hx1, hb⟩ := bd hb
 refine RL.call trivial rfl fn108 [v0, (str p1), (.func (.func 109) #[] #[])] rfl (Calls_ret (slices_BinarySearchFunc_Part_string_ok N (p1 := p1) (i0 := 0) hw rfl ⟨109, [], rfl, fn109, fun w Γl v v' y0 y1 r i j hw hi hj hr => by obtain rfl := hw.ofSc (γ := Str) hj; exact Calls_ret (netlist_partAt_c1_ok N (p1 := y1) (i0 := i) hw hi hr) fun _ _ h => h⟩ hx1) ?_)
 rintro _ w ⟨rfl, hw⟩
 refine mv (.tuple #[(vi x1.1), (vb x1.2)]) rfl rfl ?_
 refine RL.extract (v := (vi x1.1)) trivial rfl rfl rfl ?_
 refine RL.extract (v := (vb x1.2)) trivial rfl rfl rfl ?_
 refine as_ (vi x1.1) rfl rfl ?_
 refine as_ (vb x1.2) rfl rfl ?_
 refine RL.nq ?_
 refine RC.sr ?_
 refine mv (vb x1.2) rfl rfl ?_
 refine RL.not (b := x1.2) trivial rfl rfl ?_
 refine RL.nt ?_
 refine RC.cond (b := (!x1.2)) rfl (fun hc => ?_) (fun hc => ?_)
 ·replace hb := cT hc hb
  refine RC.sr ?_
  refine as_ (vi (-1)) rfl rfl ?_
  refine RL.nt ?_
  refine RC.rt ?_
  obtain rfl := oi hb
  exact fin1 rfl rfl ⟨rfl, hw.drop 1 rfl⟩
 replace hb := cF hc hb
 refine RC.sx ?_
 refine mv (vi x1.1) rfl rfl ?_
 refine as_ (vi x1.1) rfl rfl ?_
 refine RL.nt ?_
 refine RC.ret ?_
 obtain rfl := oi hb
 exact fin1 rfl rfl ⟨rfl, hw.drop 1 rfl⟩
def slices_BinarySearchFunc_PinType_string_R (E : World) (Γ : List HP) (res : Int × Bool) (v : Value) (w : World) : Prop := v = .tuple #[(vi res.1), (vb res.2)] ∧ Holds E w Γ
def slices_BinarySearchFunc_PinType_string_K (E : World) (Γ : List HP) (r : Int × Bool) (σ : Nat → Value) (w : World) : Prop := finQ Tryd.prog 49 Tryd.f110 (slices_BinarySearchFunc_PinType_string_R E Γ r) .ret σ w
theorem slices_BinarySearchFunc_PinType_string_ok (N : Nat) {E w : World} {Γ : List HP} {i0 : Nat} {v0 : Value} {p0 : (List PinType)} {p1 : Str} {v2 : Value} {p2 : PinType → Str → Option Int} {res : Int × Bool} (hw : Holds E w Γ) (h0 : Γ[i0]? = some (rd v0 p0)) (h2 : Fn2 Tryd.prog E Γ v2 p2 (fun (r : Int) => Value.int .i64 r)) (hb : slices_BinarySearchFunc_PinType_string N p0 p1 p2 = some res) :
    Calls Tryd.prog 110 [v0, (str p1), v2].toArray w (Ret (slices_BinarySearchFunc_PinType_string_R E Γ res)) := by
 unfold slices_BinarySearchFunc_PinType_string at hb
 refine enter Tryd.func110 rfl rfl (Nat.le_of_ble_eq_true rfl) ?_
 have hw := hw.dup (i := i0 + 0) h0
 refine RC.sr ?_
 refine as_ (vi 0) rfl rfl ?_
 refine as_ (vb false) rfl rfl ?_
 refine RL.ns ?_
 refine mv v0 rfl rfl ?_
 refine RL.len_rd (i := 0) (l := p0) trivial rfl hw rfl rfl un83 ?_
 refine as_ (vi (p0.length : Int)) rfl rfl ?_
 refine RL.ns ?_
 refine mv (vi (p0.length : Int)) rfl rfl ?_
 refine as_ (vi 0) rfl rfl ?_
 refine as_ (vi (p0.length : Int)) rfl rfl ?_
 refine RL.nq ?_
 obtain ⟨o29, hN, hb⟩ := bd hb
 refine RC.iter (fun (s2 : Int × Int) (σ : Nat → Value) (w : World) => agree σ [(0, v0), (1, (str p1)), (2, v2), (8, (vi (p0.length : Int))), (9, (vi s2.1)), (10, (vi s2.2))] ∧ Holds E w ([rd v0 p0] ++ Γ)) (fun (s2 : Int × Int) (σ : Nat → Value) (w : World) => agree σ [(0, v0), (1, (str p1)), (2, v2), (8, (vi (p0.length : Int))), (9, (vi s2.1))] ∧ Holds E w ([rd v0 p0] ++ Γ)) (fun (r : Empty) (_ : Nat → Value) (_ : World) => r.elim) hN ?_ ?_ ?_ ?_ 
 ·exact ⟨⟨rfl, rfl, rfl, rfl, rfl, rfl, trivial⟩, hw.pick 1 [0] (new := [rd v0 p0]) rfl rfl (by decide) (by decide)⟩
 ·intro s2 fl σ w hI hb
  obtain ⟨ha, hw⟩ := hI
  obtain ⟨τ, rfl⟩ := ha.ups
  refine RC.seq ?_
  refine RC.sr ?_
  refine mv (vi s2.1) rfl rfl ?_
  refine mv (vi s2.2) rfl rfl ?_
  refine ic (s2.1) (s2.2) rfl rfl rfl rfl ?_
  refine RL.nt ?_
  refine RC.cond (b := (decide (s2.1 < s2.2))) rfl (fun hc => ?_) (fun hc => ?_)
  rotate_left
  ·replace hb := cF hc hb
   refine RC.ex ?_
   obtain rfl := oi hb
   exact ⟨rfl, ⟨rfl, rfl, rfl, rfl, rfl, trivial⟩, hw.pick 1 [0] (new := [rd v0 p0]) rfl rfl (by decide) (by decide)⟩
  replace hb := cT hc hb
  refine RC.sn ?_
  refine RC.bs ?_
  refine mv (vi s2.1) rfl rfl ?_
  refine mv (vi s2.2) rfl rfl ?_
  refine RL.iar (a := s2.1) (b := s2.2) trivial rfl rfl rfl rfl ?_
  refine RL.conv (a := (IntKind.wrap .i64 (s2.1 + s2.2))) trivial rfl rfl ⟨_, un3⟩ un180 ?_
  refine RL.bin (v := (.int .u64 (IntKind.wrap .u64 (IntKind.wrap .i64 (s2.1 + s2.2))))) (v' := (.int .u64 1)) (u := (.int .u64 (Int.fdiv (IntKind.wrap .u64 (IntKind.wrap .i64 (s2.1 + s2.2))) 2))) trivial rfl rfl rfl (fun _ => rfl) (fun _ => rfl) ?_
  refine RL.conv (a := (Int.fdiv (IntKind.wrap .u64 (IntKind.wrap .i64 (s2.1 + s2.2))) 2)) trivial rfl rfl ⟨_, un180⟩ un3 ?_
  refine as_ (vi (IntKind.wrap .i64 (Int.fdiv (IntKind.wrap .u64 (IntKind.wrap .i64 (s2.1 + s2.2))) 2))) rfl rfl ?_
  refine RL.ns ?_
  refine mv v2 rfl rfl ?_
  refine mv v0 rfl rfl ?_
  refine mv (vi (IntKind.wrap .i64 (Int.fdiv (IntKind.wrap .u64 (IntKind.wrap .i64 (s2.1 + s2.2))) 2))) rfl rfl ?_
  obtain ⟨x13, hx13, hb⟩ := bd hb
  refine RL.ia_rd (i := 0) trivial rfl hw rfl rfl rfl sl83 hx13 fun v14 hw => ?_
  refine RL.load_pt (i := 0) (x := x13) trivial rfl hw rfl rfl ty82 fun v15 hw => ?_
  refine mv (str p1) rfl rfl ?_
  have hw := hw.sc (γ := Str) p1
  obtain ⟨x16, hx16, hb⟩ := bd hb
  refine RL.callF2 (i := 1) (j := 0) trivial rfl hw rfl h2 4 rfl rfl rfl rfl rfl hx16 fun w hw => ?_
  refine ic x16 0 rfl rfl rfl rfl ?_
  refine RL.nt ?_
  obtain ⟨s17, hj, hb⟩ := bd hb
  refine RC.jn (fun (s17 : Int × Int) (σ : Nat → Value) (w : World) => agree σ [(0, v0), (1, (str p1)), (2, v2), (8, (vi (p0.length : Int))), (9, (vi s17.1)), (10, (vi s17.2))] ∧ Holds E w ([rd v0 p0] ++ Γ)) s17 ?_ ?_
  ·refine RC.cond (b := (decide (x16 < 0))) rfl (fun hc => ?_) (fun hc => ?_)
   rotate_left
   ·replace hj := cF hc hj
    refine RC.region ?_
    refine mv (vi (IntKind.wrap .i64 (Int.fdiv (IntKind.wrap .u64 (IntKind.wrap .i64 (s2.1 + s2.2))) 2))) rfl rfl ?_
    refine as_ (vi (IntKind.wrap .i64 (Int.fdiv (IntKind.wrap .u64 (IntKind.wrap .i64 (s2.1 + s2.2))) 2))) rfl rfl ?_
    refine RL.nil ?_
    obtain rfl := oi hj
    exact ⟨rfl, ⟨rfl, rfl, rfl, rfl, rfl, rfl, trivial⟩, hw.pick 4 [3] (new := [rd v0 p0]) rfl rfl (by decide) (by decide)⟩
   replace hj := cT hc hj
   refine RC.region ?_
   refine mv (vi (IntKind.wrap .i64 (Int.fdiv (IntKind.wrap .u64 (IntKind.wrap .i64 (s2.1 + s2.2))) 2))) rfl rfl ?_
   refine RL.iar (a := (IntKind.wrap .i64 (Int.fdiv (IntKind.wrap .u64 (IntKind.wrap .i64 (s2.1 + s2.2))) 2))) (b := 1) trivial rfl rfl rfl rfl ?_
   refine as_ (vi (IntKind.wrap .i64 ((IntKind.wrap .i64 (Int.fdiv (IntKind.wrap .u64 (IntKind.wrap .i64 (s2.1 + s2.2))) 2)) + 1))) rfl rfl ?_
   refine RL.nil ?_
   obtain rfl := oi hj
   exact ⟨rfl, ⟨rfl, rfl, rfl, rfl, rfl, rfl, trivial⟩, hw.pick 4 [3] (new := [rd v0 p0]) rfl rfl (by decide) (by decide)⟩
  rintro σ w ⟨ha, hw⟩
  obtain ⟨τ, rfl⟩ := ha.ups
  refine blkQ_n ?_
  obtain rfl := oi hb
  exact ⟨rfl, ⟨rfl, rfl, rfl, rfl, rfl, rfl, trivial⟩, hw.pick 1 [0] (new := [rd v0 p0]) rfl rfl (by decide) (by decide)⟩
 ·intro r _ _ _ _
  exact r.elim
 intro s2 σ w e hJ
 subst e
 rw [Fo.cs_go] at hb
 obtain ⟨ha, hw⟩ := hJ
 obtain ⟨τ, rfl⟩ := ha.ups
 refine thenQ_n ?_
 refine RC.seq ?_
 obtain ⟨s23, hj, hb⟩ := bd hb
 refine RC.jn (fun (s23 : Bool) (σ : Nat → Value) (w : World) => agree σ [(6, (vi s2.1)), (7, (vb s23))] ∧ Holds E w ([] ++ Γ)) s23 ?_ ?_
 ·refine RC.region ?_
  refine mv (vi s2.1) rfl rfl ?_
  refine mv (vi s2.1) rfl rfl ?_
  refine mv (vi (p0.length : Int)) rfl rfl ?_
  refine ic (s2.1) ((p0.length : Int)) rfl rfl rfl rfl ?_
  refine mv (vb (decide (s2.1 < (p0.length : Int)))) rfl rfl ?_
  rcases Bool.eq_false_or_eq_true (decide (s2.1 < (p0.length : Int))) with hg24 | hg24
  rotate_left
  ·replace hj := cF hg24 hj
   refine sk rfl (.inl (cb hg24)) rfl ?_
   refine sk rfl (.inl (cb hg24)) rfl ?_
   refine sk rfl (.inl (cb hg24)) rfl ?_
   refine sk rfl (.inl (cb hg24)) rfl ?_
   refine sk rfl (.inl (cb hg24)) rfl ?_
   refine sk rfl (.inl (cb hg24)) rfl ?_
   refine sk rfl (.inl (cb hg24)) rfl ?_
   refine sk rfl (.inl (cb hg24)) rfl ?_
   refine RL.pick (b := (decide (s2.1 < (p0.length : Int)))) (v := (vb false)) trivial rfl rfl (by rw [hg24]; rfl) ?_
   refine as_ (vi s2.1) rfl rfl ?_
   refine as_ (vb false) rfl rfl ?_
   refine RL.nil ?_
   obtain rfl := oi hj
   exact ⟨rfl, ⟨rfl, rfl, trivial⟩, hw.pick 1 [] (new := []) rfl rfl (by decide) (by decide)⟩
  replace hj := cT hg24 hj
  refine RL.move (v := v2) ⟨_, rfl, cb hg24⟩ rfl rfl ?_
  refine RL.move (v := v0) ⟨_, rfl, cb hg24⟩ rfl rfl ?_
  refine RL.move (v := (vi s2.1)) ⟨_, rfl, cb hg24⟩ rfl rfl ?_
  obtain ⟨x25, hx25, hj⟩ := bd hj
  refine RL.ia_rd (i := 0) ⟨_, rfl, cb hg24⟩ rfl hw rfl rfl rfl sl83 hx25 fun v26 hw => ?_
  refine RL.load_pt (i := 0) (x := x25) ⟨_, rfl, cb hg24⟩ rfl hw rfl rfl ty82 fun v27 hw => ?_
  refine RL.move (v := (str p1)) ⟨_, rfl, cb hg24⟩ rfl rfl ?_
  have hw := hw.sc (γ := Str) p1
  obtain ⟨x28, hx28, hj⟩ := bd hj
  refine RL.callF2 (i := 1) (j := 0) ⟨_, rfl, cb hg24⟩ rfl hw rfl h2 4 rfl rfl rfl rfl rfl hx28 fun w hw => ?_
  refine RL.icmp (a := x28) (b := 0) ⟨_, rfl, cb hg24⟩ rfl rfl rfl rfl ?_
  refine RL.pick (b := (decide (s2.1 < (p0.length : Int)))) (v := (vb (x28 == 0))) trivial rfl rfl (by rw [hg24]; rfl) ?_
  refine as_ (vi s2.1) rfl rfl ?_
  refine as_ (vb (x28 == 0)) rfl rfl ?_
  refine RL.nil ?_
  obtain rfl := oi hj
  exact ⟨rfl, ⟨rfl, rfl, trivial⟩, hw.pick 4 [] (new := []) rfl rfl (by decide) (by decide)⟩
 rintro σ w ⟨ha, hw⟩
 obtain ⟨τ, rfl⟩ := ha.ups
 refine thenQ_n ?_
 refine RC.ret ?_
 obtain rfl := oi hb
 exact fin2 rfl rfl rfl ⟨rfl, hw.drop 0 rfl⟩
def netlist_PinAt_c1_R (E : World) (Γ : List HP) (res : Int) (v : Value) (w : World) : Prop := v = (vi res) ∧ Holds E w Γ
def netlist_PinAt_c1_K (E : World) (Γ : List HP) (r : Int) (σ : Nat → Value) (w : World) : Prop := finQ Tryd.prog 9 Tryd.f111 (netlist_PinAt_c1_R E Γ r) .ret σ w
theorem netlist_PinAt_c1_ok (N : Nat) {E w : World} {Γ : List HP} {i0 : Nat} {v0 : Value} {p0 : PinType} {p1 : Str} {res : Int} (hw : Holds E w Γ) (h0 : Γ[i0]? = some (rd v0 p0)) (hb : netlist_PinAt_c1 N p0 p1 = some res) :
    Calls Tryd.prog 111 [v0, (str p1)].toArray w (Ret (netlist_PinAt_c1_R E Γ res)) := by
 unfold netlist_PinAt_c1 at hb
 refine enter Tryd.func111 rfl rfl (Nat.le_of_ble_eq_true rfl) ?_
 have hw := hw.dup (i := i0 + 0) h0
 refine RC.sr ?_
 refine RL.box_rd (i := 0) (v := v0) trivial rfl hw rfl rfl fun b1 w hw => ?_
 refine as_ (vi 0) rfl rfl ?_
 refine RL.ns ?_
 refine RL.fa_b trivial rfl rfl fa82_0 ?_
 refine RL.load_bfs (i := 0) (f := (fun x => x.Name)) trivial rfl hw rfl rfl fd_PinType_0 ty9 ?_
 refine mv (str p1) rfl rfl ?_
 obtain ⟨x2, hx2, hb⟩ := bd hb
 refine RL.call trivial rfl fn107 [(str p0.Name), (str p1)] rfl (Calls_ret (strings_Compare_ok N (p0 := p0.Name) (p1 := p1)  hw  hx2) ?_)
 rintro _ w ⟨rfl, hw⟩
 refine as_ (vi x2) rfl rfl ?_
 refine RL.nt ?_
 refine RC.ret ?_
 obtain rfl := oi hb
 exact fin1 rfl rfl ⟨rfl, hw.drop 2 rfl⟩
def netlist_PinAt_R (E : World) (Γ : List HP) (res : Int) (v : Value) (w : World) : Prop := v = (vi res) ∧ Holds E w Γ
def netlist_PinAt_K (E : World) (Γ : List HP) (r : Int) (σ : Nat → Value) (w : World) : Prop := finQ Tryd.prog 17 Tryd.f52 (netlist_PinAt_R E Γ r) .ret σ w
theorem netlist_PinAt_ok (N : Nat) {E w : World} {Γ : List HP} {i0 : Nat} {v0 : Value} {p0 : PartType} {p1 : Str} {res : Int} (hw : Holds E w Γ) (h0 : Γ[i0]? = some (rd v0 p0)) (hb : netlist_PinAt N p0 p1 = some res) :
    Calls Tryd.prog 52 [v0, (str p1)].toArray w (Ret (netlist_PinAt_R E Γ res)) := by
 unfold netlist_PinAt at hb
 refine enter Tryd.func52 rfl rfl (Nat.le_of_ble_eq_true rfl) ?_
 have hw := hw.dup (i := i0 + 0) h0
 refine RC.sr ?_
 refine RL.box_rd (i := 0) (v := v0) trivial rfl hw rfl rfl fun b1 w hw => ?_
 refine as_ (vi 0) rfl rfl ?_
 refine RL.ns ?_
 refine RL.fa_b trivial rfl rfl fa85_1 ?_
 refine RL.load_bf (i := 0) (f := (fun x => x.Pins)) trivial rfl hw rfl rfl fd_PartType_1 ty83 fun v2 hw => ?_
 refine mv (str p1) rfl rfl ?_
 obtain ⟨x3, hx3, hb⟩ := bd hb
 refine RL.call trivial rfl fn110 [v2, (str p1), (.func (.func 111) #[] #[])] rfl (Calls_ret (slices_BinarySearchFunc_PinType_string_ok N (p1 := p1) (i0 := 0) hw rfl ⟨111, [], rfl, fn111, fun w Γl v v' y0 y1 r i j hw hi hj hr => by obtain rfl := hw.ofSc (γ := Str) hj; exact Calls_ret (netlist_PinAt_c1_ok N (p1 := y1) (i0 := i) hw hi hr) fun _ _ h => h⟩ hx3) ?_)
 rintro _ w ⟨rfl, hw⟩
 refine mv (.tuple #[(vi x3.1), (vb x3.2)]) rfl rfl ?_
 refine RL.extract (v := (vi x3.1)) trivial rfl rfl rfl ?_
 refine RL.extract (v := (vb x3.2)) trivial rfl rfl rfl ?_
 refine as_ (vi x3.1) rfl rfl ?_
 refine as_ (vb x3.2) rfl rfl ?_
 refine RL.nq ?_
 refine RC.sr ?_
 refine mv (vb x3.2) rfl rfl ?_
 refine RL.not (b := x3.2) trivial rfl rfl ?_
 refine RL.nt ?_
 refine RC.cond (b := (!x3.2)) rfl (fun hc => ?_) (fun hc => ?_)
 ·replace hb := cT hc hb
  refine RC.sr ?_
  refine as_ (vi (-1)) rfl rfl ?_
  refine RL.nt ?_
  refine RC.rt ?_
  obtain rfl := oi hb
  exact fin1 rfl rfl ⟨rfl, hw.drop 3 rfl⟩
 replace hb := cF hc hb
 refine RC.sx ?_
 refine mv (vi x3.1) rfl rfl ?_
 refine as_ (vi x3.1) rfl rfl ?_
 refine RL.nt ?_
 refine RC.ret ?_
 obtain rfl := oi hb
 exact fin1 rfl rfl ⟨rfl, hw.drop 3 rfl⟩
def netlist_hasPin_R (E : World) (Γ : List HP) (res : Bool) (v : Value) (w : World) : Prop := v = (vb res) ∧ Holds E w Γ
def netlist_hasPin_K (E : World) (Γ : List HP) (r : Bool) (σ : Nat → Value) (w : World) : Prop := finQ Tryd.prog 30 Tryd.f36 (netlist_hasPin_R E Γ r) .ret σ w
theorem netlist_hasPin_ok (N : Nat) {E w : World} {Γ : List HP} {i0 : Nat} {v0 : Value} {p0 : (List PartType)} {i1 : Nat} {v1 : Value} {p1 : (List Part)} {i2 : Nat} {v2 : Value} {p2 : Pin} {res : Bool} (hw : Holds E w Γ) (h0 : Γ[i0]? = some (rd v0 p0)) (h1 : Γ[i1]? = some (rd v1 p1)) (h2 : Γ[i2]? = some (rd v2 p2)) (hb : netlist_hasPin N p0 p1 p2 = some res) :
    Calls Tryd.prog 36 [v0, v1, v2].toArray w (Ret (netlist_hasPin_R E Γ res)) := by
 unfold netlist_hasPin at hb
 refine enter Tryd.func36 rfl rfl (Nat.le_of_ble_eq_true rfl) ?_
 have hw := hw.dup (i := i0 + 0) h0
 have hw := hw.dup (i := i1 + 1) h1
 have hw := hw.dup (i := i2 + 2) h2
 refine RC.sr ?_
 refine RL.box_rd (i := 0) (v := v2) trivial rfl hw rfl rfl fun b1 w hw => ?_
 refine as_ (vb false) rfl rfl ?_
 refine RL.ns ?_
 refine mv v1 rfl rfl ?_
 refine RL.fa_b trivial rfl rfl fa28_0 ?_
 refine RL.load_bfs (i := 0) (f := (fun x => x.Part)) trivial rfl hw rfl rfl fd_Pin_0 ty9 ?_
 obtain ⟨x2, hx2, hb⟩ := bd hb
 refine RL.call trivial rfl fn51 [v1, (str p2.Part)] rfl (Calls_ret (netlist_partAt_ok N (p1 := p2.Part) (i0 := 2) hw rfl hx2) ?_)
 rintro _ w ⟨rfl, hw⟩
 refine as_ (vi x2) rfl rfl ?_
 refine RL.nq ?_
 obtain ⟨s16, hj, hb⟩ := bd hb
 refine RC.jn (fun (s16 : Bool) (σ : Nat → Value) (w : World) => agree σ [(6, (vb s16))] ∧ Holds E w ([] ++ Γ)) s16 ?_ ?_
 ·rcases Bool.eq_false_or_eq_true (decide (x2 ≥ 0)) with hg17 | hg17
  rotate_left
  ·replace hj := cF hg17 hj
   refine RC.drw mixed rfl (fun (D : Nat → Bool) (σ : Nat → Value) (w : World) => doneV D σ [(0, 12, (vi x2)), (1, 13, (vb (decide (x2 ≥ 0)))), (2, 14, (vb (decide (x2 ≥ 0)))), (3, 15, undef), (4, 16, undef), (5, 17, undef), (6, 18, undef), (7, 19, undef), (8, 20, undef), (9, 21, undef), (10, 22, undef), (11, 23, undef), (12, 24, undef), (13, 25, undef), (14, 26, undef), (15, 27, undef), (16, 28, undef), (17, 29, (vb false)), (18, 6, (vb false))] ∧ agree σ [(0, v0), (1, v1), (5, (vp b1 0)), (7, (vi x2))] ∧ Holds E w ([bx 28 b1 p2, rd v2 p2, rd v1 p1, rd v0 p0] ++ Γ)) ?_ ⟨?_, ?_, ?_, ?_, ?_, ?_, ?_, ?_, ?_, ?_, ?_, ?_, ?_, ?_, ?_, ?_, ?_, ?_, ?_, trivial⟩ ?_
   ·have hw := hw.drew
    exact ⟨doneV.none, ⟨rfl, rfl, rfl, rfl, trivial⟩, hw⟩
   ·rintro D σ w hD hdep hcl ⟨hv, ha, hw⟩
    obtain ⟨τ, rfl⟩ := (ac (ha.at 3 rfl) az).ups
    refine mv (vi x2) rfl rfl ?_
    refine RL.nil ?_
    exact ⟨rfl, hv.put 0 rfl rfl, ha.up rfl, hw⟩
   ·rintro D σ w hD hdep hcl ⟨hv, ha, hw⟩
    obtain ⟨τ, rfl⟩ := (ac (hv.at 0 rfl (hdep.1 rfl)) az).ups
    refine ic x2 0 rfl rfl rfl rfl ?_
    refine RL.nil ?_
    exact ⟨rfl, hv.put 1 rfl rfl, ha.up rfl, hw⟩
   ·rintro D σ w hD hdep hcl ⟨hv, ha, hw⟩
    obtain ⟨τ, rfl⟩ := (ac (hv.at 1 rfl (hdep.1 rfl)) az).ups
    refine mv (vb (decide (x2 ≥ 0))) rfl rfl ?_
    refine RL.nil ?_
    exact ⟨rfl, hv.put 2 rfl rfl, ha.up rfl, hw⟩
   ·rintro D σ w hD hdep hcl ⟨hv, ha, hw⟩
    obtain ⟨τ, rfl⟩ := (ac (hv.at 2 rfl (hdep.1 rfl)) (ac (ha.at 0 rfl) az)).ups
    refine sk rfl (.inl (cb hg17)) rfl ?_
    refine RL.nil ?_
    exact ⟨rfl, hv.put 3 rfl rfl, ha.up rfl, hw⟩
   ·rintro D σ w hD hdep hcl ⟨hv, ha, hw⟩
    obtain ⟨τ, rfl⟩ := (ac (hv.at 2 rfl (hdep.1 rfl)) (ac (ha.at 0 rfl) az)).ups
    refine sk rfl (.inl (cb hg17)) rfl ?_
    refine RL.nil ?_
    exact ⟨rfl, hv.put 4 rfl rfl, ha.up rfl, hw⟩
   ·rintro D σ w hD hdep hcl ⟨hv, ha, hw⟩
    obtain ⟨τ, rfl⟩ := (ac (hv.at 2 rfl (hdep.1 rfl)) (ac (ha.at 1 rfl) az)).ups
    refine sk rfl (.inl (cb hg17)) rfl ?_
    refine RL.nil ?_
    exact ⟨rfl, hv.put 5 rfl rfl, ha.up rfl, hw⟩
   ·rintro D σ w hD hdep hcl ⟨hv, ha, hw⟩
    obtain ⟨τ, rfl⟩ := (ac (hv.at 2 rfl (hdep.1 rfl)) (ac (ha.at 3 rfl) az)).ups
    refine sk rfl (.inl (cb hg17)) rfl ?_
    refine RL.nil ?_
    exact ⟨rfl, hv.put 6 rfl rfl, ha.up rfl, hw⟩
   ·rintro D σ w hD hdep hcl ⟨hv, ha, hw⟩
    obtain ⟨τ, rfl⟩ := (ac (hv.at 2 rfl (hdep.2.2.1 rfl)) (ac (hv.at 5 rfl (hdep.1 rfl)) (ac (hv.at 6 rfl (hdep.2.1 rfl)) az))).ups
    refine sk rfl (.inl (cb hg17)) rfl ?_
    refine RL.nil ?_
    exact ⟨rfl, hv.put 7 rfl rfl, ha.up rfl, hw⟩
   ·rintro D σ w hD hdep hcl ⟨hv, ha, hw⟩
    obtain ⟨τ, rfl⟩ := (ac (hv.at 2 rfl (hdep.2.1 rfl)) (ac (hv.at 7 rfl (hdep.1 rfl)) az)).ups
    refine sk rfl (.inl (cb hg17)) rfl ?_
    refine RL.nil ?_
    exact ⟨rfl, hv.put 8 rfl rfl, ha.up rfl, hw⟩
   ·rintro D σ w hD hdep hcl ⟨hv, ha, hw⟩
    obtain ⟨τ, rfl⟩ := (ac (hv.at 2 rfl (hdep.2.1 rfl)) (ac (hv.at 8 rfl (hdep.1 rfl)) az)).ups
    refine sk rfl (.inl (cb hg17)) rfl ?_
    refine RL.nil ?_
    exact ⟨rfl, hv.put 9 rfl rfl, ha.up rfl, hw⟩
   ·rintro D σ w hD hdep hcl ⟨hv, ha, hw⟩
    obtain ⟨τ, rfl⟩ := (ac (hv.at 2 rfl (hdep.2.2.1 rfl)) (ac (hv.at 4 rfl (hdep.1 rfl)) (ac (hv.at 9 rfl (hdep.2.1 rfl)) az))).ups
    refine sk rfl (.inl (cb hg17)) rfl ?_
    refine RL.nil ?_
    exact ⟨rfl, hv.put 10 rfl rfl, ha.up rfl, hw⟩
   ·rintro D σ w hD hdep hcl ⟨hv, ha, hw⟩
    obtain ⟨τ, rfl⟩ := (ac (hv.at 2 rfl (hdep.2.2.1 rfl)) (ac (hv.at 3 rfl (hdep.1 rfl)) (ac (hv.at 10 rfl (hdep.2.1 rfl)) az))).ups
    refine sk rfl (.inl (cb hg17)) rfl ?_
    refine RL.nil ?_
    exact ⟨rfl, hv.put 11 rfl rfl, ha.up rfl, hw⟩
   ·rintro D σ w hD hdep hcl ⟨hv, ha, hw⟩
    obtain ⟨τ, rfl⟩ := (ac (hv.at 2 rfl (hdep.2.1 rfl)) (ac (hv.at 11 rfl (hdep.1 rfl)) az)).ups
    refine sk rfl (.inl (cb hg17)) rfl ?_
    refine RL.nil ?_
    exact ⟨rfl, hv.put 12 rfl rfl, ha.up rfl, hw⟩
   ·rintro D σ w hD hdep hcl ⟨hv, ha, hw⟩
    obtain ⟨τ, rfl⟩ := (ac (hv.at 2 rfl (hdep.1 rfl)) (ac (ha.at 2 rfl) az)).ups
    refine sk rfl (.inl (cb hg17)) rfl ?_
    refine RL.nil ?_
    exact ⟨rfl, hv.put 13 rfl rfl, ha.up rfl, hw⟩
   ·rintro D σ w hD hdep hcl ⟨hv, ha, hw⟩
    obtain ⟨τ, rfl⟩ := (ac (hv.at 2 rfl (hdep.2.1 rfl)) (ac (hv.at 13 rfl (hdep.1 rfl)) az)).ups
    refine sk rfl (.inl (cb hg17)) rfl ?_
    refine RL.nil ?_
    exact ⟨rfl, hv.put 14 rfl rfl, ha.up rfl, hw⟩
   ·rintro D σ w hD hdep hcl ⟨hv, ha, hw⟩
    obtain ⟨τ, rfl⟩ := (ac (hv.at 2 rfl (hdep.2.2.2.1 rfl)) (ac (hv.at 12 rfl (hdep.1 rfl)) (ac (hv.at 14 rfl (hdep.2.1 rfl)) az))).ups
    refine sk rfl (.inl (cb hg17)) rfl ?_
    refine RL.nil ?_
    exact ⟨rfl, hv.put 15 rfl rfl, ha.up rfl, hw⟩
   ·rintro D σ w hD hdep hcl ⟨hv, ha, hw⟩
    obtain ⟨τ, rfl⟩ := (ac (hv.at 2 rfl (hdep.2.1 rfl)) (ac (hv.at 15 rfl (hdep.1 rfl)) az)).ups
    refine sk rfl (.inl (cb hg17)) rfl ?_
    refine RL.nil ?_
    exact ⟨rfl, hv.put 16 rfl rfl, ha.up rfl, hw⟩
   ·rintro D σ w hD hdep hcl ⟨hv, ha, hw⟩
    obtain ⟨τ, rfl⟩ := (ac (hv.at 2 rfl (hdep.1 rfl)) (ac (hv.at 16 rfl (hdep.2.1 rfl)) az)).ups
    refine RL.pick (b := (decide (x2 ≥ 0))) (v := (vb false)) trivial rfl rfl (by rw [hg17]; rfl) ?_
    refine RL.nil ?_
    exact ⟨rfl, hv.put 17 rfl rfl, ha.up rfl, hw⟩
   ·rintro D σ w hD hdep hcl ⟨hv, ha, hw⟩
    obtain ⟨τ, rfl⟩ := (ac (hv.at 17 rfl (hdep.1 rfl)) az).ups
    refine as_ (vb false) rfl rfl ?_
    refine RL.nil ?_
    exact ⟨rfl, hv.put 18 rfl rfl, ha.up rfl, hw⟩
   rintro D σ w hall ⟨hv, ha, hw⟩
   obtain ⟨τ, rfl⟩ := (ac (hv.at 18 rfl (hall 18 (by decide))) (ac (ha.at 0 rfl) (ac (ha.at 1 rfl) (ac (ha.at 2 rfl) (ac (ha.at 3 rfl) az))))).ups
   obtain rfl := oi hj
   exact ⟨rfl, ⟨rfl, trivial⟩, hw.pick 4 [] (new := []) rfl rfl (by decide) (by decide)⟩
  replace hj := cT hg17 hj
  obtain ⟨x18, hx18, hj⟩ := bd hj
  obtain ⟨x21, hx21, hj⟩ := bd hj
  obtain ⟨x22, hx22, hj⟩ := bd hj
  obtain ⟨x25, hx25, hj⟩ := bd hj
  refine RC.drw mixed rfl (fun (D : Nat → Bool) (σ : Nat → Value) (w : World) => ∃ (v19 : Value) (v20 : Value) (v23 : Value) (v24 : Value), doneV D σ [(0, 12, (vi x2)), (1, 13, (vb (decide (x2 ≥ 0)))), (2, 14, (vb (decide (x2 ≥ 0)))), (3, 15, v0), (4, 16, v0), (5, 17, v1), (6, 18, (vi x2)), (7, 19, v19), (8, 20, v20), (9, 21, (str x18.Type_)), (10, 22, (vi x21)), (11, 23, v23), (12, 24, v24), (13, 25, (vp b1 1)), (14, 26, (str p2.Pin)), (15, 27, (vi x25)), (16, 28, (vb (decide (x25 ≥ 0)))), (17, 29, (vb (decide (x25 ≥ 0)))), (18, 6, (vb (decide (x25 ≥ 0))))] ∧ agree σ [(0, v0), (1, v1), (5, (vp b1 0)), (7, (vi x2))] ∧ Holds E w ([bif D 7 then (pt v19 x18) else junk, bif D 8 then (pt v20 x18.Type_) else junk, bif D 11 then (pt v23 x22) else junk, bif D 12 then (rd v24 x22) else junk, bx 28 b1 p2, rd v2 p2, rd v1 p1, rd v0 p0] ++ Γ)) ?_ ⟨?_, ?_, ?_, ?_, ?_, ?_, ?_, ?_, ?_, ?_, ?_, ?_, ?_, ?_, ?_, ?_, ?_, ?_, ?_, trivial⟩ ?_
  ·have hw := hw.drew
   have hw := hw.junk
   have hw := hw.junk
   have hw := hw.junk
   have hw := hw.junk
   exact ⟨undef, undef, undef, undef, doneV.none, ⟨rfl, rfl, rfl, rfl, trivial⟩, hw⟩
  ·rintro D σ w hD hdep hcl ⟨v19, v20, v23, v24, hv, ha, hw⟩
   obtain ⟨τ, rfl⟩ := (ac (ha.at 3 rfl) az).ups
   refine mv (vi x2) rfl rfl ?_
   refine RL.nil ?_
   exact ⟨rfl, v19, v20, v23, v24, hv.put 0 rfl rfl, ha.up rfl, hw⟩
  ·rintro D σ w hD hdep hcl ⟨v19, v20, v23, v24, hv, ha, hw⟩
   obtain ⟨τ, rfl⟩ := (ac (hv.at 0 rfl (hdep.1 rfl)) az).ups
   refine ic x2 0 rfl rfl rfl rfl ?_
   refine RL.nil ?_
   exact ⟨rfl, v19, v20, v23, v24, hv.put 1 rfl rfl, ha.up rfl, hw⟩
  ·rintro D σ w hD hdep hcl ⟨v19, v20, v23, v24, hv, ha, hw⟩
   obtain ⟨τ, rfl⟩ := (ac (hv.at 1 rfl (hdep.1 rfl)) az).ups
   refine mv (vb (decide (x2 ≥ 0))) rfl rfl ?_
   refine RL.nil ?_
   exact ⟨rfl, v19, v20, v23, v24, hv.put 2 rfl rfl, ha.up rfl, hw⟩
  ·rintro D σ w hD hdep hcl ⟨v19, v20, v23, v24, hv, ha, hw⟩
   obtain ⟨τ, rfl⟩ := (ac (hv.at 2 rfl (hdep.1 rfl)) (ac (ha.at 0 rfl) az)).ups
   refine RL.move (v := v0) ⟨_, rfl, cb hg17⟩ rfl rfl ?_
   refine RL.nil ?_
   exact ⟨rfl, v19, v20, v23, v24, hv.put 3 rfl rfl, ha.up rfl, hw⟩
  ·rintro D σ w hD hdep hcl ⟨v19, v20, v23, v24, hv, ha, hw⟩
   obtain ⟨τ, rfl⟩ := (ac (hv.at 2 rfl (hdep.1 rfl)) (ac (ha.at 0 rfl) az)).ups
   refine RL.move (v := v0) ⟨_, rfl, cb hg17⟩ rfl rfl ?_
   refine RL.nil ?_
   exact ⟨rfl, v19, v20, v23, v24, hv.put 4 rfl rfl, ha.up rfl, hw⟩
  ·rintro D σ w hD hdep hcl ⟨v19, v20, v23, v24, hv, ha, hw⟩
   obtain ⟨τ, rfl⟩ := (ac (hv.at 2 rfl (hdep.1 rfl)) (ac (ha.at 1 rfl) az)).ups
   refine RL.move (v := v1) ⟨_, rfl, cb hg17⟩ rfl rfl ?_
   refine RL.nil ?_
   exact ⟨rfl, v19, v20, v23, v24, hv.put 5 rfl rfl, ha.up rfl, hw⟩
  ·rintro D σ w hD hdep hcl ⟨v19, v20, v23, v24, hv, ha, hw⟩
   obtain ⟨τ, rfl⟩ := (ac (hv.at 2 rfl (hdep.1 rfl)) (ac (ha.at 3 rfl) az)).ups
   refine RL.move (v := (vi x2)) ⟨_, rfl, cb hg17⟩ rfl rfl ?_
   refine RL.nil ?_
   exact ⟨rfl, v19, v20, v23, v24, hv.put 6 rfl rfl, ha.up rfl, hw⟩
  ·rintro D σ w hD hdep hcl ⟨v19, v20, v23, v24, hv, ha, hw⟩
   obtain ⟨τ, rfl⟩ := (ac (hv.at 2 rfl (hdep.2.2.1 rfl)) (ac (hv.at 5 rfl (hdep.1 rfl)) (ac (hv.at 6 rfl (hdep.2.1 rfl)) az))).ups
   have hw := hw.selF (i := 0) rfl hD
   refine RL.ia_rd (i := 6) ⟨_, rfl, cb hg17⟩ rfl hw rfl rfl rfl sl23 hx18 fun v26 hw => ?_
   have hw := hw.pick 9 [0, 2, 3, 4, 5, 6, 7, 8] (new := [pt v26 x18, bif D 8 then (pt v20 x18.Type_) else junk, bif D 11 then (pt v23 x22) else junk, bif D 12 then (rd v24 x22) else junk, bx 28 b1 p2, rd v2 p2, rd v1 p1, rd v0 p0]) rfl rfl (by decide) (by decide)
   have hw := hw.altT (i := 0) (b := true) rfl rfl (junk)
   refine RL.nil ?_
   exact ⟨rfl, v26, v20, v23, v24, hv.put 7 rfl rfl, ha.up rfl, hw⟩
  ·rintro D σ w hD hdep hcl ⟨v19, v20, v23, v24, hv, ha, hw⟩
   obtain ⟨τ, rfl⟩ := (ac (hv.at 2 rfl (hdep.2.1 rfl)) (ac (hv.at 7 rfl (hdep.1 rfl)) az)).ups
   have hw := hw.selT (i := 0) rfl (hdep.1 rfl)
   have hw := hw.selF (i := 1) rfl hD
   refine RL.fa_pt (i := 0) (f := fun (x : Part) => x.Type_) ⟨_, rfl, cb hg17⟩ rfl hw rfl rfl fa87_1 fd_Part_1 fun v27 hw => ?_
   have hw := hw.pick 9 [1, 0, 3, 4, 5, 6, 7, 8] (new := [pt v19 x18, pt v27 x18.Type_, bif D 11 then (pt v23 x22) else junk, bif D 12 then (rd v24 x22) else junk, bx 28 b1 p2, rd v2 p2, rd v1 p1, rd v0 p0]) rfl rfl (by decide) (by decide)
   have hw := hw.altT (i := 0) (b := D 7) rfl (hdep.1 rfl) (junk)
   have hw := hw.altT (i := 1) (b := true) rfl rfl (junk)
   refine RL.nil ?_
   exact ⟨rfl, v19, v27, v23, v24, hv.put 8 rfl rfl, ha.up rfl, hw⟩
  ·rintro D σ w hD hdep hcl ⟨v19, v20, v23, v24, hv, ha, hw⟩
   obtain ⟨τ, rfl⟩ := (ac (hv.at 2 rfl (hdep.2.1 rfl)) (ac (hv.at 8 rfl (hdep.1 rfl)) az)).ups
   have hw := hw.selT (i := 1) rfl (hdep.1 rfl)
   refine RL.load_pts (i := 1) (y := x18.Type_) ⟨_, rfl, cb hg17⟩ rfl hw rfl rfl ty9 ?_
   have hw := hw.altT (i := 1) (b := D 8) rfl (hdep.1 rfl) (junk)
   refine RL.nil ?_
   exact ⟨rfl, v19, v20, v23, v24, hv.put 9 rfl rfl, ha.up rfl, hw⟩
  ·rintro D σ w hD hdep hcl ⟨v19, v20, v23, v24, hv, ha, hw⟩
   obtain ⟨τ, rfl⟩ := (ac (hv.at 2 rfl (hdep.2.2.1 rfl)) (ac (hv.at 4 rfl (hdep.1 rfl)) (ac (hv.at 9 rfl (hdep.2.1 rfl)) az))).ups
   refine RL.call ⟨_, rfl, cb hg17⟩ rfl fn50 [v0, (str x18.Type_)] rfl (Calls_ret (netlist_TypeAt_ok N (p1 := x18.Type_) (i0 := 7) hw rfl hx21) ?_)
   rintro _ w ⟨rfl, hw⟩
   refine RL.nil ?_
   exact ⟨rfl, v19, v20, v23, v24, hv.put 10 rfl rfl, ha.up rfl, hw⟩
  ·rintro D σ w hD hdep hcl ⟨v19, v20, v23, v24, hv, ha, hw⟩
   obtain ⟨τ, rfl⟩ := (ac (hv.at 2 rfl (hdep.2.2.1 rfl)) (ac (hv.at 3 rfl (hdep.1 rfl)) (ac (hv.at 10 rfl (hdep.2.1 rfl)) az))).ups
   have hw := hw.selF (i := 2) rfl hD
   refine RL.ia_rd (i := 7) ⟨_, rfl, cb hg17⟩ rfl hw rfl rfl rfl sl22 hx22 fun v28 hw => ?_
   have hw := hw.pick 9 [1, 2, 0, 4, 5, 6, 7, 8] (new := [bif D 7 then (pt v19 x18) else junk, bif D 8 then (pt v20 x18.Type_) else junk, pt v28 x22, bif D 12 then (rd v24 x22) else junk, bx 28 b1 p2, rd v2 p2, rd v1 p1, rd v0 p0]) rfl rfl (by decide) (by decide)
   have hw := hw.altT (i := 2) (b := true) rfl rfl (junk)
   refine RL.nil ?_
   exact ⟨rfl, v19, v20, v28, v24, hv.put 11 rfl rfl, ha.up rfl, hw⟩
  ·rintro D σ w hD hdep hcl ⟨v19, v20, v23, v24, hv, ha, hw⟩
   obtain ⟨τ, rfl⟩ := (ac (hv.at 2 rfl (hdep.2.1 rfl)) (ac (hv.at 11 rfl (hdep.1 rfl)) az)).ups
   have hw := hw.selT (i := 2) rfl (hdep.1 rfl)
   have hw := hw.selF (i := 3) rfl hD
   refine RL.load_pt (i := 2) (x := x22) ⟨_, rfl, cb hg17⟩ rfl hw rfl rfl ty85 fun v29 hw => ?_
   have hw := hw.pick 9 [1, 2, 3, 0, 5, 6, 7, 8] (new := [bif D 7 then (pt v19 x18) else junk, bif D 8 then (pt v20 x18.Type_) else junk, pt v23 x22, rd v29 x22, bx 28 b1 p2, rd v2 p2, rd v1 p1, rd v0 p0]) rfl rfl (by decide) (by decide)
   have hw := hw.altT (i := 2) (b := D 11) rfl (hdep.1 rfl) (junk)
   have hw := hw.altT (i := 3) (b := true) rfl rfl (junk)
   refine RL.nil ?_
   exact ⟨rfl, v19, v20, v23, v29, hv.put 12 rfl rfl, ha.up rfl, hw⟩
  ·rintro D σ w hD hdep hcl ⟨v19, v20, v23, v24, hv, ha, hw⟩
   obtain ⟨τ, rfl⟩ := (ac (hv.at 2 rfl (hdep.1 rfl)) (ac (ha.at 2 rfl) az)).ups
   refine RL.fa_b ⟨_, rfl, cb hg17⟩ rfl rfl fa28_1 ?_
   refine RL.nil ?_
   exact ⟨rfl, v19, v20, v23, v24, hv.put 13 rfl rfl, ha.up rfl, hw⟩
  ·rintro D σ w hD hdep hcl ⟨v19, v20, v23, v24, hv, ha, hw⟩
   obtain ⟨τ, rfl⟩ := (ac (hv.at 2 rfl (hdep.2.1 rfl)) (ac (hv.at 13 rfl (hdep.1 rfl)) az)).ups
   refine RL.load_bfs (i := 4) (f := (fun x => x.Pin)) ⟨_, rfl, cb hg17⟩ rfl hw rfl rfl fd_Pin_1 ty9 ?_
   refine RL.nil ?_
   exact ⟨rfl, v19, v20, v23, v24, hv.put 14 rfl rfl, ha.up rfl, hw⟩
  ·rintro D σ w hD hdep hcl ⟨v19, v20, v23, v24, hv, ha, hw⟩
   obtain ⟨τ, rfl⟩ := (ac (hv.at 2 rfl (hdep.2.2.2.1 rfl)) (ac (hv.at 12 rfl (hdep.1 rfl)) (ac (hv.at 14 rfl (hdep.2.1 rfl)) az))).ups
   have hw := hw.selT (i := 3) rfl (hdep.1 rfl)
   refine RL.call ⟨_, rfl, cb hg17⟩ rfl fn52 [v24, (str p2.Pin)] rfl (Calls_ret (netlist_PinAt_ok N (p1 := p2.Pin) (i0 := 3) hw rfl hx25) ?_)
   rintro _ w ⟨rfl, hw⟩
   have hw := hw.altT (i := 3) (b := D 12) rfl (hdep.1 rfl) (junk)
   refine RL.nil ?_
   exact ⟨rfl, v19, v20, v23, v24, hv.put 15 rfl rfl, ha.up rfl, hw⟩
  ·rintro D σ w hD hdep hcl ⟨v19, v20, v23, v24, hv, ha, hw⟩
   obtain ⟨τ, rfl⟩ := (ac (hv.at 2 rfl (hdep.2.1 rfl)) (ac (hv.at 15 rfl (hdep.1 rfl)) az)).ups
   refine RL.icmp (a := x25) (b := 0) ⟨_, rfl, cb hg17⟩ rfl rfl rfl rfl ?_
   refine RL.nil ?_
   exact ⟨rfl, v19, v20, v23, v24, hv.put 16 rfl rfl, ha.up rfl, hw⟩
  ·rintro D σ w hD hdep hcl ⟨v19, v20, v23, v24, hv, ha, hw⟩
   obtain ⟨τ, rfl⟩ := (ac (hv.at 2 rfl (hdep.1 rfl)) (ac (hv.at 16 rfl (hdep.2.1 rfl)) az)).ups
   refine RL.pick (b := (decide (x2 ≥ 0))) (v := (vb (decide (x25 ≥ 0)))) trivial rfl rfl (by rw [hg17]; rfl) ?_
   refine RL.nil ?_
   exact ⟨rfl, v19, v20, v23, v24, hv.put 17 rfl rfl, ha.up rfl, hw⟩
  ·rintro D σ w hD hdep hcl ⟨v19, v20, v23, v24, hv, ha, hw⟩
   obtain ⟨τ, rfl⟩ := (ac (hv.at 17 rfl (hdep.1 rfl)) az).ups
   refine as_ (vb (decide (x25 ≥ 0))) rfl rfl ?_
   refine RL.nil ?_
   exact ⟨rfl, v19, v20, v23, v24, hv.put 18 rfl rfl, ha.up rfl, hw⟩
  rintro D σ w hall ⟨v19, v20, v23, v24, hv, ha, hw⟩
  rw [hall 7 (by decide), hall 8 (by decide), hall 11 (by decide), hall 12 (by decide)] at hw
  obtain ⟨τ, rfl⟩ := (ac (hv.at 18 rfl (hall 18 (by decide))) (ac (ha.at 0 rfl) (ac (ha.at 1 rfl) (ac (ha.at 2 rfl) (ac (ha.at 3 rfl) az))))).ups
  obtain rfl := oi hj
  exact ⟨rfl, ⟨rfl, trivial⟩, hw.pick 8 [] (new := []) rfl rfl (by decide) (by decide)⟩
 rintro σ w ⟨ha, hw⟩
 obtain ⟨τ, rfl⟩ := ha.ups
 refine thenQ_n ?_
 refine RC.ret ?_
 obtain rfl := oi hb
 exact fin1 rfl rfl ⟨rfl, hw.drop 0 rfl⟩
def netlist_CheckList_c1_R (E : World) (Γ : List HP) (res : Bool) (v : Value) (w : World) : Prop := v = (vb res) ∧ Holds E w Γ
def netlist_CheckList_c1_K (E : World) (Γ : List HP) (r : Bool) (σ : Nat → Value) (w : World) : Prop := finQ Tryd.prog 10 Tryd.f44 (netlist_CheckList_c1_R E Γ r) .ret σ w
theorem netlist_CheckList_c1_ok (N : Nat) {E w : World} {Γ : List HP} {i0 : Nat} {v0 : Value} {p0 : Pin} {i1 : Nat} {v1 : Value} {p1 : (List PartType)} {i2 : Nat} {v2 : Value} {p2 : Netlist} {res : Bool} (hw : Holds E w Γ) (h0 : Γ[i0]? = some (rd v0 p0)) (h1 : Γ[i1]? = some (pt v1 p1)) (h2 : Γ[i2]? = some (pt v2 p2)) (hb : netlist_CheckList_c1 N p0 p1 p2 = some res) :
    Calls Tryd.prog 44 [v0, v1, v2].toArray w (Ret (netlist_CheckList_c1_R E Γ res)) := by
 unfold netlist_CheckList_c1 at hb
 refine enter Tryd.func44 rfl rfl (Nat.le_of_ble_eq_true rfl) ?_
 have hw := hw.dup (i := i0 + 0) h0
 have hw := hw.dup_pt (i := i1 + 1) h1
 have hw := hw.dup_pt (i := i2 + 2) h2
 refine RC.sr ?_
 refine RL.box_rd (i := 2) (v := v0) trivial rfl hw rfl rfl fun b1 w hw => ?_
 refine as_ (vb false) rfl rfl ?_
 refine RL.ns ?_
 refine RL.load_pt (i := 2) (x := p1) trivial rfl hw rfl rfl ty22 fun v2 hw => ?_
 refine RL.fa_pt (i := 2) (f := fun (x : Netlist) => x.Parts) trivial rfl hw rfl rfl fa26_0 fd_Netlist_0 fun v3 hw => ?_
 refine RL.load_pt (i := 0) (x := p2.Parts) trivial rfl hw rfl rfl ty23 fun v4 hw => ?_
 refine RL.load_bf (i := 3) (f := (fun x => x)) trivial rfl hw rfl rfl Fd.self ty28 fun v5 hw => ?_
 obtain ⟨x6, hx6, hb⟩ := bd hb
 refine RL.call trivial rfl fn36 [v2, v4, v5] rfl (Calls_ret (netlist_hasPin_ok N  (i0 := 3) (i1 := 1) (i2 := 0) hw rfl rfl rfl hx6) ?_)
 rintro _ w ⟨rfl, hw⟩
 refine as_ (vb x6) rfl rfl ?_
 refine RL.nt ?_
 refine RC.ret ?_
 obtain rfl := oi hb
 exact fin1 rfl rfl ⟨rfl, hw.drop 8 rfl⟩
def netlist_ComparePins_R (E : World) (Γ : List HP) (res : Int) (v : Value) (w : World) : Prop := v = (vi res) ∧ Holds E w Γ
def netlist_ComparePins_K (E : World) (Γ : List HP) (r : Int) (σ : Nat → Value) (w : World) : Prop := finQ Tryd.prog 19 Tryd.f100 (netlist_ComparePins_R E Γ r) .ret σ w
theorem netlist_ComparePins_ok (N : Nat) {E w : World} {Γ : List HP} {i0 : Nat} {v0 : Value} {p0 : Pin} {i1 : Nat} {v1 : Value} {p1 : Pin} {res : Int} (hw : Holds E w Γ) (h0 : Γ[i0]? = some (rd v0 p0)) (h1 : Γ[i1]? = some (rd v1 p1)) (hb : netlist_ComparePins N p0 p1 = some res) :
    Calls Tryd.prog 100 [v0, v1].toArray w (Ret (netlist_ComparePins_R E Γ res)) := by
 unfold netlist_ComparePins at hb
 refine enter Tryd.func100 rfl rfl (Nat.le_of_ble_eq_true rfl) ?_
 have hw := hw.dup (i := i0 + 0) h0
 have hw := hw.dup (i := i1 + 1) h1
 refine RC.sr ?_
 refine RL.box_rd (i := 1) (v := v0) trivial rfl hw rfl rfl fun b1 w hw => ?_
 refine RL.box_rd (i := 1) (v := v1) trivial rfl hw rfl rfl fun b2 w hw => ?_
 refine as_ (vi 0) rfl rfl ?_
 refine RL.nq ?_
 refine RC.sr ?_
 refine RL.fa_b trivial rfl rfl fa28_0 ?_
 refine RL.load_bfs (i := 1) (f := (fun x => x.Part)) trivial rfl hw rfl rfl fd_Pin_0 ty9 ?_
 refine RL.fa_b trivial rfl rfl fa28_0 ?_
 refine RL.load_bfs (i := 0) (f := (fun x => x.Part)) trivial rfl hw rfl rfl fd_Pin_0 ty9 ?_
 obtain ⟨x3, hx3, hb⟩ := bd hb
 refine RL.call trivial rfl fn107 [(str p0.Part), (str p1.Part)] rfl (Calls_ret (strings_Compare_ok N (p0 := p0.Part) (p1 := p1.Part)  hw  hx3) ?_)
 rintro _ w ⟨rfl, hw⟩
 refine as_ (vi x3) rfl rfl ?_
 refine RL.ns ?_
 refine mv (vi x3) rfl rfl ?_
 refine ic x3 0 rfl rfl rfl rfl ?_
 refine RL.nt ?_
 refine RC.cond (b := (x3 != 0)) rfl (fun hc => ?_) (fun hc => ?_)
 ·replace hb := cT hc hb
  refine RC.sr ?_
  refine mv (vi x3) rfl rfl ?_
  refine as_ (vi x3) rfl rfl ?_
  refine RL.nt ?_
  refine RC.rt ?_
  obtain rfl := oi hb
  exact fin1 rfl rfl ⟨rfl, hw.drop 4 rfl⟩
 replace hb := cF hc hb
 refine RC.sx ?_
 refine RL.fa_b trivial rfl rfl fa28_1 ?_
 refine RL.load_bfs (i := 1) (f := (fun x => x.Pin)) trivial rfl hw rfl rfl fd_Pin_1 ty9 ?_
 refine RL.fa_b trivial rfl rfl fa28_1 ?_
 refine RL.load_bfs (i := 0) (f := (fun x => x.Pin)) trivial rfl hw rfl rfl fd_Pin_1 ty9 ?_
 obtain ⟨x4, hx4, hb⟩ := bd hb
 refine RL.call trivial rfl fn107 [(str p0.Pin), (str p1.Pin)] rfl (Calls_ret (strings_Compare_ok N (p0 := p0.Pin) (p1 := p1.Pin)  hw  hx4) ?_)
 rintro _ w ⟨rfl, hw⟩
 refine as_ (vi x4) rfl rfl ?_
 refine RL.nt ?_
 refine RC.ret ?_
 obtain rfl := oi hb
 exact fin1 rfl rfl ⟨rfl, hw.drop 4 rfl⟩
def netlist_checkNetPins_R (E : World) (Γ : List HP) (v2 : Value) (res : Int × (List (Pin × Bool))) (v : Value) (w : World) : Prop := v = (vi res.1) ∧ Holds E w (mp v2 res.2 :: Γ)
def netlist_checkNetPins_K (E : World) (Γ : List HP) (v2 : Value) (r : Int × (List (Pin × Bool))) (σ : Nat → Value) (w : World) : Prop := finQ Tryd.prog 53 Tryd.f43 (netlist_checkNetPins_R E Γ v2 r) .ret σ w
theorem netlist_checkNetPins_ok (N : Nat) {E w : World} {Γ : List HP} {i0 : Nat} {v0 : Value} {p0 : (List Pin)} {v1 : Value} {p1 : Pin → Option Bool} {v2 : Value} {p2 : (List (Pin × Bool))} {res : Int × (List (Pin × Bool))} (hw : Holds E w (mp v2 p2 :: Γ)) (h0 : Γ[i0]? = some (rd v0 p0)) (h1 : Fn1 Tryd.prog E Γ v1 p1 (fun (r : Bool) => Value.bool r)) (hb : netlist_checkNetPins N p0 p1 p2 = some res) :
    Calls Tryd.prog 43 [v0, v1, v2].toArray w (Ret (netlist_checkNetPins_R E Γ v2 res)) := by
 unfold netlist_checkNetPins at hb
 refine enter Tryd.func43 rfl rfl (Nat.le_of_ble_eq_true rfl) ?_
 have hw := hw.dup (i := i0 + 1) h0
 refine RC.sr ?_
 refine as_ (vi 0) rfl rfl ?_
 refine RL.nq ?_
 refine RC.sr ?_
 refine mv v0 rfl rfl ?_
 refine RL.len_rd (i := 0) (l := p0) trivial rfl hw rfl rfl un33 ?_
 refine ic ((p0.length : Int)) 500 rfl rfl rfl rfl ?_
 refine RL.nt ?_
 refine RC.cond (b := (decide ((p0.length : Int) > 500))) rfl (fun hc => ?_) (fun hc => ?_)
 ·replace hb := cT hc hb
  refine RC.sr ?_
  refine as_ (vi 2) rfl rfl ?_
  refine RL.nt ?_
  refine RC.rt ?_
  obtain rfl := oi hb
  exact fin1 rfl rfl ⟨rfl, hw.pick 2 [1] (new := [mp v2 p2]) rfl rfl (by decide) (by decide)⟩
 replace hb := cF hc hb
 refine RC.ss ?_
 refine RC.sr ?_
 refine mv v0 rfl rfl ?_
 refine RL.len_rd (i := 0) (l := p0) trivial rfl hw rfl rfl un33 ?_
 refine mv (vi 0) rfl rfl ?_
 refine RL.nt ?_
 obtain ⟨o117, hN, hb⟩ := bd hb
 refine RC.range (fun (k1 : Nat) (s2 : Unit) (σ : Nat → Value) (w : World) => agree σ [(0, v0), (1, v1), (2, v2), (14, v0), (15, (vi (p0.length : Int))), (16, (vi (k1 : Int)))] ∧ Holds E w ([rd v0 p0, mp v2 p2] ++ Γ)) (fun (s2 : Unit) (σ : Nat → Value) (w : World) => agree σ [(0, v0), (2, v2)] ∧ Holds E w ([rd v0 p0, mp v2 p2] ++ Γ)) (netlist_checkNetPins_K E Γ v2) hN ?_ ?_ ?_ ?_ ?_ 
 ·exact ⟨⟨rfl, rfl, rfl, rfl, rfl, rfl, trivial⟩, hw.pick 2 [0, 1] (new := [rd v0 p0, mp v2 p2]) rfl rfl (by decide) (by decide)⟩
 ·intro hm s2 σ w hI
  obtain ⟨ha, hw⟩ := hI
  obtain ⟨τ, rfl⟩ := ha.ups
  refine RC.sr ?_
  refine ic ((p0.length : Int)) ((p0.length : Int)) rfl rfl rfl rfl ?_
  refine RL.nq ?_
  refine RC.cond_f dge ?_
  refine RC.ex ?_
  exact ⟨rfl, ⟨rfl, rfl, trivial⟩, hw.pick 2 [0, 1] (new := [rd v0 p0, mp v2 p2]) rfl rfl (by decide) (by decide)⟩
 ·intro hm k1 s2 fl σ w hk hI hb
  obtain ⟨ha, hw⟩ := hI
  obtain ⟨τ, rfl⟩ := ha.ups
  refine RC.sr ?_
  refine ic ((k1 : Int)) ((p0.length : Int)) rfl rfl rfl rfl ?_
  refine RL.nq ?_
  refine RC.cond_t (dlt hk) ?_
  refine RC.ss ?_
  refine RC.bs ?_
  refine mv (vi (k1 : Int)) rfl rfl ?_
  obtain ⟨x51, hx51, hb⟩ := bd hb
  refine RL.ia_rd (i := 0) trivial rfl hw rfl rfl rfl sl33 hx51 fun v52 hw => ?_
  refine RL.load_pt (i := 0) (x := x51) trivial rfl hw rfl rfl ty28 fun v53 hw => ?_
  refine RL.alloc trivial rfl hw ze28.z fun b54 w hw => ?_
  refine as_ (vi (k1 : Int)) rfl rfl ?_
  refine RL.store_raw (i := 0) (j := 1) trivial hw rfl rfl rfl rfl ty28 rfl fun w hw => ?_
  refine RL.nt ?_
  refine RC.bs ?_
  refine mv v1 rfl rfl ?_
  refine RL.load_bf (i := 0) (f := (fun x => x)) trivial rfl hw rfl rfl Fd.self ty28 fun v55 hw => ?_
  obtain ⟨x56, hx56, hb⟩ := bd hb
  refine RL.callF1 (i := 0) trivial rfl hw rfl h1 6 rfl rfl rfl hx56 fun w hw => ?_
  refine RL.not (b := x56) trivial rfl rfl ?_
  refine as_ (vb (!x56)) rfl rfl ?_
  refine RL.nt ?_
  refine RC.cond (b := (!x56)) rfl (fun hc => ?_) (fun hc => ?_)
  ·replace hb := cT hc hb
   refine RC.sr ?_
   refine as_ (vi 9) rfl rfl ?_
   refine RL.nt ?_
   refine RC.rb ?_
   refine blkQ_r ?_
   refine thenQ_r ?_
   obtain rfl := oi hb
   exact ⟨rfl, fin1 rfl rfl ⟨rfl, hw.pick 6 [5] (new := [mp v2 p2]) rfl rfl (by decide) (by decide)⟩⟩
  replace hb := cF hc hb
  refine RC.seq ?_
  obtain ⟨s87, hj, hb⟩ := bd hb
  refine RC.jn (fun (s87 : Bool) (σ : Nat → Value) (w : World) => agree σ [(0, v0), (1, v1), (2, v2), (8, (vp b54 0)), (14, v0), (15, (vi (p0.length : Int))), (16, (vi (k1 : Int))), (26, (vb s87))] ∧ Holds E w ([rd v0 p0, mp v2 p2, bx 28 b54 x51] ++ Γ)) s87 ?_ ?_
  ·rcases Bool.eq_false_or_eq_true (decide ((k1 : Int) > 0)) with hg88 | hg88
   rotate_left
   ·replace hj := cF hg88 hj
    refine RC.drw mixed rfl (fun (D : Nat → Bool) (σ : Nat → Value) (w : World) => doneV D σ [(0, 27, (vi (k1 : Int))), (1, 28, (vb (decide ((k1 : Int) > 0)))), (2, 29, (vb (decide ((k1 : Int) > 0)))), (3, 30, undef), (4, 31, undef), (5, 32, undef), (6, 33, undef), (7, 34, undef), (8, 35, undef), (9, 36, undef), (10, 37, undef), (11, 38, (vb false)), (12, 26, (vb false))] ∧ agree σ [(0, v0), (1, v1), (2, v2), (7, (vi (k1 : Int))), (8, (vp b54 0)), (14, v0), (15, (vi (p0.length : Int))), (16, (vi (k1 : Int)))] ∧ Holds E w ([rd v55 x51, bx 28 b54 x51, rd v53 x51, pt v52 x51, rd v0 p0, mp v2 p2] ++ Γ)) ?_ ⟨?_, ?_, ?_, ?_, ?_, ?_, ?_, ?_, ?_, ?_, ?_, ?_, ?_, trivial⟩ ?_
    ·have hw := hw.drew
     exact ⟨doneV.none, ⟨rfl, rfl, rfl, rfl, rfl, rfl, rfl, rfl, trivial⟩, hw⟩
    ·rintro D σ w hD hdep hcl ⟨hv, ha, hw⟩
     obtain ⟨τ, rfl⟩ := (ac (ha.at 3 rfl) az).ups
     refine mv (vi (k1 : Int)) rfl rfl ?_
     refine RL.nil ?_
     exact ⟨rfl, hv.put 0 rfl rfl, ha.up rfl, hw⟩
    ·rintro D σ w hD hdep hcl ⟨hv, ha, hw⟩
     obtain ⟨τ, rfl⟩ := (ac (hv.at 0 rfl (hdep.1 rfl)) az).ups
     refine ic ((k1 : Int)) 0 rfl rfl rfl rfl ?_
     refine RL.nil ?_
     exact ⟨rfl, hv.put 1 rfl rfl, ha.up rfl, hw⟩
    ·rintro D σ w hD hdep hcl ⟨hv, ha, hw⟩
     obtain ⟨τ, rfl⟩ := (ac (hv.at 1 rfl (hdep.1 rfl)) az).ups
     refine mv (vb (decide ((k1 : Int) > 0))) rfl rfl ?_
     refine RL.nil ?_
     exact ⟨rfl, hv.put 2 rfl rfl, ha.up rfl, hw⟩
    ·rintro D σ w hD hdep hcl ⟨hv, ha, hw⟩
     obtain ⟨τ, rfl⟩ := (ac (hv.at 2 rfl (hdep.1 rfl)) (ac (ha.at 4 rfl) az)).ups
     refine sk rfl (.inl (cb hg88)) rfl ?_
     refine RL.nil ?_
     exact ⟨rfl, hv.put 3 rfl rfl, ha.up rfl, hw⟩
    ·rintro D σ w hD hdep hcl ⟨hv, ha, hw⟩
     obtain ⟨τ, rfl⟩ := (ac (hv.at 2 rfl (hdep.1 rfl)) (ac (ha.at 0 rfl) az)).ups
     refine sk rfl (.inl (cb hg88)) rfl ?_
     refine RL.nil ?_
     exact ⟨rfl, hv.put 4 rfl rfl, ha.up rfl, hw⟩
    ·rintro D σ w hD hdep hcl ⟨hv, ha, hw⟩
     obtain ⟨τ, rfl⟩ := (ac (hv.at 2 rfl (hdep.1 rfl)) (ac (ha.at 3 rfl) az)).ups
     refine sk rfl (.inl (cb hg88)) rfl ?_
     refine RL.nil ?_
     exact ⟨rfl, hv.put 5 rfl rfl, ha.up rfl, hw⟩
    ·rintro D σ w hD hdep hcl ⟨hv, ha, hw⟩
     obtain ⟨τ, rfl⟩ := (ac (hv.at 2 rfl (hdep.2.1 rfl)) (ac (hv.at 5 rfl (hdep.1 rfl)) az)).ups
     refine sk rfl (.inl (cb hg88)) rfl ?_
     refine RL.nil ?_
     exact ⟨rfl, hv.put 6 rfl rfl, ha.up rfl, hw⟩
    ·rintro D σ w hD hdep hcl ⟨hv, ha, hw⟩
     obtain ⟨τ, rfl⟩ := (ac (hv.at 2 rfl (hdep.2.2.1 rfl)) (ac (hv.at 4 rfl (hdep.1 rfl)) (ac (hv.at 6 rfl (hdep.2.1 rfl)) az))).ups
     refine sk rfl (.inl (cb hg88)) rfl ?_
     refine RL.nil ?_
     exact ⟨rfl, hv.put 7 rfl rfl, ha.up rfl, hw⟩
    ·rintro D σ w hD hdep hcl ⟨hv, ha, hw⟩
     obtain ⟨τ, rfl⟩ := (ac (hv.at 2 rfl (hdep.2.1 rfl)) (ac (hv.at 7 rfl (hdep.1 rfl)) az)).ups
     refine sk rfl (.inl (cb hg88)) rfl ?_
     refine RL.nil ?_
     exact ⟨rfl, hv.put 8 rfl rfl, ha.up rfl, hw⟩
    ·rintro D σ w hD hdep hcl ⟨hv, ha, hw⟩
     obtain ⟨τ, rfl⟩ := (ac (hv.at 2 rfl (hdep.2.2.1 rfl)) (ac (hv.at 3 rfl (hdep.1 rfl)) (ac (hv.at 8 rfl (hdep.2.1 rfl)) az))).ups
     refine sk rfl (.inl (cb hg88)) rfl ?_
     refine RL.nil ?_
     exact ⟨rfl, hv.put 9 rfl rfl, ha.up rfl, hw⟩
    ·rintro D σ w hD hdep hcl ⟨hv, ha, hw⟩
     obtain ⟨τ, rfl⟩ := (ac (hv.at 2 rfl (hdep.2.1 rfl)) (ac (hv.at 9 rfl (hdep.1 rfl)) az)).ups
     refine sk rfl (.inl (cb hg88)) rfl ?_
     refine RL.nil ?_
     exact ⟨rfl, hv.put 10 rfl rfl, ha.up rfl, hw⟩
    ·rintro D σ w hD hdep hcl ⟨hv, ha, hw⟩
     obtain ⟨τ, rfl⟩ := (ac (hv.at 2 rfl (hdep.1 rfl)) (ac (hv.at 10 rfl (hdep.2.1 rfl)) az)).ups
     refine RL.pick (b := (decide ((k1 : Int) > 0))) (v := (vb false)) trivial rfl rfl (by rw [hg88]; rfl) ?_
     refine RL.nil ?_
     exact ⟨rfl, hv.put 11 rfl rfl, ha.up rfl, hw⟩
    ·rintro D σ w hD hdep hcl ⟨hv, ha, hw⟩
     obtain ⟨τ, rfl⟩ := (ac (hv.at 11 rfl (hdep.1 rfl)) az).ups
     refine as_ (vb false) rfl rfl ?_
     refine RL.nil ?_
     exact ⟨rfl, hv.put 12 rfl rfl, ha.up rfl, hw⟩
    rintro D σ w hall ⟨hv, ha, hw⟩
    obtain ⟨τ, rfl⟩ := (ac (hv.at 12 rfl (hall 12 (by decide))) (ac (ha.at 0 rfl) (ac (ha.at 1 rfl) (ac (ha.at 2 rfl) (ac (ha.at 3 rfl) (ac (ha.at 4 rfl) (ac (ha.at 5 rfl) (ac (ha.at 6 rfl) (ac (ha.at 7 rfl) az))))))))).ups
    obtain rfl := oi hj
    exact ⟨rfl, ⟨rfl, rfl, rfl, rfl, rfl, rfl, rfl, rfl, trivial⟩, hw.pick 6 [4, 5, 1] (new := [rd v0 p0, mp v2 p2, bx 28 b54 x51]) rfl rfl (by decide) (by decide)⟩
   replace hj := cT hg88 hj
   obtain ⟨x90, hx90, hj⟩ := bd hj
   obtain ⟨x93, hx93, hj⟩ := bd hj
   refine RC.drw mixed rfl (fun (D : Nat → Bool) (σ : Nat → Value) (w : World) => ∃ (v89 : Value) (v91 : Value) (v92 : Value), doneV D σ [(0, 27, (vi (k1 : Int))), (1, 28, (vb (decide ((k1 : Int) > 0)))), (2, 29, (vb (decide ((k1 : Int) > 0)))), (3, 30, v89), (4, 31, v0), (5, 32, (vi (k1 : Int))), (6, 33, (vi (IntKind.wrap .i64 ((k1 : Int) - 1)))), (7, 34, v91), (8, 35, v92), (9, 36, (vi x93)), (10, 37, (vb (decide (x93 ≤ 0)))), (11, 38, (vb (decide (x93 ≤ 0)))), (12, 26, (vb (decide (x93 ≤ 0))))] ∧ agree σ [(0, v0), (1, v1), (2, v2), (7, (vi (k1 : Int))), (8, (vp b54 0)), (14, v0), (15, (vi (p0.length : Int))), (16, (vi (k1 : Int)))] ∧ Holds E w ([bif D 3 then (rd v89 x51) else junk, bif D 7 then (pt v91 x90) else junk, bif D 8 then (rd v92 x90) else junk, rd v55 x51, bx 28 b54 x51, rd v53 x51, pt v52 x51, rd v0 p0, mp v2 p2] ++ Γ)) ?_ ⟨?_, ?_, ?_, ?_, ?_, ?_, ?_, ?_, ?_, ?_, ?_, ?_, ?_, trivial⟩ ?_
   ·have hw := hw.drew
    have hw := hw.junk
    have hw := hw.junk
    have hw := hw.junk
    exact ⟨undef, undef, undef, doneV.none, ⟨rfl, rfl, rfl, rfl, rfl, rfl, rfl, rfl, trivial⟩, hw⟩
   ·rintro D σ w hD hdep hcl ⟨v89, v91, v92, hv, ha, hw⟩
    obtain ⟨τ, rfl⟩ := (ac (ha.at 3 rfl) az).ups
    refine mv (vi (k1 : Int)) rfl rfl ?_
    refine RL.nil ?_
    exact ⟨rfl, v89, v91, v92, hv.put 0 rfl rfl, ha.up rfl, hw⟩
   ·rintro D σ w hD hdep hcl ⟨v89, v91, v92, hv, ha, hw⟩
    obtain ⟨τ, rfl⟩ := (ac (hv.at 0 rfl (hdep.1 rfl)) az).ups
    refine ic ((k1 : Int)) 0 rfl rfl rfl rfl ?_
    refine RL.nil ?_
    exact ⟨rfl, v89, v91, v92, hv.put 1 rfl rfl, ha.up rfl, hw⟩
   ·rintro D σ w hD hdep hcl ⟨v89, v91, v92, hv, ha, hw⟩
    obtain ⟨τ, rfl⟩ := (ac (hv.at 1 rfl (hdep.1 rfl)) az).ups
    refine mv (vb (decide ((k1 : Int) > 0))) rfl rfl ?_
    refine RL.nil ?_
    exact ⟨rfl, v89, v91, v92, hv.put 2 rfl rfl, ha.up rfl, hw⟩
   ·rintro D σ w hD hdep hcl ⟨v89, v91, v92, hv, ha, hw⟩
    obtain ⟨τ, rfl⟩ := (ac (hv.at 2 rfl (hdep.1 rfl)) (ac (ha.at 4 rfl) az)).ups
    have hw := hw.selF (i := 0) rfl hD
    refine RL.load_bf (i := 4) (f := (fun x => x)) ⟨_, rfl, cb hg88⟩ rfl hw rfl rfl Fd.self ty28 fun v94 hw => ?_
    have hw := hw.pick 10 [0, 2, 3, 4, 5, 6, 7, 8, 9] (new := [rd v94 x51, bif D 7 then (pt v91 x90) else junk, bif D 8 then (rd v92 x90) else junk, rd v55 x51, bx 28 b54 x51, rd v53 x51, pt v52 x51, rd v0 p0, mp v2 p2]) rfl rfl (by decide) (by decide)
    have hw := hw.altT (i := 0) (b := true) rfl rfl (junk)
    refine RL.nil ?_
    exact ⟨rfl, v94, v91, v92, hv.put 3 rfl rfl, ha.up rfl, hw⟩
   ·rintro D σ w hD hdep hcl ⟨v89, v91, v92, hv, ha, hw⟩
    obtain ⟨τ, rfl⟩ := (ac (hv.at 2 rfl (hdep.1 rfl)) (ac (ha.at 0 rfl) az)).ups
    refine RL.move (v := v0) ⟨_, rfl, cb hg88⟩ rfl rfl ?_
    refine RL.nil ?_
    exact ⟨rfl, v89, v91, v92, hv.put 4 rfl rfl, ha.up rfl, hw⟩
   ·rintro D σ w hD hdep hcl ⟨v89, v91, v92, hv, ha, hw⟩
    obtain ⟨τ, rfl⟩ := (ac (hv.at 2 rfl (hdep.1 rfl)) (ac (ha.at 3 rfl) az)).ups
    refine RL.move (v := (vi (k1 : Int))) ⟨_, rfl, cb hg88⟩ rfl rfl ?_
    refine RL.nil ?_
    exact ⟨rfl, v89, v91, v92, hv.put 5 rfl rfl, ha.up rfl, hw⟩
   ·rintro D σ w hD hdep hcl ⟨v89, v91, v92, hv, ha, hw⟩
    obtain ⟨τ, rfl⟩ := (ac (hv.at 2 rfl (hdep.2.1 rfl)) (ac (hv.at 5 rfl (hdep.1 rfl)) az)).ups
    refine RL.iar (a := (k1 : Int)) (b := 1) ⟨_, rfl, cb hg88⟩ rfl rfl rfl rfl ?_
    refine RL.nil ?_
    exact ⟨rfl, v89, v91, v92, hv.put 6 rfl rfl, ha.up rfl, hw⟩
   ·rintro D σ w hD hdep hcl ⟨v89, v91, v92, hv, ha, hw⟩
    obtain ⟨τ, rfl⟩ := (ac (hv.at 2 rfl (hdep.2.2.1 rfl)) (ac (hv.at 4 rfl (hdep.1 rfl)) (ac (hv.at 6 rfl (hdep.2.1 rfl)) az))).ups
    have hw := hw.selF (i := 1) rfl hD
    refine RL.ia_rd (i := 7) ⟨_, rfl, cb hg88⟩ rfl hw rfl rfl rfl sl33 hx90 fun v95 hw => ?_
    have hw := hw.pick 10 [1, 0, 3, 4, 5, 6, 7, 8, 9] (new := [bif D 3 then (rd v89 x51) else junk, pt v95 x90, bif D 8 then (rd v92 x90) else junk, rd v55 x51, bx 28 b54 x51, rd v53 x51, pt v52 x51, rd v0 p0, mp v2 p2]) rfl rfl (by decide) (by decide)
    have hw := hw.altT (i := 1) (b := true) rfl rfl (junk)
    refine RL.nil ?_
    exact ⟨rfl, v89, v95, v92, hv.put 7 rfl rfl, ha.up rfl, hw⟩
   ·rintro D σ w hD hdep hcl ⟨v89, v91, v92, hv, ha, hw⟩
    obtain ⟨τ, rfl⟩ := (ac (hv.at 2 rfl (hdep.2.1 rfl)) (ac (hv.at 7 rfl (hdep.1 rfl)) az)).ups
    have hw := hw.selT (i := 1) rfl (hdep.1 rfl)
    have hw := hw.selF (i := 2) rfl hD
    refine RL.load_pt (i := 1) (x := x90) ⟨_, rfl, cb hg88⟩ rfl hw rfl rfl ty28 fun v96 hw => ?_
    have hw := hw.pick 10 [1, 2, 0, 4, 5, 6, 7, 8, 9] (new := [bif D 3 then (rd v89 x51) else junk, pt v91 x90, rd v96 x90, rd v55 x51, bx 28 b54 x51, rd v53 x51, pt v52 x51, rd v0 p0, mp v2 p2]) rfl rfl (by decide) (by decide)
    have hw := hw.altT (i := 1) (b := D 7) rfl (hdep.1 rfl) (junk)
    have hw := hw.altT (i := 2) (b := true) rfl rfl (junk)
    refine RL.nil ?_
    exact ⟨rfl, v89, v91, v96, hv.put 8 rfl rfl, ha.up rfl, hw⟩
   ·rintro D σ w hD hdep hcl ⟨v89, v91, v92, hv, ha, hw⟩
    obtain ⟨τ, rfl⟩ := (ac (hv.at 2 rfl (hdep.2.2.1 rfl)) (ac (hv.at 3 rfl (hdep.1 rfl)) (ac (hv.at 8 rfl (hdep.2.1 rfl)) az))).ups
    have hw := hw.selT (i := 0) rfl (hdep.1 rfl)
    have hw := hw.selT (i := 2) rfl (hdep.2.1 rfl)
    refine RL.call ⟨_, rfl, cb hg88⟩ rfl fn100 [v89, v92] rfl (Calls_ret (netlist_ComparePins_ok N  (i0 := 0) (i1 := 2) hw rfl rfl hx93) ?_)
    rintro _ w ⟨rfl, hw⟩
    have hw := hw.altT (i := 0) (b := D 3) rfl (hdep.1 rfl) (junk)
    have hw := hw.altT (i := 2) (b := D 8) rfl (hdep.2.1 rfl) (junk)
    refine RL.nil ?_
    exact ⟨rfl, v89, v91, v92, hv.put 9 rfl rfl, ha.up rfl, hw⟩
   ·rintro D σ w hD hdep hcl ⟨v89, v91, v92, hv, ha, hw⟩
    obtain ⟨τ, rfl⟩ := (ac (hv.at 2 rfl (hdep.2.1 rfl)) (ac (hv.at 9 rfl (hdep.1 rfl)) az)).ups
    refine RL.icmp (a := x93) (b := 0) ⟨_, rfl, cb hg88⟩ rfl rfl rfl rfl ?_
    refine RL.nil ?_
    exact ⟨rfl, v89, v91, v92, hv.put 10 rfl rfl, ha.up rfl, hw⟩
   ·rintro D σ w hD hdep hcl ⟨v89, v91, v92, hv, ha, hw⟩
    obtain ⟨τ, rfl⟩ := (ac (hv.at 2 rfl (hdep.1 rfl)) (ac (hv.at 10 rfl (hdep.2.1 rfl)) az)).ups
    refine RL.pick (b := (decide ((k1 : Int) > 0))) (v := (vb (decide (x93 ≤ 0)))) trivial rfl rfl (by rw [hg88]; rfl) ?_
    refine RL.nil ?_
    exact ⟨rfl, v89, v91, v92, hv.put 11 rfl rfl, ha.up rfl, hw⟩
   ·rintro D σ w hD hdep hcl ⟨v89, v91, v92, hv, ha, hw⟩
    obtain ⟨τ, rfl⟩ := (ac (hv.at 11 rfl (hdep.1 rfl)) az).ups
    refine as_ (vb (decide (x93 ≤ 0))) rfl rfl ?_
    refine RL.nil ?_
    exact ⟨rfl, v89, v91, v92, hv.put 12 rfl rfl, ha.up rfl, hw⟩
   rintro D σ w hall ⟨v89, v91, v92, hv, ha, hw⟩
   rw [hall 3 (by decide), hall 7 (by decide), hall 8 (by decide)] at hw
   obtain ⟨τ, rfl⟩ := (ac (hv.at 12 rfl (hall 12 (by decide))) (ac (ha.at 0 rfl) (ac (ha.at 1 rfl) (ac (ha.at 2 rfl) (ac (ha.at 3 rfl) (ac (ha.at 4 rfl) (ac (ha.at 5 rfl) (ac (ha.at 6 rfl) (ac (ha.at 7 rfl) az))))))))).ups
   obtain rfl := oi hj
   exact ⟨rfl, ⟨rfl, rfl, rfl, rfl, rfl, rfl, rfl, rfl, trivial⟩, hw.pick 9 [7, 8, 4] (new := [rd v0 p0, mp v2 p2, bx 28 b54 x51]) rfl rfl (by decide) (by decide)⟩
  rintro σ w ⟨ha, hw⟩
  obtain ⟨τ, rfl⟩ := ha.ups
  refine thenQ_n ?_
  refine RC.cond (b := s87) rfl (fun hc => ?_) (fun hc => ?_)
  ·replace hb := cT hc hb
   refine RC.sr ?_
   refine as_ (vi 8) rfl rfl ?_
   refine RL.nt ?_
   refine RC.rb ?_
   refine blkQ_r ?_
   refine thenQ_r ?_
   obtain rfl := oi hb
   exact ⟨rfl, fin1 rfl rfl ⟨rfl, hw.pick 3 [1] (new := [mp v2 p2]) rfl rfl (by decide) (by decide)⟩⟩
  replace hb := cF hc hb
  refine RC.sr ?_
  refine mv v2 rfl rfl ?_
  refine RL.load_bf (i := 2) (f := (fun x => x)) trivial rfl hw rfl rfl Fd.self ty28 fun v98 hw => ?_
  refine RL.lookup1s (i := 2) (k := x51) trivial rfl hw rfl (key_rd hw (j := 0) rfl) rfl mt77 ?_
  refine as_ (vb (mget p2 x51 (false : Bool))) rfl rfl ?_
  refine RL.nt ?_
  refine RC.cond (b := (mget p2 x51 (false : Bool))) rfl (fun hc => ?_) (fun hc => ?_)
  rotate_left
  ·replace hb := cF hc hb
   refine RC.skip ?_
   refine blkQ_n ?_
   refine blkQ_n ?_
   refine thenQ_n ?_
   refine RC.region ?_
   refine RL.inc trivial rfl hk hm rfl rfl ?_
   refine mv (vi ((k1 + 1 : Nat) : Int)) rfl rfl ?_
   refine RL.nil ?_
   obtain rfl := oi hb
   exact ⟨rfl, ⟨rfl, rfl, rfl, rfl, rfl, rfl, trivial⟩, hw.pick 4 [1, 2] (new := [rd v0 p0, mp v2 p2]) rfl rfl (by decide) (by decide)⟩
  replace hb := cT hc hb
  refine RC.sr ?_
  refine as_ (vi 7) rfl rfl ?_
  refine RL.nt ?_
  refine RC.rb ?_
  refine blkQ_r ?_
  refine thenQ_r ?_
  obtain rfl := oi hb
  exact ⟨rfl, fin1 rfl rfl ⟨rfl, hw.pick 4 [2] (new := [mp v2 p2]) rfl rfl (by decide) (by decide)⟩⟩
 ·intro r σ w e hK
  subst e
  refine thenQ_r ?_
  obtain rfl := oi hb
  exact hK
 intro s2 σ w e hJ
 subst e
 rw [Fo.cs_go] at hb
 obtain ⟨ha, hw⟩ := hJ
 obtain ⟨τ, rfl⟩ := ha.ups
 refine thenQ_n ?_
 refine RC.seq ?_
 refine RC.sr ?_
 refine mv v0 rfl rfl ?_
 refine RL.len_rd (i := 0) (l := p0) trivial rfl hw rfl rfl un33 ?_
 refine mv (vi 0) rfl rfl ?_
 refine RL.nt ?_
 obtain ⟨s100, hN, hb⟩ := bd hb
 refine RC.fold (fun (k99 : Nat) (s100 : (List (Pin × Bool))) (σ : Nat → Value) (w : World) => agree σ [(2, v2), (44, v0), (45, (vi (p0.length : Int))), (46, (vi (k99 : Int)))] ∧ Holds E w ([mp v2 s100, rd v0 p0] ++ Γ)) (fun (s100 : (List (Pin × Bool))) (σ : Nat → Value) (w : World) => agree σ [(2, v2)] ∧ Holds E w ([mp v2 s100, rd v0 p0] ++ Γ)) hN ?_ ?_ ?_ ?_
 ·exact ⟨⟨rfl, rfl, rfl, rfl, trivial⟩, hw.pick 2 [1, 0] (new := [mp v2 p2, rd v0 p0]) rfl rfl (by decide) (by decide)⟩
 ·intro hm s100 σ w hI
  obtain ⟨ha, hw⟩ := hI
  obtain ⟨τ, rfl⟩ := ha.ups
  refine RC.sr ?_
  refine ic ((p0.length : Int)) ((p0.length : Int)) rfl rfl rfl rfl ?_
  refine RL.nq ?_
  refine RC.cond_f dge ?_
  refine RC.ex ?_
  exact ⟨rfl, ⟨rfl, trivial⟩, hw.pick 2 [0, 1] (new := [mp v2 s100, rd v0 p0]) rfl rfl (by decide) (by decide)⟩
 ·intro hm k99 s100 s' σ w hk hI hb
  obtain ⟨ha, hw⟩ := hI
  obtain ⟨τ, rfl⟩ := ha.ups
  refine RC.sr ?_
  refine ic ((k99 : Int)) ((p0.length : Int)) rfl rfl rfl rfl ?_
  refine RL.nq ?_
  refine RC.cond_t (dlt hk) ?_
  refine RC.ss ?_
  refine RC.bs ?_
  obtain ⟨x111, hx111, hb⟩ := bd hb
  refine RL.ia_rd (i := 1) trivial rfl hw rfl rfl rfl sl33 hx111 fun v112 hw => ?_
  refine RL.load_pt (i := 0) (x := x111) trivial rfl hw rfl rfl ty28 fun v113 hw => ?_
  refine RL.alloc trivial rfl hw ze28.z fun b114 w hw => ?_
  refine RL.store_raw (i := 0) (j := 1) trivial hw rfl rfl rfl rfl ty28 rfl fun w hw => ?_
  refine RL.nt ?_
  refine RC.region ?_
  refine mv v2 rfl rfl ?_
  refine RL.load_bf (i := 0) (f := (fun x => x)) trivial rfl hw rfl rfl Fd.self ty28 fun v115 hw => ?_
  have hw := hw.sc (γ := Bool) true
  refine RL.mapUpdate (i := 5) (j := 0) (k := x111) trivial hw rfl (key_rd hw (j := 1) rfl) rfl rfl rfl mt77 fun w hw => ?_
  refine RL.nil ?_
  refine blkQ_n ?_
  refine thenQ_n ?_
  refine RC.region ?_
  refine RL.inc trivial rfl hk hm rfl rfl ?_
  refine mv (vi ((k99 + 1 : Nat) : Int)) rfl rfl ?_
  refine RL.nil ?_
  obtain rfl := oi hb
  exact ⟨rfl, ⟨rfl, rfl, rfl, rfl, trivial⟩, hw.pick 7 [5, 6] (new := [mp v2 (mput s100 x111 true), rd v0 p0]) rfl rfl (by decide) (by decide)⟩
 intro σ w hJ
 obtain ⟨ha, hw⟩ := hJ
 obtain ⟨τ, rfl⟩ := ha.ups
 refine thenQ_n ?_
 refine RC.sr ?_
 refine as_ (vi 0) rfl rfl ?_
 refine RL.nt ?_
 refine RC.ret ?_
 obtain rfl := oi hb
 exact fin1 rfl rfl ⟨rfl, hw.pick 2 [0] (new := [mp v2 s100]) rfl rfl (by decide) (by decide)⟩
def netlist_CheckList_R (E : World) (Γ : List HP) (res : Int) (v : Value) (w : World) : Prop := v = (vi res) ∧ Holds E w Γ
def netlist_CheckList_K (E : World) (Γ : List HP) (r : Int) (σ : Nat → Value) (w : World) : Prop := finQ Tryd.prog 71 Tryd.f13 (netlist_CheckList_R E Γ r) .ret σ w
theorem netlist_CheckList_ok (N : Nat) {E w : World} {Γ : List HP} {i0 : Nat} {v0 : Value} {p0 : (List PartType)} {i1 : Nat} {v1 : Value} {p1 : Netlist} {res : Int} (hw : Holds E w Γ) (h0 : Γ[i0]? = some (rd v0 p0)) (h1 : Γ[i1]? = some (rd v1 p1)) (hb : netlist_CheckList N p0 p1 = some res) :
    Calls Tryd.prog 13 [v0, v1].toArray w (Ret (netlist_CheckList_R E Γ res)) := by
 unfold netlist_CheckList at hb
 refine enter Tryd.func13 rfl rfl (Nat.le_of_ble_eq_true rfl) ?_
 have hw := hw.dup (i := i0 + 0) h0
 have hw := hw.dup (i := i1 + 1) h1
 refine RC.sr ?_
 refine RL.box_rd (i := 1) (v := v0) trivial rfl hw rfl rfl fun b1 w hw => ?_
 have hw := hw.freeze_bx (i := 0) rfl
 refine RL.box_rd (i := 1) (v := v1) trivial rfl hw rfl rfl fun b2 w hw => ?_
 have hw := hw.freeze_bx (i := 0) rfl
 refine as_ (vi 0) rfl rfl ?_
 refine RL.nq ?_
 refine RC.sr ?_
 refine RL.load_pt (i := 1) (x := p0) trivial rfl hw rfl rfl ty22 fun v3 hw => ?_
 obtain ⟨x4, hx4, hb⟩ := bd hb
 refine RL.call trivial rfl fn40 [v3] rfl (Calls_ret (netlist_CheckTypes_ok N  (i0 := 0) hw rfl hx4) ?_)
 rintro _ w ⟨rfl, hw⟩
 refine as_ (vi x4) rfl rfl ?_
 refine RL.ns ?_
 refine mv (vi x4) rfl rfl ?_
 refine ic x4 0 rfl rfl rfl rfl ?_
 refine RL.nt ?_
 refine RC.cond (b := (x4 != 0)) rfl (fun hc => ?_) (fun hc => ?_)
 ·replace hb := cT hc hb
  refine RC.sr ?_
  refine mv (vi x4) rfl rfl ?_
  refine as_ (vi x4) rfl rfl ?_
  refine RL.nt ?_
  refine RC.rt ?_
  obtain rfl := oi hb
  exact fin1 rfl rfl ⟨rfl, hw.drop 5 rfl⟩
 replace hb := cF hc hb
 refine RC.ss ?_
 refine RC.sr ?_
 refine RL.load_pt (i := 2) (x := p0) trivial rfl hw rfl rfl ty22 fun v5 hw => ?_
 refine RL.fa_pt (i := 2) (f := fun (x : Netlist) => x.Parts) trivial rfl hw rfl rfl fa26_0 fd_Netlist_0 fun v6 hw => ?_
 refine RL.load_pt (i := 0) (x := p1.Parts) trivial rfl hw rfl rfl ty23 fun v7 hw => ?_
 obtain ⟨x8, hx8, hb⟩ := bd hb
 refine RL.call trivial rfl fn41 [v5, v7, (.func (.func 42) #[] #[])] rfl (Calls_ret (netlist_checkParts_ok N  (i0 := 2) (i1 := 0) hw rfl rfl ⟨42, [], rfl, fn42, fun w Γl v y0 r i hw hi hr => by obtain rfl := hw.ofSc (γ := Str) hi; exact Calls_ret (netlist_IsPath_ok N (p0 := y0) hw hr) fun _ _ h => h⟩ hx8) ?_)
 rintro _ w ⟨rfl, hw⟩
 refine as_ (vi x8) rfl rfl ?_
 refine RL.ns ?_
 refine mv (vi x8) rfl rfl ?_
 refine ic x8 0 rfl rfl rfl rfl ?_
 refine RL.nt ?_
 refine RC.cond (b := (x8 != 0)) rfl (fun hc => ?_) (fun hc => ?_)
 ·replace hb := cT hc hb
  refine RC.sr ?_
  refine mv (vi x8) rfl rfl ?_
  refine as_ (vi x8) rfl rfl ?_
  refine RL.nt ?_
  refine RC.rt ?_
  obtain rfl := oi hb
  exact fin1 rfl rfl ⟨rfl, hw.drop 8 rfl⟩
 replace hb := cF hc hb
 refine RC.ss ?_
 refine RC.sr ?_
 refine RL.fa_pt (i := 4) (f := fun (x : Netlist) => x.Nets) trivial rfl hw rfl rfl fa26_1 fd_Netlist_1 fun v9 hw => ?_
 refine RL.load_pt (i := 0) (x := p1.Nets) trivial rfl hw rfl rfl ty24 fun v10 hw => ?_
 refine RL.len_rd (i := 0) (l := p1.Nets) trivial rfl hw rfl rfl un24 ?_
 refine ic ((p1.Nets.length : Int)) 1000 rfl rfl rfl rfl ?_
 refine RL.nt ?_
 refine RC.cond (b := (decide ((p1.Nets.length : Int) > 1000))) rfl (fun hc => ?_) (fun hc => ?_)
 ·replace hb := cT hc hb
  refine RC.sr ?_
  refine as_ (vi 2) rfl rfl ?_
  refine RL.nt ?_
  refine RC.rt ?_
  obtain rfl := oi hb
  exact fin1 rfl rfl ⟨rfl, hw.drop 10 rfl⟩
 replace hb := cF hc hb
 refine RC.sx ?_
 refine RL.makeMap (κ := Pin) (ν := Bool) trivial rfl hw fun v11 w hw => ?_
 refine as_ v11 rfl rfl ?_
 refine RL.nq ?_
 refine RC.sr ?_
 refine RL.fa_pt (i := 7) (f := fun (x : Netlist) => x.Nets) trivial rfl hw rfl rfl fa26_1 fd_Netlist_1 fun v12 hw => ?_
 refine RL.load_pt (i := 0) (x := p1.Nets) trivial rfl hw rfl rfl ty24 fun v13 hw => ?_
 refine RL.len_rd (i := 0) (l := p1.Nets) trivial rfl hw rfl rfl un24 ?_
 refine mv (vi 0) rfl rfl ?_
 refine RL.nt ?_
 obtain ⟨o106, hN, hb⟩ := bd hb
 refine RC.range (fun (k14 : Nat) (s15 : (List (Pin × Bool))) (σ : Nat → Value) (w : World) => agree σ [(2, (vp b1 0)), (3, (vp b2 0)), (7, v11), (29, v13), (30, (vi (p1.Nets.length : Int))), (31, (vi (k14 : Int)))] ∧ Holds E w ([pt (vp b1 0) p0, pt (vp b2 0) p1, mp v11 s15, rd v13 p1.Nets] ++ Γ)) (fun (s15 : (List (Pin × Bool))) (σ : Nat → Value) (w : World) => agree σ [] ∧ Holds E w ([pt (vp b1 0) p0, pt (vp b2 0) p1, mp v11 s15, rd v13 p1.Nets] ++ Γ)) (netlist_CheckList_K E Γ) hN ?_ ?_ ?_ ?_ ?_ 
 ·exact ⟨⟨rfl, rfl, rfl, rfl, rfl, rfl, trivial⟩, hw.pick 13 [10, 9, 2, 0] (new := [pt (vp b1 0) p0, pt (vp b2 0) p1, mp v11 ([] : (List (Pin × Bool))), rd v13 p1.Nets]) rfl rfl (by decide) (by decide)⟩
 ·intro hm s15 σ w hI
  obtain ⟨ha, hw⟩ := hI
  obtain ⟨τ, rfl⟩ := ha.ups
  refine RC.sr ?_
  refine ic ((p1.Nets.length : Int)) ((p1.Nets.length : Int)) rfl rfl rfl rfl ?_
  refine RL.nq ?_
  refine RC.cond_f dge ?_
  refine RC.ex ?_
  exact ⟨rfl, trivial, hw.pick 4 [0, 1, 2, 3] (new := [pt (vp b1 0) p0, pt (vp b2 0) p1, mp v11 s15, rd v13 p1.Nets]) rfl rfl (by decide) (by decide)⟩
 ·intro hm k14 s15 fl σ w hk hI hb
  obtain ⟨ha, hw⟩ := hI
  obtain ⟨τ, rfl⟩ := ha.ups
  refine RC.sr ?_
  refine ic ((k14 : Int)) ((p1.Nets.length : Int)) rfl rfl rfl rfl ?_
  refine RL.nq ?_
  refine RC.cond_t (dlt hk) ?_
  refine RC.ss ?_
  refine RC.bs ?_
  refine mv (vi (k14 : Int)) rfl rfl ?_
  obtain ⟨x76, hx76, hb⟩ := bd hb
  refine RL.ia_rd (i := 3) trivial rfl hw rfl rfl rfl sl24 hx76 fun v77 hw => ?_
  refine RL.load_pt (i := 0) (x := x76) trivial rfl hw rfl rfl ty64 fun v78 hw => ?_
  refine RL.alloc trivial rfl hw ze64.z fun b79 w hw => ?_
  refine as_ (vi (k14 : Int)) rfl rfl ?_
  refine RL.store_raw (i := 0) (j := 1) trivial hw rfl rfl rfl rfl ty64 rfl fun w hw => ?_
  refine RL.nq ?_
  refine RC.sr ?_
  refine RL.fa_b trivial rfl rfl fa64_0 ?_
  refine RL.load_bfs (i := 0) (f := (fun x => x.Name)) trivial rfl hw rfl rfl fd_Net_0 ty9 ?_
  obtain ⟨x80, hx80, hb⟩ := bd hb
  refine RL.call trivial rfl fn42 [(str x76.Name)] rfl (Calls_ret (netlist_IsPath_ok N (p0 := x76.Name)  hw  hx80) ?_)
  rintro _ w ⟨rfl, hw⟩
  refine RL.not (b := x80) trivial rfl rfl ?_
  refine RL.nt ?_
  refine RC.cond (b := (!x80)) rfl (fun hc => ?_) (fun hc => ?_)
  ·replace hb := cT hc hb
   refine RC.sr ?_
   refine as_ (vi 5) rfl rfl ?_
   refine RL.nt ?_
   refine RC.rt ?_
   refine blkQ_r ?_
   refine thenQ_r ?_
   obtain rfl := oi hb
   exact ⟨rfl, fin1 rfl rfl ⟨rfl, hw.drop 7 rfl⟩⟩
  replace hb := cF hc hb
  refine RC.ss ?_
  refine RC.sr ?_
  refine RL.fa_b trivial rfl rfl fa64_1 ?_
  refine RL.load_bf (i := 0) (f := (fun x => x.Pins)) trivial rfl hw rfl rfl fd_Net_1 ty33 fun v81 hw => ?_
  refine RL.len_rd (i := 0) (l := x76.Pins) trivial rfl hw rfl rfl un33 ?_
  refine ic ((x76.Pins.length : Int)) 0 rfl rfl rfl rfl ?_
  refine RL.nt ?_
  refine RC.cond (b := ((x76.Pins.length : Int) == 0)) rfl (fun hc => ?_) (fun hc => ?_)
  ·replace hb := cT hc hb
   refine RC.sr ?_
   refine as_ (vi 9) rfl rfl ?_
   refine RL.nt ?_
   refine RC.rt ?_
   refine blkQ_r ?_
   refine thenQ_r ?_
   obtain rfl := oi hb
   exact ⟨rfl, fin1 rfl rfl ⟨rfl, hw.drop 8 rfl⟩⟩
  replace hb := cF hc hb
  refine RC.ss ?_
  refine RC.sr ?_
  refine RL.fa_b trivial rfl rfl fa64_1 ?_
  refine RL.load_bf (i := 1) (f := (fun x => x.Pins)) trivial rfl hw rfl rfl fd_Net_1 ty33 fun v82 hw => ?_
  refine RL.makeFunc trivial rfl [(vp b1 0), (vp b2 0)] rfl ?_
  refine mv v11 rfl rfl ?_
  have hw := hw.pull (i := 7) rfl
  obtain ⟨x83, hx83, hb⟩ := bd hb
  refine RL.call trivial rfl fn43 [v82, (.func (.func 44) #[] #[(vp b1 0), (vp b2 0)]), v11] rfl (Calls_ret (netlist_checkNetPins_ok N  (i0 := 0) hw rfl ⟨44, [(vp b1 0), (vp b2 0)], rfl, fn44, fun w Γl v y0 r i hw hi hr => by exact Calls_ret (netlist_CheckList_c1_ok N (i0 := i) (i1 := Γl.length + 5) (i2 := Γl.length + 6) hw hi (up_get rfl) (up_get rfl) hr) fun _ _ h => h⟩ hx83) ?_)
  rintro _ w ⟨rfl, hw⟩
  refine as_ (vi x83.1) rfl rfl ?_
  refine RL.ns ?_
  refine mv (vi x83.1) rfl rfl ?_
  refine ic (x83.1) 0 rfl rfl rfl rfl ?_
  refine RL.nt ?_
  refine RC.cond (b := (x83.1 != 0)) rfl (fun hc => ?_) (fun hc => ?_)
  ·replace hb := cT hc hb
   refine RC.sr ?_
   refine mv (vi x83.1) rfl rfl ?_
   refine as_ (vi x83.1) rfl rfl ?_
   refine RL.nt ?_
   refine RC.rt ?_
   refine blkQ_r ?_
   refine thenQ_r ?_
   obtain rfl := oi hb
   exact ⟨rfl, fin1 rfl rfl ⟨rfl, hw.drop 10 rfl⟩⟩
  replace hb := cF hc hb
  refine RC.ss ?_
  refine RC.sr ?_
  refine RL.fa_b trivial rfl rfl fa64_2 ?_
  refine RL.load_bf (i := 3) (f := (fun x => x.Ports)) trivial rfl hw rfl rfl fd_Net_2 ty55 fun v84 hw => ?_
  refine RL.len_rd (i := 0) (l := x76.Ports) trivial rfl hw rfl rfl un55 ?_
  refine ic ((x76.Ports.length : Int)) 0 rfl rfl rfl rfl ?_
  refine RL.nt ?_
  refine RC.cond (b := (decide ((x76.Ports.length : Int) > 0))) rfl (fun hc => ?_) (fun hc => ?_)
  ·replace hb := cT hc hb
   refine RC.sr ?_
   refine as_ (vi 3) rfl rfl ?_
   refine RL.nt ?_
   refine RC.rt ?_
   refine blkQ_r ?_
   refine thenQ_r ?_
   obtain rfl := oi hb
   exact ⟨rfl, fin1 rfl rfl ⟨rfl, hw.drop 11 rfl⟩⟩
  replace hb := cF hc hb
  refine RC.ss ?_
  obtain ⟨s95, hj, hb⟩ := bd hb
  refine RC.jn (fun (s95 : Bool) (σ : Nat → Value) (w : World) => agree σ [(2, (vp b1 0)), (3, (vp b2 0)), (7, v11), (29, v13), (30, (vi (p1.Nets.length : Int))), (31, (vi (k14 : Int))), (69, (vb s95))] ∧ Holds E w ([pt (vp b1 0) p0, pt (vp b2 0) p1, mp v11 x83.2, rd v13 p1.Nets] ++ Γ)) s95 ?_ ?_
  ·rcases Bool.eq_false_or_eq_true (decide ((k14 : Int) > 0)) with hg96 | hg96
   rotate_left
   ·replace hj := cF hg96 hj
    refine RC.drw mixed rfl (fun (D : Nat → Bool) (σ : Nat → Value) (w : World) => doneV D σ [(0, 56, (vi (k14 : Int))), (1, 57, (vb (decide ((k14 : Int) > 0)))), (2, 58, (vb (decide ((k14 : Int) > 0)))), (3, 59, undef), (4, 60, undef), (5, 61, undef), (6, 62, undef), (7, 63, undef), (8, 64, undef), (9, 65, undef), (10, 66, undef), (11, 67, undef), (12, 68, undef), (13, 69, (vb false))] ∧ agree σ [(2, (vp b1 0)), (3, (vp b2 0)), (7, v11), (8, (vi (k14 : Int))), (9, (vp b79 0)), (29, v13), (30, (vi (p1.Nets.length : Int))), (31, (vi (k14 : Int)))] ∧ Holds E w ([rd v84 x76.Ports, mp v11 x83.2, rd v82 x76.Pins, rd v81 x76.Pins, bx 64 b79 x76, rd v78 x76, pt v77 x76, pt (vp b1 0) p0, pt (vp b2 0) p1, junk, rd v13 p1.Nets] ++ Γ)) ?_ ⟨?_, ?_, ?_, ?_, ?_, ?_, ?_, ?_, ?_, ?_, ?_, ?_, ?_, ?_, trivial⟩ ?_
    ·have hw := hw.drew
     exact ⟨doneV.none, ⟨rfl, rfl, rfl, rfl, rfl, rfl, rfl, rfl, trivial⟩, hw⟩
    ·rintro D σ w hD hdep hcl ⟨hv, ha, hw⟩
     obtain ⟨τ, rfl⟩ := (ac (ha.at 3 rfl) az).ups
     refine mv (vi (k14 : Int)) rfl rfl ?_
     refine RL.nil ?_
     exact ⟨rfl, hv.put 0 rfl rfl, ha.up rfl, hw⟩
    ·rintro D σ w hD hdep hcl ⟨hv, ha, hw⟩
     obtain ⟨τ, rfl⟩ := (ac (hv.at 0 rfl (hdep.1 rfl)) az).ups
     refine ic ((k14 : Int)) 0 rfl rfl rfl rfl ?_
     refine RL.nil ?_
     exact ⟨rfl, hv.put 1 rfl rfl, ha.up rfl, hw⟩
    ·rintro D σ w hD hdep hcl ⟨hv, ha, hw⟩
     obtain ⟨τ, rfl⟩ := (ac (hv.at 1 rfl (hdep.1 rfl)) az).ups
     refine mv (vb (decide ((k14 : Int) > 0))) rfl rfl ?_
     refine RL.nil ?_
     exact ⟨rfl, hv.put 2 rfl rfl, ha.up rfl, hw⟩
    ·rintro D σ w hD hdep hcl ⟨hv, ha, hw⟩
     obtain ⟨τ, rfl⟩ := (ac (hv.at 2 rfl (hdep.1 rfl)) (ac (ha.at 4 rfl) az)).ups
     refine sk rfl (.inl (cb hg96)) rfl ?_
     refine RL.nil ?_
     exact ⟨rfl, hv.put 3 rfl rfl, ha.up rfl, hw⟩
    ·rintro D σ w hD hdep hcl ⟨hv, ha, hw⟩
     obtain ⟨τ, rfl⟩ := (ac (hv.at 2 rfl (hdep.2.1 rfl)) (ac (hv.at 3 rfl (hdep.1 rfl)) az)).ups
     refine sk rfl (.inl (cb hg96)) rfl ?_
     refine RL.nil ?_
     exact ⟨rfl, hv.put 4 rfl rfl, ha.up rfl, hw⟩
    ·rintro D σ w hD hdep hcl ⟨hv, ha, hw⟩
     obtain ⟨τ, rfl⟩ := (ac (hv.at 2 rfl (hdep.1 rfl)) (ac (ha.at 1 rfl) az)).ups
     refine sk rfl (.inl (cb hg96)) rfl ?_
     refine RL.nil ?_
     exact ⟨rfl, hv.put 5 rfl rfl, ha.up rfl, hw⟩
    ·rintro D σ w hD hdep hcl ⟨hv, ha, hw⟩
     obtain ⟨τ, rfl⟩ := (ac (hv.at 2 rfl (hdep.2.1 rfl)) (ac (hv.at 5 rfl (hdep.1 rfl)) az)).ups
     refine sk rfl (.inl (cb hg96)) rfl ?_
     refine RL.nil ?_
     exact ⟨rfl, hv.put 6 rfl rfl, ha.up rfl, hw⟩
    ·rintro D σ w hD hdep hcl ⟨hv, ha, hw⟩
     obtain ⟨τ, rfl⟩ := (ac (hv.at 2 rfl (hdep.1 rfl)) (ac (ha.at 3 rfl) az)).ups
     refine sk rfl (.inl (cb hg96)) rfl ?_
     refine RL.nil ?_
     exact ⟨rfl, hv.put 7 rfl rfl, ha.up rfl, hw⟩
    ·rintro D σ w hD hdep hcl ⟨hv, ha, hw⟩
     obtain ⟨τ, rfl⟩ := (ac (hv.at 2 rfl (hdep.2.1 rfl)) (ac (hv.at 7 rfl (hdep.1 rfl)) az)).ups
     refine sk rfl (.inl (cb hg96)) rfl ?_
     refine RL.nil ?_
     exact ⟨rfl, hv.put 8 rfl rfl, ha.up rfl, hw⟩
    ·rintro D σ w hD hdep hcl ⟨hv, ha, hw⟩
     obtain ⟨τ, rfl⟩ := (ac (hv.at 2 rfl (hdep.2.2.1 rfl)) (ac (hv.at 6 rfl (hdep.1 rfl)) (ac (hv.at 8 rfl (hdep.2.1 rfl)) az))).ups
     refine sk rfl (.inl (cb hg96)) rfl ?_
     refine RL.nil ?_
     exact ⟨rfl, hv.put 9 rfl rfl, ha.up rfl, hw⟩
    ·rintro D σ w hD hdep hcl ⟨hv, ha, hw⟩
     obtain ⟨τ, rfl⟩ := (ac (hv.at 2 rfl (hdep.2.1 rfl)) (ac (hv.at 9 rfl (hdep.1 rfl)) az)).ups
     refine sk rfl (.inl (cb hg96)) rfl ?_
     refine RL.nil ?_
     exact ⟨rfl, hv.put 10 rfl rfl, ha.up rfl, hw⟩
    ·rintro D σ w hD hdep hcl ⟨hv, ha, hw⟩
     obtain ⟨τ, rfl⟩ := (ac (hv.at 2 rfl (hdep.2.1 rfl)) (ac (hv.at 10 rfl (hdep.1 rfl)) az)).ups
     refine sk rfl (.inl (cb hg96)) rfl ?_
     refine RL.nil ?_
     exact ⟨rfl, hv.put 11 rfl rfl, ha.up rfl, hw⟩
    ·rintro D σ w hD hdep hcl ⟨hv, ha, hw⟩
     obtain ⟨τ, rfl⟩ := (ac (hv.at 2 rfl (hdep.2.2.1 rfl)) (ac (hv.at 4 rfl (hdep.1 rfl)) (ac (hv.at 11 rfl (hdep.2.1 rfl)) az))).ups
     refine sk rfl (.inl (cb hg96)) rfl ?_
     refine RL.nil ?_
     exact ⟨rfl, hv.put 12 rfl rfl, ha.up rfl, hw⟩
    ·rintro D σ w hD hdep hcl ⟨hv, ha, hw⟩
     obtain ⟨τ, rfl⟩ := (ac (hv.at 2 rfl (hdep.1 rfl)) (ac (hv.at 12 rfl (hdep.2.1 rfl)) az)).ups
     refine RL.pick (b := (decide ((k14 : Int) > 0))) (v := (vb false)) trivial rfl rfl (by rw [hg96]; rfl) ?_
     refine RL.nil ?_
     exact ⟨rfl, hv.put 13 rfl rfl, ha.up rfl, hw⟩
    rintro D σ w hall ⟨hv, ha, hw⟩
    obtain ⟨τ, rfl⟩ := (ac (hv.at 13 rfl (hall 13 (by decide))) (ac (ha.at 0 rfl) (ac (ha.at 1 rfl) (ac (ha.at 2 rfl) (ac (ha.at 3 rfl) (ac (ha.at 4 rfl) (ac (ha.at 5 rfl) (ac (ha.at 6 rfl) (ac (ha.at 7 rfl) az))))))))).ups
    obtain rfl := oi hj
    exact ⟨rfl, ⟨rfl, rfl, rfl, rfl, rfl, rfl, rfl, trivial⟩, hw.pick 11 [7, 8, 1, 10] (new := [pt (vp b1 0) p0, pt (vp b2 0) p1, mp v11 x83.2, rd v13 p1.Nets]) rfl rfl (by decide) (by decide)⟩
   replace hj := cT hg96 hj
   obtain ⟨x99, hx99, hj⟩ := bd hj
   refine RC.drw mixed rfl (fun (D : Nat → Bool) (σ : Nat → Value) (w : World) => ∃ (v97 : Value) (v98 : Value) (v100 : Value) (v101 : Value), doneV D σ [(0, 56, (vi (k14 : Int))), (1, 57, (vb (decide ((k14 : Int) > 0)))), (2, 58, (vb (decide ((k14 : Int) > 0)))), (3, 59, (vp b79 0)), (4, 60, (str x76.Name)), (5, 61, v97), (6, 62, v98), (7, 63, (vi (k14 : Int))), (8, 64, (vi (IntKind.wrap .i64 ((k14 : Int) - 1)))), (9, 65, v100), (10, 66, v101), (11, 67, (str x99.Name)), (12, 68, (vb (x76.Name.ltb x99.Name || x76.Name.eqb x99.Name))), (13, 69, (vb (x76.Name.ltb x99.Name || x76.Name.eqb x99.Name)))] ∧ agree σ [(2, (vp b1 0)), (3, (vp b2 0)), (7, v11), (8, (vi (k14 : Int))), (9, (vp b79 0)), (29, v13), (30, (vi (p1.Nets.length : Int))), (31, (vi (k14 : Int)))] ∧ Holds E w ([bif D 5 then (pt v97 p1.Nets) else junk, bif D 6 then (rd v98 p1.Nets) else junk, bif D 9 then (pt v100 x99) else junk, bif D 10 then (pt v101 x99.Name) else junk, rd v84 x76.Ports, mp v11 x83.2, rd v82 x76.Pins, rd v81 x76.Pins, bx 64 b79 x76, rd v78 x76, pt v77 x76, pt (vp b1 0) p0, pt (vp b2 0) p1, junk, rd v13 p1.Nets] ++ Γ)) ?_ ⟨?_, ?_, ?_, ?_, ?_, ?_, ?_, ?_, ?_, ?_, ?_, ?_, ?_, ?_, trivial⟩ ?_
   ·have hw := hw.drew
    have hw := hw.junk
    have hw := hw.junk
    have hw := hw.junk
    have hw := hw.junk
    exact ⟨undef, undef, undef, undef, doneV.none, ⟨rfl, rfl, rfl, rfl, rfl, rfl, rfl, rfl, trivial⟩, hw⟩
   ·rintro D σ w hD hdep hcl ⟨v97, v98, v100, v101, hv, ha, hw⟩
    obtain ⟨τ, rfl⟩ := (ac (ha.at 3 rfl) az).ups
    refine mv (vi (k14 : Int)) rfl rfl ?_
    refine RL.nil ?_
    exact ⟨rfl, v97, v98, v100, v101, hv.put 0 rfl rfl, ha.up rfl, hw⟩
   ·rintro D σ w hD hdep hcl ⟨v97, v98, v100, v101, hv, ha, hw⟩
    obtain ⟨τ, rfl⟩ := (ac (hv.at 0 rfl (hdep.1 rfl)) az).ups
    refine ic ((k14 : Int)) 0 rfl rfl rfl rfl ?_
    refine RL.nil ?_
    exact ⟨rfl, v97, v98, v100, v101, hv.put 1 rfl rfl, ha.up rfl, hw⟩
   ·rintro D σ w hD hdep hcl ⟨v97, v98, v100, v101, hv, ha, hw⟩
    obtain ⟨τ, rfl⟩ := (ac (hv.at 1 rfl (hdep.1 rfl)) az).ups
    refine mv (vb (decide ((k14 : Int) > 0))) rfl rfl ?_
    refine RL.nil ?_
    exact ⟨rfl, v97, v98, v100, v101, hv.put 2 rfl rfl, ha.up rfl, hw⟩
   ·rintro D σ w hD hdep hcl ⟨v97, v98, v100, v101, hv, ha, hw⟩
    obtain ⟨τ, rfl⟩ := (ac (hv.at 2 rfl (hdep.1 rfl)) (ac (ha.at 4 rfl) az)).ups
    refine RL.fa_b ⟨_, rfl, cb hg96⟩ rfl rfl fa64_0 ?_
    refine RL.nil ?_
    exact ⟨rfl, v97, v98, v100, v101, hv.put 3 rfl rfl, ha.up rfl, hw⟩
   ·rintro D σ w hD hdep hcl ⟨v97, v98, v100, v101, hv, ha, hw⟩
    obtain ⟨τ, rfl⟩ := (ac (hv.at 2 rfl (hdep.2.1 rfl)) (ac (hv.at 3 rfl (hdep.1 rfl)) az)).ups
    refine RL.load_bfs (i := 8) (f := (fun x => x.Name)) ⟨_, rfl, cb hg96⟩ rfl hw rfl rfl fd_Net_0 ty9 ?_
    refine RL.nil ?_
    exact ⟨rfl, v97, v98, v100, v101, hv.put 4 rfl rfl, ha.up rfl, hw⟩
   ·rintro D σ w hD hdep hcl ⟨v97, v98, v100, v101, hv, ha, hw⟩
    obtain ⟨τ, rfl⟩ := (ac (hv.at 2 rfl (hdep.1 rfl)) (ac (ha.at 1 rfl) az)).ups
    have hw := hw.selF (i := 0) rfl hD
    refine RL.fa_pt (i := 12) (f := fun (x : Netlist) => x.Nets) ⟨_, rfl, cb hg96⟩ rfl hw rfl rfl fa26_1 fd_Netlist_1 fun v102 hw => ?_
    have hw := hw.pick 16 [0, 2, 3, 4, 5, 6, 7, 8, 9, 10, 11, 12, 13, 14, 15] (new := [pt v102 p1.Nets, bif D 6 then (rd v98 p1.Nets) else junk, bif D 9 then (pt v100 x99) else junk, bif D 10 then (pt v101 x99.Name) else junk, rd v84 x76.Ports, mp v11 x83.2, rd v82 x76.Pins, rd v81 x76.Pins, bx 64 b79 x76, rd v78 x76, pt v77 x76, pt (vp b1 0) p0, pt (vp b2 0) p1, junk, rd v13 p1.Nets]) rfl rfl (by decide) (by decide)
    have hw := hw.altT (i := 0) (b := true) rfl rfl (junk)
    refine RL.nil ?_
    exact ⟨rfl, v102, v98, v100, v101, hv.put 5 rfl rfl, ha.up rfl, hw⟩
   ·rintro D σ w hD hdep hcl ⟨v97, v98, v100, v101, hv, ha, hw⟩
    obtain ⟨τ, rfl⟩ := (ac (hv.at 2 rfl (hdep.2.1 rfl)) (ac (hv.at 5 rfl (hdep.1 rfl)) az)).ups
    have hw := hw.selT (i := 0) rfl (hdep.1 rfl)
    have hw := hw.selF (i := 1) rfl hD
    refine RL.load_pt (i := 0) (x := p1.Nets) ⟨_, rfl, cb hg96⟩ rfl hw rfl rfl ty24 fun v103 hw => ?_
    have hw := hw.pick 16 [1, 0, 3, 4, 5, 6, 7, 8, 9, 10, 11, 12, 13, 14, 15] (new := [pt v97 p1.Nets, rd v103 p1.Nets, bif D 9 then (pt v100 x99) else junk, bif D 10 then (pt v101 x99.Name) else junk, rd v84 x76.Ports, mp v11 x83.2, rd v82 x76.Pins, rd v81 x76.Pins, bx 64 b79 x76, rd v78 x76, pt v77 x76, pt (vp b1 0) p0, pt (vp b2 0) p1, junk, rd v13 p1.Nets]) rfl rfl (by decide) (by decide)
    have hw := hw.altT (i := 0) (b := D 5) rfl (hdep.1 rfl) (junk)
    have hw := hw.altT (i := 1) (b := true) rfl rfl (junk)
    refine RL.nil ?_
    exact ⟨rfl, v97, v103, v100, v101, hv.put 6 rfl rfl, ha.up rfl, hw⟩
   ·rintro D σ w hD hdep hcl ⟨v97, v98, v100, v101, hv, ha, hw⟩
    obtain ⟨τ, rfl⟩ := (ac (hv.at 2 rfl (hdep.1 rfl)) (ac (ha.at 3 rfl) az)).ups
    refine RL.move (v := (vi (k14 : Int))) ⟨_, rfl, cb hg96⟩ rfl rfl ?_
    refine RL.nil ?_
    exact ⟨rfl, v97, v98, v100, v101, hv.put 7 rfl rfl, ha.up rfl, hw⟩
   ·rintro D σ w hD hdep hcl ⟨v97, v98, v100, v101, hv, ha, hw⟩
    obtain ⟨τ, rfl⟩ := (ac (hv.at 2 rfl (hdep.2.1 rfl)) (ac (hv.at 7 rfl (hdep.1 rfl)) az)).ups
    refine RL.iar (a := (k14 : Int)) (b := 1) ⟨_, rfl, cb hg96⟩ rfl rfl rfl rfl ?_
    refine RL.nil ?_
    exact ⟨rfl, v97, v98, v100, v101, hv.put 8 rfl rfl, ha.up rfl, hw⟩
   ·rintro D σ w hD hdep hcl ⟨v97, v98, v100, v101, hv, ha, hw⟩
    obtain ⟨τ, rfl⟩ := (ac (hv.at 2 rfl (hdep.2.2.1 rfl)) (ac (hv.at 6 rfl (hdep.1 rfl)) (ac (hv.at 8 rfl (hdep.2.1 rfl)) az))).ups
    have hw := hw.selT (i := 1) rfl (hdep.1 rfl)
    have hw := hw.selF (i := 2) rfl hD
    refine RL.ia_rd (i := 1) ⟨_, rfl, cb hg96⟩ rfl hw rfl rfl rfl sl24 hx99 fun v104 hw => ?_
    have hw := hw.pick 16 [1, 2, 0, 4, 5, 6, 7, 8, 9, 10, 11, 12, 13, 14, 15] (new := [bif D 5 then (pt v97 p1.Nets) else junk, rd v98 p1.Nets, pt v104 x99, bif D 10 then (pt v101 x99.Name) else junk, rd v84 x76.Ports, mp v11 x83.2, rd v82 x76.Pins, rd v81 x76.Pins, bx 64 b79 x76, rd v78 x76, pt v77 x76, pt (vp b1 0) p0, pt (vp b2 0) p1, junk, rd v13 p1.Nets]) rfl rfl (by decide) (by decide)
    have hw := hw.altT (i := 1) (b := D 6) rfl (hdep.1 rfl) (junk)
    have hw := hw.altT (i := 2) (b := true) rfl rfl (junk)
    refine RL.nil ?_
    exact ⟨rfl, v97, v98, v104, v101, hv.put 9 rfl rfl, ha.up rfl, hw⟩
   ·rintro D σ w hD hdep hcl ⟨v97, v98, v100, v101, hv, ha, hw⟩
    obtain ⟨τ, rfl⟩ := (ac (hv.at 2 rfl (hdep.2.1 rfl)) (ac (hv.at 9 rfl (hdep.1 rfl)) az)).ups
    have hw := hw.selT (i := 2) rfl (hdep.1 rfl)
    have hw := hw.selF (i := 3) rfl hD
    refine RL.fa_pt (i := 2) (f := fun (x : Net) => x.Name) ⟨_, rfl, cb hg96⟩ rfl hw rfl rfl fa64_0 fd_Net_0 fun v105 hw => ?_
    have hw := hw.pick 16 [1, 2, 3, 0, 5, 6, 7, 8, 9, 10, 11, 12, 13, 14, 15] (new := [bif D 5 then (pt v97 p1.Nets) else junk, bif D 6 then (rd v98 p1.Nets) else junk, pt v100 x99, pt v105 x99.Name, rd v84 x76.Ports, mp v11 x83.2, rd v82 x76.Pins, rd v81 x76.Pins, bx 64 b79 x76, rd v78 x76, pt v77 x76, pt (vp b1 0) p0, pt (vp b2 0) p1, junk, rd v13 p1.Nets]) rfl rfl (by decide) (by decide)
    have hw := hw.altT (i := 2) (b := D 9) rfl (hdep.1 rfl) (junk)
    have hw := hw.altT (i := 3) (b := true) rfl rfl (junk)
    refine RL.nil ?_
    exact ⟨rfl, v97, v98, v100, v105, hv.put 10 rfl rfl, ha.up rfl, hw⟩
   ·rintro D σ w hD hdep hcl ⟨v97, v98, v100, v101, hv, ha, hw⟩
    obtain ⟨τ, rfl⟩ := (ac (hv.at 2 rfl (hdep.2.1 rfl)) (ac (hv.at 10 rfl (hdep.1 rfl)) az)).ups
    have hw := hw.selT (i := 3) rfl (hdep.1 rfl)
    refine RL.load_pts (i := 3) (y := x99.Name) ⟨_, rfl, cb hg96⟩ rfl hw rfl rfl ty9 ?_
    have hw := hw.altT (i := 3) (b := D 10) rfl (hdep.1 rfl) (junk)
    refine RL.nil ?_
    exact ⟨rfl, v97, v98, v100, v101, hv.put 11 rfl rfl, ha.up rfl, hw⟩
   ·rintro D σ w hD hdep hcl ⟨v97, v98, v100, v101, hv, ha, hw⟩
    obtain ⟨τ, rfl⟩ := (ac (hv.at 2 rfl (hdep.2.2.1 rfl)) (ac (hv.at 4 rfl (hdep.1 rfl)) (ac (hv.at 11 rfl (hdep.2.1 rfl)) az))).ups
    refine RL.scmp (a := x76.Name) (b := x99.Name) ⟨_, rfl, cb hg96⟩ rfl rfl rfl rfl ?_
    refine RL.nil ?_
    exact ⟨rfl, v97, v98, v100, v101, hv.put 12 rfl rfl, ha.up rfl, hw⟩
   ·rintro D σ w hD hdep hcl ⟨v97, v98, v100, v101, hv, ha, hw⟩
    obtain ⟨τ, rfl⟩ := (ac (hv.at 2 rfl (hdep.1 rfl)) (ac (hv.at 12 rfl (hdep.2.1 rfl)) az)).ups
    refine RL.pick (b := (decide ((k14 : Int) > 0))) (v := (vb (x76.Name.ltb x99.Name || x76.Name.eqb x99.Name))) trivial rfl rfl (by rw [hg96]; rfl) ?_
    refine RL.nil ?_
    exact ⟨rfl, v97, v98, v100, v101, hv.put 13 rfl rfl, ha.up rfl, hw⟩
   rintro D σ w hall ⟨v97, v98, v100, v101, hv, ha, hw⟩
   rw [hall 5 (by decide), hall 6 (by decide), hall 9 (by decide), hall 10 (by decide)] at hw
   obtain ⟨τ, rfl⟩ := (ac (hv.at 13 rfl (hall 13 (by decide))) (ac (ha.at 0 rfl) (ac (ha.at 1 rfl) (ac (ha.at 2 rfl) (ac (ha.at 3 rfl) (ac (ha.at 4 rfl) (ac (ha.at 5 rfl) (ac (ha.at 6 rfl) (ac (ha.at 7 rfl) az))))))))).ups
   obtain rfl := oi hj
   exact ⟨rfl, ⟨rfl, rfl, rfl, rfl, rfl, rfl, rfl, trivial⟩, hw.pick 15 [11, 12, 5, 14] (new := [pt (vp b1 0) p0, pt (vp b2 0) p1, mp v11 x83.2, rd v13 p1.Nets]) rfl rfl (by decide) (by decide)⟩
  rintro σ w ⟨ha, hw⟩
  obtain ⟨τ, rfl⟩ := ha.ups
  refine thenQ_n ?_
  refine RC.cond (b := s95) rfl (fun hc => ?_) (fun hc => ?_)
  rotate_left
  ·replace hb := cF hc hb
   refine RC.skip ?_
   refine blkQ_n ?_
   refine thenQ_n ?_
   refine RC.region ?_
   refine RL.inc trivial rfl hk hm rfl rfl ?_
   refine mv (vi ((k14 + 1 : Nat) : Int)) rfl rfl ?_
   refine RL.nil ?_
   obtain rfl := oi hb
   exact ⟨rfl, ⟨rfl, rfl, rfl, rfl, rfl, rfl, trivial⟩, hw.pick 4 [0, 1, 2, 3] (new := [pt (vp b1 0) p0, pt (vp b2 0) p1, mp v11 x83.2, rd v13 p1.Nets]) rfl rfl (by decide) (by decide)⟩
  replace hb := cT hc hb
  refine RC.sr ?_
  refine as_ (vi 8) rfl rfl ?_
  refine RL.nt ?_
  refine RC.rb ?_
  refine thenQ_r ?_
  obtain rfl := oi hb
  exact ⟨rfl, fin1 rfl rfl ⟨rfl, hw.drop 4 rfl⟩⟩
 ·intro r σ w e hK
  subst e
  refine thenQ_r ?_
  obtain rfl := oi hb
  exact hK
 intro s15 σ w e hJ
 subst e
 rw [Fo.cs_go] at hb
 obtain ⟨ha, hw⟩ := hJ
 obtain ⟨τ, rfl⟩ := ha.ups
 refine thenQ_n ?_
 refine RC.sr ?_
 refine as_ (vi 0) rfl rfl ?_
 refine RL.nt ?_
 refine RC.ret ?_
 obtain rfl := oi hb
 exact fin1 rfl rfl ⟨rfl, hw.drop 4 rfl⟩
def netlist_Nets_R (E : World) (Γ : List HP) (res : (List (Pin × Int))) (v : Value) (w : World) : Prop := Holds E w (mp v res :: Γ)
def netlist_Nets_K (E : World) (Γ : List HP) (r : (List (Pin × Int))) (σ : Nat → Value) (w : World) : Prop := finQ Tryd.prog 30 Tryd.f37 (netlist_Nets_R E Γ r) .ret σ w
theorem netlist_Nets_ok (N : Nat) {E w : World} {Γ : List HP} {i0 : Nat} {v0 : Value} {p0 : Netlist} {res : (List (Pin × Int))} (hw : Holds E w Γ) (h0 : Γ[i0]? = some (rd v0 p0)) (hb : netlist_Nets N p0 = some res) :
    Calls Tryd.prog 37 [v0].toArray w (Ret (netlist_Nets_R E Γ res)) := by
 unfold netlist_Nets at hb
 refine enter Tryd.func37 rfl rfl (Nat.le_of_ble_eq_true rfl) ?_
 have hw := hw.dup (i := i0 + 0) h0
 refine RC.sr ?_
 refine RL.box_rd (i := 0) (v := v0) trivial rfl hw rfl rfl fun b1 w hw => ?_
 refine as_ (.map none) rfl rfl ?_
 refine RL.ns ?_
 refine RL.makeMap (κ := Pin) (ν := Int) trivial rfl hw fun v2 w hw => ?_
 refine as_ v2 rfl rfl ?_
 refine RL.nq ?_
 refine RC.sr ?_
 refine RL.fa_b trivial rfl rfl fa26_1 ?_
 refine RL.load_bf (i := 1) (f := (fun x => x.Nets)) trivial rfl hw rfl rfl fd_Netlist_1 ty24 fun v3 hw => ?_
 refine RL.len_rd (i := 0) (l := p0.Nets) trivial rfl hw rfl rfl un24 ?_
 refine mv (vi 0) rfl rfl ?_
 refine RL.nt ?_
 obtain ⟨s5, hN, hb⟩ := bd hb
 refine RC.fold (fun (k4 : Nat) (s5 : (List (Pin × Int))) (σ : Nat → Value) (w : World) => agree σ [(3, v2), (10, v3), (11, (vi (p0.Nets.length : Int))), (12, (vi (k4 : Int)))] ∧ Holds E w ([mp v2 s5, rd v3 p0.Nets] ++ Γ)) (fun (s5 : (List (Pin × Int))) (σ : Nat → Value) (w : World) => agree σ [(3, v2)] ∧ Holds E w ([mp v2 s5, rd v3 p0.Nets] ++ Γ)) hN ?_ ?_ ?_ ?_
 ·exact ⟨⟨rfl, rfl, rfl, rfl, trivial⟩, hw.pick 4 [1, 0] (new := [mp v2 ([] : (List (Pin × Int))), rd v3 p0.Nets]) rfl rfl (by decide) (by decide)⟩
 ·intro hm s5 σ w hI
  obtain ⟨ha, hw⟩ := hI
  obtain ⟨τ, rfl⟩ := ha.ups
  refine RC.sr ?_
  refine ic ((p0.Nets.length : Int)) ((p0.Nets.length : Int)) rfl rfl rfl rfl ?_
  refine RL.nq ?_
  refine RC.cond_f dge ?_
  refine RC.ex ?_
  exact ⟨rfl, ⟨rfl, trivial⟩, hw.pick 2 [0, 1] (new := [mp v2 s5, rd v3 p0.Nets]) rfl rfl (by decide) (by decide)⟩
 ·intro hm k4 s5 s' σ w hk hI hb
  obtain ⟨ha, hw⟩ := hI
  obtain ⟨τ, rfl⟩ := ha.ups
  refine RC.sr ?_
  refine ic ((k4 : Int)) ((p0.Nets.length : Int)) rfl rfl rfl rfl ?_
  refine RL.nq ?_
  refine RC.cond_t (dlt hk) ?_
  refine RC.ss ?_
  refine RC.bs ?_
  refine mv (vi (k4 : Int)) rfl rfl ?_
  obtain ⟨x52, hx52, hb⟩ := bd hb
  refine RL.ia_rd (i := 1) trivial rfl hw rfl rfl rfl sl24 hx52 fun v53 hw => ?_
  refine RL.load_pt (i := 0) (x := x52) trivial rfl hw rfl rfl ty64 fun v54 hw => ?_
  refine RL.alloc trivial rfl hw ze64.z fun b55 w hw => ?_
  refine as_ (vi (k4 : Int)) rfl rfl ?_
  refine RL.store_raw (i := 0) (j := 1) trivial hw rfl rfl rfl rfl ty64 rfl fun w hw => ?_
  refine RL.ns ?_
  refine RL.fa_b trivial rfl rfl fa64_1 ?_
  refine RL.load_bf (i := 0) (f := (fun x => x.Pins)) trivial rfl hw rfl rfl fd_Net_1 ty33 fun v56 hw => ?_
  refine RL.len_rd (i := 0) (l := x52.Pins) trivial rfl hw rfl rfl un33 ?_
  refine mv (vi 0) rfl rfl ?_
  refine RL.nt ?_
  obtain ⟨s58, hN, hb⟩ := bd hb
  refine RC.fold (fun (k57 : Nat) (s58 : (List (Pin × Int))) (σ : Nat → Value) (w : World) => agree σ [(3, v2), (4, (vi (k4 : Int))), (10, v3), (11, (vi (p0.Nets.length : Int))), (12, (vi (k4 : Int))), (18, v56), (19, (vi (x52.Pins.length : Int))), (20, (vi (k57 : Int)))] ∧ Holds E w ([mp v2 s58, rd v3 p0.Nets, rd v56 x52.Pins] ++ Γ)) (fun (s58 : (List (Pin × Int))) (σ : Nat → Value) (w : World) => agree σ [(3, v2), (10, v3), (11, (vi (p0.Nets.length : Int))), (12, (vi (k4 : Int)))] ∧ Holds E w ([mp v2 s58, rd v3 p0.Nets, rd v56 x52.Pins] ++ Γ)) hN ?_ ?_ ?_ ?_
  ·exact ⟨⟨rfl, rfl, rfl, rfl, rfl, rfl, rfl, rfl, trivial⟩, hw.pick 6 [4, 5, 0] (new := [mp v2 s5, rd v3 p0.Nets, rd v56 x52.Pins]) rfl rfl (by decide) (by decide)⟩
  ·intro hm s58 σ w hI
   obtain ⟨ha, hw⟩ := hI
   obtain ⟨τ, rfl⟩ := ha.ups
   refine RC.sr ?_
   refine ic ((x52.Pins.length : Int)) ((x52.Pins.length : Int)) rfl rfl rfl rfl ?_
   refine RL.nq ?_
   refine RC.cond_f dge ?_
   refine RC.ex ?_
   exact ⟨rfl, ⟨rfl, rfl, rfl, rfl, trivial⟩, hw.pick 3 [0, 1, 2] (new := [mp v2 s58, rd v3 p0.Nets, rd v56 x52.Pins]) rfl rfl (by decide) (by decide)⟩
  ·intro hm k57 s58 s' σ w hk hI hb
   obtain ⟨ha, hw⟩ := hI
   obtain ⟨τ, rfl⟩ := ha.ups
   refine RC.sr ?_
   refine ic ((k57 : Int)) ((x52.Pins.length : Int)) rfl rfl rfl rfl ?_
   refine RL.nq ?_
   refine RC.cond_t (dlt hk) ?_
   refine RC.ss ?_
   refine RC.bs ?_
   obtain ⟨x69, hx69, hb⟩ := bd hb
   refine RL.ia_rd (i := 2) trivial rfl hw rfl rfl rfl sl33 hx69 fun v70 hw => ?_
   refine RL.load_pt (i := 0) (x := x69) trivial rfl hw rfl rfl ty28 fun v71 hw => ?_
   refine RL.alloc trivial rfl hw ze28.z fun b72 w hw => ?_
   refine RL.store_raw (i := 0) (j := 1) trivial hw rfl rfl rfl rfl ty28 rfl fun w hw => ?_
   refine RL.nt ?_
   refine RC.region ?_
   refine mv v2 rfl rfl ?_
   refine RL.load_bf (i := 0) (f := (fun x => x)) trivial rfl hw rfl rfl Fd.self ty28 fun v73 hw => ?_
   refine mv (vi (k4 : Int)) rfl rfl ?_
   have hw := hw.sc (γ := Int) (k4 : Int)
   refine RL.mapUpdate (i := 5) (j := 0) (k := x69) trivial hw rfl (key_rd hw (j := 1) rfl) rfl rfl rfl mt72 fun w hw => ?_
   refine RL.nil ?_
   refine blkQ_n ?_
   refine thenQ_n ?_
   refine RC.region ?_
   refine RL.inc trivial rfl hk hm rfl rfl ?_
   refine mv (vi ((k57 + 1 : Nat) : Int)) rfl rfl ?_
   refine RL.nil ?_
   obtain rfl := oi hb
   exact ⟨rfl, ⟨rfl, rfl, rfl, rfl, rfl, rfl, rfl, rfl, trivial⟩, hw.pick 8 [5, 6, 7] (new := [mp v2 (mput s58 x69 (k4 : Int)), rd v3 p0.Nets, rd v56 x52.Pins]) rfl rfl (by decide) (by decide)⟩
  intro σ w hJ
  obtain ⟨ha, hw⟩ := hJ
  obtain ⟨τ, rfl⟩ := ha.ups
  refine blkQ_n ?_
  refine thenQ_n ?_
  refine RC.region ?_
  refine RL.inc trivial rfl hk hm rfl rfl ?_
  refine mv (vi ((k4 + 1 : Nat) : Int)) rfl rfl ?_
  refine RL.nil ?_
  obtain rfl := oi hb
  exact ⟨rfl, ⟨rfl, rfl, rfl, rfl, trivial⟩, hw.pick 3 [0, 1] (new := [mp v2 s58, rd v3 p0.Nets]) rfl rfl (by decide) (by decide)⟩
 intro σ w hJ
 obtain ⟨ha, hw⟩ := hJ
 obtain ⟨τ, rfl⟩ := ha.ups
 refine thenQ_n ?_
 refine RC.sr ?_
 refine mv v2 rfl rfl ?_
 refine as_ v2 rfl rfl ?_
 refine RL.nt ?_
 refine RC.ret ?_
 obtain rfl := oi hb
 exact fin1 rfl rfl (hw.pick 2 [0] (new := [mp v2 s5]) rfl rfl (by decide) (by decide))
def netlist_pinsOf_R (E : World) (Γ : List HP) (res : (List Pin)) (v : Value) (w : World) : Prop := Holds E w (own 28 v res :: Γ)
def netlist_pinsOf_K (E : World) (Γ : List HP) (r : (List Pin)) (σ : Nat → Value) (w : World) : Prop := finQ Tryd.prog 31 Tryd.f67 (netlist_pinsOf_R E Γ r) .ret σ w
theorem netlist_pinsOf_ok (N : Nat) {E w : World} {Γ : List HP} {i0 : Nat} {v0 : Value} {p0 : (List PartType)} {i1 : Nat} {v1 : Value} {p1 : Part} {res : (List Pin)} (hw : Holds E w Γ) (h0 : Γ[i0]? = some (rd v0 p0)) (h1 : Γ[i1]? = some (rd v1 p1)) (hb : netlist_pinsOf N p0 p1 = some res) :
    Calls Tryd.prog 67 [v0, v1].toArray w (Ret (netlist_pinsOf_R E Γ res)) := by
 unfold netlist_pinsOf at hb
 refine enter Tryd.func67 rfl rfl (Nat.le_of_ble_eq_true rfl) ?_
 have hw := hw.dup (i := i0 + 0) h0
 have hw := hw.dup (i := i1 + 1) h1
 refine RC.sr ?_
 refine RL.box_rd (i := 0) (v := v1) trivial rfl hw rfl rfl fun b1 w hw => ?_
 refine as_ (.slice none 0 0) rfl rfl ?_
 refine RL.ns ?_
 refine as_ (.slice none 0 0) rfl rfl ?_
 refine RL.nq ?_
 refine RC.sr ?_
 refine mv v0 rfl rfl ?_
 refine mv v0 rfl rfl ?_
 refine RL.fa_b trivial rfl rfl fa87_1 ?_
 refine RL.load_bfs (i := 0) (f := (fun x => x.Type_)) trivial rfl hw rfl rfl fd_Part_1 ty9 ?_
 obtain ⟨x2, hx2, hb⟩ := bd hb
 refine RL.call trivial rfl fn50 [v0, (str p1.Type_)] rfl (Calls_ret (netlist_TypeAt_ok N (p1 := p1.Type_) (i0 := 2) hw rfl hx2) ?_)
 rintro _ w ⟨rfl, hw⟩
 obtain ⟨x3, hx3, hb⟩ := bd hb
 refine RL.ia_rd (i := 2) trivial rfl hw rfl rfl rfl sl22 hx3 fun v4 hw => ?_
 refine RL.fa_pt (i := 0) (f := fun (x : PartType) => x.Pins) trivial rfl hw rfl rfl fa85_1 fd_PartType_1 fun v5 hw => ?_
 refine RL.load_pt (i := 0) (x := x3.Pins) trivial rfl hw rfl rfl ty83 fun v6 hw => ?_
 refine RL.len_rd (i := 0) (l := x3.Pins) trivial rfl hw rfl rfl un83 ?_
 refine mv (vi 0) rfl rfl ?_
 refine RL.nt ?_
 obtain ⟨s8, hN, hb⟩ := bd hb
 refine RC.fold (fun (k7 : Nat) (s8 : (List Pin)) (σ : Nat → Value) (w : World) => ∃ v27 : Value, agree σ [(3, (vp b1 0)), (5, v27), (15, v6), (16, (vi (x3.Pins.length : Int))), (17, (vi (k7 : Int)))] ∧ Holds E w ([bx 87 b1 p1, rd v6 x3.Pins, own 28 v27 s8] ++ Γ)) (fun (s8 : (List Pin)) (σ : Nat → Value) (w : World) => ∃ v28 : Value, agree σ [(5, v28)] ∧ Holds E w ([bx 87 b1 p1, rd v6 x3.Pins, own 28 v28 s8] ++ Γ)) hN ?_ ?_ ?_ ?_
 ·have hw := hw.own_nil Pin 28
  exact ⟨(.slice none 0 0), ⟨rfl, rfl, rfl, rfl, rfl, trivial⟩, hw.pick 7 [4, 1, 0] (new := [bx 87 b1 p1, rd v6 x3.Pins, own 28 (.slice none 0 0) ([] : (List Pin))]) rfl rfl (by decide) (by decide)⟩
 ·intro hm s8 σ w hI
  obtain ⟨v38, ha, hw⟩ := hI
  obtain ⟨τ, rfl⟩ := ha.ups
  refine RC.sr ?_
  refine ic ((x3.Pins.length : Int)) ((x3.Pins.length : Int)) rfl rfl rfl rfl ?_
  refine RL.nq ?_
  refine RC.cond_f dge ?_
  refine RC.ex ?_
  exact ⟨rfl, v38, ⟨rfl, trivial⟩, hw.pick 3 [0, 1, 2] (new := [bx 87 b1 p1, rd v6 x3.Pins, own 28 v38 s8]) rfl rfl (by decide) (by decide)⟩
 ·intro hm k7 s8 s' σ w hk hI hb
  obtain ⟨v29, ha, hw⟩ := hI
  obtain ⟨τ, rfl⟩ := ha.ups
  refine RC.sr ?_
  refine ic ((k7 : Int)) ((x3.Pins.length : Int)) rfl rfl rfl rfl ?_
  refine RL.nq ?_
  refine RC.cond_t (dlt hk) ?_
  refine RC.ss ?_
  refine RC.bs ?_
  obtain ⟨x30, hx30, hb⟩ := bd hb
  refine RL.ia_rd (i := 1) trivial rfl hw rfl rfl rfl sl83 hx30 fun v31 hw => ?_
  refine RL.load_pt (i := 0) (x := x30) trivial rfl hw rfl rfl ty82 fun v32 hw => ?_
  refine RL.alloc trivial rfl hw ze82.z fun b33 w hw => ?_
  refine RL.store_raw (i := 0) (j := 1) trivial hw rfl rfl rfl rfl ty82 rfl fun w hw => ?_
  refine RL.nt ?_
  refine RC.region ?_
  refine mv v29 rfl rfl ?_
  refine RL.fa_b trivial rfl rfl fa87_0 ?_
  refine RL.load_bfs (i := 3) (f := (fun x => x.Name)) trivial rfl hw rfl rfl fd_Part_0 ty9 ?_
  refine RL.fa_b trivial rfl rfl fa82_0 ?_
  refine RL.load_bfs (i := 0) (f := (fun x => x.Name)) trivial rfl hw rfl rfl fd_PinType_0 ty9 ?_
  have hw := hw.sc (γ := Str) p1.Name
  have hw := hw.sc (γ := Str) x30.Name
  refine RL.build (y := (⟨p1.Name, x30.Name⟩ : Pin)) trivial rfl hw [(0, (str p1.Name)), (1, (str x30.Name))] rfl st28 rfl (fun M hs g => by have h := z_Pin M; exact Fills.cons (f := fun (x : Pin) y => { x with Part := y }) rfl h fs_Pin_0 (by decide) (g.sat 1 _ rfl).1 fun _ h => Fills.cons (f := fun (x : Pin) y => { x with Pin := y }) rfl h fs_Pin_1 (by decide) (g.sat 0 _ rfl).1 fun _ h => Fills.nil h) fun v34 hw => ?_
  refine RL.bslice (l := ([(⟨p1.Name, x30.Name⟩ : Pin)] : (List Pin))) trivial rfl hw [v34] rfl rfl rfl sl33 ze28 (fun M hs g => ⟨(g.sat 0 _ rfl).1, trivial⟩) fun v35 w hw => ?_
  have hw := hw.freeze (i := 0) rfl
  obtain ⟨x36, hx36, hb⟩ := bd hb
  refine RL.app (i := 9) (j := 0) trivial rfl hw rfl rfl rfl rfl el33 hx36 fun v37 w hw => ?_
  refine as_ v37 rfl rfl ?_
  refine RL.nil ?_
  refine blkQ_n ?_
  refine thenQ_n ?_
  refine RC.region ?_
  refine RL.inc trivial rfl hk hm rfl rfl ?_
  refine mv (vi ((k7 + 1 : Nat) : Int)) rfl rfl ?_
  refine RL.nil ?_
  obtain rfl := oi hb
  exact ⟨rfl, v37, ⟨rfl, rfl, rfl, rfl, rfl, trivial⟩, hw.pick 10 [7, 8, 9] (new := [bx 87 b1 p1, rd v6 x3.Pins, own 28 v37 x36]) rfl rfl (by decide) (by decide)⟩
 intro σ w hJ
 obtain ⟨v28, ha, hw⟩ := hJ
 obtain ⟨τ, rfl⟩ := ha.ups
 refine thenQ_n ?_
 refine RC.sr ?_
 refine mv v28 rfl rfl ?_
 refine as_ v28 rfl rfl ?_
 refine RL.nt ?_
 refine RC.ret ?_
 obtain rfl := oi hb
 exact fin1 rfl rfl (hw.pick 3 [2] (new := [own 28 v28 s8]) rfl rfl (by decide) (by decide))
end Go.Gk
