/-
  Printed by gen.py: Go functions as plain functions, and that they are.
-/
import Derived.Test.YtghiafpkpfipgaaGreatDoorT
import Derived.Test.YtghiafpkpfipgaaGreatDoorS
import Derived.Test.YtghiafpkpfipgaaGreatDoorF1
set_option linter.unusedVariables false
set_option linter.unusedSimpArgs false
set_option linter.unusedSectionVars false
set_option maxRecDepth 100000
set_option maxHeartbeats 4000000

namespace Go.Gk
open Go Go.Proofs
def slices_IndexFunc_string_R (E : World) (Γ : List HP) (res : Int) (v : Value) (w : World) : Prop := v = (vi res) ∧ Holds E w Γ
def slices_IndexFunc_string_K (E : World) (Γ : List HP) (r : Int) (σ : Nat → Value) (w : World) : Prop := finQ Tryz.prog 19 Tryz.f75 (slices_IndexFunc_string_R E Γ r) .ret σ w
theorem slices_IndexFunc_string_ok (N : Nat) {E w : World} {Γ : List HP} {i0 : Nat} {v0 : Value} {p0 : (List Str)} {v1 : Value} {p1 : Str → Option Bool} {res : Int} (hw : Holds E w Γ) (h0 : Γ[i0]? = some (rd v0 p0)) (h1 : Fn1 Tryz.prog E Γ v1 p1 (fun (r : Bool) => Value.bool r)) (hb : slices_IndexFunc_string N p0 p1 = some res) :
    Calls Tryz.prog 75 [v0, v1].toArray w (Ret (slices_IndexFunc_string_R E Γ res)) := by
 unfold slices_IndexFunc_string at hb
 refine enter Tryz.func75 rfl rfl (Nat.le_of_ble_eq_true rfl) ?_
 have hw := hw.dup (i := i0 + 0) h0
 refine RC.sr ?_
 refine as_ (vi 0) rfl rfl ?_
 refine RL.nq ?_
 refine RC.sr ?_
 refine mv v0 rfl rfl ?_
 refine RL.len_rd (i := 0) (l := p0) trivial rfl hw rfl rfl un36 ?_
 refine mv (vi 0) rfl rfl ?_
 refine RL.nt ?_
 obtain ⟨o39, hN, hb⟩ := bd hb
 refine RC.range (fun (k31 : Nat) (s32 : Unit) (σ : Nat → Value) (w : World) => agree σ [(0, v0), (1, v1), (7, (vi (p0.length : Int))), (8, (vi (k31 : Int)))] ∧ Holds E w ([rd v0 p0] ++ Γ)) (fun (s32 : Unit) (σ : Nat → Value) (w : World) => agree σ [] ∧ Holds E w ([rd v0 p0] ++ Γ)) (slices_IndexFunc_string_K E Γ) hN ?_ ?_ ?_ ?_ ?_ 
 ·exact ⟨⟨rfl, rfl, rfl, rfl, trivial⟩, hw.pick 1 [0] (new := [rd v0 p0]) rfl rfl (by decide) (by decide)⟩
 ·intro hm s32 σ w hI
  obtain ⟨ha, hw⟩ := hI
  obtain ⟨τ, rfl⟩ := ha.ups
  refine RC.sr ?_
  refine ic ((p0.length : Int)) ((p0.length : Int)) rfl rfl rfl rfl ?_
  refine RL.nq ?_
  refine RC.cond_f dge ?_
  refine RC.ex ?_
  exact ⟨rfl, trivial, hw.pick 1 [0] (new := [rd v0 p0]) rfl rfl (by decide) (by decide)⟩
 ·intro hm k31 s32 fl σ w hk hI hb
  obtain ⟨ha, hw⟩ := hI
  obtain ⟨τ, rfl⟩ := ha.ups
  refine RC.sr ?_
  refine ic ((k31 : Int)) ((p0.length : Int)) rfl rfl rfl rfl ?_
  refine RL.nq ?_
  refine RC.cond_t (dlt hk) ?_
  refine RC.ss ?_
  refine RC.bs ?_
  refine mv (vi (k31 : Int)) rfl rfl ?_
  refine as_ (vi (k31 : Int)) rfl rfl ?_
  refine RL.ns ?_
  refine mv v1 rfl rfl ?_
  refine mv v0 rfl rfl ?_
  refine mv (vi (k31 : Int)) rfl rfl ?_
  obtain ⟨x36, hx36, hb⟩ := bd hb
  refine RL.ia_rd (i := 0) trivial rfl hw rfl rfl rfl sl36 hx36 fun v37 hw => ?_
  refine RL.load_pts (i := 0) (y := x36) trivial rfl hw rfl rfl ty9 ?_
  have hw := hw.sc (γ := Str) x36
  obtain ⟨x38, hx38, hb⟩ := bd hb
  refine RL.callF1 (i := 0) trivial rfl hw rfl h1 3 rfl rfl rfl hx38 fun w hw => ?_
  refine RL.nt ?_
  refine RC.cond (b := x38) rfl (fun hc => ?_) (fun hc => ?_)
  rotate_left
  ·replace hb := cF hc hb
   refine RC.skip ?_
   refine blkQ_n ?_
   refine thenQ_n ?_
   refine RC.region ?_
   refine RL.inc trivial rfl hk hm rfl rfl ?_
   refine mv (vi ((k31 + 1 : Nat) : Int)) rfl rfl ?_
   refine RL.nil ?_
   obtain rfl := oi hb
   exact ⟨rfl, ⟨rfl, rfl, rfl, rfl, trivial⟩, hw.pick 3 [2] (new := [rd v0 p0]) rfl rfl (by decide) (by decide)⟩
  replace hb := cT hc hb
  refine RC.sr ?_
  refine mv (vi (k31 : Int)) rfl rfl ?_
  refine as_ (vi (k31 : Int)) rfl rfl ?_
  refine RL.nt ?_
  refine RC.rb ?_
  refine thenQ_r ?_
  obtain rfl := oi hb
  exact ⟨rfl, fin1 rfl rfl ⟨rfl, hw.drop 3 rfl⟩⟩
 ·intro r σ w e hK
  subst e
  refine thenQ_r ?_
  obtain rfl := oi hb
  exact hK
 intro s32 σ w e hJ
 subst e
 rw [Fo.cs_go] at hb
 obtain ⟨ha, hw⟩ := hJ
 obtain ⟨τ, rfl⟩ := ha.ups
 refine thenQ_n ?_
 refine RC.sr ?_
 refine as_ (vi (-1)) rfl rfl ?_
 refine RL.nt ?_
 refine RC.ret ?_
 obtain rfl := oi hb
 exact fin1 rfl rfl ⟨rfl, hw.drop 1 rfl⟩
def slices_ContainsFunc_string_R (E : World) (Γ : List HP) (res : Bool) (v : Value) (w : World) : Prop := v = (vb res) ∧ Holds E w Γ
theorem slices_ContainsFunc_string_ok (N : Nat) {E w : World} {Γ : List HP} {i0 : Nat} {v0 : Value} {p0 : (List Str)} {v1 : Value} {p1 : Str → Option Bool} {res : Bool} (hw : Holds E w Γ) (h0 : Γ[i0]? = some (rd v0 p0)) (h1 : Fn1 Tryz.prog E Γ v1 p1 (fun (r : Bool) => Value.bool r)) (hb : slices_ContainsFunc_string N p0 p1 = some res) :
    Calls Tryz.prog 45 [v0, v1].toArray w (Ret (slices_ContainsFunc_string_R E Γ res)) := by
 unfold slices_ContainsFunc_string at hb
 refine enter Tryz.func45 rfl rfl (Nat.le_of_ble_eq_true rfl) ?_
 have hw := hw.dup (i := i0 + 0) h0
 refine RC.sr ?_
 refine as_ (vb false) rfl rfl ?_
 refine RL.ns ?_
 refine mv v0 rfl rfl ?_
 refine mv v1 rfl rfl ?_
 obtain ⟨x31, hx31, hb⟩ := bd hb
 refine RL.call trivial rfl fn75 [v0, v1] rfl (Calls_ret (slices_IndexFunc_string_ok N  (i0 := 0) hw rfl (h1.lift 1 rfl) hx31) ?_)
 rintro _ w ⟨rfl, hw⟩
 refine ic x31 0 rfl rfl rfl rfl ?_
 refine as_ (vb (decide (x31 ≥ 0))) rfl rfl ?_
 refine RL.nt ?_
 refine RC.ret ?_
 obtain rfl := oi hb
 exact fin1 rfl rfl ⟨rfl, hw.drop 1 rfl⟩
def netlist_IsPath_c1_R (E : World) (Γ : List HP) (res : Bool) (v : Value) (w : World) : Prop := v = (vb res) ∧ Holds E w Γ
theorem netlist_IsPath_c1_ok (N : Nat) {E w : World} {Γ : List HP} {p0 : Str} {res : Bool} (hw : Holds E w Γ)  (hb : netlist_IsPath_c1 N p0 = some res) :
    Calls Tryz.prog 47 [(str p0)].toArray w (Ret (netlist_IsPath_c1_R E Γ res)) := by
 unfold netlist_IsPath_c1 at hb
 refine enter Tryz.func47 rfl rfl (Nat.le_of_ble_eq_true rfl) ?_
 refine RC.sr ?_
 refine as_ (vb false) rfl rfl ?_
 refine RL.ns ?_
 refine mv (str p0) rfl rfl ?_
 obtain ⟨x31, hx31, hb⟩ := bd hb
 refine RL.call trivial rfl fn42 [(str p0)] rfl (Calls_ret (netlist_IsWord_ok N (p0 := p0)  hw  hx31) ?_)
 rintro _ w ⟨rfl, hw⟩
 refine RL.not (b := x31) trivial rfl rfl ?_
 refine as_ (vb (!x31)) rfl rfl ?_
 refine RL.nt ?_
 refine RC.ret ?_
 obtain rfl := oi hb
 exact fin1 rfl rfl ⟨rfl, hw.drop 0 rfl⟩
def netlist_IsPath_R (E : World) (Γ : List HP) (res : Bool) (v : Value) (w : World) : Prop := v = (vb res) ∧ Holds E w Γ
theorem netlist_IsPath_ok (N : Nat) {E w : World} {Γ : List HP} {p0 : Str} {res : Bool} (hw : Holds E w Γ)  (hb : netlist_IsPath N p0 = some res) :
    Calls Tryz.prog 26 [(str p0)].toArray w (Ret (netlist_IsPath_R E Γ res)) := by
 unfold netlist_IsPath at hb
 refine enter Tryz.func26 rfl rfl (Nat.le_of_ble_eq_true rfl) ?_
 refine RC.sr ?_
 refine as_ (vb false) rfl rfl ?_
 refine RL.nq ?_
 obtain ⟨s35, hj, hb⟩ := bd hb
 refine RC.jn (fun (s35 : Bool) (σ : Nat → Value) (w : World) => agree σ [(2, (vb s35))] ∧ Holds E w ([] ++ Γ)) s35 ?_ ?_
 ·refine RC.region ?_
  refine mv (str p0) rfl rfl ?_
  refine RL.lens (s := p0) trivial rfl rfl un9 ?_
  refine ic ((p0.toL.length : Int)) 200 rfl rfl rfl rfl ?_
  refine mv (vb (decide ((p0.toL.length : Int) ≤ 200))) rfl rfl ?_
  rcases Bool.eq_false_or_eq_true (decide ((p0.toL.length : Int) ≤ 200)) with hg36 | hg36
  rotate_left
  ·replace hj := cF hg36 hj
   refine sk rfl (.inl (cb hg36)) rfl ?_
   refine sk rfl (.inl (cb hg36)) rfl ?_
   refine sk rfl (.inl (cb hg36)) rfl ?_
   refine sk rfl (.inl (cb hg36)) rfl ?_
   refine RL.pick (b := (decide ((p0.toL.length : Int) ≤ 200))) (v := (vb false)) trivial rfl rfl (by rw [hg36]; rfl) ?_
   refine as_ (vb false) rfl rfl ?_
   refine RL.nil ?_
   obtain rfl := oi hj
   exact ⟨rfl, ⟨rfl, trivial⟩, hw.pick 0 [] (new := []) rfl rfl (by decide) (by decide)⟩
  replace hj := cT hg36 hj
  refine RL.move (v := (str p0)) ⟨_, rfl, cb hg36⟩ rfl rfl ?_
  obtain ⟨x37, hx37, hj⟩ := bd hj
  refine RL.call ⟨_, rfl, cb hg36⟩ rfl fn46 [(str p0), (str ⟨[47]⟩)] rfl (Calls_ret (strings_Split_ok N (p0 := p0) (p1 := ⟨[47]⟩)  hw  hx37) ?_)
  rintro v38 w hw
  have hw := hw.freeze (i := 0) rfl
  obtain ⟨x39, hx39, hj⟩ := bd hj
  refine RL.call ⟨_, rfl, cb hg36⟩ rfl fn45 [v38, (.func (.func 47) #[] #[])] rfl (Calls_ret (slices_ContainsFunc_string_ok N  (i0 := 0) hw rfl ⟨47, [], rfl, fn47, fun w Γl v y0 r i hw hi hr => by obtain rfl := hw.ofSc (γ := Str) hi; exact Calls_ret (netlist_IsPath_c1_ok N (p0 := y0) hw hr) fun _ _ h => h⟩ hx39) ?_)
  rintro _ w ⟨rfl, hw⟩
  refine RL.not (b := x39) ⟨_, rfl, cb hg36⟩ rfl rfl ?_
  refine RL.pick (b := (decide ((p0.toL.length : Int) ≤ 200))) (v := (vb (!x39))) trivial rfl rfl (by rw [hg36]; rfl) ?_
  refine as_ (vb (!x39)) rfl rfl ?_
  refine RL.nil ?_
  obtain rfl := oi hj
  exact ⟨rfl, ⟨rfl, trivial⟩, hw.pick 1 [] (new := []) rfl rfl (by decide) (by decide)⟩
 rintro σ w ⟨ha, hw⟩
 obtain ⟨τ, rfl⟩ := ha.ups
 refine thenQ_n ?_
 refine RC.ret ?_
 obtain rfl := oi hb
 exact fin1 rfl rfl ⟨rfl, hw.drop 0 rfl⟩
def slices_BinarySearchFunc_Part_string_R (E : World) (Γ : List HP) (res : Int × Bool) (v : Value) (w : World) : Prop := v = .tuple #[(vi res.1), (vb res.2)] ∧ Holds E w Γ
theorem slices_BinarySearchFunc_Part_string_ok (N : Nat) {E w : World} {Γ : List HP} {i0 : Nat} {v0 : Value} {p0 : (List Part)} {p1 : Str} {v2 : Value} {p2 : Part → Str → Option Int} {res : Int × Bool} (hw : Holds E w Γ) (h0 : Γ[i0]? = some (rd v0 p0)) (h2 : Fn2 Tryz.prog E Γ v2 p2 (fun (r : Int) => Value.int .i64 r)) (hb : slices_BinarySearchFunc_Part_string N p0 p1 p2 = some res) :
    Calls Tryz.prog 77 [v0, (str p1), v2].toArray w (Ret (slices_BinarySearchFunc_Part_string_R E Γ res)) := by
 unfold slices_BinarySearchFunc_Part_string at hb
 refine enter Tryz.func77 rfl rfl (Nat.le_of_ble_eq_true rfl) ?_
 have hw := hw.dup (i := i0 + 0) h0
 refine RC.sr ?_
 refine as_ (vi 0) rfl rfl ?_
 refine as_ (vb false) rfl rfl ?_
 refine RL.ns ?_
 refine mv v0 rfl rfl ?_
 refine RL.len_rd (i := 0) (l := p0) trivial rfl hw rfl rfl un23 ?_
 refine as_ (vi (p0.length : Int)) rfl rfl ?_
 refine RL.ns ?_
 refine mv (vi (p0.length : Int)) rfl rfl ?_
 refine as_ (vi 0) rfl rfl ?_
 refine as_ (vi (p0.length : Int)) rfl rfl ?_
 refine RL.nq ?_
 obtain ⟨o59, hN, hb⟩ := bd hb
 refine RC.iter (fun (s32 : Int × Int) (σ : Nat → Value) (w : World) => agree σ [(0, v0), (1, (str p1)), (2, v2), (8, (vi (p0.length : Int))), (9, (vi s32.1)), (10, (vi s32.2))] ∧ Holds E w ([rd v0 p0] ++ Γ)) (fun (s32 : Int × Int) (σ : Nat → Value) (w : World) => agree σ [(0, v0), (1, (str p1)), (2, v2), (8, (vi (p0.length : Int))), (9, (vi s32.1))] ∧ Holds E w ([rd v0 p0] ++ Γ)) (fun (r : Empty) (_ : Nat → Value) (_ : World) => r.elim) hN ?_ ?_ ?_ ?_ 
 ·exact ⟨⟨rfl, rfl, rfl, rfl, rfl, rfl, trivial⟩, hw.pick 1 [0] (new := [rd v0 p0]) rfl rfl (by decide) (by decide)⟩
 ·intro s32 fl σ w hI hb
  obtain ⟨ha, hw⟩ := hI
  obtain ⟨τ, rfl⟩ := ha.ups
  refine RC.seq ?_
  refine RC.sr ?_
  refine mv (vi s32.1) rfl rfl ?_
  refine mv (vi s32.2) rfl rfl ?_
  refine ic (s32.1) (s32.2) rfl rfl rfl rfl ?_
  refine RL.nt ?_
  refine RC.cond (b := (decide (s32.1 < s32.2))) rfl (fun hc => ?_) (fun hc => ?_)
  rotate_left
  ·replace hb := cF hc hb
   refine RC.ex ?_
   obtain rfl := oi hb
   exact ⟨rfl, ⟨rfl, rfl, rfl, rfl, rfl, trivial⟩, hw.pick 1 [0] (new := [rd v0 p0]) rfl rfl (by decide) (by decide)⟩
  replace hb := cT hc hb
  refine RC.sn ?_
  refine RC.bs ?_
  refine mv (vi s32.1) rfl rfl ?_
  refine mv (vi s32.2) rfl rfl ?_
  refine RL.iar (a := s32.1) (b := s32.2) trivial rfl rfl rfl rfl ?_
  refine RL.conv (a := (IntKind.wrap .i64 (s32.1 + s32.2))) trivial rfl rfl ⟨_, un3⟩ un75 ?_
  refine RL.bin (v := (.int .u64 (IntKind.wrap .u64 (IntKind.wrap .i64 (s32.1 + s32.2))))) (v' := (.int .u64 1)) (u := (.int .u64 (Int.fdiv (IntKind.wrap .u64 (IntKind.wrap .i64 (s32.1 + s32.2))) 2))) trivial rfl rfl rfl (fun _ => rfl) (fun _ => rfl) ?_
  refine RL.conv (a := (Int.fdiv (IntKind.wrap .u64 (IntKind.wrap .i64 (s32.1 + s32.2))) 2)) trivial rfl rfl ⟨_, un75⟩ un3 ?_
  refine as_ (vi (IntKind.wrap .i64 (Int.fdiv (IntKind.wrap .u64 (IntKind.wrap .i64 (s32.1 + s32.2))) 2))) rfl rfl ?_
  refine RL.ns ?_
  refine mv v2 rfl rfl ?_
  refine mv v0 rfl rfl ?_
  refine mv (vi (IntKind.wrap .i64 (Int.fdiv (IntKind.wrap .u64 (IntKind.wrap .i64 (s32.1 + s32.2))) 2))) rfl rfl ?_
  obtain ⟨x43, hx43, hb⟩ := bd hb
  refine RL.ia_rd (i := 0) trivial rfl hw rfl rfl rfl sl23 hx43 fun v44 hw => ?_
  refine RL.load_pt (i := 0) (x := x43) trivial rfl hw rfl rfl ty48 fun v45 hw => ?_
  refine mv (str p1) rfl rfl ?_
  have hw := hw.sc (γ := Str) p1
  obtain ⟨x46, hx46, hb⟩ := bd hb
  refine RL.callF2 (i := 1) (j := 0) trivial rfl hw rfl h2 4 rfl rfl rfl rfl rfl hx46 fun w hw => ?_
  refine ic x46 0 rfl rfl rfl rfl ?_
  refine RL.nt ?_
  obtain ⟨s47, hj, hb⟩ := bd hb
  refine RC.jn (fun (s47 : Int × Int) (σ : Nat → Value) (w : World) => agree σ [(0, v0), (1, (str p1)), (2, v2), (8, (vi (p0.length : Int))), (9, (vi s47.1)), (10, (vi s47.2))] ∧ Holds E w ([rd v0 p0] ++ Γ)) s47 ?_ ?_
  ·refine RC.cond (b := (decide (x46 < 0))) rfl (fun hc => ?_) (fun hc => ?_)
   rotate_left
   ·replace hj := cF hc hj
    refine RC.region ?_
    refine mv (vi (IntKind.wrap .i64 (Int.fdiv (IntKind.wrap .u64 (IntKind.wrap .i64 (s32.1 + s32.2))) 2))) rfl rfl ?_
    refine as_ (vi (IntKind.wrap .i64 (Int.fdiv (IntKind.wrap .u64 (IntKind.wrap .i64 (s32.1 + s32.2))) 2))) rfl rfl ?_
    refine RL.nil ?_
    obtain rfl := oi hj
    exact ⟨rfl, ⟨rfl, rfl, rfl, rfl, rfl, rfl, trivial⟩, hw.pick 4 [3] (new := [rd v0 p0]) rfl rfl (by decide) (by decide)⟩
   replace hj := cT hc hj
   refine RC.region ?_
   refine mv (vi (IntKind.wrap .i64 (Int.fdiv (IntKind.wrap .u64 (IntKind.wrap .i64 (s32.1 + s32.2))) 2))) rfl rfl ?_
   refine RL.iar (a := (IntKind.wrap .i64 (Int.fdiv (IntKind.wrap .u64 (IntKind.wrap .i64 (s32.1 + s32.2))) 2))) (b := 1) trivial rfl rfl rfl rfl ?_
   refine as_ (vi (IntKind.wrap .i64 ((IntKind.wrap .i64 (Int.fdiv (IntKind.wrap .u64 (IntKind.wrap .i64 (s32.1 + s32.2))) 2)) + 1))) rfl rfl ?_
   refine RL.nil ?_
   obtain rfl := oi hj
   exact ⟨rfl, ⟨rfl, rfl, rfl, rfl, rfl, rfl, trivial⟩, hw.pick 4 [3] (new := [rd v0 p0]) rfl rfl (by decide) (by decide)⟩
  rintro σ w ⟨ha, hw⟩
  obtain ⟨τ, rfl⟩ := ha.ups
  refine blkQ_n ?_
  obtain rfl := oi hb
  exact ⟨rfl, ⟨rfl, rfl, rfl, rfl, rfl, rfl, trivial⟩, hw.pick 1 [0] (new := [rd v0 p0]) rfl rfl (by decide) (by decide)⟩
 ·intro r _ _ _ _
  exact r.elim
 intro s32 σ w e hJ
 subst e
 rw [Fo.cs_go] at hb
 obtain ⟨ha, hw⟩ := hJ
 obtain ⟨τ, rfl⟩ := ha.ups
 refine thenQ_n ?_
 refine RC.seq ?_
 obtain ⟨s53, hj, hb⟩ := bd hb
 refine RC.jn (fun (s53 : Bool) (σ : Nat → Value) (w : World) => agree σ [(6, (vi s32.1)), (7, (vb s53))] ∧ Holds E w ([] ++ Γ)) s53 ?_ ?_
 ·refine RC.region ?_
  refine mv (vi s32.1) rfl rfl ?_
  refine mv (vi s32.1) rfl rfl ?_
  refine mv (vi (p0.length : Int)) rfl rfl ?_
  refine ic (s32.1) ((p0.length : Int)) rfl rfl rfl rfl ?_
  refine mv (vb (decide (s32.1 < (p0.length : Int)))) rfl rfl ?_
  rcases Bool.eq_false_or_eq_true (decide (s32.1 < (p0.length : Int))) with hg54 | hg54
  rotate_left
  ·replace hj := cF hg54 hj
   refine sk rfl (.inl (cb hg54)) rfl ?_
   refine sk rfl (.inl (cb hg54)) rfl ?_
   refine sk rfl (.inl (cb hg54)) rfl ?_
   refine sk rfl (.inl (cb hg54)) rfl ?_
   refine sk rfl (.inl (cb hg54)) rfl ?_
   refine sk rfl (.inl (cb hg54)) rfl ?_
   refine sk rfl (.inl (cb hg54)) rfl ?_
   refine sk rfl (.inl (cb hg54)) rfl ?_
   refine RL.pick (b := (decide (s32.1 < (p0.length : Int)))) (v := (vb false)) trivial rfl rfl (by rw [hg54]; rfl) ?_
   refine as_ (vi s32.1) rfl rfl ?_
   refine as_ (vb false) rfl rfl ?_
   refine RL.nil ?_
   obtain rfl := oi hj
   exact ⟨rfl, ⟨rfl, rfl, trivial⟩, hw.pick 1 [] (new := []) rfl rfl (by decide) (by decide)⟩
  replace hj := cT hg54 hj
  refine RL.move (v := v2) ⟨_, rfl, cb hg54⟩ rfl rfl ?_
  refine RL.move (v := v0) ⟨_, rfl, cb hg54⟩ rfl rfl ?_
  refine RL.move (v := (vi s32.1)) ⟨_, rfl, cb hg54⟩ rfl rfl ?_
  obtain ⟨x55, hx55, hj⟩ := bd hj
  refine RL.ia_rd (i := 0) ⟨_, rfl, cb hg54⟩ rfl hw rfl rfl rfl sl23 hx55 fun v56 hw => ?_
  refine RL.load_pt (i := 0) (x := x55) ⟨_, rfl, cb hg54⟩ rfl hw rfl rfl ty48 fun v57 hw => ?_
  refine RL.move (v := (str p1)) ⟨_, rfl, cb hg54⟩ rfl rfl ?_
  have hw := hw.sc (γ := Str) p1
  obtain ⟨x58, hx58, hj⟩ := bd hj
  refine RL.callF2 (i := 1) (j := 0) ⟨_, rfl, cb hg54⟩ rfl hw rfl h2 4 rfl rfl rfl rfl rfl hx58 fun w hw => ?_
  refine RL.icmp (a := x58) (b := 0) ⟨_, rfl, cb hg54⟩ rfl rfl rfl rfl ?_
  refine RL.pick (b := (decide (s32.1 < (p0.length : Int)))) (v := (vb (x58 == 0))) trivial rfl rfl (by rw [hg54]; rfl) ?_
  refine as_ (vi s32.1) rfl rfl ?_
  refine as_ (vb (x58 == 0)) rfl rfl ?_
  refine RL.nil ?_
  obtain rfl := oi hj
  exact ⟨rfl, ⟨rfl, rfl, trivial⟩, hw.pick 4 [] (new := []) rfl rfl (by decide) (by decide)⟩
 rintro σ w ⟨ha, hw⟩
 obtain ⟨τ, rfl⟩ := ha.ups
 refine thenQ_n ?_
 refine RC.ret ?_
 obtain rfl := oi hb
 exact fin2 rfl rfl rfl ⟨rfl, hw.drop 0 rfl⟩
def netlist_partAt_c1_R (E : World) (Γ : List HP) (res : Int) (v : Value) (w : World) : Prop := v = (vi res) ∧ Holds E w Γ
theorem netlist_partAt_c1_ok (N : Nat) {E w : World} {Γ : List HP} {i0 : Nat} {v0 : Value} {p0 : Part} {p1 : Str} {res : Int} (hw : Holds E w Γ) (h0 : Γ[i0]? = some (rd v0 p0)) (hb : netlist_partAt_c1 N p0 p1 = some res) :
    Calls Tryz.prog 78 [v0, (str p1)].toArray w (Ret (netlist_partAt_c1_R E Γ res)) := by
 unfold netlist_partAt_c1 at hb
 refine enter Tryz.func78 rfl rfl (Nat.le_of_ble_eq_true rfl) ?_
 have hw := hw.dup (i := i0 + 0) h0
 refine RC.sr ?_
 refine RL.box_rd (i := 0) (v := v0) trivial rfl hw rfl rfl fun b31 w hw => ?_
 refine as_ (vi 0) rfl rfl ?_
 refine RL.ns ?_
 refine RL.fa_b trivial rfl rfl fa48_0 ?_
 refine RL.load_bfs (i := 0) (f := (fun x => x.Name)) trivial rfl hw rfl rfl fd_Part_0 ty9 ?_
 refine mv (str p1) rfl rfl ?_
 obtain ⟨x32, hx32, hb⟩ := bd hb
 refine RL.call trivial rfl fn32 [(str p0.Name), (str p1)] rfl (Calls_ret (strings_Compare_ok N (p0 := p0.Name) (p1 := p1)  hw  hx32) ?_)
 rintro _ w ⟨rfl, hw⟩
 refine as_ (vi x32) rfl rfl ?_
 refine RL.nt ?_
 refine RC.ret ?_
 obtain rfl := oi hb
 exact fin1 rfl rfl ⟨rfl, hw.drop 2 rfl⟩
def netlist_partAt_R (E : World) (Γ : List HP) (res : Int) (v : Value) (w : World) : Prop := v = (vi res) ∧ Holds E w Γ
theorem netlist_partAt_ok (N : Nat) {E w : World} {Γ : List HP} {i0 : Nat} {v0 : Value} {p0 : (List Part)} {p1 : Str} {res : Int} (hw : Holds E w Γ) (h0 : Γ[i0]? = some (rd v0 p0)) (hb : netlist_partAt N p0 p1 = some res) :
    Calls Tryz.prog 48 [v0, (str p1)].toArray w (Ret (netlist_partAt_R E Γ res)) := by
 unfold netlist_partAt at hb
 refine enter Tryz.func48 rfl rfl (Nat.le_of_ble_eq_true rfl) ?_
 have hw := hw.dup (i := i0 + 0) h0
 refine RC.sr ?_
 refine as_ (vi 0) rfl rfl ?_
 refine RL.ns ?_
 refine mv v0 rfl rfl ?_
 refine mv (str p1) rfl rfl ?_
 obtain ⟨x31, hx31, hb⟩ := bd hb
 refine RL.call trivial rfl fn77 [v0, (str p1), (.func (.func 78) #[] #[])] rfl (Calls_ret (slices_BinarySearchFunc_Part_string_ok N (p1 := p1) (i0 := 0) hw rfl ⟨78, [], rfl, fn78, fun w Γl v v' y0 y1 r i j hw hi hj hr => by obtain rfl := hw.ofSc (γ := Str) hj; exact Calls_ret (netlist_partAt_c1_ok N (p1 := y1) (i0 := i) hw hi hr) fun _ _ h => h⟩ hx31) ?_)
 rintro _ w ⟨rfl, hw⟩
 refine mv (.tuple #[(vi x31.1), (vb x31.2)]) rfl rfl ?_
 refine RL.extract (v := (vi x31.1)) trivial rfl rfl rfl ?_
 refine RL.extract (v := (vb x31.2)) trivial rfl rfl rfl ?_
 refine as_ (vi x31.1) rfl rfl ?_
 refine as_ (vb x31.2) rfl rfl ?_
 refine RL.nq ?_
 refine RC.sr ?_
 refine mv (vb x31.2) rfl rfl ?_
 refine RL.not (b := x31.2) trivial rfl rfl ?_
 refine RL.nt ?_
 refine RC.cond (b := (!x31.2)) rfl (fun hc => ?_) (fun hc => ?_)
 ·replace hb := cT hc hb
  refine RC.sr ?_
  refine as_ (vi (-1)) rfl rfl ?_
  refine RL.nt ?_
  refine RC.rt ?_
  obtain rfl := oi hb
  exact fin1 rfl rfl ⟨rfl, hw.drop 1 rfl⟩
 replace hb := cF hc hb
 refine RC.sx ?_
 refine mv (vi x31.1) rfl rfl ?_
 refine as_ (vi x31.1) rfl rfl ?_
 refine RL.nt ?_
 refine RC.ret ?_
 obtain rfl := oi hb
 exact fin1 rfl rfl ⟨rfl, hw.drop 1 rfl⟩
def slices_BinarySearchFunc_PinType_string_R (E : World) (Γ : List HP) (res : Int × Bool) (v : Value) (w : World) : Prop := v = .tuple #[(vi res.1), (vb res.2)] ∧ Holds E w Γ
theorem slices_BinarySearchFunc_PinType_string_ok (N : Nat) {E w : World} {Γ : List HP} {i0 : Nat} {v0 : Value} {p0 : (List PinType)} {p1 : Str} {v2 : Value} {p2 : PinType → Str → Option Int} {res : Int × Bool} (hw : Holds E w Γ) (h0 : Γ[i0]? = some (rd v0 p0)) (h2 : Fn2 Tryz.prog E Γ v2 p2 (fun (r : Int) => Value.int .i64 r)) (hb : slices_BinarySearchFunc_PinType_string N p0 p1 p2 = some res) :
    Calls Tryz.prog 79 [v0, (str p1), v2].toArray w (Ret (slices_BinarySearchFunc_PinType_string_R E Γ res)) := by
 unfold slices_BinarySearchFunc_PinType_string at hb
 refine enter Tryz.func79 rfl rfl (Nat.le_of_ble_eq_true rfl) ?_
 have hw := hw.dup (i := i0 + 0) h0
 refine RC.sr ?_
 refine as_ (vi 0) rfl rfl ?_
 refine as_ (vb false) rfl rfl ?_
 refine RL.ns ?_
 refine mv v0 rfl rfl ?_
 refine RL.len_rd (i := 0) (l := p0) trivial rfl hw rfl rfl un56 ?_
 refine as_ (vi (p0.length : Int)) rfl rfl ?_
 refine RL.ns ?_
 refine mv (vi (p0.length : Int)) rfl rfl ?_
 refine as_ (vi 0) rfl rfl ?_
 refine as_ (vi (p0.length : Int)) rfl rfl ?_
 refine RL.nq ?_
 obtain ⟨o59, hN, hb⟩ := bd hb
 refine RC.iter (fun (s32 : Int × Int) (σ : Nat → Value) (w : World) => agree σ [(0, v0), (1, (str p1)), (2, v2), (8, (vi (p0.length : Int))), (9, (vi s32.1)), (10, (vi s32.2))] ∧ Holds E w ([rd v0 p0] ++ Γ)) (fun (s32 : Int × Int) (σ : Nat → Value) (w : World) => agree σ [(0, v0), (1, (str p1)), (2, v2), (8, (vi (p0.length : Int))), (9, (vi s32.1))] ∧ Holds E w ([rd v0 p0] ++ Γ)) (fun (r : Empty) (_ : Nat → Value) (_ : World) => r.elim) hN ?_ ?_ ?_ ?_ 
 ·exact ⟨⟨rfl, rfl, rfl, rfl, rfl, rfl, trivial⟩, hw.pick 1 [0] (new := [rd v0 p0]) rfl rfl (by decide) (by decide)⟩
 ·intro s32 fl σ w hI hb
  obtain ⟨ha, hw⟩ := hI
  obtain ⟨τ, rfl⟩ := ha.ups
  refine RC.seq ?_
  refine RC.sr ?_
  refine mv (vi s32.1) rfl rfl ?_
  refine mv (vi s32.2) rfl rfl ?_
  refine ic (s32.1) (s32.2) rfl rfl rfl rfl ?_
  refine RL.nt ?_
  refine RC.cond (b := (decide (s32.1 < s32.2))) rfl (fun hc => ?_) (fun hc => ?_)
  rotate_left
  ·replace hb := cF hc hb
   refine RC.ex ?_
   obtain rfl := oi hb
   exact ⟨rfl, ⟨rfl, rfl, rfl, rfl, rfl, trivial⟩, hw.pick 1 [0] (new := [rd v0 p0]) rfl rfl (by decide) (by decide)⟩
  replace hb := cT hc hb
  refine RC.sn ?_
  refine RC.bs ?_
  refine mv (vi s32.1) rfl rfl ?_
  refine mv (vi s32.2) rfl rfl ?_
  refine RL.iar (a := s32.1) (b := s32.2) trivial rfl rfl rfl rfl ?_
  refine RL.conv (a := (IntKind.wrap .i64 (s32.1 + s32.2))) trivial rfl rfl ⟨_, un3⟩ un75 ?_
  refine RL.bin (v := (.int .u64 (IntKind.wrap .u64 (IntKind.wrap .i64 (s32.1 + s32.2))))) (v' := (.int .u64 1)) (u := (.int .u64 (Int.fdiv (IntKind.wrap .u64 (IntKind.wrap .i64 (s32.1 + s32.2))) 2))) trivial rfl rfl rfl (fun _ => rfl) (fun _ => rfl) ?_
  refine RL.conv (a := (Int.fdiv (IntKind.wrap .u64 (IntKind.wrap .i64 (s32.1 + s32.2))) 2)) trivial rfl rfl ⟨_, un75⟩ un3 ?_
  refine as_ (vi (IntKind.wrap .i64 (Int.fdiv (IntKind.wrap .u64 (IntKind.wrap .i64 (s32.1 + s32.2))) 2))) rfl rfl ?_
  refine RL.ns ?_
  refine mv v2 rfl rfl ?_
  refine mv v0 rfl rfl ?_
  refine mv (vi (IntKind.wrap .i64 (Int.fdiv (IntKind.wrap .u64 (IntKind.wrap .i64 (s32.1 + s32.2))) 2))) rfl rfl ?_
  obtain ⟨x43, hx43, hb⟩ := bd hb
  refine RL.ia_rd (i := 0) trivial rfl hw rfl rfl rfl sl56 hx43 fun v44 hw => ?_
  refine RL.load_pt (i := 0) (x := x43) trivial rfl hw rfl rfl ty55 fun v45 hw => ?_
  refine mv (str p1) rfl rfl ?_
  have hw := hw.sc (γ := Str) p1
  obtain ⟨x46, hx46, hb⟩ := bd hb
  refine RL.callF2 (i := 1) (j := 0) trivial rfl hw rfl h2 4 rfl rfl rfl rfl rfl hx46 fun w hw => ?_
  refine ic x46 0 rfl rfl rfl rfl ?_
  refine RL.nt ?_
  obtain ⟨s47, hj, hb⟩ := bd hb
  refine RC.jn (fun (s47 : Int × Int) (σ : Nat → Value) (w : World) => agree σ [(0, v0), (1, (str p1)), (2, v2), (8, (vi (p0.length : Int))), (9, (vi s47.1)), (10, (vi s47.2))] ∧ Holds E w ([rd v0 p0] ++ Γ)) s47 ?_ ?_
  ·refine RC.cond (b := (decide (x46 < 0))) rfl (fun hc => ?_) (fun hc => ?_)
   rotate_left
   ·replace hj := cF hc hj
    refine RC.region ?_
    refine mv (vi (IntKind.wrap .i64 (Int.fdiv (IntKind.wrap .u64 (IntKind.wrap .i64 (s32.1 + s32.2))) 2))) rfl rfl ?_
    refine as_ (vi (IntKind.wrap .i64 (Int.fdiv (IntKind.wrap .u64 (IntKind.wrap .i64 (s32.1 + s32.2))) 2))) rfl rfl ?_
    refine RL.nil ?_
    obtain rfl := oi hj
    exact ⟨rfl, ⟨rfl, rfl, rfl, rfl, rfl, rfl, trivial⟩, hw.pick 4 [3] (new := [rd v0 p0]) rfl rfl (by decide) (by decide)⟩
   replace hj := cT hc hj
   refine RC.region ?_
   refine mv (vi (IntKind.wrap .i64 (Int.fdiv (IntKind.wrap .u64 (IntKind.wrap .i64 (s32.1 + s32.2))) 2))) rfl rfl ?_
   refine RL.iar (a := (IntKind.wrap .i64 (Int.fdiv (IntKind.wrap .u64 (IntKind.wrap .i64 (s32.1 + s32.2))) 2))) (b := 1) trivial rfl rfl rfl rfl ?_
   refine as_ (vi (IntKind.wrap .i64 ((IntKind.wrap .i64 (Int.fdiv (IntKind.wrap .u64 (IntKind.wrap .i64 (s32.1 + s32.2))) 2)) + 1))) rfl rfl ?_
   refine RL.nil ?_
   obtain rfl := oi hj
   exact ⟨rfl, ⟨rfl, rfl, rfl, rfl, rfl, rfl, trivial⟩, hw.pick 4 [3] (new := [rd v0 p0]) rfl rfl (by decide) (by decide)⟩
  rintro σ w ⟨ha, hw⟩
  obtain ⟨τ, rfl⟩ := ha.ups
  refine blkQ_n ?_
  obtain rfl := oi hb
  exact ⟨rfl, ⟨rfl, rfl, rfl, rfl, rfl, rfl, trivial⟩, hw.pick 1 [0] (new := [rd v0 p0]) rfl rfl (by decide) (by decide)⟩
 ·intro r _ _ _ _
  exact r.elim
 intro s32 σ w e hJ
 subst e
 rw [Fo.cs_go] at hb
 obtain ⟨ha, hw⟩ := hJ
 obtain ⟨τ, rfl⟩ := ha.ups
 refine thenQ_n ?_
 refine RC.seq ?_
 obtain ⟨s53, hj, hb⟩ := bd hb
 refine RC.jn (fun (s53 : Bool) (σ : Nat → Value) (w : World) => agree σ [(6, (vi s32.1)), (7, (vb s53))] ∧ Holds E w ([] ++ Γ)) s53 ?_ ?_
 ·refine RC.region ?_
  refine mv (vi s32.1) rfl rfl ?_
  refine mv (vi s32.1) rfl rfl ?_
  refine mv (vi (p0.length : Int)) rfl rfl ?_
  refine ic (s32.1) ((p0.length : Int)) rfl rfl rfl rfl ?_
  refine mv (vb (decide (s32.1 < (p0.length : Int)))) rfl rfl ?_
  rcases Bool.eq_false_or_eq_true (decide (s32.1 < (p0.length : Int))) with hg54 | hg54
  rotate_left
  ·replace hj := cF hg54 hj
   refine sk rfl (.inl (cb hg54)) rfl ?_
   refine sk rfl (.inl (cb hg54)) rfl ?_
   refine sk rfl (.inl (cb hg54)) rfl ?_
   refine sk rfl (.inl (cb hg54)) rfl ?_
   refine sk rfl (.inl (cb hg54)) rfl ?_
   refine sk rfl (.inl (cb hg54)) rfl ?_
   refine sk rfl (.inl (cb hg54)) rfl ?_
   refine sk rfl (.inl (cb hg54)) rfl ?_
   refine RL.pick (b := (decide (s32.1 < (p0.length : Int)))) (v := (vb false)) trivial rfl rfl (by rw [hg54]; rfl) ?_
   refine as_ (vi s32.1) rfl rfl ?_
   refine as_ (vb false) rfl rfl ?_
   refine RL.nil ?_
   obtain rfl := oi hj
   exact ⟨rfl, ⟨rfl, rfl, trivial⟩, hw.pick 1 [] (new := []) rfl rfl (by decide) (by decide)⟩
  replace hj := cT hg54 hj
  refine RL.move (v := v2) ⟨_, rfl, cb hg54⟩ rfl rfl ?_
  refine RL.move (v := v0) ⟨_, rfl, cb hg54⟩ rfl rfl ?_
  refine RL.move (v := (vi s32.1)) ⟨_, rfl, cb hg54⟩ rfl rfl ?_
  obtain ⟨x55, hx55, hj⟩ := bd hj
  refine RL.ia_rd (i := 0) ⟨_, rfl, cb hg54⟩ rfl hw rfl rfl rfl sl56 hx55 fun v56 hw => ?_
  refine RL.load_pt (i := 0) (x := x55) ⟨_, rfl, cb hg54⟩ rfl hw rfl rfl ty55 fun v57 hw => ?_
  refine RL.move (v := (str p1)) ⟨_, rfl, cb hg54⟩ rfl rfl ?_
  have hw := hw.sc (γ := Str) p1
  obtain ⟨x58, hx58, hj⟩ := bd hj
  refine RL.callF2 (i := 1) (j := 0) ⟨_, rfl, cb hg54⟩ rfl hw rfl h2 4 rfl rfl rfl rfl rfl hx58 fun w hw => ?_
  refine RL.icmp (a := x58) (b := 0) ⟨_, rfl, cb hg54⟩ rfl rfl rfl rfl ?_
  refine RL.pick (b := (decide (s32.1 < (p0.length : Int)))) (v := (vb (x58 == 0))) trivial rfl rfl (by rw [hg54]; rfl) ?_
  refine as_ (vi s32.1) rfl rfl ?_
  refine as_ (vb (x58 == 0)) rfl rfl ?_
  refine RL.nil ?_
  obtain rfl := oi hj
  exact ⟨rfl, ⟨rfl, rfl, trivial⟩, hw.pick 4 [] (new := []) rfl rfl (by decide) (by decide)⟩
 rintro σ w ⟨ha, hw⟩
 obtain ⟨τ, rfl⟩ := ha.ups
 refine thenQ_n ?_
 refine RC.ret ?_
 obtain rfl := oi hb
 exact fin2 rfl rfl rfl ⟨rfl, hw.drop 0 rfl⟩
def netlist_PinAt_c1_R (E : World) (Γ : List HP) (res : Int) (v : Value) (w : World) : Prop := v = (vi res) ∧ Holds E w Γ
theorem netlist_PinAt_c1_ok (N : Nat) {E w : World} {Γ : List HP} {i0 : Nat} {v0 : Value} {p0 : PinType} {p1 : Str} {res : Int} (hw : Holds E w Γ) (h0 : Γ[i0]? = some (rd v0 p0)) (hb : netlist_PinAt_c1 N p0 p1 = some res) :
    Calls Tryz.prog 80 [v0, (str p1)].toArray w (Ret (netlist_PinAt_c1_R E Γ res)) := by
 unfold netlist_PinAt_c1 at hb
 refine enter Tryz.func80 rfl rfl (Nat.le_of_ble_eq_true rfl) ?_
 have hw := hw.dup (i := i0 + 0) h0
 refine RC.sr ?_
 refine RL.box_rd (i := 0) (v := v0) trivial rfl hw rfl rfl fun b31 w hw => ?_
 refine as_ (vi 0) rfl rfl ?_
 refine RL.ns ?_
 refine RL.fa_b trivial rfl rfl fa55_0 ?_
 refine RL.load_bfs (i := 0) (f := (fun x => x.Name)) trivial rfl hw rfl rfl fd_PinType_0 ty9 ?_
 refine mv (str p1) rfl rfl ?_
 obtain ⟨x32, hx32, hb⟩ := bd hb
 refine RL.call trivial rfl fn32 [(str p0.Name), (str p1)] rfl (Calls_ret (strings_Compare_ok N (p0 := p0.Name) (p1 := p1)  hw  hx32) ?_)
 rintro _ w ⟨rfl, hw⟩
 refine as_ (vi x32) rfl rfl ?_
 refine RL.nt ?_
 refine RC.ret ?_
 obtain rfl := oi hb
 exact fin1 rfl rfl ⟨rfl, hw.drop 2 rfl⟩
def netlist_PinAt_R (E : World) (Γ : List HP) (res : Int) (v : Value) (w : World) : Prop := v = (vi res) ∧ Holds E w Γ
theorem netlist_PinAt_ok (N : Nat) {E w : World} {Γ : List HP} {i0 : Nat} {v0 : Value} {p0 : PartType} {p1 : Str} {res : Int} (hw : Holds E w Γ) (h0 : Γ[i0]? = some (rd v0 p0)) (hb : netlist_PinAt N p0 p1 = some res) :
    Calls Tryz.prog 49 [v0, (str p1)].toArray w (Ret (netlist_PinAt_R E Γ res)) := by
 unfold netlist_PinAt at hb
 refine enter Tryz.func49 rfl rfl (Nat.le_of_ble_eq_true rfl) ?_
 have hw := hw.dup (i := i0 + 0) h0
 refine RC.sr ?_
 refine RL.box_rd (i := 0) (v := v0) trivial rfl hw rfl rfl fun b31 w hw => ?_
 refine as_ (vi 0) rfl rfl ?_
 refine RL.ns ?_
 refine RL.fa_b trivial rfl rfl fa58_1 ?_
 refine RL.load_bf (i := 0) (f := (fun x => x.Pins)) trivial rfl hw rfl rfl fd_PartType_1 ty56 fun v32 hw => ?_
 refine mv (str p1) rfl rfl ?_
 obtain ⟨x33, hx33, hb⟩ := bd hb
 refine RL.call trivial rfl fn79 [v32, (str p1), (.func (.func 80) #[] #[])] rfl (Calls_ret (slices_BinarySearchFunc_PinType_string_ok N (p1 := p1) (i0 := 0) hw rfl ⟨80, [], rfl, fn80, fun w Γl v v' y0 y1 r i j hw hi hj hr => by obtain rfl := hw.ofSc (γ := Str) hj; exact Calls_ret (netlist_PinAt_c1_ok N (p1 := y1) (i0 := i) hw hi hr) fun _ _ h => h⟩ hx33) ?_)
 rintro _ w ⟨rfl, hw⟩
 refine mv (.tuple #[(vi x33.1), (vb x33.2)]) rfl rfl ?_
 refine RL.extract (v := (vi x33.1)) trivial rfl rfl rfl ?_
 refine RL.extract (v := (vb x33.2)) trivial rfl rfl rfl ?_
 refine as_ (vi x33.1) rfl rfl ?_
 refine as_ (vb x33.2) rfl rfl ?_
 refine RL.nq ?_
 refine RC.sr ?_
 refine mv (vb x33.2) rfl rfl ?_
 refine RL.not (b := x33.2) trivial rfl rfl ?_
 refine RL.nt ?_
 refine RC.cond (b := (!x33.2)) rfl (fun hc => ?_) (fun hc => ?_)
 ·replace hb := cT hc hb
  refine RC.sr ?_
  refine as_ (vi (-1)) rfl rfl ?_
  refine RL.nt ?_
  refine RC.rt ?_
  obtain rfl := oi hb
  exact fin1 rfl rfl ⟨rfl, hw.drop 3 rfl⟩
 replace hb := cF hc hb
 refine RC.sx ?_
 refine mv (vi x33.1) rfl rfl ?_
 refine as_ (vi x33.1) rfl rfl ?_
 refine RL.nt ?_
 refine RC.ret ?_
 obtain rfl := oi hb
 exact fin1 rfl rfl ⟨rfl, hw.drop 3 rfl⟩
def netlist_hasPin_R (E : World) (Γ : List HP) (res : Bool) (v : Value) (w : World) : Prop := v = (vb res) ∧ Holds E w Γ
theorem netlist_hasPin_ok (N : Nat) {E w : World} {Γ : List HP} {i0 : Nat} {v0 : Value} {p0 : (List PartType)} {i1 : Nat} {v1 : Value} {p1 : (List Part)} {i2 : Nat} {v2 : Value} {p2 : Pin} {res : Bool} (hw : Holds E w Γ) (h0 : Γ[i0]? = some (rd v0 p0)) (h1 : Γ[i1]? = some (rd v1 p1)) (h2 : Γ[i2]? = some (rd v2 p2)) (hb : netlist_hasPin N p0 p1 p2 = some res) :
    Calls Tryz.prog 29 [v0, v1, v2].toArray w (Ret (netlist_hasPin_R E Γ res)) := by
 unfold netlist_hasPin at hb
 refine enter Tryz.func29 rfl rfl (Nat.le_of_ble_eq_true rfl) ?_
 have hw := hw.dup (i := i0 + 0) h0
 have hw := hw.dup (i := i1 + 1) h1
 have hw := hw.dup (i := i2 + 2) h2
 refine RC.sr ?_
 refine RL.box_rd (i := 0) (v := v2) trivial rfl hw rfl rfl fun b31 w hw => ?_
 refine as_ (vb false) rfl rfl ?_
 refine RL.ns ?_
 refine mv v1 rfl rfl ?_
 refine RL.fa_b trivial rfl rfl fa43_0 ?_
 refine RL.load_bfs (i := 0) (f := (fun x => x.Part)) trivial rfl hw rfl rfl fd_Pin_0 ty9 ?_
 obtain ⟨x32, hx32, hb⟩ := bd hb
 refine RL.call trivial rfl fn48 [v1, (str p2.Part)] rfl (Calls_ret (netlist_partAt_ok N (p1 := p2.Part) (i0 := 2) hw rfl hx32) ?_)
 rintro _ w ⟨rfl, hw⟩
 refine as_ (vi x32) rfl rfl ?_
 refine RL.nq ?_
 obtain ⟨s46, hj, hb⟩ := bd hb
 refine RC.jn (fun (s46 : Bool) (σ : Nat → Value) (w : World) => agree σ [(6, (vb s46))] ∧ Holds E w ([] ++ Γ)) s46 ?_ ?_
 ·rcases Bool.eq_false_or_eq_true (decide (x32 ≥ 0)) with hg47 | hg47
  rotate_left
  ·replace hj := cF hg47 hj
   refine RC.drw mixed rfl (fun (D : Nat → Bool) (σ : Nat → Value) (w : World) => doneV D σ [(0, 12, (vi x32)), (1, 13, (vb (decide (x32 ≥ 0)))), (2, 14, (vb (decide (x32 ≥ 0)))), (3, 15, undef), (4, 16, undef), (5, 17, undef), (6, 18, undef), (7, 19, undef), (8, 20, undef), (9, 21, undef), (10, 22, undef), (11, 23, undef), (12, 24, undef), (13, 25, undef), (14, 26, undef), (15, 27, undef), (16, 28, undef), (17, 29, (vb false)), (18, 6, (vb false))] ∧ agree σ [(0, v0), (1, v1), (5, (vp b31 0)), (7, (vi x32))] ∧ Holds E w ([bx 43 b31 p2, rd v2 p2, rd v1 p1, rd v0 p0] ++ Γ)) ?_ ⟨?_, ?_, ?_, ?_, ?_, ?_, ?_, ?_, ?_, ?_, ?_, ?_, ?_, ?_, ?_, ?_, ?_, ?_, ?_, trivial⟩ ?_
   ·have hw := hw.drew
    exact ⟨doneV.none, ⟨rfl, rfl, rfl, rfl, trivial⟩, hw⟩
   ·rintro D σ w hD hdep hcl ⟨hv, ha, hw⟩
    obtain ⟨τ, rfl⟩ := (ac (ha.at 3 rfl) az).ups
    refine mv (vi x32) rfl rfl ?_
    refine RL.nil ?_
    exact ⟨rfl, hv.put 0 rfl rfl, ha.up rfl, hw⟩
   ·rintro D σ w hD hdep hcl ⟨hv, ha, hw⟩
    obtain ⟨τ, rfl⟩ := (ac (hv.at 0 rfl (hdep.1 rfl)) az).ups
    refine ic x32 0 rfl rfl rfl rfl ?_
    refine RL.nil ?_
    exact ⟨rfl, hv.put 1 rfl rfl, ha.up rfl, hw⟩
   ·rintro D σ w hD hdep hcl ⟨hv, ha, hw⟩
    obtain ⟨τ, rfl⟩ := (ac (hv.at 1 rfl (hdep.1 rfl)) az).ups
    refine mv (vb (decide (x32 ≥ 0))) rfl rfl ?_
    refine RL.nil ?_
    exact ⟨rfl, hv.put 2 rfl rfl, ha.up rfl, hw⟩
   ·rintro D σ w hD hdep hcl ⟨hv, ha, hw⟩
    obtain ⟨τ, rfl⟩ := (ac (hv.at 2 rfl (hdep.1 rfl)) (ac (ha.at 0 rfl) az)).ups
    refine sk rfl (.inl (cb hg47)) rfl ?_
    refine RL.nil ?_
    exact ⟨rfl, hv.put 3 rfl rfl, ha.up rfl, hw⟩
   ·rintro D σ w hD hdep hcl ⟨hv, ha, hw⟩
    obtain ⟨τ, rfl⟩ := (ac (hv.at 2 rfl (hdep.1 rfl)) (ac (ha.at 0 rfl) az)).ups
    refine sk rfl (.inl (cb hg47)) rfl ?_
    refine RL.nil ?_
    exact ⟨rfl, hv.put 4 rfl rfl, ha.up rfl, hw⟩
   ·rintro D σ w hD hdep hcl ⟨hv, ha, hw⟩
    obtain ⟨τ, rfl⟩ := (ac (hv.at 2 rfl (hdep.1 rfl)) (ac (ha.at 1 rfl) az)).ups
    refine sk rfl (.inl (cb hg47)) rfl ?_
    refine RL.nil ?_
    exact ⟨rfl, hv.put 5 rfl rfl, ha.up rfl, hw⟩
   ·rintro D σ w hD hdep hcl ⟨hv, ha, hw⟩
    obtain ⟨τ, rfl⟩ := (ac (hv.at 2 rfl (hdep.1 rfl)) (ac (ha.at 3 rfl) az)).ups
    refine sk rfl (.inl (cb hg47)) rfl ?_
    refine RL.nil ?_
    exact ⟨rfl, hv.put 6 rfl rfl, ha.up rfl, hw⟩
   ·rintro D σ w hD hdep hcl ⟨hv, ha, hw⟩
    obtain ⟨τ, rfl⟩ := (ac (hv.at 2 rfl (hdep.2.2.1 rfl)) (ac (hv.at 5 rfl (hdep.1 rfl)) (ac (hv.at 6 rfl (hdep.2.1 rfl)) az))).ups
    refine sk rfl (.inl (cb hg47)) rfl ?_
    refine RL.nil ?_
    exact ⟨rfl, hv.put 7 rfl rfl, ha.up rfl, hw⟩
   ·rintro D σ w hD hdep hcl ⟨hv, ha, hw⟩
    obtain ⟨τ, rfl⟩ := (ac (hv.at 2 rfl (hdep.2.1 rfl)) (ac (hv.at 7 rfl (hdep.1 rfl)) az)).ups
    refine sk rfl (.inl (cb hg47)) rfl ?_
    refine RL.nil ?_
    exact ⟨rfl, hv.put 8 rfl rfl, ha.up rfl, hw⟩
   ·rintro D σ w hD hdep hcl ⟨hv, ha, hw⟩
    obtain ⟨τ, rfl⟩ := (ac (hv.at 2 rfl (hdep.2.1 rfl)) (ac (hv.at 8 rfl (hdep.1 rfl)) az)).ups
    refine sk rfl (.inl (cb hg47)) rfl ?_
    refine RL.nil ?_
    exact ⟨rfl, hv.put 9 rfl rfl, ha.up rfl, hw⟩
   ·rintro D σ w hD hdep hcl ⟨hv, ha, hw⟩
    obtain ⟨τ, rfl⟩ := (ac (hv.at 2 rfl (hdep.2.2.1 rfl)) (ac (hv.at 4 rfl (hdep.1 rfl)) (ac (hv.at 9 rfl (hdep.2.1 rfl)) az))).ups
    refine sk rfl (.inl (cb hg47)) rfl ?_
    refine RL.nil ?_
    exact ⟨rfl, hv.put 10 rfl rfl, ha.up rfl, hw⟩
   ·rintro D σ w hD hdep hcl ⟨hv, ha, hw⟩
    obtain ⟨τ, rfl⟩ := (ac (hv.at 2 rfl (hdep.2.2.1 rfl)) (ac (hv.at 3 rfl (hdep.1 rfl)) (ac (hv.at 10 rfl (hdep.2.1 rfl)) az))).ups
    refine sk rfl (.inl (cb hg47)) rfl ?_
    refine RL.nil ?_
    exact ⟨rfl, hv.put 11 rfl rfl, ha.up rfl, hw⟩
   ·rintro D σ w hD hdep hcl ⟨hv, ha, hw⟩
    obtain ⟨τ, rfl⟩ := (ac (hv.at 2 rfl (hdep.2.1 rfl)) (ac (hv.at 11 rfl (hdep.1 rfl)) az)).ups
    refine sk rfl (.inl (cb hg47)) rfl ?_
    refine RL.nil ?_
    exact ⟨rfl, hv.put 12 rfl rfl, ha.up rfl, hw⟩
   ·rintro D σ w hD hdep hcl ⟨hv, ha, hw⟩
    obtain ⟨τ, rfl⟩ := (ac (hv.at 2 rfl (hdep.1 rfl)) (ac (ha.at 2 rfl) az)).ups
    refine sk rfl (.inl (cb hg47)) rfl ?_
    refine RL.nil ?_
    exact ⟨rfl, hv.put 13 rfl rfl, ha.up rfl, hw⟩
   ·rintro D σ w hD hdep hcl ⟨hv, ha, hw⟩
    obtain ⟨τ, rfl⟩ := (ac (hv.at 2 rfl (hdep.2.1 rfl)) (ac (hv.at 13 rfl (hdep.1 rfl)) az)).ups
    refine sk rfl (.inl (cb hg47)) rfl ?_
    refine RL.nil ?_
    exact ⟨rfl, hv.put 14 rfl rfl, ha.up rfl, hw⟩
   ·rintro D σ w hD hdep hcl ⟨hv, ha, hw⟩
    obtain ⟨τ, rfl⟩ := (ac (hv.at 2 rfl (hdep.2.2.2.1 rfl)) (ac (hv.at 12 rfl (hdep.1 rfl)) (ac (hv.at 14 rfl (hdep.2.1 rfl)) az))).ups
    refine sk rfl (.inl (cb hg47)) rfl ?_
    refine RL.nil ?_
    exact ⟨rfl, hv.put 15 rfl rfl, ha.up rfl, hw⟩
   ·rintro D σ w hD hdep hcl ⟨hv, ha, hw⟩
    obtain ⟨τ, rfl⟩ := (ac (hv.at 2 rfl (hdep.2.1 rfl)) (ac (hv.at 15 rfl (hdep.1 rfl)) az)).ups
    refine sk rfl (.inl (cb hg47)) rfl ?_
    refine RL.nil ?_
    exact ⟨rfl, hv.put 16 rfl rfl, ha.up rfl, hw⟩
   ·rintro D σ w hD hdep hcl ⟨hv, ha, hw⟩
    obtain ⟨τ, rfl⟩ := (ac (hv.at 2 rfl (hdep.1 rfl)) (ac (hv.at 16 rfl (hdep.2.1 rfl)) az)).ups
    refine RL.pick (b := (decide (x32 ≥ 0))) (v := (vb false)) trivial rfl rfl (by rw [hg47]; rfl) ?_
    refine RL.nil ?_
    exact ⟨rfl, hv.put 17 rfl rfl, ha.up rfl, hw⟩
   ·rintro D σ w hD hdep hcl ⟨hv, ha, hw⟩
    obtain ⟨τ, rfl⟩ := (ac (hv.at 17 rfl (hdep.1 rfl)) az).ups
    refine as_ (vb false) rfl rfl ?_
    refine RL.nil ?_
    exact ⟨rfl, hv.put 18 rfl rfl, ha.up rfl, hw⟩
   rintro D σ w hall ⟨hv, ha, hw⟩
   obtain ⟨τ, rfl⟩ := (ac (hv.at 18 rfl (hall 18 (by decide))) (ac (ha.at 0 rfl) (ac (ha.at 1 rfl) (ac (ha.at 2 rfl) (ac (ha.at 3 rfl) az))))).ups
   obtain rfl := oi hj
   exact ⟨rfl, ⟨rfl, trivial⟩, hw.pick 4 [] (new := []) rfl rfl (by decide) (by decide)⟩
  replace hj := cT hg47 hj
  obtain ⟨x48, hx48, hj⟩ := bd hj
  obtain ⟨x51, hx51, hj⟩ := bd hj
  obtain ⟨x52, hx52, hj⟩ := bd hj
  obtain ⟨x55, hx55, hj⟩ := bd hj
  refine RC.drw mixed rfl (fun (D : Nat → Bool) (σ : Nat → Value) (w : World) => ∃ (v49 : Value) (v50 : Value) (v53 : Value) (v54 : Value), doneV D σ [(0, 12, (vi x32)), (1, 13, (vb (decide (x32 ≥ 0)))), (2, 14, (vb (decide (x32 ≥ 0)))), (3, 15, v0), (4, 16, v0), (5, 17, v1), (6, 18, (vi x32)), (7, 19, v49), (8, 20, v50), (9, 21, (str x48.Type_)), (10, 22, (vi x51)), (11, 23, v53), (12, 24, v54), (13, 25, (vp b31 1)), (14, 26, (str p2.Pin)), (15, 27, (vi x55)), (16, 28, (vb (decide (x55 ≥ 0)))), (17, 29, (vb (decide (x55 ≥ 0)))), (18, 6, (vb (decide (x55 ≥ 0))))] ∧ agree σ [(0, v0), (1, v1), (5, (vp b31 0)), (7, (vi x32))] ∧ Holds E w ([bif D 7 then (pt v49 x48) else junk, bif D 8 then (pt v50 x48.Type_) else junk, bif D 11 then (pt v53 x52) else junk, bif D 12 then (rd v54 x52) else junk, bx 43 b31 p2, rd v2 p2, rd v1 p1, rd v0 p0] ++ Γ)) ?_ ⟨?_, ?_, ?_, ?_, ?_, ?_, ?_, ?_, ?_, ?_, ?_, ?_, ?_, ?_, ?_, ?_, ?_, ?_, ?_, trivial⟩ ?_
  ·have hw := hw.drew
   have hw := hw.junk
   have hw := hw.junk
   have hw := hw.junk
   have hw := hw.junk
   exact ⟨undef, undef, undef, undef, doneV.none, ⟨rfl, rfl, rfl, rfl, trivial⟩, hw⟩
  ·rintro D σ w hD hdep hcl ⟨v49, v50, v53, v54, hv, ha, hw⟩
   obtain ⟨τ, rfl⟩ := (ac (ha.at 3 rfl) az).ups
   refine mv (vi x32) rfl rfl ?_
   refine RL.nil ?_
   exact ⟨rfl, v49, v50, v53, v54, hv.put 0 rfl rfl, ha.up rfl, hw⟩
  ·rintro D σ w hD hdep hcl ⟨v49, v50, v53, v54, hv, ha, hw⟩
   obtain ⟨τ, rfl⟩ := (ac (hv.at 0 rfl (hdep.1 rfl)) az).ups
   refine ic x32 0 rfl rfl rfl rfl ?_
   refine RL.nil ?_
   exact ⟨rfl, v49, v50, v53, v54, hv.put 1 rfl rfl, ha.up rfl, hw⟩
  ·rintro D σ w hD hdep hcl ⟨v49, v50, v53, v54, hv, ha, hw⟩
   obtain ⟨τ, rfl⟩ := (ac (hv.at 1 rfl (hdep.1 rfl)) az).ups
   refine mv (vb (decide (x32 ≥ 0))) rfl rfl ?_
   refine RL.nil ?_
   exact ⟨rfl, v49, v50, v53, v54, hv.put 2 rfl rfl, ha.up rfl, hw⟩
  ·rintro D σ w hD hdep hcl ⟨v49, v50, v53, v54, hv, ha, hw⟩
   obtain ⟨τ, rfl⟩ := (ac (hv.at 2 rfl (hdep.1 rfl)) (ac (ha.at 0 rfl) az)).ups
   refine RL.move (v := v0) ⟨_, rfl, cb hg47⟩ rfl rfl ?_
   refine RL.nil ?_
   exact ⟨rfl, v49, v50, v53, v54, hv.put 3 rfl rfl, ha.up rfl, hw⟩
  ·rintro D σ w hD hdep hcl ⟨v49, v50, v53, v54, hv, ha, hw⟩
   obtain ⟨τ, rfl⟩ := (ac (hv.at 2 rfl (hdep.1 rfl)) (ac (ha.at 0 rfl) az)).ups
   refine RL.move (v := v0) ⟨_, rfl, cb hg47⟩ rfl rfl ?_
   refine RL.nil ?_
   exact ⟨rfl, v49, v50, v53, v54, hv.put 4 rfl rfl, ha.up rfl, hw⟩
  ·rintro D σ w hD hdep hcl ⟨v49, v50, v53, v54, hv, ha, hw⟩
   obtain ⟨τ, rfl⟩ := (ac (hv.at 2 rfl (hdep.1 rfl)) (ac (ha.at 1 rfl) az)).ups
   refine RL.move (v := v1) ⟨_, rfl, cb hg47⟩ rfl rfl ?_
   refine RL.nil ?_
   exact ⟨rfl, v49, v50, v53, v54, hv.put 5 rfl rfl, ha.up rfl, hw⟩
  ·rintro D σ w hD hdep hcl ⟨v49, v50, v53, v54, hv, ha, hw⟩
   obtain ⟨τ, rfl⟩ := (ac (hv.at 2 rfl (hdep.1 rfl)) (ac (ha.at 3 rfl) az)).ups
   refine RL.move (v := (vi x32)) ⟨_, rfl, cb hg47⟩ rfl rfl ?_
   refine RL.nil ?_
   exact ⟨rfl, v49, v50, v53, v54, hv.put 6 rfl rfl, ha.up rfl, hw⟩
  ·rintro D σ w hD hdep hcl ⟨v49, v50, v53, v54, hv, ha, hw⟩
   obtain ⟨τ, rfl⟩ := (ac (hv.at 2 rfl (hdep.2.2.1 rfl)) (ac (hv.at 5 rfl (hdep.1 rfl)) (ac (hv.at 6 rfl (hdep.2.1 rfl)) az))).ups
   have hw := hw.selF (i := 0) rfl hD
   refine RL.ia_rd (i := 6) ⟨_, rfl, cb hg47⟩ rfl hw rfl rfl rfl sl23 hx48 fun v56 hw => ?_
   have hw := hw.pick 9 [0, 2, 3, 4, 5, 6, 7, 8] (new := [pt v56 x48, bif D 8 then (pt v50 x48.Type_) else junk, bif D 11 then (pt v53 x52) else junk, bif D 12 then (rd v54 x52) else junk, bx 43 b31 p2, rd v2 p2, rd v1 p1, rd v0 p0]) rfl rfl (by decide) (by decide)
   have hw := hw.altT (i := 0) (b := true) rfl rfl (junk)
   refine RL.nil ?_
   exact ⟨rfl, v56, v50, v53, v54, hv.put 7 rfl rfl, ha.up rfl, hw⟩
  ·rintro D σ w hD hdep hcl ⟨v49, v50, v53, v54, hv, ha, hw⟩
   obtain ⟨τ, rfl⟩ := (ac (hv.at 2 rfl (hdep.2.1 rfl)) (ac (hv.at 7 rfl (hdep.1 rfl)) az)).ups
   have hw := hw.selT (i := 0) rfl (hdep.1 rfl)
   have hw := hw.selF (i := 1) rfl hD
   refine RL.fa_pt (i := 0) (f := fun (x : Part) => x.Type_) ⟨_, rfl, cb hg47⟩ rfl hw rfl rfl fa48_1 fd_Part_1 fun v57 hw => ?_
   have hw := hw.pick 9 [1, 0, 3, 4, 5, 6, 7, 8] (new := [pt v49 x48, pt v57 x48.Type_, bif D 11 then (pt v53 x52) else junk, bif D 12 then (rd v54 x52) else junk, bx 43 b31 p2, rd v2 p2, rd v1 p1, rd v0 p0]) rfl rfl (by decide) (by decide)
   have hw := hw.altT (i := 0) (b := D 7) rfl (hdep.1 rfl) (junk)
   have hw := hw.altT (i := 1) (b := true) rfl rfl (junk)
   refine RL.nil ?_
   exact ⟨rfl, v49, v57, v53, v54, hv.put 8 rfl rfl, ha.up rfl, hw⟩
  ·rintro D σ w hD hdep hcl ⟨v49, v50, v53, v54, hv, ha, hw⟩
   obtain ⟨τ, rfl⟩ := (ac (hv.at 2 rfl (hdep.2.1 rfl)) (ac (hv.at 8 rfl (hdep.1 rfl)) az)).ups
   have hw := hw.selT (i := 1) rfl (hdep.1 rfl)
   refine RL.load_pts (i := 1) (y := x48.Type_) ⟨_, rfl, cb hg47⟩ rfl hw rfl rfl ty9 ?_
   have hw := hw.altT (i := 1) (b := D 8) rfl (hdep.1 rfl) (junk)
   refine RL.nil ?_
   exact ⟨rfl, v49, v50, v53, v54, hv.put 9 rfl rfl, ha.up rfl, hw⟩
  ·rintro D σ w hD hdep hcl ⟨v49, v50, v53, v54, hv, ha, hw⟩
   obtain ⟨τ, rfl⟩ := (ac (hv.at 2 rfl (hdep.2.2.1 rfl)) (ac (hv.at 4 rfl (hdep.1 rfl)) (ac (hv.at 9 rfl (hdep.2.1 rfl)) az))).ups
   refine RL.call ⟨_, rfl, cb hg47⟩ rfl fn44 [v0, (str x48.Type_)] rfl (Calls_ret (netlist_TypeAt_ok N (p1 := x48.Type_) (i0 := 7) hw rfl hx51) ?_)
   rintro _ w ⟨rfl, hw⟩
   refine RL.nil ?_
   exact ⟨rfl, v49, v50, v53, v54, hv.put 10 rfl rfl, ha.up rfl, hw⟩
  ·rintro D σ w hD hdep hcl ⟨v49, v50, v53, v54, hv, ha, hw⟩
   obtain ⟨τ, rfl⟩ := (ac (hv.at 2 rfl (hdep.2.2.1 rfl)) (ac (hv.at 3 rfl (hdep.1 rfl)) (ac (hv.at 10 rfl (hdep.2.1 rfl)) az))).ups
   have hw := hw.selF (i := 2) rfl hD
   refine RL.ia_rd (i := 7) ⟨_, rfl, cb hg47⟩ rfl hw rfl rfl rfl sl22 hx52 fun v58 hw => ?_
   have hw := hw.pick 9 [1, 2, 0, 4, 5, 6, 7, 8] (new := [bif D 7 then (pt v49 x48) else junk, bif D 8 then (pt v50 x48.Type_) else junk, pt v58 x52, bif D 12 then (rd v54 x52) else junk, bx 43 b31 p2, rd v2 p2, rd v1 p1, rd v0 p0]) rfl rfl (by decide) (by decide)
   have hw := hw.altT (i := 2) (b := true) rfl rfl (junk)
   refine RL.nil ?_
   exact ⟨rfl, v49, v50, v58, v54, hv.put 11 rfl rfl, ha.up rfl, hw⟩
  ·rintro D σ w hD hdep hcl ⟨v49, v50, v53, v54, hv, ha, hw⟩
   obtain ⟨τ, rfl⟩ := (ac (hv.at 2 rfl (hdep.2.1 rfl)) (ac (hv.at 11 rfl (hdep.1 rfl)) az)).ups
   have hw := hw.selT (i := 2) rfl (hdep.1 rfl)
   have hw := hw.selF (i := 3) rfl hD
   refine RL.load_pt (i := 2) (x := x52) ⟨_, rfl, cb hg47⟩ rfl hw rfl rfl ty58 fun v59 hw => ?_
   have hw := hw.pick 9 [1, 2, 3, 0, 5, 6, 7, 8] (new := [bif D 7 then (pt v49 x48) else junk, bif D 8 then (pt v50 x48.Type_) else junk, pt v53 x52, rd v59 x52, bx 43 b31 p2, rd v2 p2, rd v1 p1, rd v0 p0]) rfl rfl (by decide) (by decide)
   have hw := hw.altT (i := 2) (b := D 11) rfl (hdep.1 rfl) (junk)
   have hw := hw.altT (i := 3) (b := true) rfl rfl (junk)
   refine RL.nil ?_
   exact ⟨rfl, v49, v50, v53, v59, hv.put 12 rfl rfl, ha.up rfl, hw⟩
  ·rintro D σ w hD hdep hcl ⟨v49, v50, v53, v54, hv, ha, hw⟩
   obtain ⟨τ, rfl⟩ := (ac (hv.at 2 rfl (hdep.1 rfl)) (ac (ha.at 2 rfl) az)).ups
   refine RL.fa_b ⟨_, rfl, cb hg47⟩ rfl rfl fa43_1 ?_
   refine RL.nil ?_
   exact ⟨rfl, v49, v50, v53, v54, hv.put 13 rfl rfl, ha.up rfl, hw⟩
  ·rintro D σ w hD hdep hcl ⟨v49, v50, v53, v54, hv, ha, hw⟩
   obtain ⟨τ, rfl⟩ := (ac (hv.at 2 rfl (hdep.2.1 rfl)) (ac (hv.at 13 rfl (hdep.1 rfl)) az)).ups
   refine RL.load_bfs (i := 4) (f := (fun x => x.Pin)) ⟨_, rfl, cb hg47⟩ rfl hw rfl rfl fd_Pin_1 ty9 ?_
   refine RL.nil ?_
   exact ⟨rfl, v49, v50, v53, v54, hv.put 14 rfl rfl, ha.up rfl, hw⟩
  ·rintro D σ w hD hdep hcl ⟨v49, v50, v53, v54, hv, ha, hw⟩
   obtain ⟨τ, rfl⟩ := (ac (hv.at 2 rfl (hdep.2.2.2.1 rfl)) (ac (hv.at 12 rfl (hdep.1 rfl)) (ac (hv.at 14 rfl (hdep.2.1 rfl)) az))).ups
   have hw := hw.selT (i := 3) rfl (hdep.1 rfl)
   refine RL.call ⟨_, rfl, cb hg47⟩ rfl fn49 [v54, (str p2.Pin)] rfl (Calls_ret (netlist_PinAt_ok N (p1 := p2.Pin) (i0 := 3) hw rfl hx55) ?_)
   rintro _ w ⟨rfl, hw⟩
   have hw := hw.altT (i := 3) (b := D 12) rfl (hdep.1 rfl) (junk)
   refine RL.nil ?_
   exact ⟨rfl, v49, v50, v53, v54, hv.put 15 rfl rfl, ha.up rfl, hw⟩
  ·rintro D σ w hD hdep hcl ⟨v49, v50, v53, v54, hv, ha, hw⟩
   obtain ⟨τ, rfl⟩ := (ac (hv.at 2 rfl (hdep.2.1 rfl)) (ac (hv.at 15 rfl (hdep.1 rfl)) az)).ups
   refine RL.icmp (a := x55) (b := 0) ⟨_, rfl, cb hg47⟩ rfl rfl rfl rfl ?_
   refine RL.nil ?_
   exact ⟨rfl, v49, v50, v53, v54, hv.put 16 rfl rfl, ha.up rfl, hw⟩
  ·rintro D σ w hD hdep hcl ⟨v49, v50, v53, v54, hv, ha, hw⟩
   obtain ⟨τ, rfl⟩ := (ac (hv.at 2 rfl (hdep.1 rfl)) (ac (hv.at 16 rfl (hdep.2.1 rfl)) az)).ups
   refine RL.pick (b := (decide (x32 ≥ 0))) (v := (vb (decide (x55 ≥ 0)))) trivial rfl rfl (by rw [hg47]; rfl) ?_
   refine RL.nil ?_
   exact ⟨rfl, v49, v50, v53, v54, hv.put 17 rfl rfl, ha.up rfl, hw⟩
  ·rintro D σ w hD hdep hcl ⟨v49, v50, v53, v54, hv, ha, hw⟩
   obtain ⟨τ, rfl⟩ := (ac (hv.at 17 rfl (hdep.1 rfl)) az).ups
   refine as_ (vb (decide (x55 ≥ 0))) rfl rfl ?_
   refine RL.nil ?_
   exact ⟨rfl, v49, v50, v53, v54, hv.put 18 rfl rfl, ha.up rfl, hw⟩
  rintro D σ w hall ⟨v49, v50, v53, v54, hv, ha, hw⟩
  rw [hall 7 (by decide), hall 8 (by decide), hall 11 (by decide), hall 12 (by decide)] at hw
  obtain ⟨τ, rfl⟩ := (ac (hv.at 18 rfl (hall 18 (by decide))) (ac (ha.at 0 rfl) (ac (ha.at 1 rfl) (ac (ha.at 2 rfl) (ac (ha.at 3 rfl) az))))).ups
  obtain rfl := oi hj
  exact ⟨rfl, ⟨rfl, trivial⟩, hw.pick 8 [] (new := []) rfl rfl (by decide) (by decide)⟩
 rintro σ w ⟨ha, hw⟩
 obtain ⟨τ, rfl⟩ := ha.ups
 refine thenQ_n ?_
 refine RC.ret ?_
 obtain rfl := oi hb
 exact fin1 rfl rfl ⟨rfl, hw.drop 0 rfl⟩
def netlist_CheckList_c1_R (E : World) (Γ : List HP) (res : Bool) (v : Value) (w : World) : Prop := v = (vb res) ∧ Holds E w Γ
theorem netlist_CheckList_c1_ok (N : Nat) {E w : World} {Γ : List HP} {i0 : Nat} {v0 : Value} {p0 : Pin} {i1 : Nat} {v1 : Value} {p1 : (List PartType)} {i2 : Nat} {v2 : Value} {p2 : Netlist} {res : Bool} (hw : Holds E w Γ) (h0 : Γ[i0]? = some (rd v0 p0)) (h1 : Γ[i1]? = some (pt v1 p1)) (h2 : Γ[i2]? = some (pt v2 p2)) (hb : netlist_CheckList_c1 N p0 p1 p2 = some res) :
    Calls Tryz.prog 28 [v0, v1, v2].toArray w (Ret (netlist_CheckList_c1_R E Γ res)) := by
 unfold netlist_CheckList_c1 at hb
 refine enter Tryz.func28 rfl rfl (Nat.le_of_ble_eq_true rfl) ?_
 have hw := hw.dup (i := i0 + 0) h0
 have hw := hw.dup_pt (i := i1 + 1) h1
 have hw := hw.dup_pt (i := i2 + 2) h2
 refine RC.sr ?_
 refine RL.box_rd (i := 2) (v := v0) trivial rfl hw rfl rfl fun b31 w hw => ?_
 refine as_ (vb false) rfl rfl ?_
 refine RL.ns ?_
 refine RL.load_pt (i := 2) (x := p1) trivial rfl hw rfl rfl ty22 fun v32 hw => ?_
 refine RL.fa_pt (i := 2) (f := fun (x : Netlist) => x.Parts) trivial rfl hw rfl rfl fa26_0 fd_Netlist_0 fun v33 hw => ?_
 refine RL.load_pt (i := 0) (x := p2.Parts) trivial rfl hw rfl rfl ty23 fun v34 hw => ?_
 refine RL.load_bf (i := 3) (f := (fun x => x)) trivial rfl hw rfl rfl Fd.self ty43 fun v35 hw => ?_
 obtain ⟨x36, hx36, hb⟩ := bd hb
 refine RL.call trivial rfl fn29 [v32, v34, v35] rfl (Calls_ret (netlist_hasPin_ok N  (i0 := 3) (i1 := 1) (i2 := 0) hw rfl rfl rfl hx36) ?_)
 rintro _ w ⟨rfl, hw⟩
 refine as_ (vb x36) rfl rfl ?_
 refine RL.nt ?_
 refine RC.ret ?_
 obtain rfl := oi hb
 exact fin1 rfl rfl ⟨rfl, hw.drop 8 rfl⟩
def netlist_ComparePins_R (E : World) (Γ : List HP) (res : Int) (v : Value) (w : World) : Prop := v = (vi res) ∧ Holds E w Γ
theorem netlist_ComparePins_ok (N : Nat) {E w : World} {Γ : List HP} {i0 : Nat} {v0 : Value} {p0 : Pin} {i1 : Nat} {v1 : Value} {p1 : Pin} {res : Int} (hw : Holds E w Γ) (h0 : Γ[i0]? = some (rd v0 p0)) (h1 : Γ[i1]? = some (rd v1 p1)) (hb : netlist_ComparePins N p0 p1 = some res) :
    Calls Tryz.prog 12 [v0, v1].toArray w (Ret (netlist_ComparePins_R E Γ res)) := by
 unfold netlist_ComparePins at hb
 refine enter Tryz.func12 rfl rfl (Nat.le_of_ble_eq_true rfl) ?_
 have hw := hw.dup (i := i0 + 0) h0
 have hw := hw.dup (i := i1 + 1) h1
 refine RC.sr ?_
 refine RL.box_rd (i := 1) (v := v0) trivial rfl hw rfl rfl fun b31 w hw => ?_
 refine RL.box_rd (i := 1) (v := v1) trivial rfl hw rfl rfl fun b32 w hw => ?_
 refine as_ (vi 0) rfl rfl ?_
 refine RL.nq ?_
 refine RC.sr ?_
 refine RL.fa_b trivial rfl rfl fa43_0 ?_
 refine RL.load_bfs (i := 1) (f := (fun x => x.Part)) trivial rfl hw rfl rfl fd_Pin_0 ty9 ?_
 refine RL.fa_b trivial rfl rfl fa43_0 ?_
 refine RL.load_bfs (i := 0) (f := (fun x => x.Part)) trivial rfl hw rfl rfl fd_Pin_0 ty9 ?_
 obtain ⟨x33, hx33, hb⟩ := bd hb
 refine RL.call trivial rfl fn32 [(str p0.Part), (str p1.Part)] rfl (Calls_ret (strings_Compare_ok N (p0 := p0.Part) (p1 := p1.Part)  hw  hx33) ?_)
 rintro _ w ⟨rfl, hw⟩
 refine as_ (vi x33) rfl rfl ?_
 refine RL.ns ?_
 refine mv (vi x33) rfl rfl ?_
 refine ic x33 0 rfl rfl rfl rfl ?_
 refine RL.nt ?_
 refine RC.cond (b := (x33 != 0)) rfl (fun hc => ?_) (fun hc => ?_)
 ·replace hb := cT hc hb
  refine RC.sr ?_
  refine mv (vi x33) rfl rfl ?_
  refine as_ (vi x33) rfl rfl ?_
  refine RL.nt ?_
  refine RC.rt ?_
  obtain rfl := oi hb
  exact fin1 rfl rfl ⟨rfl, hw.drop 4 rfl⟩
 replace hb := cF hc hb
 refine RC.sx ?_
 refine RL.fa_b trivial rfl rfl fa43_1 ?_
 refine RL.load_bfs (i := 1) (f := (fun x => x.Pin)) trivial rfl hw rfl rfl fd_Pin_1 ty9 ?_
 refine RL.fa_b trivial rfl rfl fa43_1 ?_
 refine RL.load_bfs (i := 0) (f := (fun x => x.Pin)) trivial rfl hw rfl rfl fd_Pin_1 ty9 ?_
 obtain ⟨x34, hx34, hb⟩ := bd hb
 refine RL.call trivial rfl fn32 [(str p0.Pin), (str p1.Pin)] rfl (Calls_ret (strings_Compare_ok N (p0 := p0.Pin) (p1 := p1.Pin)  hw  hx34) ?_)
 rintro _ w ⟨rfl, hw⟩
 refine as_ (vi x34) rfl rfl ?_
 refine RL.nt ?_
 refine RC.ret ?_
 obtain rfl := oi hb
 exact fin1 rfl rfl ⟨rfl, hw.drop 4 rfl⟩
def netlist_checkNetPins_R (E : World) (Γ : List HP) (v2 : Value) (res : Int × (List (Pin × Bool))) (v : Value) (w : World) : Prop := v = (vi res.1) ∧ Holds E w (mp v2 res.2 :: Γ)
def netlist_checkNetPins_K (E : World) (Γ : List HP) (v2 : Value) (r : Int × (List (Pin × Bool))) (σ : Nat → Value) (w : World) : Prop := finQ Tryz.prog 53 Tryz.f27 (netlist_checkNetPins_R E Γ v2 r) .ret σ w
theorem netlist_checkNetPins_ok (N : Nat) {E w : World} {Γ : List HP} {i0 : Nat} {v0 : Value} {p0 : (List Pin)} {v1 : Value} {p1 : Pin → Option Bool} {v2 : Value} {p2 : (List (Pin × Bool))} {res : Int × (List (Pin × Bool))} (hw : Holds E w (mp v2 p2 :: Γ)) (h0 : Γ[i0]? = some (rd v0 p0)) (h1 : Fn1 Tryz.prog E Γ v1 p1 (fun (r : Bool) => Value.bool r)) (hb : netlist_checkNetPins N p0 p1 p2 = some res) :
    Calls Tryz.prog 27 [v0, v1, v2].toArray w (Ret (netlist_checkNetPins_R E Γ v2 res)) := by
 unfold netlist_checkNetPins at hb
 refine enter Tryz.func27 rfl rfl (Nat.le_of_ble_eq_true rfl) ?_
 have hw := hw.dup (i := i0 + 1) h0
 refine RC.sr ?_
 refine as_ (vi 0) rfl rfl ?_
 refine RL.nq ?_
 refine RC.sr ?_
 refine mv v0 rfl rfl ?_
 refine RL.len_rd (i := 0) (l := p0) trivial rfl hw rfl rfl un35 ?_
 refine ic ((p0.length : Int)) 500 rfl rfl rfl rfl ?_
 refine RL.nt ?_
 refine RC.cond (b := (decide ((p0.length : Int) > 500))) rfl (fun hc => ?_) (fun hc => ?_)
 ·replace hb := cT hc hb
  refine RC.sr ?_
  refine as_ (vi 2) rfl rfl ?_
  refine RL.nt ?_
  refine RC.rt ?_
  obtain rfl := oi hb
  exact fin1 rfl rfl ⟨rfl, hw.pick 2 [1] (new := [mp v2 p2]) rfl rfl (by decide) (by decide)⟩
 replace hb := cF hc hb
 refine RC.ss ?_
 refine RC.sr ?_
 refine mv v0 rfl rfl ?_
 refine RL.len_rd (i := 0) (l := p0) trivial rfl hw rfl rfl un35 ?_
 refine mv (vi 0) rfl rfl ?_
 refine RL.nt ?_
 obtain ⟨o147, hN, hb⟩ := bd hb
 refine RC.range (fun (k31 : Nat) (s32 : Unit) (σ : Nat → Value) (w : World) => agree σ [(0, v0), (1, v1), (2, v2), (14, v0), (15, (vi (p0.length : Int))), (16, (vi (k31 : Int)))] ∧ Holds E w ([rd v0 p0, mp v2 p2] ++ Γ)) (fun (s32 : Unit) (σ : Nat → Value) (w : World) => agree σ [(0, v0), (2, v2)] ∧ Holds E w ([rd v0 p0, mp v2 p2] ++ Γ)) (netlist_checkNetPins_K E Γ v2) hN ?_ ?_ ?_ ?_ ?_ 
 ·exact ⟨⟨rfl, rfl, rfl, rfl, rfl, rfl, trivial⟩, hw.pick 2 [0, 1] (new := [rd v0 p0, mp v2 p2]) rfl rfl (by decide) (by decide)⟩
 ·intro hm s32 σ w hI
  obtain ⟨ha, hw⟩ := hI
  obtain ⟨τ, rfl⟩ := ha.ups
  refine RC.sr ?_
  refine ic ((p0.length : Int)) ((p0.length : Int)) rfl rfl rfl rfl ?_
  refine RL.nq ?_
  refine RC.cond_f dge ?_
  refine RC.ex ?_
  exact ⟨rfl, ⟨rfl, rfl, trivial⟩, hw.pick 2 [0, 1] (new := [rd v0 p0, mp v2 p2]) rfl rfl (by decide) (by decide)⟩
 ·intro hm k31 s32 fl σ w hk hI hb
  obtain ⟨ha, hw⟩ := hI
  obtain ⟨τ, rfl⟩ := ha.ups
  refine RC.sr ?_
  refine ic ((k31 : Int)) ((p0.length : Int)) rfl rfl rfl rfl ?_
  refine RL.nq ?_
  refine RC.cond_t (dlt hk) ?_
  refine RC.ss ?_
  refine RC.bs ?_
  refine mv (vi (k31 : Int)) rfl rfl ?_
  obtain ⟨x81, hx81, hb⟩ := bd hb
  refine RL.ia_rd (i := 0) trivial rfl hw rfl rfl rfl sl35 hx81 fun v82 hw => ?_
  refine RL.load_pt (i := 0) (x := x81) trivial rfl hw rfl rfl ty43 fun v83 hw => ?_
  refine RL.alloc trivial rfl hw ze43.z fun b84 w hw => ?_
  refine as_ (vi (k31 : Int)) rfl rfl ?_
  refine RL.store_raw (i := 0) (j := 1) trivial hw rfl rfl rfl rfl ty43 rfl fun w hw => ?_
  refine RL.nt ?_
  refine RC.bs ?_
  refine mv v1 rfl rfl ?_
  refine RL.load_bf (i := 0) (f := (fun x => x)) trivial rfl hw rfl rfl Fd.self ty43 fun v85 hw => ?_
  obtain ⟨x86, hx86, hb⟩ := bd hb
  refine RL.callF1 (i := 0) trivial rfl hw rfl h1 6 rfl rfl rfl hx86 fun w hw => ?_
  refine RL.not (b := x86) trivial rfl rfl ?_
  refine as_ (vb (!x86)) rfl rfl ?_
  refine RL.nt ?_
  refine RC.cond (b := (!x86)) rfl (fun hc => ?_) (fun hc => ?_)
  ·replace hb := cT hc hb
   refine RC.sr ?_
   refine as_ (vi 9) rfl rfl ?_
   refine RL.nt ?_
   refine RC.rb ?_
   refine blkQ_r ?_
   refine thenQ_r ?_
   obtain rfl := oi hb
   exact ⟨rfl, fin1 rfl rfl ⟨rfl, hw.pick 6 [5] (new := [mp v2 p2]) rfl rfl (by decide) (by decide)⟩⟩
  replace hb := cF hc hb
  refine RC.seq ?_
  obtain ⟨s117, hj, hb⟩ := bd hb
  refine RC.jn (fun (s117 : Bool) (σ : Nat → Value) (w : World) => agree σ [(0, v0), (1, v1), (2, v2), (8, (vp b84 0)), (14, v0), (15, (vi (p0.length : Int))), (16, (vi (k31 : Int))), (26, (vb s117))] ∧ Holds E w ([rd v0 p0, mp v2 p2, bx 43 b84 x81] ++ Γ)) s117 ?_ ?_
  ·rcases Bool.eq_false_or_eq_true (decide ((k31 : Int) > 0)) with hg118 | hg118
   rotate_left
   ·replace hj := cF hg118 hj
    refine RC.drw mixed rfl (fun (D : Nat → Bool) (σ : Nat → Value) (w : World) => doneV D σ [(0, 27, (vi (k31 : Int))), (1, 28, (vb (decide ((k31 : Int) > 0)))), (2, 29, (vb (decide ((k31 : Int) > 0)))), (3, 30, undef), (4, 31, undef), (5, 32, undef), (6, 33, undef), (7, 34, undef), (8, 35, undef), (9, 36, undef), (10, 37, undef), (11, 38, (vb false)), (12, 26, (vb false))] ∧ agree σ [(0, v0), (1, v1), (2, v2), (7, (vi (k31 : Int))), (8, (vp b84 0)), (14, v0), (15, (vi (p0.length : Int))), (16, (vi (k31 : Int)))] ∧ Holds E w ([rd v85 x81, bx 43 b84 x81, rd v83 x81, pt v82 x81, rd v0 p0, mp v2 p2] ++ Γ)) ?_ ⟨?_, ?_, ?_, ?_, ?_, ?_, ?_, ?_, ?_, ?_, ?_, ?_, ?_, trivial⟩ ?_
    ·have hw := hw.drew
     exact ⟨doneV.none, ⟨rfl, rfl, rfl, rfl, rfl, rfl, rfl, rfl, trivial⟩, hw⟩
    ·rintro D σ w hD hdep hcl ⟨hv, ha, hw⟩
     obtain ⟨τ, rfl⟩ := (ac (ha.at 3 rfl) az).ups
     refine mv (vi (k31 : Int)) rfl rfl ?_
     refine RL.nil ?_
     exact ⟨rfl, hv.put 0 rfl rfl, ha.up rfl, hw⟩
    ·rintro D σ w hD hdep hcl ⟨hv, ha, hw⟩
     obtain ⟨τ, rfl⟩ := (ac (hv.at 0 rfl (hdep.1 rfl)) az).ups
     refine ic ((k31 : Int)) 0 rfl rfl rfl rfl ?_
     refine RL.nil ?_
     exact ⟨rfl, hv.put 1 rfl rfl, ha.up rfl, hw⟩
    ·rintro D σ w hD hdep hcl ⟨hv, ha, hw⟩
     obtain ⟨τ, rfl⟩ := (ac (hv.at 1 rfl (hdep.1 rfl)) az).ups
     refine mv (vb (decide ((k31 : Int) > 0))) rfl rfl ?_
     refine RL.nil ?_
     exact ⟨rfl, hv.put 2 rfl rfl, ha.up rfl, hw⟩
    ·rintro D σ w hD hdep hcl ⟨hv, ha, hw⟩
     obtain ⟨τ, rfl⟩ := (ac (hv.at 2 rfl (hdep.1 rfl)) (ac (ha.at 4 rfl) az)).ups
     refine sk rfl (.inl (cb hg118)) rfl ?_
     refine RL.nil ?_
     exact ⟨rfl, hv.put 3 rfl rfl, ha.up rfl, hw⟩
    ·rintro D σ w hD hdep hcl ⟨hv, ha, hw⟩
     obtain ⟨τ, rfl⟩ := (ac (hv.at 2 rfl (hdep.1 rfl)) (ac (ha.at 0 rfl) az)).ups
     refine sk rfl (.inl (cb hg118)) rfl ?_
     refine RL.nil ?_
     exact ⟨rfl, hv.put 4 rfl rfl, ha.up rfl, hw⟩
    ·rintro D σ w hD hdep hcl ⟨hv, ha, hw⟩
     obtain ⟨τ, rfl⟩ := (ac (hv.at 2 rfl (hdep.1 rfl)) (ac (ha.at 3 rfl) az)).ups
     refine sk rfl (.inl (cb hg118)) rfl ?_
     refine RL.nil ?_
     exact ⟨rfl, hv.put 5 rfl rfl, ha.up rfl, hw⟩
    ·rintro D σ w hD hdep hcl ⟨hv, ha, hw⟩
     obtain ⟨τ, rfl⟩ := (ac (hv.at 2 rfl (hdep.2.1 rfl)) (ac (hv.at 5 rfl (hdep.1 rfl)) az)).ups
     refine sk rfl (.inl (cb hg118)) rfl ?_
     refine RL.nil ?_
     exact ⟨rfl, hv.put 6 rfl rfl, ha.up rfl, hw⟩
    ·rintro D σ w hD hdep hcl ⟨hv, ha, hw⟩
     obtain ⟨τ, rfl⟩ := (ac (hv.at 2 rfl (hdep.2.2.1 rfl)) (ac (hv.at 4 rfl (hdep.1 rfl)) (ac (hv.at 6 rfl (hdep.2.1 rfl)) az))).ups
     refine sk rfl (.inl (cb hg118)) rfl ?_
     refine RL.nil ?_
     exact ⟨rfl, hv.put 7 rfl rfl, ha.up rfl, hw⟩
    ·rintro D σ w hD hdep hcl ⟨hv, ha, hw⟩
     obtain ⟨τ, rfl⟩ := (ac (hv.at 2 rfl (hdep.2.1 rfl)) (ac (hv.at 7 rfl (hdep.1 rfl)) az)).ups
     refine sk rfl (.inl (cb hg118)) rfl ?_
     refine RL.nil ?_
     exact ⟨rfl, hv.put 8 rfl rfl, ha.up rfl, hw⟩
    ·rintro D σ w hD hdep hcl ⟨hv, ha, hw⟩
     obtain ⟨τ, rfl⟩ := (ac (hv.at 2 rfl (hdep.2.2.1 rfl)) (ac (hv.at 3 rfl (hdep.1 rfl)) (ac (hv.at 8 rfl (hdep.2.1 rfl)) az))).ups
     refine sk rfl (.inl (cb hg118)) rfl ?_
     refine RL.nil ?_
     exact ⟨rfl, hv.put 9 rfl rfl, ha.up rfl, hw⟩
    ·rintro D σ w hD hdep hcl ⟨hv, ha, hw⟩
     obtain ⟨τ, rfl⟩ := (ac (hv.at 2 rfl (hdep.2.1 rfl)) (ac (hv.at 9 rfl (hdep.1 rfl)) az)).ups
     refine sk rfl (.inl (cb hg118)) rfl ?_
     refine RL.nil ?_
     exact ⟨rfl, hv.put 10 rfl rfl, ha.up rfl, hw⟩
    ·rintro D σ w hD hdep hcl ⟨hv, ha, hw⟩
     obtain ⟨τ, rfl⟩ := (ac (hv.at 2 rfl (hdep.1 rfl)) (ac (hv.at 10 rfl (hdep.2.1 rfl)) az)).ups
     refine RL.pick (b := (decide ((k31 : Int) > 0))) (v := (vb false)) trivial rfl rfl (by rw [hg118]; rfl) ?_
     refine RL.nil ?_
     exact ⟨rfl, hv.put 11 rfl rfl, ha.up rfl, hw⟩
    ·rintro D σ w hD hdep hcl ⟨hv, ha, hw⟩
     obtain ⟨τ, rfl⟩ := (ac (hv.at 11 rfl (hdep.1 rfl)) az).ups
     refine as_ (vb false) rfl rfl ?_
     refine RL.nil ?_
     exact ⟨rfl, hv.put 12 rfl rfl, ha.up rfl, hw⟩
    rintro D σ w hall ⟨hv, ha, hw⟩
    obtain ⟨τ, rfl⟩ := (ac (hv.at 12 rfl (hall 12 (by decide))) (ac (ha.at 0 rfl) (ac (ha.at 1 rfl) (ac (ha.at 2 rfl) (ac (ha.at 3 rfl) (ac (ha.at 4 rfl) (ac (ha.at 5 rfl) (ac (ha.at 6 rfl) (ac (ha.at 7 rfl) az))))))))).ups
    obtain rfl := oi hj
    exact ⟨rfl, ⟨rfl, rfl, rfl, rfl, rfl, rfl, rfl, rfl, trivial⟩, hw.pick 6 [4, 5, 1] (new := [rd v0 p0, mp v2 p2, bx 43 b84 x81]) rfl rfl (by decide) (by decide)⟩
   replace hj := cT hg118 hj
   obtain ⟨x120, hx120, hj⟩ := bd hj
   obtain ⟨x123, hx123, hj⟩ := bd hj
   refine RC.drw mixed rfl (fun (D : Nat → Bool) (σ : Nat → Value) (w : World) => ∃ (v119 : Value) (v121 : Value) (v122 : Value), doneV D σ [(0, 27, (vi (k31 : Int))), (1, 28, (vb (decide ((k31 : Int) > 0)))), (2, 29, (vb (decide ((k31 : Int) > 0)))), (3, 30, v119), (4, 31, v0), (5, 32, (vi (k31 : Int))), (6, 33, (vi (IntKind.wrap .i64 ((k31 : Int) - 1)))), (7, 34, v121), (8, 35, v122), (9, 36, (vi x123)), (10, 37, (vb (decide (x123 ≤ 0)))), (11, 38, (vb (decide (x123 ≤ 0)))), (12, 26, (vb (decide (x123 ≤ 0))))] ∧ agree σ [(0, v0), (1, v1), (2, v2), (7, (vi (k31 : Int))), (8, (vp b84 0)), (14, v0), (15, (vi (p0.length : Int))), (16, (vi (k31 : Int)))] ∧ Holds E w ([bif D 3 then (rd v119 x81) else junk, bif D 7 then (pt v121 x120) else junk, bif D 8 then (rd v122 x120) else junk, rd v85 x81, bx 43 b84 x81, rd v83 x81, pt v82 x81, rd v0 p0, mp v2 p2] ++ Γ)) ?_ ⟨?_, ?_, ?_, ?_, ?_, ?_, ?_, ?_, ?_, ?_, ?_, ?_, ?_, trivial⟩ ?_
   ·have hw := hw.drew
    have hw := hw.junk
    have hw := hw.junk
    have hw := hw.junk
    exact ⟨undef, undef, undef, doneV.none, ⟨rfl, rfl, rfl, rfl, rfl, rfl, rfl, rfl, trivial⟩, hw⟩
   ·rintro D σ w hD hdep hcl ⟨v119, v121, v122, hv, ha, hw⟩
    obtain ⟨τ, rfl⟩ := (ac (ha.at 3 rfl) az).ups
    refine mv (vi (k31 : Int)) rfl rfl ?_
    refine RL.nil ?_
    exact ⟨rfl, v119, v121, v122, hv.put 0 rfl rfl, ha.up rfl, hw⟩
   ·rintro D σ w hD hdep hcl ⟨v119, v121, v122, hv, ha, hw⟩
    obtain ⟨τ, rfl⟩ := (ac (hv.at 0 rfl (hdep.1 rfl)) az).ups
    refine ic ((k31 : Int)) 0 rfl rfl rfl rfl ?_
    refine RL.nil ?_
    exact ⟨rfl, v119, v121, v122, hv.put 1 rfl rfl, ha.up rfl, hw⟩
   ·rintro D σ w hD hdep hcl ⟨v119, v121, v122, hv, ha, hw⟩
    obtain ⟨τ, rfl⟩ := (ac (hv.at 1 rfl (hdep.1 rfl)) az).ups
    refine mv (vb (decide ((k31 : Int) > 0))) rfl rfl ?_
    refine RL.nil ?_
    exact ⟨rfl, v119, v121, v122, hv.put 2 rfl rfl, ha.up rfl, hw⟩
   ·rintro D σ w hD hdep hcl ⟨v119, v121, v122, hv, ha, hw⟩
    obtain ⟨τ, rfl⟩ := (ac (hv.at 2 rfl (hdep.1 rfl)) (ac (ha.at 4 rfl) az)).ups
    have hw := hw.selF (i := 0) rfl hD
    refine RL.load_bf (i := 4) (f := (fun x => x)) ⟨_, rfl, cb hg118⟩ rfl hw rfl rfl Fd.self ty43 fun v124 hw => ?_
    have hw := hw.pick 10 [0, 2, 3, 4, 5, 6, 7, 8, 9] (new := [rd v124 x81, bif D 7 then (pt v121 x120) else junk, bif D 8 then (rd v122 x120) else junk, rd v85 x81, bx 43 b84 x81, rd v83 x81, pt v82 x81, rd v0 p0, mp v2 p2]) rfl rfl (by decide) (by decide)
    have hw := hw.altT (i := 0) (b := true) rfl rfl (junk)
    refine RL.nil ?_
    exact ⟨rfl, v124, v121, v122, hv.put 3 rfl rfl, ha.up rfl, hw⟩
   ·rintro D σ w hD hdep hcl ⟨v119, v121, v122, hv, ha, hw⟩
    obtain ⟨τ, rfl⟩ := (ac (hv.at 2 rfl (hdep.1 rfl)) (ac (ha.at 0 rfl) az)).ups
    refine RL.move (v := v0) ⟨_, rfl, cb hg118⟩ rfl rfl ?_
    refine RL.nil ?_
    exact ⟨rfl, v119, v121, v122, hv.put 4 rfl rfl, ha.up rfl, hw⟩
   ·rintro D σ w hD hdep hcl ⟨v119, v121, v122, hv, ha, hw⟩
    obtain ⟨τ, rfl⟩ := (ac (hv.at 2 rfl (hdep.1 rfl)) (ac (ha.at 3 rfl) az)).ups
    refine RL.move (v := (vi (k31 : Int))) ⟨_, rfl, cb hg118⟩ rfl rfl ?_
    refine RL.nil ?_
    exact ⟨rfl, v119, v121, v122, hv.put 5 rfl rfl, ha.up rfl, hw⟩
   ·rintro D σ w hD hdep hcl ⟨v119, v121, v122, hv, ha, hw⟩
    obtain ⟨τ, rfl⟩ := (ac (hv.at 2 rfl (hdep.2.1 rfl)) (ac (hv.at 5 rfl (hdep.1 rfl)) az)).ups
    refine RL.iar (a := (k31 : Int)) (b := 1) ⟨_, rfl, cb hg118⟩ rfl rfl rfl rfl ?_
    refine RL.nil ?_
    exact ⟨rfl, v119, v121, v122, hv.put 6 rfl rfl, ha.up rfl, hw⟩
   ·rintro D σ w hD hdep hcl ⟨v119, v121, v122, hv, ha, hw⟩
    obtain ⟨τ, rfl⟩ := (ac (hv.at 2 rfl (hdep.2.2.1 rfl)) (ac (hv.at 4 rfl (hdep.1 rfl)) (ac (hv.at 6 rfl (hdep.2.1 rfl)) az))).ups
    have hw := hw.selF (i := 1) rfl hD
    refine RL.ia_rd (i := 7) ⟨_, rfl, cb hg118⟩ rfl hw rfl rfl rfl sl35 hx120 fun v125 hw => ?_
    have hw := hw.pick 10 [1, 0, 3, 4, 5, 6, 7, 8, 9] (new := [bif D 3 then (rd v119 x81) else junk, pt v125 x120, bif D 8 then (rd v122 x120) else junk, rd v85 x81, bx 43 b84 x81, rd v83 x81, pt v82 x81, rd v0 p0, mp v2 p2]) rfl rfl (by decide) (by decide)
    have hw := hw.altT (i := 1) (b := true) rfl rfl (junk)
    refine RL.nil ?_
    exact ⟨rfl, v119, v125, v122, hv.put 7 rfl rfl, ha.up rfl, hw⟩
   ·rintro D σ w hD hdep hcl ⟨v119, v121, v122, hv, ha, hw⟩
    obtain ⟨τ, rfl⟩ := (ac (hv.at 2 rfl (hdep.2.1 rfl)) (ac (hv.at 7 rfl (hdep.1 rfl)) az)).ups
    have hw := hw.selT (i := 1) rfl (hdep.1 rfl)
    have hw := hw.selF (i := 2) rfl hD
    refine RL.load_pt (i := 1) (x := x120) ⟨_, rfl, cb hg118⟩ rfl hw rfl rfl ty43 fun v126 hw => ?_
    have hw := hw.pick 10 [1, 2, 0, 4, 5, 6, 7, 8, 9] (new := [bif D 3 then (rd v119 x81) else junk, pt v121 x120, rd v126 x120, rd v85 x81, bx 43 b84 x81, rd v83 x81, pt v82 x81, rd v0 p0, mp v2 p2]) rfl rfl (by decide) (by decide)
    have hw := hw.altT (i := 1) (b := D 7) rfl (hdep.1 rfl) (junk)
    have hw := hw.altT (i := 2) (b := true) rfl rfl (junk)
    refine RL.nil ?_
    exact ⟨rfl, v119, v121, v126, hv.put 8 rfl rfl, ha.up rfl, hw⟩
   ·rintro D σ w hD hdep hcl ⟨v119, v121, v122, hv, ha, hw⟩
    obtain ⟨τ, rfl⟩ := (ac (hv.at 2 rfl (hdep.2.2.1 rfl)) (ac (hv.at 3 rfl (hdep.1 rfl)) (ac (hv.at 8 rfl (hdep.2.1 rfl)) az))).ups
    have hw := hw.selT (i := 0) rfl (hdep.1 rfl)
    have hw := hw.selT (i := 2) rfl (hdep.2.1 rfl)
    refine RL.call ⟨_, rfl, cb hg118⟩ rfl fn12 [v119, v122] rfl (Calls_ret (netlist_ComparePins_ok N  (i0 := 0) (i1 := 2) hw rfl rfl hx123) ?_)
    rintro _ w ⟨rfl, hw⟩
    have hw := hw.altT (i := 0) (b := D 3) rfl (hdep.1 rfl) (junk)
    have hw := hw.altT (i := 2) (b := D 8) rfl (hdep.2.1 rfl) (junk)
    refine RL.nil ?_
    exact ⟨rfl, v119, v121, v122, hv.put 9 rfl rfl, ha.up rfl, hw⟩
   ·rintro D σ w hD hdep hcl ⟨v119, v121, v122, hv, ha, hw⟩
    obtain ⟨τ, rfl⟩ := (ac (hv.at 2 rfl (hdep.2.1 rfl)) (ac (hv.at 9 rfl (hdep.1 rfl)) az)).ups
    refine RL.icmp (a := x123) (b := 0) ⟨_, rfl, cb hg118⟩ rfl rfl rfl rfl ?_
    refine RL.nil ?_
    exact ⟨rfl, v119, v121, v122, hv.put 10 rfl rfl, ha.up rfl, hw⟩
   ·rintro D σ w hD hdep hcl ⟨v119, v121, v122, hv, ha, hw⟩
    obtain ⟨τ, rfl⟩ := (ac (hv.at 2 rfl (hdep.1 rfl)) (ac (hv.at 10 rfl (hdep.2.1 rfl)) az)).ups
    refine RL.pick (b := (decide ((k31 : Int) > 0))) (v := (vb (decide (x123 ≤ 0)))) trivial rfl rfl (by rw [hg118]; rfl) ?_
    refine RL.nil ?_
    exact ⟨rfl, v119, v121, v122, hv.put 11 rfl rfl, ha.up rfl, hw⟩
   ·rintro D σ w hD hdep hcl ⟨v119, v121, v122, hv, ha, hw⟩
    obtain ⟨τ, rfl⟩ := (ac (hv.at 11 rfl (hdep.1 rfl)) az).ups
    refine as_ (vb (decide (x123 ≤ 0))) rfl rfl ?_
    refine RL.nil ?_
    exact ⟨rfl, v119, v121, v122, hv.put 12 rfl rfl, ha.up rfl, hw⟩
   rintro D σ w hall ⟨v119, v121, v122, hv, ha, hw⟩
   rw [hall 3 (by decide), hall 7 (by decide), hall 8 (by decide)] at hw
   obtain ⟨τ, rfl⟩ := (ac (hv.at 12 rfl (hall 12 (by decide))) (ac (ha.at 0 rfl) (ac (ha.at 1 rfl) (ac (ha.at 2 rfl) (ac (ha.at 3 rfl) (ac (ha.at 4 rfl) (ac (ha.at 5 rfl) (ac (ha.at 6 rfl) (ac (ha.at 7 rfl) az))))))))).ups
   obtain rfl := oi hj
   exact ⟨rfl, ⟨rfl, rfl, rfl, rfl, rfl, rfl, rfl, rfl, trivial⟩, hw.pick 9 [7, 8, 4] (new := [rd v0 p0, mp v2 p2, bx 43 b84 x81]) rfl rfl (by decide) (by decide)⟩
  rintro σ w ⟨ha, hw⟩
  obtain ⟨τ, rfl⟩ := ha.ups
  refine thenQ_n ?_
  refine RC.cond (b := s117) rfl (fun hc => ?_) (fun hc => ?_)
  ·replace hb := cT hc hb
   refine RC.sr ?_
   refine as_ (vi 8) rfl rfl ?_
   refine RL.nt ?_
   refine RC.rb ?_
   refine blkQ_r ?_
   refine thenQ_r ?_
   obtain rfl := oi hb
   exact ⟨rfl, fin1 rfl rfl ⟨rfl, hw.pick 3 [1] (new := [mp v2 p2]) rfl rfl (by decide) (by decide)⟩⟩
  replace hb := cF hc hb
  refine RC.sr ?_
  refine mv v2 rfl rfl ?_
  refine RL.load_bf (i := 2) (f := (fun x => x)) trivial rfl hw rfl rfl Fd.self ty43 fun v128 hw => ?_
  refine RL.lookup1s (i := 2) (k := x81) trivial rfl hw rfl (key_rd hw (j := 0) rfl) rfl mt64 ?_
  refine as_ (vb (mget p2 x81 (false : Bool))) rfl rfl ?_
  refine RL.nt ?_
  refine RC.cond (b := (mget p2 x81 (false : Bool))) rfl (fun hc => ?_) (fun hc => ?_)
  rotate_left
  ·replace hb := cF hc hb
   refine RC.skip ?_
   refine blkQ_n ?_
   refine blkQ_n ?_
   refine thenQ_n ?_
   refine RC.region ?_
   refine RL.inc trivial rfl hk hm rfl rfl ?_
   refine mv (vi ((k31 + 1 : Nat) : Int)) rfl rfl ?_
   refine RL.nil ?_
   obtain rfl := oi hb
   exact ⟨rfl, ⟨rfl, rfl, rfl, rfl, rfl, rfl, trivial⟩, hw.pick 4 [1, 2] (new := [rd v0 p0, mp v2 p2]) rfl rfl (by decide) (by decide)⟩
  replace hb := cT hc hb
  refine RC.sr ?_
  refine as_ (vi 7) rfl rfl ?_
  refine RL.nt ?_
  refine RC.rb ?_
  refine blkQ_r ?_
  refine thenQ_r ?_
  obtain rfl := oi hb
  exact ⟨rfl, fin1 rfl rfl ⟨rfl, hw.pick 4 [2] (new := [mp v2 p2]) rfl rfl (by decide) (by decide)⟩⟩
 ·intro r σ w e hK
  subst e
  refine thenQ_r ?_
  obtain rfl := oi hb
  exact hK
 intro s32 σ w e hJ
 subst e
 rw [Fo.cs_go] at hb
 obtain ⟨ha, hw⟩ := hJ
 obtain ⟨τ, rfl⟩ := ha.ups
 refine thenQ_n ?_
 refine RC.seq ?_
 refine RC.sr ?_
 refine mv v0 rfl rfl ?_
 refine RL.len_rd (i := 0) (l := p0) trivial rfl hw rfl rfl un35 ?_
 refine mv (vi 0) rfl rfl ?_
 refine RL.nt ?_
 obtain ⟨s130, hN, hb⟩ := bd hb
 refine RC.fold (fun (k129 : Nat) (s130 : (List (Pin × Bool))) (σ : Nat → Value) (w : World) => agree σ [(2, v2), (44, v0), (45, (vi (p0.length : Int))), (46, (vi (k129 : Int)))] ∧ Holds E w ([mp v2 s130, rd v0 p0] ++ Γ)) (fun (s130 : (List (Pin × Bool))) (σ : Nat → Value) (w : World) => agree σ [(2, v2)] ∧ Holds E w ([mp v2 s130, rd v0 p0] ++ Γ)) hN ?_ ?_ ?_ ?_
 ·exact ⟨⟨rfl, rfl, rfl, rfl, trivial⟩, hw.pick 2 [1, 0] (new := [mp v2 p2, rd v0 p0]) rfl rfl (by decide) (by decide)⟩
 ·intro hm s130 σ w hI
  obtain ⟨ha, hw⟩ := hI
  obtain ⟨τ, rfl⟩ := ha.ups
  refine RC.sr ?_
  refine ic ((p0.length : Int)) ((p0.length : Int)) rfl rfl rfl rfl ?_
  refine RL.nq ?_
  refine RC.cond_f dge ?_
  refine RC.ex ?_
  exact ⟨rfl, ⟨rfl, trivial⟩, hw.pick 2 [0, 1] (new := [mp v2 s130, rd v0 p0]) rfl rfl (by decide) (by decide)⟩
 ·intro hm k129 s130 s' σ w hk hI hb
  obtain ⟨ha, hw⟩ := hI
  obtain ⟨τ, rfl⟩ := ha.ups
  refine RC.sr ?_
  refine ic ((k129 : Int)) ((p0.length : Int)) rfl rfl rfl rfl ?_
  refine RL.nq ?_
  refine RC.cond_t (dlt hk) ?_
  refine RC.ss ?_
  refine RC.bs ?_
  obtain ⟨x141, hx141, hb⟩ := bd hb
  refine RL.ia_rd (i := 1) trivial rfl hw rfl rfl rfl sl35 hx141 fun v142 hw => ?_
  refine RL.load_pt (i := 0) (x := x141) trivial rfl hw rfl rfl ty43 fun v143 hw => ?_
  refine RL.alloc trivial rfl hw ze43.z fun b144 w hw => ?_
  refine RL.store_raw (i := 0) (j := 1) trivial hw rfl rfl rfl rfl ty43 rfl fun w hw => ?_
  refine RL.nt ?_
  refine RC.region ?_
  refine mv v2 rfl rfl ?_
  refine RL.load_bf (i := 0) (f := (fun x => x)) trivial rfl hw rfl rfl Fd.self ty43 fun v145 hw => ?_
  have hw := hw.sc (γ := Bool) true
  refine RL.mapUpdate (i := 5) (j := 0) (k := x141) trivial hw rfl (key_rd hw (j := 1) rfl) rfl rfl rfl mt64 fun w hw => ?_
  refine RL.nil ?_
  refine blkQ_n ?_
  refine thenQ_n ?_
  refine RC.region ?_
  refine RL.inc trivial rfl hk hm rfl rfl ?_
  refine mv (vi ((k129 + 1 : Nat) : Int)) rfl rfl ?_
  refine RL.nil ?_
  obtain rfl := oi hb
  exact ⟨rfl, ⟨rfl, rfl, rfl, rfl, trivial⟩, hw.pick 7 [5, 6] (new := [mp v2 (mput s130 x141 true), rd v0 p0]) rfl rfl (by decide) (by decide)⟩
 intro σ w hJ
 obtain ⟨ha, hw⟩ := hJ
 obtain ⟨τ, rfl⟩ := ha.ups
 refine thenQ_n ?_
 refine RC.sr ?_
 refine as_ (vi 0) rfl rfl ?_
 refine RL.nt ?_
 refine RC.ret ?_
 obtain rfl := oi hb
 exact fin1 rfl rfl ⟨rfl, hw.pick 2 [0] (new := [mp v2 s130]) rfl rfl (by decide) (by decide)⟩
def netlist_CheckList_R (E : World) (Γ : List HP) (res : Int) (v : Value) (w : World) : Prop := v = (vi res) ∧ Holds E w Γ
def netlist_CheckList_K (E : World) (Γ : List HP) (r : Int) (σ : Nat → Value) (w : World) : Prop := finQ Tryz.prog 71 Tryz.f8 (netlist_CheckList_R E Γ r) .ret σ w
theorem netlist_CheckList_ok (N : Nat) {E w : World} {Γ : List HP} {i0 : Nat} {v0 : Value} {p0 : (List PartType)} {i1 : Nat} {v1 : Value} {p1 : Netlist} {res : Int} (hw : Holds E w Γ) (h0 : Γ[i0]? = some (rd v0 p0)) (h1 : Γ[i1]? = some (rd v1 p1)) (hb : netlist_CheckList N p0 p1 = some res) :
    Calls Tryz.prog 8 [v0, v1].toArray w (Ret (netlist_CheckList_R E Γ res)) := by
 unfold netlist_CheckList at hb
 refine enter Tryz.func8 rfl rfl (Nat.le_of_ble_eq_true rfl) ?_
 have hw := hw.dup (i := i0 + 0) h0
 have hw := hw.dup (i := i1 + 1) h1
 refine RC.sr ?_
 refine RL.box_rd (i := 1) (v := v0) trivial rfl hw rfl rfl fun b31 w hw => ?_
 have hw := hw.freeze_bx (i := 0) rfl
 refine RL.box_rd (i := 1) (v := v1) trivial rfl hw rfl rfl fun b32 w hw => ?_
 have hw := hw.freeze_bx (i := 0) rfl
 refine as_ (vi 0) rfl rfl ?_
 refine RL.nq ?_
 refine RC.sr ?_
 refine RL.load_pt (i := 1) (x := p0) trivial rfl hw rfl rfl ty22 fun v33 hw => ?_
 obtain ⟨x34, hx34, hb⟩ := bd hb
 refine RL.call trivial rfl fn24 [v33] rfl (Calls_ret (netlist_CheckTypes_ok N  (i0 := 0) hw rfl hx34) ?_)
 rintro _ w ⟨rfl, hw⟩
 refine as_ (vi x34) rfl rfl ?_
 refine RL.ns ?_
 refine mv (vi x34) rfl rfl ?_
 refine ic x34 0 rfl rfl rfl rfl ?_
 refine RL.nt ?_
 refine RC.cond (b := (x34 != 0)) rfl (fun hc => ?_) (fun hc => ?_)
 ·replace hb := cT hc hb
  refine RC.sr ?_
  refine mv (vi x34) rfl rfl ?_
  refine as_ (vi x34) rfl rfl ?_
  refine RL.nt ?_
  refine RC.rt ?_
  obtain rfl := oi hb
  exact fin1 rfl rfl ⟨rfl, hw.drop 5 rfl⟩
 replace hb := cF hc hb
 refine RC.ss ?_
 refine RC.sr ?_
 refine RL.load_pt (i := 2) (x := p0) trivial rfl hw rfl rfl ty22 fun v35 hw => ?_
 refine RL.fa_pt (i := 2) (f := fun (x : Netlist) => x.Parts) trivial rfl hw rfl rfl fa26_0 fd_Netlist_0 fun v36 hw => ?_
 refine RL.load_pt (i := 0) (x := p1.Parts) trivial rfl hw rfl rfl ty23 fun v37 hw => ?_
 obtain ⟨x38, hx38, hb⟩ := bd hb
 refine RL.call trivial rfl fn25 [v35, v37, (.func (.func 26) #[] #[])] rfl (Calls_ret (netlist_checkParts_ok N  (i0 := 2) (i1 := 0) hw rfl rfl ⟨26, [], rfl, fn26, fun w Γl v y0 r i hw hi hr => by obtain rfl := hw.ofSc (γ := Str) hi; exact Calls_ret (netlist_IsPath_ok N (p0 := y0) hw hr) fun _ _ h => h⟩ hx38) ?_)
 rintro _ w ⟨rfl, hw⟩
 refine as_ (vi x38) rfl rfl ?_
 refine RL.ns ?_
 refine mv (vi x38) rfl rfl ?_
 refine ic x38 0 rfl rfl rfl rfl ?_
 refine RL.nt ?_
 refine RC.cond (b := (x38 != 0)) rfl (fun hc => ?_) (fun hc => ?_)
 ·replace hb := cT hc hb
  refine RC.sr ?_
  refine mv (vi x38) rfl rfl ?_
  refine as_ (vi x38) rfl rfl ?_
  refine RL.nt ?_
  refine RC.rt ?_
  obtain rfl := oi hb
  exact fin1 rfl rfl ⟨rfl, hw.drop 8 rfl⟩
 replace hb := cF hc hb
 refine RC.ss ?_
 refine RC.sr ?_
 refine RL.fa_pt (i := 4) (f := fun (x : Netlist) => x.Nets) trivial rfl hw rfl rfl fa26_1 fd_Netlist_1 fun v39 hw => ?_
 refine RL.load_pt (i := 0) (x := p1.Nets) trivial rfl hw rfl rfl ty24 fun v40 hw => ?_
 refine RL.len_rd (i := 0) (l := p1.Nets) trivial rfl hw rfl rfl un24 ?_
 refine ic ((p1.Nets.length : Int)) 1000 rfl rfl rfl rfl ?_
 refine RL.nt ?_
 refine RC.cond (b := (decide ((p1.Nets.length : Int) > 1000))) rfl (fun hc => ?_) (fun hc => ?_)
 ·replace hb := cT hc hb
  refine RC.sr ?_
  refine as_ (vi 2) rfl rfl ?_
  refine RL.nt ?_
  refine RC.rt ?_
  obtain rfl := oi hb
  exact fin1 rfl rfl ⟨rfl, hw.drop 10 rfl⟩
 replace hb := cF hc hb
 refine RC.sx ?_
 refine RL.makeMap (κ := Pin) (ν := Bool) trivial rfl hw fun v41 w hw => ?_
 refine as_ v41 rfl rfl ?_
 refine RL.nq ?_
 refine RC.sr ?_
 refine RL.fa_pt (i := 7) (f := fun (x : Netlist) => x.Nets) trivial rfl hw rfl rfl fa26_1 fd_Netlist_1 fun v42 hw => ?_
 refine RL.load_pt (i := 0) (x := p1.Nets) trivial rfl hw rfl rfl ty24 fun v43 hw => ?_
 refine RL.len_rd (i := 0) (l := p1.Nets) trivial rfl hw rfl rfl un24 ?_
 refine mv (vi 0) rfl rfl ?_
 refine RL.nt ?_
 obtain ⟨o136, hN, hb⟩ := bd hb
 refine RC.range (fun (k44 : Nat) (s45 : (List (Pin × Bool))) (σ : Nat → Value) (w : World) => agree σ [(2, (vp b31 0)), (3, (vp b32 0)), (7, v41), (29, v43), (30, (vi (p1.Nets.length : Int))), (31, (vi (k44 : Int)))] ∧ Holds E w ([pt (vp b31 0) p0, pt (vp b32 0) p1, mp v41 s45, rd v43 p1.Nets] ++ Γ)) (fun (s45 : (List (Pin × Bool))) (σ : Nat → Value) (w : World) => agree σ [] ∧ Holds E w ([pt (vp b31 0) p0, pt (vp b32 0) p1, mp v41 s45, rd v43 p1.Nets] ++ Γ)) (netlist_CheckList_K E Γ) hN ?_ ?_ ?_ ?_ ?_ 
 ·exact ⟨⟨rfl, rfl, rfl, rfl, rfl, rfl, trivial⟩, hw.pick 13 [10, 9, 2, 0] (new := [pt (vp b31 0) p0, pt (vp b32 0) p1, mp v41 ([] : (List (Pin × Bool))), rd v43 p1.Nets]) rfl rfl (by decide) (by decide)⟩
 ·intro hm s45 σ w hI
  obtain ⟨ha, hw⟩ := hI
  obtain ⟨τ, rfl⟩ := ha.ups
  refine RC.sr ?_
  refine ic ((p1.Nets.length : Int)) ((p1.Nets.length : Int)) rfl rfl rfl rfl ?_
  refine RL.nq ?_
  refine RC.cond_f dge ?_
  refine RC.ex ?_
  exact ⟨rfl, trivial, hw.pick 4 [0, 1, 2, 3] (new := [pt (vp b31 0) p0, pt (vp b32 0) p1, mp v41 s45, rd v43 p1.Nets]) rfl rfl (by decide) (by decide)⟩
 ·intro hm k44 s45 fl σ w hk hI hb
  obtain ⟨ha, hw⟩ := hI
  obtain ⟨τ, rfl⟩ := ha.ups
  refine RC.sr ?_
  refine ic ((k44 : Int)) ((p1.Nets.length : Int)) rfl rfl rfl rfl ?_
  refine RL.nq ?_
  refine RC.cond_t (dlt hk) ?_
  refine RC.ss ?_
  refine RC.bs ?_
  refine mv (vi (k44 : Int)) rfl rfl ?_
  obtain ⟨x106, hx106, hb⟩ := bd hb
  refine RL.ia_rd (i := 3) trivial rfl hw rfl rfl rfl sl24 hx106 fun v107 hw => ?_
  refine RL.load_pt (i := 0) (x := x106) trivial rfl hw rfl rfl ty38 fun v108 hw => ?_
  refine RL.alloc trivial rfl hw ze38.z fun b109 w hw => ?_
  refine as_ (vi (k44 : Int)) rfl rfl ?_
  refine RL.store_raw (i := 0) (j := 1) trivial hw rfl rfl rfl rfl ty38 rfl fun w hw => ?_
  refine RL.nq ?_
  refine RC.sr ?_
  refine RL.fa_b trivial rfl rfl fa38_0 ?_
  refine RL.load_bfs (i := 0) (f := (fun x => x.Name)) trivial rfl hw rfl rfl fd_Net_0 ty9 ?_
  obtain ⟨x110, hx110, hb⟩ := bd hb
  refine RL.call trivial rfl fn26 [(str x106.Name)] rfl (Calls_ret (netlist_IsPath_ok N (p0 := x106.Name)  hw  hx110) ?_)
  rintro _ w ⟨rfl, hw⟩
  refine RL.not (b := x110) trivial rfl rfl ?_
  refine RL.nt ?_
  refine RC.cond (b := (!x110)) rfl (fun hc => ?_) (fun hc => ?_)
  ·replace hb := cT hc hb
   refine RC.sr ?_
   refine as_ (vi 5) rfl rfl ?_
   refine RL.nt ?_
   refine RC.rt ?_
   refine blkQ_r ?_
   refine thenQ_r ?_
   obtain rfl := oi hb
   exact ⟨rfl, fin1 rfl rfl ⟨rfl, hw.drop 7 rfl⟩⟩
  replace hb := cF hc hb
  refine RC.ss ?_
  refine RC.sr ?_
  refine RL.fa_b trivial rfl rfl fa38_1 ?_
  refine RL.load_bf (i := 0) (f := (fun x => x.Pins)) trivial rfl hw rfl rfl fd_Net_1 ty35 fun v111 hw => ?_
  refine RL.len_rd (i := 0) (l := x106.Pins) trivial rfl hw rfl rfl un35 ?_
  refine ic ((x106.Pins.length : Int)) 0 rfl rfl rfl rfl ?_
  refine RL.nt ?_
  refine RC.cond (b := ((x106.Pins.length : Int) == 0)) rfl (fun hc => ?_) (fun hc => ?_)
  ·replace hb := cT hc hb
   refine RC.sr ?_
   refine as_ (vi 9) rfl rfl ?_
   refine RL.nt ?_
   refine RC.rt ?_
   refine blkQ_r ?_
   refine thenQ_r ?_
   obtain rfl := oi hb
   exact ⟨rfl, fin1 rfl rfl ⟨rfl, hw.drop 8 rfl⟩⟩
  replace hb := cF hc hb
  refine RC.ss ?_
  refine RC.sr ?_
  refine RL.fa_b trivial rfl rfl fa38_1 ?_
  refine RL.load_bf (i := 1) (f := (fun x => x.Pins)) trivial rfl hw rfl rfl fd_Net_1 ty35 fun v112 hw => ?_
  refine RL.makeFunc trivial rfl [(vp b31 0), (vp b32 0)] rfl ?_
  refine mv v41 rfl rfl ?_
  have hw := hw.pull (i := 7) rfl
  obtain ⟨x113, hx113, hb⟩ := bd hb
  refine RL.call trivial rfl fn27 [v112, (.func (.func 28) #[] #[(vp b31 0), (vp b32 0)]), v41] rfl (Calls_ret (netlist_checkNetPins_ok N  (i0 := 0) hw rfl ⟨28, [(vp b31 0), (vp b32 0)], rfl, fn28, fun w Γl v y0 r i hw hi hr => by exact Calls_ret (netlist_CheckList_c1_ok N (i0 := i) (i1 := Γl.length + 5) (i2 := Γl.length + 6) hw hi (up_get rfl) (up_get rfl) hr) fun _ _ h => h⟩ hx113) ?_)
  rintro _ w ⟨rfl, hw⟩
  refine as_ (vi x113.1) rfl rfl ?_
  refine RL.ns ?_
  refine mv (vi x113.1) rfl rfl ?_
  refine ic (x113.1) 0 rfl rfl rfl rfl ?_
  refine RL.nt ?_
  refine RC.cond (b := (x113.1 != 0)) rfl (fun hc => ?_) (fun hc => ?_)
  ·replace hb := cT hc hb
   refine RC.sr ?_
   refine mv (vi x113.1) rfl rfl ?_
   refine as_ (vi x113.1) rfl rfl ?_
   refine RL.nt ?_
   refine RC.rt ?_
   refine blkQ_r ?_
   refine thenQ_r ?_
   obtain rfl := oi hb
   exact ⟨rfl, fin1 rfl rfl ⟨rfl, hw.drop 10 rfl⟩⟩
  replace hb := cF hc hb
  refine RC.ss ?_
  refine RC.sr ?_
  refine RL.fa_b trivial rfl rfl fa38_2 ?_
  refine RL.load_bf (i := 3) (f := (fun x => x.Ports)) trivial rfl hw rfl rfl fd_Net_2 ty36 fun v114 hw => ?_
  refine RL.len_rd (i := 0) (l := x106.Ports) trivial rfl hw rfl rfl un36 ?_
  refine ic ((x106.Ports.length : Int)) 0 rfl rfl rfl rfl ?_
  refine RL.nt ?_
  refine RC.cond (b := (decide ((x106.Ports.length : Int) > 0))) rfl (fun hc => ?_) (fun hc => ?_)
  ·replace hb := cT hc hb
   refine RC.sr ?_
   refine as_ (vi 3) rfl rfl ?_
   refine RL.nt ?_
   refine RC.rt ?_
   refine blkQ_r ?_
   refine thenQ_r ?_
   obtain rfl := oi hb
   exact ⟨rfl, fin1 rfl rfl ⟨rfl, hw.drop 11 rfl⟩⟩
  replace hb := cF hc hb
  refine RC.ss ?_
  obtain ⟨s125, hj, hb⟩ := bd hb
  refine RC.jn (fun (s125 : Bool) (σ : Nat → Value) (w : World) => agree σ [(2, (vp b31 0)), (3, (vp b32 0)), (7, v41), (29, v43), (30, (vi (p1.Nets.length : Int))), (31, (vi (k44 : Int))), (69, (vb s125))] ∧ Holds E w ([pt (vp b31 0) p0, pt (vp b32 0) p1, mp v41 x113.2, rd v43 p1.Nets] ++ Γ)) s125 ?_ ?_
  ·rcases Bool.eq_false_or_eq_true (decide ((k44 : Int) > 0)) with hg126 | hg126
   rotate_left
   ·replace hj := cF hg126 hj
    refine RC.drw mixed rfl (fun (D : Nat → Bool) (σ : Nat → Value) (w : World) => doneV D σ [(0, 56, (vi (k44 : Int))), (1, 57, (vb (decide ((k44 : Int) > 0)))), (2, 58, (vb (decide ((k44 : Int) > 0)))), (3, 59, undef), (4, 60, undef), (5, 61, undef), (6, 62, undef), (7, 63, undef), (8, 64, undef), (9, 65, undef), (10, 66, undef), (11, 67, undef), (12, 68, undef), (13, 69, (vb false))] ∧ agree σ [(2, (vp b31 0)), (3, (vp b32 0)), (7, v41), (8, (vi (k44 : Int))), (9, (vp b109 0)), (29, v43), (30, (vi (p1.Nets.length : Int))), (31, (vi (k44 : Int)))] ∧ Holds E w ([rd v114 x106.Ports, mp v41 x113.2, rd v112 x106.Pins, rd v111 x106.Pins, bx 38 b109 x106, rd v108 x106, pt v107 x106, pt (vp b31 0) p0, pt (vp b32 0) p1, junk, rd v43 p1.Nets] ++ Γ)) ?_ ⟨?_, ?_, ?_, ?_, ?_, ?_, ?_, ?_, ?_, ?_, ?_, ?_, ?_, ?_, trivial⟩ ?_
    ·have hw := hw.drew
     exact ⟨doneV.none, ⟨rfl, rfl, rfl, rfl, rfl, rfl, rfl, rfl, trivial⟩, hw⟩
    ·rintro D σ w hD hdep hcl ⟨hv, ha, hw⟩
     obtain ⟨τ, rfl⟩ := (ac (ha.at 3 rfl) az).ups
     refine mv (vi (k44 : Int)) rfl rfl ?_
     refine RL.nil ?_
     exact ⟨rfl, hv.put 0 rfl rfl, ha.up rfl, hw⟩
    ·rintro D σ w hD hdep hcl ⟨hv, ha, hw⟩
     obtain ⟨τ, rfl⟩ := (ac (hv.at 0 rfl (hdep.1 rfl)) az).ups
     refine ic ((k44 : Int)) 0 rfl rfl rfl rfl ?_
     refine RL.nil ?_
     exact ⟨rfl, hv.put 1 rfl rfl, ha.up rfl, hw⟩
    ·rintro D σ w hD hdep hcl ⟨hv, ha, hw⟩
     obtain ⟨τ, rfl⟩ := (ac (hv.at 1 rfl (hdep.1 rfl)) az).ups
     refine mv (vb (decide ((k44 : Int) > 0))) rfl rfl ?_
     refine RL.nil ?_
     exact ⟨rfl, hv.put 2 rfl rfl, ha.up rfl, hw⟩
    ·rintro D σ w hD hdep hcl ⟨hv, ha, hw⟩
     obtain ⟨τ, rfl⟩ := (ac (hv.at 2 rfl (hdep.1 rfl)) (ac (ha.at 4 rfl) az)).ups
     refine sk rfl (.inl (cb hg126)) rfl ?_
     refine RL.nil ?_
     exact ⟨rfl, hv.put 3 rfl rfl, ha.up rfl, hw⟩
    ·rintro D σ w hD hdep hcl ⟨hv, ha, hw⟩
     obtain ⟨τ, rfl⟩ := (ac (hv.at 2 rfl (hdep.2.1 rfl)) (ac (hv.at 3 rfl (hdep.1 rfl)) az)).ups
     refine sk rfl (.inl (cb hg126)) rfl ?_
     refine RL.nil ?_
     exact ⟨rfl, hv.put 4 rfl rfl, ha.up rfl, hw⟩
    ·rintro D σ w hD hdep hcl ⟨hv, ha, hw⟩
     obtain ⟨τ, rfl⟩ := (ac (hv.at 2 rfl (hdep.1 rfl)) (ac (ha.at 1 rfl) az)).ups
     refine sk rfl (.inl (cb hg126)) rfl ?_
     refine RL.nil ?_
     exact ⟨rfl, hv.put 5 rfl rfl, ha.up rfl, hw⟩
    ·rintro D σ w hD hdep hcl ⟨hv, ha, hw⟩
     obtain ⟨τ, rfl⟩ := (ac (hv.at 2 rfl (hdep.2.1 rfl)) (ac (hv.at 5 rfl (hdep.1 rfl)) az)).ups
     refine sk rfl (.inl (cb hg126)) rfl ?_
     refine RL.nil ?_
     exact ⟨rfl, hv.put 6 rfl rfl, ha.up rfl, hw⟩
    ·rintro D σ w hD hdep hcl ⟨hv, ha, hw⟩
     obtain ⟨τ, rfl⟩ := (ac (hv.at 2 rfl (hdep.1 rfl)) (ac (ha.at 3 rfl) az)).ups
     refine sk rfl (.inl (cb hg126)) rfl ?_
     refine RL.nil ?_
     exact ⟨rfl, hv.put 7 rfl rfl, ha.up rfl, hw⟩
    ·rintro D σ w hD hdep hcl ⟨hv, ha, hw⟩
     obtain ⟨τ, rfl⟩ := (ac (hv.at 2 rfl (hdep.2.1 rfl)) (ac (hv.at 7 rfl (hdep.1 rfl)) az)).ups
     refine sk rfl (.inl (cb hg126)) rfl ?_
     refine RL.nil ?_
     exact ⟨rfl, hv.put 8 rfl rfl, ha.up rfl, hw⟩
    ·rintro D σ w hD hdep hcl ⟨hv, ha, hw⟩
     obtain ⟨τ, rfl⟩ := (ac (hv.at 2 rfl (hdep.2.2.1 rfl)) (ac (hv.at 6 rfl (hdep.1 rfl)) (ac (hv.at 8 rfl (hdep.2.1 rfl)) az))).ups
     refine sk rfl (.inl (cb hg126)) rfl ?_
     refine RL.nil ?_
     exact ⟨rfl, hv.put 9 rfl rfl, ha.up rfl, hw⟩
    ·rintro D σ w hD hdep hcl ⟨hv, ha, hw⟩
     obtain ⟨τ, rfl⟩ := (ac (hv.at 2 rfl (hdep.2.1 rfl)) (ac (hv.at 9 rfl (hdep.1 rfl)) az)).ups
     refine sk rfl (.inl (cb hg126)) rfl ?_
     refine RL.nil ?_
     exact ⟨rfl, hv.put 10 rfl rfl, ha.up rfl, hw⟩
    ·rintro D σ w hD hdep hcl ⟨hv, ha, hw⟩
     obtain ⟨τ, rfl⟩ := (ac (hv.at 2 rfl (hdep.2.1 rfl)) (ac (hv.at 10 rfl (hdep.1 rfl)) az)).ups
     refine sk rfl (.inl (cb hg126)) rfl ?_
     refine RL.nil ?_
     exact ⟨rfl, hv.put 11 rfl rfl, ha.up rfl, hw⟩
    ·rintro D σ w hD hdep hcl ⟨hv, ha, hw⟩
     obtain ⟨τ, rfl⟩ := (ac (hv.at 2 rfl (hdep.2.2.1 rfl)) (ac (hv.at 4 rfl (hdep.1 rfl)) (ac (hv.at 11 rfl (hdep.2.1 rfl)) az))).ups
     refine sk rfl (.inl (cb hg126)) rfl ?_
     refine RL.nil ?_
     exact ⟨rfl, hv.put 12 rfl rfl, ha.up rfl, hw⟩
    ·rintro D σ w hD hdep hcl ⟨hv, ha, hw⟩
     obtain ⟨τ, rfl⟩ := (ac (hv.at 2 rfl (hdep.1 rfl)) (ac (hv.at 12 rfl (hdep.2.1 rfl)) az)).ups
     refine RL.pick (b := (decide ((k44 : Int) > 0))) (v := (vb false)) trivial rfl rfl (by rw [hg126]; rfl) ?_
     refine RL.nil ?_
     exact ⟨rfl, hv.put 13 rfl rfl, ha.up rfl, hw⟩
    rintro D σ w hall ⟨hv, ha, hw⟩
    obtain ⟨τ, rfl⟩ := (ac (hv.at 13 rfl (hall 13 (by decide))) (ac (ha.at 0 rfl) (ac (ha.at 1 rfl) (ac (ha.at 2 rfl) (ac (ha.at 3 rfl) (ac (ha.at 4 rfl) (ac (ha.at 5 rfl) (ac (ha.at 6 rfl) (ac (ha.at 7 rfl) az))))))))).ups
    obtain rfl := oi hj
    exact ⟨rfl, ⟨rfl, rfl, rfl, rfl, rfl, rfl, rfl, trivial⟩, hw.pick 11 [7, 8, 1, 10] (new := [pt (vp b31 0) p0, pt (vp b32 0) p1, mp v41 x113.2, rd v43 p1.Nets]) rfl rfl (by decide) (by decide)⟩
   replace hj := cT hg126 hj
   obtain ⟨x129, hx129, hj⟩ := bd hj
   refine RC.drw mixed rfl (fun (D : Nat → Bool) (σ : Nat → Value) (w : World) => ∃ (v127 : Value) (v128 : Value) (v130 : Value) (v131 : Value), doneV D σ [(0, 56, (vi (k44 : Int))), (1, 57, (vb (decide ((k44 : Int) > 0)))), (2, 58, (vb (decide ((k44 : Int) > 0)))), (3, 59, (vp b109 0)), (4, 60, (str x106.Name)), (5, 61, v127), (6, 62, v128), (7, 63, (vi (k44 : Int))), (8, 64, (vi (IntKind.wrap .i64 ((k44 : Int) - 1)))), (9, 65, v130), (10, 66, v131), (11, 67, (str x129.Name)), (12, 68, (vb (x106.Name.ltb x129.Name || x106.Name.eqb x129.Name))), (13, 69, (vb (x106.Name.ltb x129.Name || x106.Name.eqb x129.Name)))] ∧ agree σ [(2, (vp b31 0)), (3, (vp b32 0)), (7, v41), (8, (vi (k44 : Int))), (9, (vp b109 0)), (29, v43), (30, (vi (p1.Nets.length : Int))), (31, (vi (k44 : Int)))] ∧ Holds E w ([bif D 5 then (pt v127 p1.Nets) else junk, bif D 6 then (rd v128 p1.Nets) else junk, bif D 9 then (pt v130 x129) else junk, bif D 10 then (pt v131 x129.Name) else junk, rd v114 x106.Ports, mp v41 x113.2, rd v112 x106.Pins, rd v111 x106.Pins, bx 38 b109 x106, rd v108 x106, pt v107 x106, pt (vp b31 0) p0, pt (vp b32 0) p1, junk, rd v43 p1.Nets] ++ Γ)) ?_ ⟨?_, ?_, ?_, ?_, ?_, ?_, ?_, ?_, ?_, ?_, ?_, ?_, ?_, ?_, trivial⟩ ?_
   ·have hw := hw.drew
    have hw := hw.junk
    have hw := hw.junk
    have hw := hw.junk
    have hw := hw.junk
    exact ⟨undef, undef, undef, undef, doneV.none, ⟨rfl, rfl, rfl, rfl, rfl, rfl, rfl, rfl, trivial⟩, hw⟩
   ·rintro D σ w hD hdep hcl ⟨v127, v128, v130, v131, hv, ha, hw⟩
    obtain ⟨τ, rfl⟩ := (ac (ha.at 3 rfl) az).ups
    refine mv (vi (k44 : Int)) rfl rfl ?_
    refine RL.nil ?_
    exact ⟨rfl, v127, v128, v130, v131, hv.put 0 rfl rfl, ha.up rfl, hw⟩
   ·rintro D σ w hD hdep hcl ⟨v127, v128, v130, v131, hv, ha, hw⟩
    obtain ⟨τ, rfl⟩ := (ac (hv.at 0 rfl (hdep.1 rfl)) az).ups
    refine ic ((k44 : Int)) 0 rfl rfl rfl rfl ?_
    refine RL.nil ?_
    exact ⟨rfl, v127, v128, v130, v131, hv.put 1 rfl rfl, ha.up rfl, hw⟩
   ·rintro D σ w hD hdep hcl ⟨v127, v128, v130, v131, hv, ha, hw⟩
    obtain ⟨τ, rfl⟩ := (ac (hv.at 1 rfl (hdep.1 rfl)) az).ups
    refine mv (vb (decide ((k44 : Int) > 0))) rfl rfl ?_
    refine RL.nil ?_
    exact ⟨rfl, v127, v128, v130, v131, hv.put 2 rfl rfl, ha.up rfl, hw⟩
   ·rintro D σ w hD hdep hcl ⟨v127, v128, v130, v131, hv, ha, hw⟩
    obtain ⟨τ, rfl⟩ := (ac (hv.at 2 rfl (hdep.1 rfl)) (ac (ha.at 4 rfl) az)).ups
    refine RL.fa_b ⟨_, rfl, cb hg126⟩ rfl rfl fa38_0 ?_
    refine RL.nil ?_
    exact ⟨rfl, v127, v128, v130, v131, hv.put 3 rfl rfl, ha.up rfl, hw⟩
   ·rintro D σ w hD hdep hcl ⟨v127, v128, v130, v131, hv, ha, hw⟩
    obtain ⟨τ, rfl⟩ := (ac (hv.at 2 rfl (hdep.2.1 rfl)) (ac (hv.at 3 rfl (hdep.1 rfl)) az)).ups
    refine RL.load_bfs (i := 8) (f := (fun x => x.Name)) ⟨_, rfl, cb hg126⟩ rfl hw rfl rfl fd_Net_0 ty9 ?_
    refine RL.nil ?_
    exact ⟨rfl, v127, v128, v130, v131, hv.put 4 rfl rfl, ha.up rfl, hw⟩
   ·rintro D σ w hD hdep hcl ⟨v127, v128, v130, v131, hv, ha, hw⟩
    obtain ⟨τ, rfl⟩ := (ac (hv.at 2 rfl (hdep.1 rfl)) (ac (ha.at 1 rfl) az)).ups
    have hw := hw.selF (i := 0) rfl hD
    refine RL.fa_pt (i := 12) (f := fun (x : Netlist) => x.Nets) ⟨_, rfl, cb hg126⟩ rfl hw rfl rfl fa26_1 fd_Netlist_1 fun v132 hw => ?_
    have hw := hw.pick 16 [0, 2, 3, 4, 5, 6, 7, 8, 9, 10, 11, 12, 13, 14, 15] (new := [pt v132 p1.Nets, bif D 6 then (rd v128 p1.Nets) else junk, bif D 9 then (pt v130 x129) else junk, bif D 10 then (pt v131 x129.Name) else junk, rd v114 x106.Ports, mp v41 x113.2, rd v112 x106.Pins, rd v111 x106.Pins, bx 38 b109 x106, rd v108 x106, pt v107 x106, pt (vp b31 0) p0, pt (vp b32 0) p1, junk, rd v43 p1.Nets]) rfl rfl (by decide) (by decide)
    have hw := hw.altT (i := 0) (b := true) rfl rfl (junk)
    refine RL.nil ?_
    exact ⟨rfl, v132, v128, v130, v131, hv.put 5 rfl rfl, ha.up rfl, hw⟩
   ·rintro D σ w hD hdep hcl ⟨v127, v128, v130, v131, hv, ha, hw⟩
    obtain ⟨τ, rfl⟩ := (ac (hv.at 2 rfl (hdep.2.1 rfl)) (ac (hv.at 5 rfl (hdep.1 rfl)) az)).ups
    have hw := hw.selT (i := 0) rfl (hdep.1 rfl)
    have hw := hw.selF (i := 1) rfl hD
    refine RL.load_pt (i := 0) (x := p1.Nets) ⟨_, rfl, cb hg126⟩ rfl hw rfl rfl ty24 fun v133 hw => ?_
    have hw := hw.pick 16 [1, 0, 3, 4, 5, 6, 7, 8, 9, 10, 11, 12, 13, 14, 15] (new := [pt v127 p1.Nets, rd v133 p1.Nets, bif D 9 then (pt v130 x129) else junk, bif D 10 then (pt v131 x129.Name) else junk, rd v114 x106.Ports, mp v41 x113.2, rd v112 x106.Pins, rd v111 x106.Pins, bx 38 b109 x106, rd v108 x106, pt v107 x106, pt (vp b31 0) p0, pt (vp b32 0) p1, junk, rd v43 p1.Nets]) rfl rfl (by decide) (by decide)
    have hw := hw.altT (i := 0) (b := D 5) rfl (hdep.1 rfl) (junk)
    have hw := hw.altT (i := 1) (b := true) rfl rfl (junk)
    refine RL.nil ?_
    exact ⟨rfl, v127, v133, v130, v131, hv.put 6 rfl rfl, ha.up rfl, hw⟩
   ·rintro D σ w hD hdep hcl ⟨v127, v128, v130, v131, hv, ha, hw⟩
    obtain ⟨τ, rfl⟩ := (ac (hv.at 2 rfl (hdep.1 rfl)) (ac (ha.at 3 rfl) az)).ups
    refine RL.move (v := (vi (k44 : Int))) ⟨_, rfl, cb hg126⟩ rfl rfl ?_
    refine RL.nil ?_
    exact ⟨rfl, v127, v128, v130, v131, hv.put 7 rfl rfl, ha.up rfl, hw⟩
   ·rintro D σ w hD hdep hcl ⟨v127, v128, v130, v131, hv, ha, hw⟩
    obtain ⟨τ, rfl⟩ := (ac (hv.at 2 rfl (hdep.2.1 rfl)) (ac (hv.at 7 rfl (hdep.1 rfl)) az)).ups
    refine RL.iar (a := (k44 : Int)) (b := 1) ⟨_, rfl, cb hg126⟩ rfl rfl rfl rfl ?_
    refine RL.nil ?_
    exact ⟨rfl, v127, v128, v130, v131, hv.put 8 rfl rfl, ha.up rfl, hw⟩
   ·rintro D σ w hD hdep hcl ⟨v127, v128, v130, v131, hv, ha, hw⟩
    obtain ⟨τ, rfl⟩ := (ac (hv.at 2 rfl (hdep.2.2.1 rfl)) (ac (hv.at 6 rfl (hdep.1 rfl)) (ac (hv.at 8 rfl (hdep.2.1 rfl)) az))).ups
    have hw := hw.selT (i := 1) rfl (hdep.1 rfl)
    have hw := hw.selF (i := 2) rfl hD
    refine RL.ia_rd (i := 1) ⟨_, rfl, cb hg126⟩ rfl hw rfl rfl rfl sl24 hx129 fun v134 hw => ?_
    have hw := hw.pick 16 [1, 2, 0, 4, 5, 6, 7, 8, 9, 10, 11, 12, 13, 14, 15] (new := [bif D 5 then (pt v127 p1.Nets) else junk, rd v128 p1.Nets, pt v134 x129, bif D 10 then (pt v131 x129.Name) else junk, rd v114 x106.Ports, mp v41 x113.2, rd v112 x106.Pins, rd v111 x106.Pins, bx 38 b109 x106, rd v108 x106, pt v107 x106, pt (vp b31 0) p0, pt (vp b32 0) p1, junk, rd v43 p1.Nets]) rfl rfl (by decide) (by decide)
    have hw := hw.altT (i := 1) (b := D 6) rfl (hdep.1 rfl) (junk)
    have hw := hw.altT (i := 2) (b := true) rfl rfl (junk)
    refine RL.nil ?_
    exact ⟨rfl, v127, v128, v134, v131, hv.put 9 rfl rfl, ha.up rfl, hw⟩
   ·rintro D σ w hD hdep hcl ⟨v127, v128, v130, v131, hv, ha, hw⟩
    obtain ⟨τ, rfl⟩ := (ac (hv.at 2 rfl (hdep.2.1 rfl)) (ac (hv.at 9 rfl (hdep.1 rfl)) az)).ups
    have hw := hw.selT (i := 2) rfl (hdep.1 rfl)
    have hw := hw.selF (i := 3) rfl hD
    refine RL.fa_pt (i := 2) (f := fun (x : Net) => x.Name) ⟨_, rfl, cb hg126⟩ rfl hw rfl rfl fa38_0 fd_Net_0 fun v135 hw => ?_
    have hw := hw.pick 16 [1, 2, 3, 0, 5, 6, 7, 8, 9, 10, 11, 12, 13, 14, 15] (new := [bif D 5 then (pt v127 p1.Nets) else junk, bif D 6 then (rd v128 p1.Nets) else junk, pt v130 x129, pt v135 x129.Name, rd v114 x106.Ports, mp v41 x113.2, rd v112 x106.Pins, rd v111 x106.Pins, bx 38 b109 x106, rd v108 x106, pt v107 x106, pt (vp b31 0) p0, pt (vp b32 0) p1, junk, rd v43 p1.Nets]) rfl rfl (by decide) (by decide)
    have hw := hw.altT (i := 2) (b := D 9) rfl (hdep.1 rfl) (junk)
    have hw := hw.altT (i := 3) (b := true) rfl rfl (junk)
    refine RL.nil ?_
    exact ⟨rfl, v127, v128, v130, v135, hv.put 10 rfl rfl, ha.up rfl, hw⟩
   ·rintro D σ w hD hdep hcl ⟨v127, v128, v130, v131, hv, ha, hw⟩
    obtain ⟨τ, rfl⟩ := (ac (hv.at 2 rfl (hdep.2.1 rfl)) (ac (hv.at 10 rfl (hdep.1 rfl)) az)).ups
    have hw := hw.selT (i := 3) rfl (hdep.1 rfl)
    refine RL.load_pts (i := 3) (y := x129.Name) ⟨_, rfl, cb hg126⟩ rfl hw rfl rfl ty9 ?_
    have hw := hw.altT (i := 3) (b := D 10) rfl (hdep.1 rfl) (junk)
    refine RL.nil ?_
    exact ⟨rfl, v127, v128, v130, v131, hv.put 11 rfl rfl, ha.up rfl, hw⟩
   ·rintro D σ w hD hdep hcl ⟨v127, v128, v130, v131, hv, ha, hw⟩
    obtain ⟨τ, rfl⟩ := (ac (hv.at 2 rfl (hdep.2.2.1 rfl)) (ac (hv.at 4 rfl (hdep.1 rfl)) (ac (hv.at 11 rfl (hdep.2.1 rfl)) az))).ups
    refine RL.scmp (a := x106.Name) (b := x129.Name) ⟨_, rfl, cb hg126⟩ rfl rfl rfl rfl ?_
    refine RL.nil ?_
    exact ⟨rfl, v127, v128, v130, v131, hv.put 12 rfl rfl, ha.up rfl, hw⟩
   ·rintro D σ w hD hdep hcl ⟨v127, v128, v130, v131, hv, ha, hw⟩
    obtain ⟨τ, rfl⟩ := (ac (hv.at 2 rfl (hdep.1 rfl)) (ac (hv.at 12 rfl (hdep.2.1 rfl)) az)).ups
    refine RL.pick (b := (decide ((k44 : Int) > 0))) (v := (vb (x106.Name.ltb x129.Name || x106.Name.eqb x129.Name))) trivial rfl rfl (by rw [hg126]; rfl) ?_
    refine RL.nil ?_
    exact ⟨rfl, v127, v128, v130, v131, hv.put 13 rfl rfl, ha.up rfl, hw⟩
   rintro D σ w hall ⟨v127, v128, v130, v131, hv, ha, hw⟩
   rw [hall 5 (by decide), hall 6 (by decide), hall 9 (by decide), hall 10 (by decide)] at hw
   obtain ⟨τ, rfl⟩ := (ac (hv.at 13 rfl (hall 13 (by decide))) (ac (ha.at 0 rfl) (ac (ha.at 1 rfl) (ac (ha.at 2 rfl) (ac (ha.at 3 rfl) (ac (ha.at 4 rfl) (ac (ha.at 5 rfl) (ac (ha.at 6 rfl) (ac (ha.at 7 rfl) az))))))))).ups
   obtain rfl := oi hj
   exact ⟨rfl, ⟨rfl, rfl, rfl, rfl, rfl, rfl, rfl, trivial⟩, hw.pick 15 [11, 12, 5, 14] (new := [pt (vp b31 0) p0, pt (vp b32 0) p1, mp v41 x113.2, rd v43 p1.Nets]) rfl rfl (by decide) (by decide)⟩
  rintro σ w ⟨ha, hw⟩
  obtain ⟨τ, rfl⟩ := ha.ups
  refine thenQ_n ?_
  refine RC.cond (b := s125) rfl (fun hc => ?_) (fun hc => ?_)
  rotate_left
  ·replace hb := cF hc hb
   refine RC.skip ?_
   refine blkQ_n ?_
   refine thenQ_n ?_
   refine RC.region ?_
   refine RL.inc trivial rfl hk hm rfl rfl ?_
   refine mv (vi ((k44 + 1 : Nat) : Int)) rfl rfl ?_
   refine RL.nil ?_
   obtain rfl := oi hb
   exact ⟨rfl, ⟨rfl, rfl, rfl, rfl, rfl, rfl, trivial⟩, hw.pick 4 [0, 1, 2, 3] (new := [pt (vp b31 0) p0, pt (vp b32 0) p1, mp v41 x113.2, rd v43 p1.Nets]) rfl rfl (by decide) (by decide)⟩
  replace hb := cT hc hb
  refine RC.sr ?_
  refine as_ (vi 8) rfl rfl ?_
  refine RL.nt ?_
  refine RC.rb ?_
  refine thenQ_r ?_
  obtain rfl := oi hb
  exact ⟨rfl, fin1 rfl rfl ⟨rfl, hw.drop 4 rfl⟩⟩
 ·intro r σ w e hK
  subst e
  refine thenQ_r ?_
  obtain rfl := oi hb
  exact hK
 intro s45 σ w e hJ
 subst e
 rw [Fo.cs_go] at hb
 obtain ⟨ha, hw⟩ := hJ
 obtain ⟨τ, rfl⟩ := ha.ups
 refine thenQ_n ?_
 refine RC.sr ?_
 refine as_ (vi 0) rfl rfl ?_
 refine RL.nt ?_
 refine RC.ret ?_
 obtain rfl := oi hb
 exact fin1 rfl rfl ⟨rfl, hw.drop 4 rfl⟩
def slices_BinarySearchFunc_Net_string_R (E : World) (Γ : List HP) (res : Int × Bool) (v : Value) (w : World) : Prop := v = .tuple #[(vi res.1), (vb res.2)] ∧ Holds E w Γ
theorem slices_BinarySearchFunc_Net_string_ok (N : Nat) {E w : World} {Γ : List HP} {i0 : Nat} {v0 : Value} {p0 : (List Net)} {p1 : Str} {v2 : Value} {p2 : Net → Str → Option Int} {res : Int × Bool} (hw : Holds E w Γ) (h0 : Γ[i0]? = some (rd v0 p0)) (h2 : Fn2 Tryz.prog E Γ v2 p2 (fun (r : Int) => Value.int .i64 r)) (hb : slices_BinarySearchFunc_Net_string N p0 p1 p2 = some res) :
    Calls Tryz.prog 30 [v0, (str p1), v2].toArray w (Ret (slices_BinarySearchFunc_Net_string_R E Γ res)) := by
 unfold slices_BinarySearchFunc_Net_string at hb
 refine enter Tryz.func30 rfl rfl (Nat.le_of_ble_eq_true rfl) ?_
 have hw := hw.dup (i := i0 + 0) h0
 refine RC.sr ?_
 refine as_ (vi 0) rfl rfl ?_
 refine as_ (vb false) rfl rfl ?_
 refine RL.ns ?_
 refine mv v0 rfl rfl ?_
 refine RL.len_rd (i := 0) (l := p0) trivial rfl hw rfl rfl un24 ?_
 refine as_ (vi (p0.length : Int)) rfl rfl ?_
 refine RL.ns ?_
 refine mv (vi (p0.length : Int)) rfl rfl ?_
 refine as_ (vi 0) rfl rfl ?_
 refine as_ (vi (p0.length : Int)) rfl rfl ?_
 refine RL.nq ?_
 obtain ⟨o59, hN, hb⟩ := bd hb
 refine RC.iter (fun (s32 : Int × Int) (σ : Nat → Value) (w : World) => agree σ [(0, v0), (1, (str p1)), (2, v2), (8, (vi (p0.length : Int))), (9, (vi s32.1)), (10, (vi s32.2))] ∧ Holds E w ([rd v0 p0] ++ Γ)) (fun (s32 : Int × Int) (σ : Nat → Value) (w : World) => agree σ [(0, v0), (1, (str p1)), (2, v2), (8, (vi (p0.length : Int))), (9, (vi s32.1))] ∧ Holds E w ([rd v0 p0] ++ Γ)) (fun (r : Empty) (_ : Nat → Value) (_ : World) => r.elim) hN ?_ ?_ ?_ ?_ 
 ·exact ⟨⟨rfl, rfl, rfl, rfl, rfl, rfl, trivial⟩, hw.pick 1 [0] (new := [rd v0 p0]) rfl rfl (by decide) (by decide)⟩
 ·intro s32 fl σ w hI hb
  obtain ⟨ha, hw⟩ := hI
  obtain ⟨τ, rfl⟩ := ha.ups
  refine RC.seq ?_
  refine RC.sr ?_
  refine mv (vi s32.1) rfl rfl ?_
  refine mv (vi s32.2) rfl rfl ?_
  refine ic (s32.1) (s32.2) rfl rfl rfl rfl ?_
  refine RL.nt ?_
  refine RC.cond (b := (decide (s32.1 < s32.2))) rfl (fun hc => ?_) (fun hc => ?_)
  rotate_left
  ·replace hb := cF hc hb
   refine RC.ex ?_
   obtain rfl := oi hb
   exact ⟨rfl, ⟨rfl, rfl, rfl, rfl, rfl, trivial⟩, hw.pick 1 [0] (new := [rd v0 p0]) rfl rfl (by decide) (by decide)⟩
  replace hb := cT hc hb
  refine RC.sn ?_
  refine RC.bs ?_
  refine mv (vi s32.1) rfl rfl ?_
  refine mv (vi s32.2) rfl rfl ?_
  refine RL.iar (a := s32.1) (b := s32.2) trivial rfl rfl rfl rfl ?_
  refine RL.conv (a := (IntKind.wrap .i64 (s32.1 + s32.2))) trivial rfl rfl ⟨_, un3⟩ un75 ?_
  refine RL.bin (v := (.int .u64 (IntKind.wrap .u64 (IntKind.wrap .i64 (s32.1 + s32.2))))) (v' := (.int .u64 1)) (u := (.int .u64 (Int.fdiv (IntKind.wrap .u64 (IntKind.wrap .i64 (s32.1 + s32.2))) 2))) trivial rfl rfl rfl (fun _ => rfl) (fun _ => rfl) ?_
  refine RL.conv (a := (Int.fdiv (IntKind.wrap .u64 (IntKind.wrap .i64 (s32.1 + s32.2))) 2)) trivial rfl rfl ⟨_, un75⟩ un3 ?_
  refine as_ (vi (IntKind.wrap .i64 (Int.fdiv (IntKind.wrap .u64 (IntKind.wrap .i64 (s32.1 + s32.2))) 2))) rfl rfl ?_
  refine RL.ns ?_
  refine mv v2 rfl rfl ?_
  refine mv v0 rfl rfl ?_
  refine mv (vi (IntKind.wrap .i64 (Int.fdiv (IntKind.wrap .u64 (IntKind.wrap .i64 (s32.1 + s32.2))) 2))) rfl rfl ?_
  obtain ⟨x43, hx43, hb⟩ := bd hb
  refine RL.ia_rd (i := 0) trivial rfl hw rfl rfl rfl sl24 hx43 fun v44 hw => ?_
  refine RL.load_pt (i := 0) (x := x43) trivial rfl hw rfl rfl ty38 fun v45 hw => ?_
  refine mv (str p1) rfl rfl ?_
  have hw := hw.sc (γ := Str) p1
  obtain ⟨x46, hx46, hb⟩ := bd hb
  refine RL.callF2 (i := 1) (j := 0) trivial rfl hw rfl h2 4 rfl rfl rfl rfl rfl hx46 fun w hw => ?_
  refine ic x46 0 rfl rfl rfl rfl ?_
  refine RL.nt ?_
  obtain ⟨s47, hj, hb⟩ := bd hb
  refine RC.jn (fun (s47 : Int × Int) (σ : Nat → Value) (w : World) => agree σ [(0, v0), (1, (str p1)), (2, v2), (8, (vi (p0.length : Int))), (9, (vi s47.1)), (10, (vi s47.2))] ∧ Holds E w ([rd v0 p0] ++ Γ)) s47 ?_ ?_
  ·refine RC.cond (b := (decide (x46 < 0))) rfl (fun hc => ?_) (fun hc => ?_)
   rotate_left
   ·replace hj := cF hc hj
    refine RC.region ?_
    refine mv (vi (IntKind.wrap .i64 (Int.fdiv (IntKind.wrap .u64 (IntKind.wrap .i64 (s32.1 + s32.2))) 2))) rfl rfl ?_
    refine as_ (vi (IntKind.wrap .i64 (Int.fdiv (IntKind.wrap .u64 (IntKind.wrap .i64 (s32.1 + s32.2))) 2))) rfl rfl ?_
    refine RL.nil ?_
    obtain rfl := oi hj
    exact ⟨rfl, ⟨rfl, rfl, rfl, rfl, rfl, rfl, trivial⟩, hw.pick 4 [3] (new := [rd v0 p0]) rfl rfl (by decide) (by decide)⟩
   replace hj := cT hc hj
   refine RC.region ?_
   refine mv (vi (IntKind.wrap .i64 (Int.fdiv (IntKind.wrap .u64 (IntKind.wrap .i64 (s32.1 + s32.2))) 2))) rfl rfl ?_
   refine RL.iar (a := (IntKind.wrap .i64 (Int.fdiv (IntKind.wrap .u64 (IntKind.wrap .i64 (s32.1 + s32.2))) 2))) (b := 1) trivial rfl rfl rfl rfl ?_
   refine as_ (vi (IntKind.wrap .i64 ((IntKind.wrap .i64 (Int.fdiv (IntKind.wrap .u64 (IntKind.wrap .i64 (s32.1 + s32.2))) 2)) + 1))) rfl rfl ?_
   refine RL.nil ?_
   obtain rfl := oi hj
   exact ⟨rfl, ⟨rfl, rfl, rfl, rfl, rfl, rfl, trivial⟩, hw.pick 4 [3] (new := [rd v0 p0]) rfl rfl (by decide) (by decide)⟩
  rintro σ w ⟨ha, hw⟩
  obtain ⟨τ, rfl⟩ := ha.ups
  refine blkQ_n ?_
  obtain rfl := oi hb
  exact ⟨rfl, ⟨rfl, rfl, rfl, rfl, rfl, rfl, trivial⟩, hw.pick 1 [0] (new := [rd v0 p0]) rfl rfl (by decide) (by decide)⟩
 ·intro r _ _ _ _
  exact r.elim
 intro s32 σ w e hJ
 subst e
 rw [Fo.cs_go] at hb
 obtain ⟨ha, hw⟩ := hJ
 obtain ⟨τ, rfl⟩ := ha.ups
 refine thenQ_n ?_
 refine RC.seq ?_
 obtain ⟨s53, hj, hb⟩ := bd hb
 refine RC.jn (fun (s53 : Bool) (σ : Nat → Value) (w : World) => agree σ [(6, (vi s32.1)), (7, (vb s53))] ∧ Holds E w ([] ++ Γ)) s53 ?_ ?_
 ·refine RC.region ?_
  refine mv (vi s32.1) rfl rfl ?_
  refine mv (vi s32.1) rfl rfl ?_
  refine mv (vi (p0.length : Int)) rfl rfl ?_
  refine ic (s32.1) ((p0.length : Int)) rfl rfl rfl rfl ?_
  refine mv (vb (decide (s32.1 < (p0.length : Int)))) rfl rfl ?_
  rcases Bool.eq_false_or_eq_true (decide (s32.1 < (p0.length : Int))) with hg54 | hg54
  rotate_left
  ·replace hj := cF hg54 hj
   refine sk rfl (.inl (cb hg54)) rfl ?_
   refine sk rfl (.inl (cb hg54)) rfl ?_
   refine sk rfl (.inl (cb hg54)) rfl ?_
   refine sk rfl (.inl (cb hg54)) rfl ?_
   refine sk rfl (.inl (cb hg54)) rfl ?_
   refine sk rfl (.inl (cb hg54)) rfl ?_
   refine sk rfl (.inl (cb hg54)) rfl ?_
   refine sk rfl (.inl (cb hg54)) rfl ?_
   refine RL.pick (b := (decide (s32.1 < (p0.length : Int)))) (v := (vb false)) trivial rfl rfl (by rw [hg54]; rfl) ?_
   refine as_ (vi s32.1) rfl rfl ?_
   refine as_ (vb false) rfl rfl ?_
   refine RL.nil ?_
   obtain rfl := oi hj
   exact ⟨rfl, ⟨rfl, rfl, trivial⟩, hw.pick 1 [] (new := []) rfl rfl (by decide) (by decide)⟩
  replace hj := cT hg54 hj
  refine RL.move (v := v2) ⟨_, rfl, cb hg54⟩ rfl rfl ?_
  refine RL.move (v := v0) ⟨_, rfl, cb hg54⟩ rfl rfl ?_
  refine RL.move (v := (vi s32.1)) ⟨_, rfl, cb hg54⟩ rfl rfl ?_
  obtain ⟨x55, hx55, hj⟩ := bd hj
  refine RL.ia_rd (i := 0) ⟨_, rfl, cb hg54⟩ rfl hw rfl rfl rfl sl24 hx55 fun v56 hw => ?_
  refine RL.load_pt (i := 0) (x := x55) ⟨_, rfl, cb hg54⟩ rfl hw rfl rfl ty38 fun v57 hw => ?_
  refine RL.move (v := (str p1)) ⟨_, rfl, cb hg54⟩ rfl rfl ?_
  have hw := hw.sc (γ := Str) p1
  obtain ⟨x58, hx58, hj⟩ := bd hj
  refine RL.callF2 (i := 1) (j := 0) ⟨_, rfl, cb hg54⟩ rfl hw rfl h2 4 rfl rfl rfl rfl rfl hx58 fun w hw => ?_
  refine RL.icmp (a := x58) (b := 0) ⟨_, rfl, cb hg54⟩ rfl rfl rfl rfl ?_
  refine RL.pick (b := (decide (s32.1 < (p0.length : Int)))) (v := (vb (x58 == 0))) trivial rfl rfl (by rw [hg54]; rfl) ?_
  refine as_ (vi s32.1) rfl rfl ?_
  refine as_ (vb (x58 == 0)) rfl rfl ?_
  refine RL.nil ?_
  obtain rfl := oi hj
  exact ⟨rfl, ⟨rfl, rfl, trivial⟩, hw.pick 4 [] (new := []) rfl rfl (by decide) (by decide)⟩
 rintro σ w ⟨ha, hw⟩
 obtain ⟨τ, rfl⟩ := ha.ups
 refine thenQ_n ?_
 refine RC.ret ?_
 obtain rfl := oi hb
 exact fin2 rfl rfl rfl ⟨rfl, hw.drop 0 rfl⟩
def netlist_NetAt_c1_R (E : World) (Γ : List HP) (res : Int) (v : Value) (w : World) : Prop := v = (vi res) ∧ Holds E w Γ
theorem netlist_NetAt_c1_ok (N : Nat) {E w : World} {Γ : List HP} {i0 : Nat} {v0 : Value} {p0 : Net} {p1 : Str} {res : Int} (hw : Holds E w Γ) (h0 : Γ[i0]? = some (rd v0 p0)) (hb : netlist_NetAt_c1 N p0 p1 = some res) :
    Calls Tryz.prog 31 [v0, (str p1)].toArray w (Ret (netlist_NetAt_c1_R E Γ res)) := by
 unfold netlist_NetAt_c1 at hb
 refine enter Tryz.func31 rfl rfl (Nat.le_of_ble_eq_true rfl) ?_
 have hw := hw.dup (i := i0 + 0) h0
 refine RC.sr ?_
 refine RL.box_rd (i := 0) (v := v0) trivial rfl hw rfl rfl fun b31 w hw => ?_
 refine as_ (vi 0) rfl rfl ?_
 refine RL.ns ?_
 refine RL.fa_b trivial rfl rfl fa38_0 ?_
 refine RL.load_bfs (i := 0) (f := (fun x => x.Name)) trivial rfl hw rfl rfl fd_Net_0 ty9 ?_
 refine mv (str p1) rfl rfl ?_
 obtain ⟨x32, hx32, hb⟩ := bd hb
 refine RL.call trivial rfl fn32 [(str p0.Name), (str p1)] rfl (Calls_ret (strings_Compare_ok N (p0 := p0.Name) (p1 := p1)  hw  hx32) ?_)
 rintro _ w ⟨rfl, hw⟩
 refine as_ (vi x32) rfl rfl ?_
 refine RL.nt ?_
 refine RC.ret ?_
 obtain rfl := oi hb
 exact fin1 rfl rfl ⟨rfl, hw.drop 2 rfl⟩
def netlist_NetAt_R (E : World) (Γ : List HP) (res : Int) (v : Value) (w : World) : Prop := v = (vi res) ∧ Holds E w Γ
theorem netlist_NetAt_ok (N : Nat) {E w : World} {Γ : List HP} {i0 : Nat} {v0 : Value} {p0 : Netlist} {p1 : Str} {res : Int} (hw : Holds E w Γ) (h0 : Γ[i0]? = some (rd v0 p0)) (hb : netlist_NetAt N p0 p1 = some res) :
    Calls Tryz.prog 9 [v0, (str p1)].toArray w (Ret (netlist_NetAt_R E Γ res)) := by
 unfold netlist_NetAt at hb
 refine enter Tryz.func9 rfl rfl (Nat.le_of_ble_eq_true rfl) ?_
 have hw := hw.dup (i := i0 + 0) h0
 refine RC.sr ?_
 refine RL.box_rd (i := 0) (v := v0) trivial rfl hw rfl rfl fun b31 w hw => ?_
 refine as_ (vi 0) rfl rfl ?_
 refine RL.ns ?_
 refine RL.fa_b trivial rfl rfl fa26_1 ?_
 refine RL.load_bf (i := 0) (f := (fun x => x.Nets)) trivial rfl hw rfl rfl fd_Netlist_1 ty24 fun v32 hw => ?_
 refine mv (str p1) rfl rfl ?_
 obtain ⟨x33, hx33, hb⟩ := bd hb
 refine RL.call trivial rfl fn30 [v32, (str p1), (.func (.func 31) #[] #[])] rfl (Calls_ret (slices_BinarySearchFunc_Net_string_ok N (p1 := p1) (i0 := 0) hw rfl ⟨31, [], rfl, fn31, fun w Γl v v' y0 y1 r i j hw hi hj hr => by obtain rfl := hw.ofSc (γ := Str) hj; exact Calls_ret (netlist_NetAt_c1_ok N (p1 := y1) (i0 := i) hw hi hr) fun _ _ h => h⟩ hx33) ?_)
 rintro _ w ⟨rfl, hw⟩
 refine mv (.tuple #[(vi x33.1), (vb x33.2)]) rfl rfl ?_
 refine RL.extract (v := (vi x33.1)) trivial rfl rfl rfl ?_
 refine RL.extract (v := (vb x33.2)) trivial rfl rfl rfl ?_
 refine as_ (vi x33.1) rfl rfl ?_
 refine as_ (vb x33.2) rfl rfl ?_
 refine RL.nq ?_
 refine RC.sr ?_
 refine mv (vb x33.2) rfl rfl ?_
 refine RL.not (b := x33.2) trivial rfl rfl ?_
 refine RL.nt ?_
 refine RC.cond (b := (!x33.2)) rfl (fun hc => ?_) (fun hc => ?_)
 ·replace hb := cT hc hb
  refine RC.sr ?_
  refine as_ (vi (-1)) rfl rfl ?_
  refine RL.nt ?_
  refine RC.rt ?_
  obtain rfl := oi hb
  exact fin1 rfl rfl ⟨rfl, hw.drop 3 rfl⟩
 replace hb := cF hc hb
 refine RC.sx ?_
 refine mv (vi x33.1) rfl rfl ?_
 refine as_ (vi x33.1) rfl rfl ?_
 refine RL.nt ?_
 refine RC.ret ?_
 obtain rfl := oi hb
 exact fin1 rfl rfl ⟨rfl, hw.drop 3 rfl⟩
def slices_Clone_Part_R (E : World) (Γ : List HP) (res : (List Part)) (v : Value) (w : World) : Prop := Holds E w (own 48 v res :: Γ)
theorem slices_Clone_Part_ok (N : Nat) {E w : World} {Γ : List HP} {i0 : Nat} {v0 : Value} {p0 : (List Part)} {res : (List Part)} (hw : Holds E w Γ) (h0 : Γ[i0]? = some (rd v0 p0)) (hb : slices_Clone_Part N p0 = some res) :
    Calls Tryz.prog 16 [v0].toArray w (Ret (slices_Clone_Part_R E Γ res)) := by
 unfold slices_Clone_Part at hb
 refine enter Tryz.func16 rfl rfl (Nat.le_of_ble_eq_true rfl) ?_
 have hw := hw.dup (i := i0 + 0) h0
 refine RC.sr ?_
 refine as_ (.slice none 0 0) rfl rfl ?_
 refine RL.nq ?_
 refine RC.sr ?_
 refine mv v0 rfl rfl ?_
 refine RL.eqnil (i := 0) trivial rfl hw rfl rfl rfl un23 ?_
 refine RL.nt ?_
 refine RC.cond (b := (nilV v0)) rfl (fun hc => ?_) (fun hc => ?_)
 ·have hx := hw.nilx (i := 0) rfl hc
  rw [hx] at hb
  replace hb : some ([] : (List Part)) = _ := hb
  refine RC.sr ?_
  refine as_ (.slice none 0 0) rfl rfl ?_
  refine RL.nt ?_
  refine RC.rt ?_
  obtain rfl := oi hb
  have hw := hw.own_nil Part 48
  exact fin1 rfl rfl (hw.pick 2 [0] (new := [own 48 (.slice none 0 0) ([] : (List Part))]) rfl rfl (by decide) (by decide))
 refine RC.sx ?_
 refine RL.bslice (l := ([] : (List Part))) trivial rfl hw [] rfl rfl rfl sl23 ze48 (fun M hs g => trivial) fun v31 w hw => ?_
 refine mv v0 rfl rfl ?_
 obtain ⟨x32, hx32, hb⟩ := bd hb
 refine RL.app (i := 0) (j := 1) trivial rfl hw rfl rfl rfl rfl el23 hx32 fun v33 w hw => ?_
 refine as_ v33 rfl rfl ?_
 refine RL.nt ?_
 refine RC.ret ?_
 obtain rfl := oi hb
 exact fin1 rfl rfl (hw.pick 2 [0] (new := [own 48 v33 x32]) rfl rfl (by decide) (by decide))
def slices_Clone_Net_R (E : World) (Γ : List HP) (res : (List Net)) (v : Value) (w : World) : Prop := Holds E w (own 38 v res :: Γ)
theorem slices_Clone_Net_ok (N : Nat) {E w : World} {Γ : List HP} {i0 : Nat} {v0 : Value} {p0 : (List Net)} {res : (List Net)} (hw : Holds E w Γ) (h0 : Γ[i0]? = some (rd v0 p0)) (hb : slices_Clone_Net N p0 = some res) :
    Calls Tryz.prog 33 [v0].toArray w (Ret (slices_Clone_Net_R E Γ res)) := by
 unfold slices_Clone_Net at hb
 refine enter Tryz.func33 rfl rfl (Nat.le_of_ble_eq_true rfl) ?_
 have hw := hw.dup (i := i0 + 0) h0
 refine RC.sr ?_
 refine as_ (.slice none 0 0) rfl rfl ?_
 refine RL.nq ?_
 refine RC.sr ?_
 refine mv v0 rfl rfl ?_
 refine RL.eqnil (i := 0) trivial rfl hw rfl rfl rfl un24 ?_
 refine RL.nt ?_
 refine RC.cond (b := (nilV v0)) rfl (fun hc => ?_) (fun hc => ?_)
 ·have hx := hw.nilx (i := 0) rfl hc
  rw [hx] at hb
  replace hb : some ([] : (List Net)) = _ := hb
  refine RC.sr ?_
  refine as_ (.slice none 0 0) rfl rfl ?_
  refine RL.nt ?_
  refine RC.rt ?_
  obtain rfl := oi hb
  have hw := hw.own_nil Net 38
  exact fin1 rfl rfl (hw.pick 2 [0] (new := [own 38 (.slice none 0 0) ([] : (List Net))]) rfl rfl (by decide) (by decide))
 refine RC.sx ?_
 refine RL.bslice (l := ([] : (List Net))) trivial rfl hw [] rfl rfl rfl sl24 ze38 (fun M hs g => trivial) fun v31 w hw => ?_
 refine mv v0 rfl rfl ?_
 obtain ⟨x32, hx32, hb⟩ := bd hb
 refine RL.app (i := 0) (j := 1) trivial rfl hw rfl rfl rfl rfl el24 hx32 fun v33 w hw => ?_
 refine as_ v33 rfl rfl ?_
 refine RL.nt ?_
 refine RC.ret ?_
 obtain rfl := oi hb
 exact fin1 rfl rfl (hw.pick 2 [0] (new := [own 38 v33 x32]) rfl rfl (by decide) (by decide))
def slices_Clone_Pin_R (E : World) (Γ : List HP) (res : (List Pin)) (v : Value) (w : World) : Prop := Holds E w (own 43 v res :: Γ)
theorem slices_Clone_Pin_ok (N : Nat) {E w : World} {Γ : List HP} {i0 : Nat} {v0 : Value} {p0 : (List Pin)} {res : (List Pin)} (hw : Holds E w Γ) (h0 : Γ[i0]? = some (rd v0 p0)) (hb : slices_Clone_Pin N p0 = some res) :
    Calls Tryz.prog 19 [v0].toArray w (Ret (slices_Clone_Pin_R E Γ res)) := by
 unfold slices_Clone_Pin at hb
 refine enter Tryz.func19 rfl rfl (Nat.le_of_ble_eq_true rfl) ?_
 have hw := hw.dup (i := i0 + 0) h0
 refine RC.sr ?_
 refine as_ (.slice none 0 0) rfl rfl ?_
 refine RL.nq ?_
 refine RC.sr ?_
 refine mv v0 rfl rfl ?_
 refine RL.eqnil (i := 0) trivial rfl hw rfl rfl rfl un35 ?_
 refine RL.nt ?_
 refine RC.cond (b := (nilV v0)) rfl (fun hc => ?_) (fun hc => ?_)
 ·have hx := hw.nilx (i := 0) rfl hc
  rw [hx] at hb
  replace hb : some ([] : (List Pin)) = _ := hb
  refine RC.sr ?_
  refine as_ (.slice none 0 0) rfl rfl ?_
  refine RL.nt ?_
  refine RC.rt ?_
  obtain rfl := oi hb
  have hw := hw.own_nil Pin 43
  exact fin1 rfl rfl (hw.pick 2 [0] (new := [own 43 (.slice none 0 0) ([] : (List Pin))]) rfl rfl (by decide) (by decide))
 refine RC.sx ?_
 refine RL.bslice (l := ([] : (List Pin))) trivial rfl hw [] rfl rfl rfl sl35 ze43 (fun M hs g => trivial) fun v31 w hw => ?_
 refine mv v0 rfl rfl ?_
 obtain ⟨x32, hx32, hb⟩ := bd hb
 refine RL.app (i := 0) (j := 1) trivial rfl hw rfl rfl rfl rfl el35 hx32 fun v33 w hw => ?_
 refine as_ v33 rfl rfl ?_
 refine RL.nt ?_
 refine RC.ret ?_
 obtain rfl := oi hb
 exact fin1 rfl rfl (hw.pick 2 [0] (new := [own 43 v33 x32]) rfl rfl (by decide) (by decide))
end Go.Gk
