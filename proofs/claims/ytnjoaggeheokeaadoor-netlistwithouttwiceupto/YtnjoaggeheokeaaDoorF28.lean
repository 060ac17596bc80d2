/-
  Printed by gen.py: Go functions as plain functions, and that they are.
-/
import Derived.Test.YtnjoaggeheokeaaDoorT
import Derived.Test.YtnjoaggeheokeaaDoorF2
import Derived.Test.YtnjoaggeheokeaaDoorF26
import Derived.Test.YtnjoaggeheokeaaDoorF27
set_option linter.unusedVariables false
set_option linter.unusedSimpArgs false
set_option linter.unusedSectionVars false
set_option maxRecDepth 100000
set_option maxHeartbeats 4000000

namespace Go.Gk
open Go Go.Proofs
def netlist_Without_c2_R (E : World) (Γ : List HP) (res : Bool) (v : Value) (w : World) : Prop := v = (vb res) ∧ Holds E w Γ
def netlist_Without_c2_K (E : World) (Γ : List HP) (r : Bool) (σ : Nat → Value) (w : World) : Prop := finQ Tryd.prog 8 Tryd.f76 (netlist_Without_c2_R E Γ r) .ret σ w
theorem netlist_Without_c2_ok (N : Nat) {E w : World} {Γ : List HP} {i0 : Nat} {v0 : Value} {p0 : Part} {i1 : Nat} {v1 : Value} {p1 : (List Str)} {res : Bool} (hw : Holds E w Γ) (h0 : Γ[i0]? = some (rd v0 p0)) (h1 : Γ[i1]? = some (pt v1 p1)) (hb : netlist_Without_c2 N p0 p1 = some res) :
    Calls Tryd.prog 76 [v0, v1].toArray w (Ret (netlist_Without_c2_R E Γ res)) := by
 unfold netlist_Without_c2 at hb
 refine enter Tryd.func76 rfl rfl (Nat.le_of_ble_eq_true rfl) ?_
 have hw := hw.dup (i := i0 + 0) h0
 have hw := hw.dup_pt (i := i1 + 1) h1
 refine RC.sr ?_
 refine RL.box_rd (i := 1) (v := v0) trivial rfl hw rfl rfl fun b31 w hw => ?_
 refine as_ (vb false) rfl rfl ?_
 refine RL.ns ?_
 refine RL.load_pt (i := 1) (x := p1) trivial rfl hw rfl rfl ty55 fun v32 hw => ?_
 refine RL.fa_b trivial rfl rfl fa87_0 ?_
 refine RL.load_bfs (i := 1) (f := (fun x => x.Name)) trivial rfl hw rfl rfl fd_Part_0 ty9 ?_
 obtain ⟨x33, hx33, hb⟩ := bd hb
 refine RL.call trivial rfl fn77 [v32, (str p0.Name)] rfl (Calls_ret (netlist_has_ok N (p1 := p0.Name) (i0 := 0) hw rfl hx33) ?_)
 rintro _ w ⟨rfl, hw⟩
 refine as_ (vb x33) rfl rfl ?_
 refine RL.nt ?_
 refine RC.ret ?_
 obtain rfl := oi hb
 exact fin1 rfl rfl ⟨rfl, hw.drop 4 rfl⟩
def slices_IndexFunc_Part_o0_R (E : World) (Γ : List HP) (v0 : Value) (p0 : (List Part)) (res : Int) (v : Value) (w : World) : Prop := v = (vi res) ∧ Holds E w (own 87 v0 p0 :: Γ)
def slices_IndexFunc_Part_o0_K (E : World) (Γ : List HP) (v0 : Value) (p0 : (List Part)) (r : Int) (σ : Nat → Value) (w : World) : Prop := finQ Tryd.prog 19 Tryd.f118 (slices_IndexFunc_Part_o0_R E Γ v0 p0 r) .ret σ w
theorem slices_IndexFunc_Part_o0_ok (N : Nat) {E w : World} {Γ : List HP} {v0 : Value} {p0 : (List Part)} {v1 : Value} {p1 : Part → Option Bool} {res : Int} (hw : Holds E w (own 87 v0 p0 :: Γ)) (h1 : Fn1 Tryd.prog E Γ v1 p1 (fun (r : Bool) => Value.bool r)) (hb : slices_IndexFunc_Part_o0 N p0 p1 = some res) :
    Calls Tryd.prog 118 [v0, v1].toArray w (Ret (slices_IndexFunc_Part_o0_R E Γ v0 p0 res)) := by
 unfold slices_IndexFunc_Part_o0 at hb
 refine enter Tryd.func118 rfl rfl (Nat.le_of_ble_eq_true rfl) ?_
 refine RC.sr ?_
 refine as_ (vi 0) rfl rfl ?_
 refine RL.nq ?_
 refine RC.sr ?_
 refine mv v0 rfl rfl ?_
 refine RL.len_own (i := 0) (l := p0) trivial rfl hw rfl rfl un23 ?_
 refine mv (vi 0) rfl rfl ?_
 refine RL.nt ?_
 obtain ⟨o39, hN, hb⟩ := bd hb
 refine RC.range (fun (k31 : Nat) (s32 : Unit) (σ : Nat → Value) (w : World) => agree σ [(0, v0), (1, v1), (7, (vi (p0.length : Int))), (8, (vi (k31 : Int)))] ∧ Holds E w ([own 87 v0 p0] ++ Γ)) (fun (s32 : Unit) (σ : Nat → Value) (w : World) => agree σ [(0, v0)] ∧ Holds E w ([own 87 v0 p0] ++ Γ)) (slices_IndexFunc_Part_o0_K E Γ v0 p0) hN ?_ ?_ ?_ ?_ ?_ 
 ·exact ⟨⟨rfl, rfl, rfl, rfl, trivial⟩, hw.pick 1 [0] (new := [own 87 v0 p0]) rfl rfl (by decide) (by decide)⟩
 ·intro hm s32 σ w hI
  obtain ⟨ha, hw⟩ := hI
  obtain ⟨τ, rfl⟩ := ha.ups
  refine RC.sr ?_
  refine ic ((p0.length : Int)) ((p0.length : Int)) rfl rfl rfl rfl ?_
  refine RL.nq ?_
  refine RC.cond_f dge ?_
  refine RC.ex ?_
  exact ⟨rfl, ⟨rfl, trivial⟩, hw.pick 1 [0] (new := [own 87 v0 p0]) rfl rfl (by decide) (by decide)⟩
 ·intro hm k31 s32 fl σ w hk hI hb
  obtain ⟨ha, hw⟩ := hI
  obtain ⟨τ, rfl⟩ := ha.ups
  refine RC.sr ?_
  refine ic ((k31 : Int)) ((p0.length : Int)) rfl rfl rfl rfl ?_
  refine RL.nq ?_
  refine RC.cond_t (dlt hk) ?_
  refine RC.ss ?_
  refine RC.bs ?_
  refine mv (vi (k31 : Int)) rfl rfl ?_
  refine as_ (vi (k31 : Int)) rfl rfl ?_
  refine RL.ns ?_
  refine mv v1 rfl rfl ?_
  refine mv v0 rfl rfl ?_
  refine mv (vi (k31 : Int)) rfl rfl ?_
  obtain ⟨x36, hx36, hb⟩ := bd hb
  refine RL.ia_ownA (i := 0) trivial rfl hw rfl rfl rfl sl23 hx36 ?_
  refine RL.load_el (i := 0) (f := (fun x => x)) trivial rfl hw rfl (elp hw (i := 0) rfl hx36 0) rfl (idx_some hx36).2.1 Fd.self ty87 fun v37 hw => ?_
  obtain ⟨x38, hx38, hb⟩ := bd hb
  refine RL.callF1 (i := 0) trivial rfl hw rfl h1 2 rfl rfl rfl hx38 fun w hw => ?_
  refine RL.nt ?_
  refine RC.cond (b := x38) rfl (fun hc => ?_) (fun hc => ?_)
  rotate_left
  ·replace hb := cF hc hb
   refine RC.skip ?_
   refine blkQ_n ?_
   refine thenQ_n ?_
   refine RC.region ?_
   refine RL.inc trivial rfl hk hm rfl rfl ?_
   refine mv (vi ((k31 + 1 : Nat) : Int)) rfl rfl ?_
   refine RL.nil ?_
   obtain rfl := oi hb
   exact ⟨rfl, ⟨rfl, rfl, rfl, rfl, trivial⟩, hw.pick 2 [1] (new := [own 87 v0 p0]) rfl rfl (by decide) (by decide)⟩
  replace hb := cT hc hb
  refine RC.sr ?_
  refine mv (vi (k31 : Int)) rfl rfl ?_
  refine as_ (vi (k31 : Int)) rfl rfl ?_
  refine RL.nt ?_
  refine RC.rb ?_
  refine thenQ_r ?_
  obtain rfl := oi hb
  exact ⟨rfl, fin1 rfl rfl ⟨rfl, hw.pick 2 [1] (new := [own 87 v0 p0]) rfl rfl (by decide) (by decide)⟩⟩
 ·intro r σ w e hK
  subst e
  refine thenQ_r ?_
  obtain rfl := oi hb
  exact hK
 intro s32 σ w e hJ
 subst e
 rw [Fo.cs_go] at hb
 obtain ⟨ha, hw⟩ := hJ
 obtain ⟨τ, rfl⟩ := ha.ups
 refine thenQ_n ?_
 refine RC.sr ?_
 refine as_ (vi (-1)) rfl rfl ?_
 refine RL.nt ?_
 refine RC.ret ?_
 obtain rfl := oi hb
 exact fin1 rfl rfl ⟨rfl, hw.pick 1 [0] (new := [own 87 v0 p0]) rfl rfl (by decide) (by decide)⟩
def slices_DeleteFunc_Part_R (E : World) (Γ : List HP) (res : (List Part)) (v : Value) (w : World) : Prop := Holds E w (own 87 v res :: Γ)
def slices_DeleteFunc_Part_K (E : World) (Γ : List HP) (r : (List Part)) (σ : Nat → Value) (w : World) : Prop := finQ Tryd.prog 42 Tryd.f75 (slices_DeleteFunc_Part_R E Γ r) .ret σ w
theorem slices_DeleteFunc_Part_ok (N : Nat) {E w : World} {Γ : List HP} {v0 : Value} {p0 : (List Part)} {v1 : Value} {p1 : Part → Option Bool} {res : (List Part)} (hw : Holds E w (own 87 v0 p0 :: Γ)) (h1 : Fn1 Tryd.prog E Γ v1 p1 (fun (r : Bool) => Value.bool r)) (hb : slices_DeleteFunc_Part N p0 p1 = some res) :
    Calls Tryd.prog 75 [v0, v1].toArray w (Ret (slices_DeleteFunc_Part_R E Γ res)) := by
 unfold slices_DeleteFunc_Part at hb
 refine enter Tryd.func75 rfl rfl (Nat.le_of_ble_eq_true rfl) ?_
 refine RC.sr ?_
 refine as_ (.slice none 0 0) rfl rfl ?_
 refine RL.ns ?_
 refine mv v0 rfl rfl ?_
 refine mv v1 rfl rfl ?_
 have hw := hw.pull (i := 0) rfl
 obtain ⟨x31, hx31, hb⟩ := bd hb
 refine RL.call trivial rfl fn118 [v0, v1] rfl (Calls_ret (slices_IndexFunc_Part_o0_ok N   hw (h1.lift 1 rfl) hx31) ?_)
 rintro _ w ⟨rfl, hw⟩
 refine as_ (vi x31) rfl rfl ?_
 refine RL.nq ?_
 refine RC.sr ?_
 refine mv (vi x31) rfl rfl ?_
 refine ic x31 ((-1)) rfl rfl rfl rfl ?_
 refine RL.nt ?_
 refine RC.cond (b := (x31 == (-1))) rfl (fun hc => ?_) (fun hc => ?_)
 ·replace hb := cT hc hb
  refine RC.sr ?_
  refine mv v0 rfl rfl ?_
  refine as_ v0 rfl rfl ?_
  refine RL.nt ?_
  refine RC.rt ?_
  obtain rfl := oi hb
  exact fin1 rfl rfl (hw.pick 2 [0] (new := [own 87 v0 p0]) rfl rfl (by decide) (by decide))
 replace hb := cF hc hb
 refine RC.ss ?_
 refine RC.sr ?_
 refine mv (vi x31) rfl rfl ?_
 refine RL.iar (a := x31) (b := 1) trivial rfl rfl rfl rfl ?_
 refine as_ (vi (IntKind.wrap .i64 (x31 + 1))) rfl rfl ?_
 refine RL.nt ?_
 obtain ⟨o67, hN, hb⟩ := bd hb
 refine RC.iter (fun (s33 : (List Part) × Int × Int) (σ : Nat → Value) (w : World) => agree σ [(0, v0), (1, v1), (5, (vi s33.2.1)), (6, (vi s33.2.2))] ∧ Holds E w ([own 87 v0 s33.1] ++ Γ)) (fun (s33 : (List Part) × Int × Int) (σ : Nat → Value) (w : World) => agree σ [(0, v0), (5, (vi s33.2.1))] ∧ Holds E w ([own 87 v0 s33.1] ++ Γ)) (fun (r : Empty) (_ : Nat → Value) (_ : World) => r.elim) hN ?_ ?_ ?_ ?_ 
 ·exact ⟨⟨rfl, rfl, rfl, rfl, trivial⟩, hw.pick 2 [0] (new := [own 87 v0 p0]) rfl rfl (by decide) (by decide)⟩
 ·intro s33 fl σ w hI hb
  obtain ⟨ha, hw⟩ := hI
  obtain ⟨τ, rfl⟩ := ha.ups
  refine RC.seq ?_
  refine RC.sr ?_
  refine mv (vi s33.2.2) rfl rfl ?_
  refine mv v0 rfl rfl ?_
  refine RL.len_own (i := 0) (l := s33.1) trivial rfl hw rfl rfl un23 ?_
  refine ic (s33.2.2) ((s33.1.length : Int)) rfl rfl rfl rfl ?_
  refine RL.nt ?_
  refine RC.cond (b := (decide (s33.2.2 < (s33.1.length : Int)))) rfl (fun hc => ?_) (fun hc => ?_)
  rotate_left
  ·replace hb := cF hc hb
   refine RC.ex ?_
   obtain rfl := oi hb
   exact ⟨rfl, ⟨rfl, rfl, trivial⟩, hw.pick 1 [0] (new := [own 87 v0 s33.1]) rfl rfl (by decide) (by decide)⟩
  replace hb := cT hc hb
  refine RC.ss ?_
  refine RC.bs ?_
  refine mv v0 rfl rfl ?_
  refine mv (vi s33.2.2) rfl rfl ?_
  obtain ⟨x54, hx54, hb⟩ := bd hb
  refine RL.ia_ownA (i := 0) trivial rfl hw rfl rfl rfl sl23 hx54 ?_
  refine RL.load_el (i := 0) (f := (fun x => x)) trivial rfl hw rfl (elp hw (i := 0) rfl hx54 0) rfl (idx_some hx54).2.1 Fd.self ty87 fun v55 hw => ?_
  refine RL.alloc trivial rfl hw ze87.z fun b56 w hw => ?_
  refine RL.store_raw (i := 0) (j := 1) trivial hw rfl rfl rfl rfl ty87 rfl fun w hw => ?_
  refine RL.ns ?_
  refine mv v1 rfl rfl ?_
  refine RL.load_bf (i := 0) (f := (fun x => x)) trivial rfl hw rfl rfl Fd.self ty87 fun v57 hw => ?_
  obtain ⟨x58, hx58, hb⟩ := bd hb
  refine RL.callF1 (i := 0) trivial rfl hw rfl h1 4 rfl rfl rfl hx58 fun w hw => ?_
  refine RL.not (b := x58) trivial rfl rfl ?_
  refine RL.nt ?_
  obtain ⟨s61, hj, hb⟩ := bd hb
  refine RC.jn (fun (s61 : (List Part) × Int) (σ : Nat → Value) (w : World) => agree σ [(0, v0), (1, v1), (5, (vi s61.2)), (6, (vi s33.2.2))] ∧ Holds E w ([own 87 v0 s61.1] ++ Γ)) s61 ?_ ?_
  ·refine RC.cond (b := (!x58)) rfl (fun hc => ?_) (fun hc => ?_)
   rotate_left
   ·replace hj := cF hc hj
    refine RC.skip ?_
    obtain rfl := oi hj
    exact ⟨rfl, ⟨rfl, rfl, rfl, rfl, trivial⟩, hw.pick 4 [3] (new := [own 87 v0 s33.1]) rfl rfl (by decide) (by decide)⟩
   replace hj := cT hc hj
   refine RC.sr ?_
   refine mv v0 rfl rfl ?_
   refine mv (vi s33.2.1) rfl rfl ?_
   refine RL.load_bf (i := 1) (f := (fun x => x)) trivial rfl hw rfl rfl Fd.self ty87 fun v62 hw => ?_
   obtain ⟨x63, hx63, hj⟩ := bd hj
   refine RL.ia_ownA (i := 4) trivial rfl hw rfl rfl rfl sl23 hx63 ?_
   refine RL.store_el (i := 4) (j := 0) (f := (fun _ y => y)) trivial hw rfl rfl (elp hw (i := 4) rfl hx63 0) rfl (idx_some hx63).2.1 rfl Fs.self (by decide) ty87 fun w hw => ?_
   refine RL.nt ?_
   refine RC.region ?_
   refine mv (vi s33.2.1) rfl rfl ?_
   refine RL.iar (a := s33.2.1) (b := 1) trivial rfl rfl rfl rfl ?_
   refine as_ (vi (IntKind.wrap .i64 (s33.2.1 + 1))) rfl rfl ?_
   refine RL.nil ?_
   obtain rfl := oi hj
   exact ⟨rfl, ⟨rfl, rfl, rfl, rfl, trivial⟩, hw.pick 5 [4] (new := [own 87 v0 (s33.1.set (Int.toNat s33.2.1) x54)]) rfl rfl (by decide) (by decide)⟩
  rintro σ w ⟨ha, hw⟩
  obtain ⟨τ, rfl⟩ := ha.ups
  refine blkQ_n ?_
  refine thenQ_n ?_
  refine RC.region ?_
  refine mv (vi s33.2.2) rfl rfl ?_
  refine RL.iar (a := s33.2.2) (b := 1) trivial rfl rfl rfl rfl ?_
  refine as_ (vi (IntKind.wrap .i64 (s33.2.2 + 1))) rfl rfl ?_
  refine RL.nil ?_
  obtain rfl := oi hb
  exact ⟨rfl, ⟨rfl, rfl, rfl, rfl, trivial⟩, hw.pick 1 [0] (new := [own 87 v0 s61.1]) rfl rfl (by decide) (by decide)⟩
 ·intro r _ _ _ _
  exact r.elim
 intro s33 σ w e hJ
 subst e
 rw [Fo.cs_go] at hb
 obtain ⟨ha, hw⟩ := hJ
 obtain ⟨τ, rfl⟩ := ha.ups
 refine thenQ_n ?_
 refine RC.sr ?_
 refine mv v0 rfl rfl ?_
 refine mv (vi s33.2.1) rfl rfl ?_
 obtain ⟨x64, hx64, hb⟩ := bd hb
 refine RL.view (i := 0) (lo := s33.2.1) trivial rfl hw rfl rfl sl23 (.inl rfl) hx64 ?_
 refine RL.clear_vw (i := 0) trivial hw rfl rfl el23 zd87 (slc_le hx64) fun w hw => ?_
 refine RL.ns ?_
 refine mv v0 rfl rfl ?_
 refine mv (vi s33.2.1) rfl rfl ?_
 obtain ⟨x65, hx65, hb⟩ := bd hb
 refine RL.cut_own (i := 0) trivial rfl hw rfl rfl sl23 (.inr ⟨rfl, rfl⟩) (.inl rfl) hx65 fun v66 hw => ?_
 refine as_ v66 rfl rfl ?_
 refine RL.nt ?_
 refine RC.ret ?_
 obtain rfl := oi hb
 exact fin1 rfl rfl (hw.pick 1 [0] (new := [own 87 v66 x65]) rfl rfl (by decide) (by decide))
def netlist_Without_c3_R (E : World) (Γ : List HP) (res : Bool) (v : Value) (w : World) : Prop := v = (vb res) ∧ Holds E w Γ
def netlist_Without_c3_K (E : World) (Γ : List HP) (r : Bool) (σ : Nat → Value) (w : World) : Prop := finQ Tryd.prog 8 Tryd.f79 (netlist_Without_c3_R E Γ r) .ret σ w
theorem netlist_Without_c3_ok (N : Nat) {E w : World} {Γ : List HP} {i0 : Nat} {v0 : Value} {p0 : Pin} {i1 : Nat} {v1 : Value} {p1 : (List Str)} {res : Bool} (hw : Holds E w Γ) (h0 : Γ[i0]? = some (rd v0 p0)) (h1 : Γ[i1]? = some (pt v1 p1)) (hb : netlist_Without_c3 N p0 p1 = some res) :
    Calls Tryd.prog 79 [v0, v1].toArray w (Ret (netlist_Without_c3_R E Γ res)) := by
 unfold netlist_Without_c3 at hb
 refine enter Tryd.func79 rfl rfl (Nat.le_of_ble_eq_true rfl) ?_
 have hw := hw.dup (i := i0 + 0) h0
 have hw := hw.dup_pt (i := i1 + 1) h1
 refine RC.sr ?_
 refine RL.box_rd (i := 1) (v := v0) trivial rfl hw rfl rfl fun b31 w hw => ?_
 refine as_ (vb false) rfl rfl ?_
 refine RL.ns ?_
 refine RL.load_pt (i := 1) (x := p1) trivial rfl hw rfl rfl ty55 fun v32 hw => ?_
 refine RL.fa_b trivial rfl rfl fa28_0 ?_
 refine RL.load_bfs (i := 1) (f := (fun x => x.Part)) trivial rfl hw rfl rfl fd_Pin_0 ty9 ?_
 obtain ⟨x33, hx33, hb⟩ := bd hb
 refine RL.call trivial rfl fn77 [v32, (str p0.Part)] rfl (Calls_ret (netlist_has_ok N (p1 := p0.Part) (i0 := 0) hw rfl hx33) ?_)
 rintro _ w ⟨rfl, hw⟩
 refine as_ (vb x33) rfl rfl ?_
 refine RL.nt ?_
 refine RC.ret ?_
 obtain rfl := oi hb
 exact fin1 rfl rfl ⟨rfl, hw.drop 4 rfl⟩
def slices_IndexFunc_Pin_o0_R (E : World) (Γ : List HP) (v0 : Value) (p0 : (List Pin)) (res : Int) (v : Value) (w : World) : Prop := v = (vi res) ∧ Holds E w (own 28 v0 p0 :: Γ)
def slices_IndexFunc_Pin_o0_K (E : World) (Γ : List HP) (v0 : Value) (p0 : (List Pin)) (r : Int) (σ : Nat → Value) (w : World) : Prop := finQ Tryd.prog 19 Tryd.f120 (slices_IndexFunc_Pin_o0_R E Γ v0 p0 r) .ret σ w
theorem slices_IndexFunc_Pin_o0_ok (N : Nat) {E w : World} {Γ : List HP} {v0 : Value} {p0 : (List Pin)} {v1 : Value} {p1 : Pin → Option Bool} {res : Int} (hw : Holds E w (own 28 v0 p0 :: Γ)) (h1 : Fn1 Tryd.prog E Γ v1 p1 (fun (r : Bool) => Value.bool r)) (hb : slices_IndexFunc_Pin_o0 N p0 p1 = some res) :
    Calls Tryd.prog 120 [v0, v1].toArray w (Ret (slices_IndexFunc_Pin_o0_R E Γ v0 p0 res)) := by
 unfold slices_IndexFunc_Pin_o0 at hb
 refine enter Tryd.func120 rfl rfl (Nat.le_of_ble_eq_true rfl) ?_
 refine RC.sr ?_
 refine as_ (vi 0) rfl rfl ?_
 refine RL.nq ?_
 refine RC.sr ?_
 refine mv v0 rfl rfl ?_
 refine RL.len_own (i := 0) (l := p0) trivial rfl hw rfl rfl un33 ?_
 refine mv (vi 0) rfl rfl ?_
 refine RL.nt ?_
 obtain ⟨o39, hN, hb⟩ := bd hb
 refine RC.range (fun (k31 : Nat) (s32 : Unit) (σ : Nat → Value) (w : World) => agree σ [(0, v0), (1, v1), (7, (vi (p0.length : Int))), (8, (vi (k31 : Int)))] ∧ Holds E w ([own 28 v0 p0] ++ Γ)) (fun (s32 : Unit) (σ : Nat → Value) (w : World) => agree σ [(0, v0)] ∧ Holds E w ([own 28 v0 p0] ++ Γ)) (slices_IndexFunc_Pin_o0_K E Γ v0 p0) hN ?_ ?_ ?_ ?_ ?_ 
 ·exact ⟨⟨rfl, rfl, rfl, rfl, trivial⟩, hw.pick 1 [0] (new := [own 28 v0 p0]) rfl rfl (by decide) (by decide)⟩
 ·intro hm s32 σ w hI
  obtain ⟨ha, hw⟩ := hI
  obtain ⟨τ, rfl⟩ := ha.ups
  refine RC.sr ?_
  refine ic ((p0.length : Int)) ((p0.length : Int)) rfl rfl rfl rfl ?_
  refine RL.nq ?_
  refine RC.cond_f dge ?_
  refine RC.ex ?_
  exact ⟨rfl, ⟨rfl, trivial⟩, hw.pick 1 [0] (new := [own 28 v0 p0]) rfl rfl (by decide) (by decide)⟩
 ·intro hm k31 s32 fl σ w hk hI hb
  obtain ⟨ha, hw⟩ := hI
  obtain ⟨τ, rfl⟩ := ha.ups
  refine RC.sr ?_
  refine ic ((k31 : Int)) ((p0.length : Int)) rfl rfl rfl rfl ?_
  refine RL.nq ?_
  refine RC.cond_t (dlt hk) ?_
  refine RC.ss ?_
  refine RC.bs ?_
  refine mv (vi (k31 : Int)) rfl rfl ?_
  refine as_ (vi (k31 : Int)) rfl rfl ?_
  refine RL.ns ?_
  refine mv v1 rfl rfl ?_
  refine mv v0 rfl rfl ?_
  refine mv (vi (k31 : Int)) rfl rfl ?_
  obtain ⟨x36, hx36, hb⟩ := bd hb
  refine RL.ia_ownA (i := 0) trivial rfl hw rfl rfl rfl sl33 hx36 ?_
  refine RL.load_el (i := 0) (f := (fun x => x)) trivial rfl hw rfl (elp hw (i := 0) rfl hx36 0) rfl (idx_some hx36).2.1 Fd.self ty28 fun v37 hw => ?_
  obtain ⟨x38, hx38, hb⟩ := bd hb
  refine RL.callF1 (i := 0) trivial rfl hw rfl h1 2 rfl rfl rfl hx38 fun w hw => ?_
  refine RL.nt ?_
  refine RC.cond (b := x38) rfl (fun hc => ?_) (fun hc => ?_)
  rotate_left
  ·replace hb := cF hc hb
   refine RC.skip ?_
   refine blkQ_n ?_
   refine thenQ_n ?_
   refine RC.region ?_
   refine RL.inc trivial rfl hk hm rfl rfl ?_
   refine mv (vi ((k31 + 1 : Nat) : Int)) rfl rfl ?_
   refine RL.nil ?_
   obtain rfl := oi hb
   exact ⟨rfl, ⟨rfl, rfl, rfl, rfl, trivial⟩, hw.pick 2 [1] (new := [own 28 v0 p0]) rfl rfl (by decide) (by decide)⟩
  replace hb := cT hc hb
  refine RC.sr ?_
  refine mv (vi (k31 : Int)) rfl rfl ?_
  refine as_ (vi (k31 : Int)) rfl rfl ?_
  refine RL.nt ?_
  refine RC.rb ?_
  refine thenQ_r ?_
  obtain rfl := oi hb
  exact ⟨rfl, fin1 rfl rfl ⟨rfl, hw.pick 2 [1] (new := [own 28 v0 p0]) rfl rfl (by decide) (by decide)⟩⟩
 ·intro r σ w e hK
  subst e
  refine thenQ_r ?_
  obtain rfl := oi hb
  exact hK
 intro s32 σ w e hJ
 subst e
 rw [Fo.cs_go] at hb
 obtain ⟨ha, hw⟩ := hJ
 obtain ⟨τ, rfl⟩ := ha.ups
 refine thenQ_n ?_
 refine RC.sr ?_
 refine as_ (vi (-1)) rfl rfl ?_
 refine RL.nt ?_
 refine RC.ret ?_
 obtain rfl := oi hb
 exact fin1 rfl rfl ⟨rfl, hw.pick 1 [0] (new := [own 28 v0 p0]) rfl rfl (by decide) (by decide)⟩
def slices_DeleteFunc_Pin_R (E : World) (Γ : List HP) (res : (List Pin)) (v : Value) (w : World) : Prop := Holds E w (own 28 v res :: Γ)
def slices_DeleteFunc_Pin_K (E : World) (Γ : List HP) (r : (List Pin)) (σ : Nat → Value) (w : World) : Prop := finQ Tryd.prog 42 Tryd.f78 (slices_DeleteFunc_Pin_R E Γ r) .ret σ w
theorem slices_DeleteFunc_Pin_ok (N : Nat) {E w : World} {Γ : List HP} {v0 : Value} {p0 : (List Pin)} {v1 : Value} {p1 : Pin → Option Bool} {res : (List Pin)} (hw : Holds E w (own 28 v0 p0 :: Γ)) (h1 : Fn1 Tryd.prog E Γ v1 p1 (fun (r : Bool) => Value.bool r)) (hb : slices_DeleteFunc_Pin N p0 p1 = some res) :
    Calls Tryd.prog 78 [v0, v1].toArray w (Ret (slices_DeleteFunc_Pin_R E Γ res)) := by
 unfold slices_DeleteFunc_Pin at hb
 refine enter Tryd.func78 rfl rfl (Nat.le_of_ble_eq_true rfl) ?_
 refine RC.sr ?_
 refine as_ (.slice none 0 0) rfl rfl ?_
 refine RL.ns ?_
 refine mv v0 rfl rfl ?_
 refine mv v1 rfl rfl ?_
 have hw := hw.pull (i := 0) rfl
 obtain ⟨x31, hx31, hb⟩ := bd hb
 refine RL.call trivial rfl fn120 [v0, v1] rfl (Calls_ret (slices_IndexFunc_Pin_o0_ok N   hw (h1.lift 1 rfl) hx31) ?_)
 rintro _ w ⟨rfl, hw⟩
 refine as_ (vi x31) rfl rfl ?_
 refine RL.nq ?_
 refine RC.sr ?_
 refine mv (vi x31) rfl rfl ?_
 refine ic x31 ((-1)) rfl rfl rfl rfl ?_
 refine RL.nt ?_
 refine RC.cond (b := (x31 == (-1))) rfl (fun hc => ?_) (fun hc => ?_)
 ·replace hb := cT hc hb
  refine RC.sr ?_
  refine mv v0 rfl rfl ?_
  refine as_ v0 rfl rfl ?_
  refine RL.nt ?_
  refine RC.rt ?_
  obtain rfl := oi hb
  exact fin1 rfl rfl (hw.pick 2 [0] (new := [own 28 v0 p0]) rfl rfl (by decide) (by decide))
 replace hb := cF hc hb
 refine RC.ss ?_
 refine RC.sr ?_
 refine mv (vi x31) rfl rfl ?_
 refine RL.iar (a := x31) (b := 1) trivial rfl rfl rfl rfl ?_
 refine as_ (vi (IntKind.wrap .i64 (x31 + 1))) rfl rfl ?_
 refine RL.nt ?_
 obtain ⟨o67, hN, hb⟩ := bd hb
 refine RC.iter (fun (s33 : (List Pin) × Int × Int) (σ : Nat → Value) (w : World) => agree σ [(0, v0), (1, v1), (5, (vi s33.2.1)), (6, (vi s33.2.2))] ∧ Holds E w ([own 28 v0 s33.1] ++ Γ)) (fun (s33 : (List Pin) × Int × Int) (σ : Nat → Value) (w : World) => agree σ [(0, v0), (5, (vi s33.2.1))] ∧ Holds E w ([own 28 v0 s33.1] ++ Γ)) (fun (r : Empty) (_ : Nat → Value) (_ : World) => r.elim) hN ?_ ?_ ?_ ?_ 
 ·exact ⟨⟨rfl, rfl, rfl, rfl, trivial⟩, hw.pick 2 [0] (new := [own 28 v0 p0]) rfl rfl (by decide) (by decide)⟩
 ·intro s33 fl σ w hI hb
  obtain ⟨ha, hw⟩ := hI
  obtain ⟨τ, rfl⟩ := ha.ups
  refine RC.seq ?_
  refine RC.sr ?_
  refine mv (vi s33.2.2) rfl rfl ?_
  refine mv v0 rfl rfl ?_
  refine RL.len_own (i := 0) (l := s33.1) trivial rfl hw rfl rfl un33 ?_
  refine ic (s33.2.2) ((s33.1.length : Int)) rfl rfl rfl rfl ?_
  refine RL.nt ?_
  refine RC.cond (b := (decide (s33.2.2 < (s33.1.length : Int)))) rfl (fun hc => ?_) (fun hc => ?_)
  rotate_left
  ·replace hb := cF hc hb
   refine RC.ex ?_
   obtain rfl := oi hb
   exact ⟨rfl, ⟨rfl, rfl, trivial⟩, hw.pick 1 [0] (new := [own 28 v0 s33.1]) rfl rfl (by decide) (by decide)⟩
  replace hb := cT hc hb
  refine RC.ss ?_
  refine RC.bs ?_
  refine mv v0 rfl rfl ?_
  refine mv (vi s33.2.2) rfl rfl ?_
  obtain ⟨x54, hx54, hb⟩ := bd hb
  refine RL.ia_ownA (i := 0) trivial rfl hw rfl rfl rfl sl33 hx54 ?_
  refine RL.load_el (i := 0) (f := (fun x => x)) trivial rfl hw rfl (elp hw (i := 0) rfl hx54 0) rfl (idx_some hx54).2.1 Fd.self ty28 fun v55 hw => ?_
  refine RL.alloc trivial rfl hw ze28.z fun b56 w hw => ?_
  refine RL.store_raw (i := 0) (j := 1) trivial hw rfl rfl rfl rfl ty28 rfl fun w hw => ?_
  refine RL.ns ?_
  refine mv v1 rfl rfl ?_
  refine RL.load_bf (i := 0) (f := (fun x => x)) trivial rfl hw rfl rfl Fd.self ty28 fun v57 hw => ?_
  obtain ⟨x58, hx58, hb⟩ := bd hb
  refine RL.callF1 (i := 0) trivial rfl hw rfl h1 4 rfl rfl rfl hx58 fun w hw => ?_
  refine RL.not (b := x58) trivial rfl rfl ?_
  refine RL.nt ?_
  obtain ⟨s61, hj, hb⟩ := bd hb
  refine RC.jn (fun (s61 : (List Pin) × Int) (σ : Nat → Value) (w : World) => agree σ [(0, v0), (1, v1), (5, (vi s61.2)), (6, (vi s33.2.2))] ∧ Holds E w ([own 28 v0 s61.1] ++ Γ)) s61 ?_ ?_
  ·refine RC.cond (b := (!x58)) rfl (fun hc => ?_) (fun hc => ?_)
   rotate_left
   ·replace hj := cF hc hj
    refine RC.skip ?_
    obtain rfl := oi hj
    exact ⟨rfl, ⟨rfl, rfl, rfl, rfl, trivial⟩, hw.pick 4 [3] (new := [own 28 v0 s33.1]) rfl rfl (by decide) (by decide)⟩
   replace hj := cT hc hj
   refine RC.sr ?_
   refine mv v0 rfl rfl ?_
   refine mv (vi s33.2.1) rfl rfl ?_
   refine RL.load_bf (i := 1) (f := (fun x => x)) trivial rfl hw rfl rfl Fd.self ty28 fun v62 hw => ?_
   obtain ⟨x63, hx63, hj⟩ := bd hj
   refine RL.ia_ownA (i := 4) trivial rfl hw rfl rfl rfl sl33 hx63 ?_
   refine RL.store_el (i := 4) (j := 0) (f := (fun _ y => y)) trivial hw rfl rfl (elp hw (i := 4) rfl hx63 0) rfl (idx_some hx63).2.1 rfl Fs.self (by decide) ty28 fun w hw => ?_
   refine RL.nt ?_
   refine RC.region ?_
   refine mv (vi s33.2.1) rfl rfl ?_
   refine RL.iar (a := s33.2.1) (b := 1) trivial rfl rfl rfl rfl ?_
   refine as_ (vi (IntKind.wrap .i64 (s33.2.1 + 1))) rfl rfl ?_
   refine RL.nil ?_
   obtain rfl := oi hj
   exact ⟨rfl, ⟨rfl, rfl, rfl, rfl, trivial⟩, hw.pick 5 [4] (new := [own 28 v0 (s33.1.set (Int.toNat s33.2.1) x54)]) rfl rfl (by decide) (by decide)⟩
  rintro σ w ⟨ha, hw⟩
  obtain ⟨τ, rfl⟩ := ha.ups
  refine blkQ_n ?_
  refine thenQ_n ?_
  refine RC.region ?_
  refine mv (vi s33.2.2) rfl rfl ?_
  refine RL.iar (a := s33.2.2) (b := 1) trivial rfl rfl rfl rfl ?_
  refine as_ (vi (IntKind.wrap .i64 (s33.2.2 + 1))) rfl rfl ?_
  refine RL.nil ?_
  obtain rfl := oi hb
  exact ⟨rfl, ⟨rfl, rfl, rfl, rfl, trivial⟩, hw.pick 1 [0] (new := [own 28 v0 s61.1]) rfl rfl (by decide) (by decide)⟩
 ·intro r _ _ _ _
  exact r.elim
 intro s33 σ w e hJ
 subst e
 rw [Fo.cs_go] at hb
 obtain ⟨ha, hw⟩ := hJ
 obtain ⟨τ, rfl⟩ := ha.ups
 refine thenQ_n ?_
 refine RC.sr ?_
 refine mv v0 rfl rfl ?_
 refine mv (vi s33.2.1) rfl rfl ?_
 obtain ⟨x64, hx64, hb⟩ := bd hb
 refine RL.view (i := 0) (lo := s33.2.1) trivial rfl hw rfl rfl sl33 (.inl rfl) hx64 ?_
 refine RL.clear_vw (i := 0) trivial hw rfl rfl el33 zd28 (slc_le hx64) fun w hw => ?_
 refine RL.ns ?_
 refine mv v0 rfl rfl ?_
 refine mv (vi s33.2.1) rfl rfl ?_
 obtain ⟨x65, hx65, hb⟩ := bd hb
 refine RL.cut_own (i := 0) trivial rfl hw rfl rfl sl33 (.inr ⟨rfl, rfl⟩) (.inl rfl) hx65 fun v66 hw => ?_
 refine as_ v66 rfl rfl ?_
 refine RL.nt ?_
 refine RC.ret ?_
 obtain rfl := oi hb
 exact fin1 rfl rfl (hw.pick 1 [0] (new := [own 28 v66 x65]) rfl rfl (by decide) (by decide))
def slices_IndexFunc_Net_o0_R (E : World) (Γ : List HP) (v0 : Value) (p0 : (List Net)) (res : Int) (v : Value) (w : World) : Prop := v = (vi res) ∧ Holds E w (own 64 v0 p0 :: Γ)
def slices_IndexFunc_Net_o0_K (E : World) (Γ : List HP) (v0 : Value) (p0 : (List Net)) (r : Int) (σ : Nat → Value) (w : World) : Prop := finQ Tryd.prog 19 Tryd.f121 (slices_IndexFunc_Net_o0_R E Γ v0 p0 r) .ret σ w
theorem slices_IndexFunc_Net_o0_ok (N : Nat) {E w : World} {Γ : List HP} {v0 : Value} {p0 : (List Net)} {v1 : Value} {p1 : Net → Option Bool} {res : Int} (hw : Holds E w (own 64 v0 p0 :: Γ)) (h1 : Fn1 Tryd.prog E Γ v1 p1 (fun (r : Bool) => Value.bool r)) (hb : slices_IndexFunc_Net_o0 N p0 p1 = some res) :
    Calls Tryd.prog 121 [v0, v1].toArray w (Ret (slices_IndexFunc_Net_o0_R E Γ v0 p0 res)) := by
 unfold slices_IndexFunc_Net_o0 at hb
 refine enter Tryd.func121 rfl rfl (Nat.le_of_ble_eq_true rfl) ?_
 refine RC.sr ?_
 refine as_ (vi 0) rfl rfl ?_
 refine RL.nq ?_
 refine RC.sr ?_
 refine mv v0 rfl rfl ?_
 refine RL.len_own (i := 0) (l := p0) trivial rfl hw rfl rfl un24 ?_
 refine mv (vi 0) rfl rfl ?_
 refine RL.nt ?_
 obtain ⟨o39, hN, hb⟩ := bd hb
 refine RC.range (fun (k31 : Nat) (s32 : Unit) (σ : Nat → Value) (w : World) => agree σ [(0, v0), (1, v1), (7, (vi (p0.length : Int))), (8, (vi (k31 : Int)))] ∧ Holds E w ([own 64 v0 p0] ++ Γ)) (fun (s32 : Unit) (σ : Nat → Value) (w : World) => agree σ [(0, v0)] ∧ Holds E w ([own 64 v0 p0] ++ Γ)) (slices_IndexFunc_Net_o0_K E Γ v0 p0) hN ?_ ?_ ?_ ?_ ?_ 
 ·exact ⟨⟨rfl, rfl, rfl, rfl, trivial⟩, hw.pick 1 [0] (new := [own 64 v0 p0]) rfl rfl (by decide) (by decide)⟩
 ·intro hm s32 σ w hI
  obtain ⟨ha, hw⟩ := hI
  obtain ⟨τ, rfl⟩ := ha.ups
  refine RC.sr ?_
  refine ic ((p0.length : Int)) ((p0.length : Int)) rfl rfl rfl rfl ?_
  refine RL.nq ?_
  refine RC.cond_f dge ?_
  refine RC.ex ?_
  exact ⟨rfl, ⟨rfl, trivial⟩, hw.pick 1 [0] (new := [own 64 v0 p0]) rfl rfl (by decide) (by decide)⟩
 ·intro hm k31 s32 fl σ w hk hI hb
  obtain ⟨ha, hw⟩ := hI
  obtain ⟨τ, rfl⟩ := ha.ups
  refine RC.sr ?_
  refine ic ((k31 : Int)) ((p0.length : Int)) rfl rfl rfl rfl ?_
  refine RL.nq ?_
  refine RC.cond_t (dlt hk) ?_
  refine RC.ss ?_
  refine RC.bs ?_
  refine mv (vi (k31 : Int)) rfl rfl ?_
  refine as_ (vi (k31 : Int)) rfl rfl ?_
  refine RL.ns ?_
  refine mv v1 rfl rfl ?_
  refine mv v0 rfl rfl ?_
  refine mv (vi (k31 : Int)) rfl rfl ?_
  obtain ⟨x36, hx36, hb⟩ := bd hb
  refine RL.ia_ownA (i := 0) trivial rfl hw rfl rfl rfl sl24 hx36 ?_
  refine RL.load_el (i := 0) (f := (fun x => x)) trivial rfl hw rfl (elp hw (i := 0) rfl hx36 0) rfl (idx_some hx36).2.1 Fd.self ty64 fun v37 hw => ?_
  obtain ⟨x38, hx38, hb⟩ := bd hb
  refine RL.callF1 (i := 0) trivial rfl hw rfl h1 2 rfl rfl rfl hx38 fun w hw => ?_
  refine RL.nt ?_
  refine RC.cond (b := x38) rfl (fun hc => ?_) (fun hc => ?_)
  rotate_left
  ·replace hb := cF hc hb
   refine RC.skip ?_
   refine blkQ_n ?_
   refine thenQ_n ?_
   refine RC.region ?_
   refine RL.inc trivial rfl hk hm rfl rfl ?_
   refine mv (vi ((k31 + 1 : Nat) : Int)) rfl rfl ?_
   refine RL.nil ?_
   obtain rfl := oi hb
   exact ⟨rfl, ⟨rfl, rfl, rfl, rfl, trivial⟩, hw.pick 2 [1] (new := [own 64 v0 p0]) rfl rfl (by decide) (by decide)⟩
  replace hb := cT hc hb
  refine RC.sr ?_
  refine mv (vi (k31 : Int)) rfl rfl ?_
  refine as_ (vi (k31 : Int)) rfl rfl ?_
  refine RL.nt ?_
  refine RC.rb ?_
  refine thenQ_r ?_
  obtain rfl := oi hb
  exact ⟨rfl, fin1 rfl rfl ⟨rfl, hw.pick 2 [1] (new := [own 64 v0 p0]) rfl rfl (by decide) (by decide)⟩⟩
 ·intro r σ w e hK
  subst e
  refine thenQ_r ?_
  obtain rfl := oi hb
  exact hK
 intro s32 σ w e hJ
 subst e
 rw [Fo.cs_go] at hb
 obtain ⟨ha, hw⟩ := hJ
 obtain ⟨τ, rfl⟩ := ha.ups
 refine thenQ_n ?_
 refine RC.sr ?_
 refine as_ (vi (-1)) rfl rfl ?_
 refine RL.nt ?_
 refine RC.ret ?_
 obtain rfl := oi hb
 exact fin1 rfl rfl ⟨rfl, hw.pick 1 [0] (new := [own 64 v0 p0]) rfl rfl (by decide) (by decide)⟩
def slices_DeleteFunc_Net_R (E : World) (Γ : List HP) (res : (List Net)) (v : Value) (w : World) : Prop := Holds E w (own 64 v res :: Γ)
def slices_DeleteFunc_Net_K (E : World) (Γ : List HP) (r : (List Net)) (σ : Nat → Value) (w : World) : Prop := finQ Tryd.prog 42 Tryd.f80 (slices_DeleteFunc_Net_R E Γ r) .ret σ w
theorem slices_DeleteFunc_Net_ok (N : Nat) {E w : World} {Γ : List HP} {v0 : Value} {p0 : (List Net)} {v1 : Value} {p1 : Net → Option Bool} {res : (List Net)} (hw : Holds E w (own 64 v0 p0 :: Γ)) (h1 : Fn1 Tryd.prog E Γ v1 p1 (fun (r : Bool) => Value.bool r)) (hb : slices_DeleteFunc_Net N p0 p1 = some res) :
    Calls Tryd.prog 80 [v0, v1].toArray w (Ret (slices_DeleteFunc_Net_R E Γ res)) := by
 unfold slices_DeleteFunc_Net at hb
 refine enter Tryd.func80 rfl rfl (Nat.le_of_ble_eq_true rfl) ?_
 refine RC.sr ?_
 refine as_ (.slice none 0 0) rfl rfl ?_
 refine RL.ns ?_
 refine mv v0 rfl rfl ?_
 refine mv v1 rfl rfl ?_
 have hw := hw.pull (i := 0) rfl
 obtain ⟨x31, hx31, hb⟩ := bd hb
 refine RL.call trivial rfl fn121 [v0, v1] rfl (Calls_ret (slices_IndexFunc_Net_o0_ok N   hw (h1.lift 1 rfl) hx31) ?_)
 rintro _ w ⟨rfl, hw⟩
 refine as_ (vi x31) rfl rfl ?_
 refine RL.nq ?_
 refine RC.sr ?_
 refine mv (vi x31) rfl rfl ?_
 refine ic x31 ((-1)) rfl rfl rfl rfl ?_
 refine RL.nt ?_
 refine RC.cond (b := (x31 == (-1))) rfl (fun hc => ?_) (fun hc => ?_)
 ·replace hb := cT hc hb
  refine RC.sr ?_
  refine mv v0 rfl rfl ?_
  refine as_ v0 rfl rfl ?_
  refine RL.nt ?_
  refine RC.rt ?_
  obtain rfl := oi hb
  exact fin1 rfl rfl (hw.pick 2 [0] (new := [own 64 v0 p0]) rfl rfl (by decide) (by decide))
 replace hb := cF hc hb
 refine RC.ss ?_
 refine RC.sr ?_
 refine mv (vi x31) rfl rfl ?_
 refine RL.iar (a := x31) (b := 1) trivial rfl rfl rfl rfl ?_
 refine as_ (vi (IntKind.wrap .i64 (x31 + 1))) rfl rfl ?_
 refine RL.nt ?_
 obtain ⟨o67, hN, hb⟩ := bd hb
 refine RC.iter (fun (s33 : (List Net) × Int × Int) (σ : Nat → Value) (w : World) => agree σ [(0, v0), (1, v1), (5, (vi s33.2.1)), (6, (vi s33.2.2))] ∧ Holds E w ([own 64 v0 s33.1] ++ Γ)) (fun (s33 : (List Net) × Int × Int) (σ : Nat → Value) (w : World) => agree σ [(0, v0), (5, (vi s33.2.1))] ∧ Holds E w ([own 64 v0 s33.1] ++ Γ)) (fun (r : Empty) (_ : Nat → Value) (_ : World) => r.elim) hN ?_ ?_ ?_ ?_ 
 ·exact ⟨⟨rfl, rfl, rfl, rfl, trivial⟩, hw.pick 2 [0] (new := [own 64 v0 p0]) rfl rfl (by decide) (by decide)⟩
 ·intro s33 fl σ w hI hb
  obtain ⟨ha, hw⟩ := hI
  obtain ⟨τ, rfl⟩ := ha.ups
  refine RC.seq ?_
  refine RC.sr ?_
  refine mv (vi s33.2.2) rfl rfl ?_
  refine mv v0 rfl rfl ?_
  refine RL.len_own (i := 0) (l := s33.1) trivial rfl hw rfl rfl un24 ?_
  refine ic (s33.2.2) ((s33.1.length : Int)) rfl rfl rfl rfl ?_
  refine RL.nt ?_
  refine RC.cond (b := (decide (s33.2.2 < (s33.1.length : Int)))) rfl (fun hc => ?_) (fun hc => ?_)
  rotate_left
  ·replace hb := cF hc hb
   refine RC.ex ?_
   obtain rfl := oi hb
   exact ⟨rfl, ⟨rfl, rfl, trivial⟩, hw.pick 1 [0] (new := [own 64 v0 s33.1]) rfl rfl (by decide) (by decide)⟩
  replace hb := cT hc hb
  refine RC.ss ?_
  refine RC.bs ?_
  refine mv v0 rfl rfl ?_
  refine mv (vi s33.2.2) rfl rfl ?_
  obtain ⟨x54, hx54, hb⟩ := bd hb
  refine RL.ia_ownA (i := 0) trivial rfl hw rfl rfl rfl sl24 hx54 ?_
  refine RL.load_el (i := 0) (f := (fun x => x)) trivial rfl hw rfl (elp hw (i := 0) rfl hx54 0) rfl (idx_some hx54).2.1 Fd.self ty64 fun v55 hw => ?_
  refine RL.alloc trivial rfl hw ze64.z fun b56 w hw => ?_
  refine RL.store_raw (i := 0) (j := 1) trivial hw rfl rfl rfl rfl ty64 rfl fun w hw => ?_
  refine RL.ns ?_
  refine mv v1 rfl rfl ?_
  refine RL.load_bf (i := 0) (f := (fun x => x)) trivial rfl hw rfl rfl Fd.self ty64 fun v57 hw => ?_
  obtain ⟨x58, hx58, hb⟩ := bd hb
  refine RL.callF1 (i := 0) trivial rfl hw rfl h1 4 rfl rfl rfl hx58 fun w hw => ?_
  refine RL.not (b := x58) trivial rfl rfl ?_
  refine RL.nt ?_
  obtain ⟨s61, hj, hb⟩ := bd hb
  refine RC.jn (fun (s61 : (List Net) × Int) (σ : Nat → Value) (w : World) => agree σ [(0, v0), (1, v1), (5, (vi s61.2)), (6, (vi s33.2.2))] ∧ Holds E w ([own 64 v0 s61.1] ++ Γ)) s61 ?_ ?_
  ·refine RC.cond (b := (!x58)) rfl (fun hc => ?_) (fun hc => ?_)
   rotate_left
   ·replace hj := cF hc hj
    refine RC.skip ?_
    obtain rfl := oi hj
    exact ⟨rfl, ⟨rfl, rfl, rfl, rfl, trivial⟩, hw.pick 4 [3] (new := [own 64 v0 s33.1]) rfl rfl (by decide) (by decide)⟩
   replace hj := cT hc hj
   refine RC.sr ?_
   refine mv v0 rfl rfl ?_
   refine mv (vi s33.2.1) rfl rfl ?_
   refine RL.load_bf (i := 1) (f := (fun x => x)) trivial rfl hw rfl rfl Fd.self ty64 fun v62 hw => ?_
   obtain ⟨x63, hx63, hj⟩ := bd hj
   refine RL.ia_ownA (i := 4) trivial rfl hw rfl rfl rfl sl24 hx63 ?_
   refine RL.store_el (i := 4) (j := 0) (f := (fun _ y => y)) trivial hw rfl rfl (elp hw (i := 4) rfl hx63 0) rfl (idx_some hx63).2.1 rfl Fs.self (by decide) ty64 fun w hw => ?_
   refine RL.nt ?_
   refine RC.region ?_
   refine mv (vi s33.2.1) rfl rfl ?_
   refine RL.iar (a := s33.2.1) (b := 1) trivial rfl rfl rfl rfl ?_
   refine as_ (vi (IntKind.wrap .i64 (s33.2.1 + 1))) rfl rfl ?_
   refine RL.nil ?_
   obtain rfl := oi hj
   exact ⟨rfl, ⟨rfl, rfl, rfl, rfl, trivial⟩, hw.pick 5 [4] (new := [own 64 v0 (s33.1.set (Int.toNat s33.2.1) x54)]) rfl rfl (by decide) (by decide)⟩
  rintro σ w ⟨ha, hw⟩
  obtain ⟨τ, rfl⟩ := ha.ups
  refine blkQ_n ?_
  refine thenQ_n ?_
  refine RC.region ?_
  refine mv (vi s33.2.2) rfl rfl ?_
  refine RL.iar (a := s33.2.2) (b := 1) trivial rfl rfl rfl rfl ?_
  refine as_ (vi (IntKind.wrap .i64 (s33.2.2 + 1))) rfl rfl ?_
  refine RL.nil ?_
  obtain rfl := oi hb
  exact ⟨rfl, ⟨rfl, rfl, rfl, rfl, trivial⟩, hw.pick 1 [0] (new := [own 64 v0 s61.1]) rfl rfl (by decide) (by decide)⟩
 ·intro r _ _ _ _
  exact r.elim
 intro s33 σ w e hJ
 subst e
 rw [Fo.cs_go] at hb
 obtain ⟨ha, hw⟩ := hJ
 obtain ⟨τ, rfl⟩ := ha.ups
 refine thenQ_n ?_
 refine RC.sr ?_
 refine mv v0 rfl rfl ?_
 refine mv (vi s33.2.1) rfl rfl ?_
 obtain ⟨x64, hx64, hb⟩ := bd hb
 refine RL.view (i := 0) (lo := s33.2.1) trivial rfl hw rfl rfl sl24 (.inl rfl) hx64 ?_
 refine RL.clear_vw (i := 0) trivial hw rfl rfl el24 zd64 (slc_le hx64) fun w hw => ?_
 refine RL.ns ?_
 refine mv v0 rfl rfl ?_
 refine mv (vi s33.2.1) rfl rfl ?_
 obtain ⟨x65, hx65, hb⟩ := bd hb
 refine RL.cut_own (i := 0) trivial rfl hw rfl rfl sl24 (.inr ⟨rfl, rfl⟩) (.inl rfl) hx65 fun v66 hw => ?_
 refine as_ v66 rfl rfl ?_
 refine RL.nt ?_
 refine RC.ret ?_
 obtain rfl := oi hb
 exact fin1 rfl rfl (hw.pick 1 [0] (new := [own 64 v66 x65]) rfl rfl (by decide) (by decide))
def netlist_Without_c4_R (E : World) (Γ : List HP) (res : Bool) (v : Value) (w : World) : Prop := v = (vb res) ∧ Holds E w Γ
def netlist_Without_c4_K (E : World) (Γ : List HP) (r : Bool) (σ : Nat → Value) (w : World) : Prop := finQ Tryd.prog 7 Tryd.f81 (netlist_Without_c4_R E Γ r) .ret σ w
theorem netlist_Without_c4_ok (N : Nat) {E w : World} {Γ : List HP} {i0 : Nat} {v0 : Value} {p0 : Net} {res : Bool} (hw : Holds E w Γ) (h0 : Γ[i0]? = some (rd v0 p0)) (hb : netlist_Without_c4 N p0 = some res) :
    Calls Tryd.prog 81 [v0].toArray w (Ret (netlist_Without_c4_R E Γ res)) := by
 unfold netlist_Without_c4 at hb
 refine enter Tryd.func81 rfl rfl (Nat.le_of_ble_eq_true rfl) ?_
 have hw := hw.dup (i := i0 + 0) h0
 refine RC.sr ?_
 refine RL.box_rd (i := 0) (v := v0) trivial rfl hw rfl rfl fun b31 w hw => ?_
 refine as_ (vb false) rfl rfl ?_
 refine RL.ns ?_
 refine RL.fa_b trivial rfl rfl fa64_1 ?_
 refine RL.load_bf (i := 0) (f := (fun x => x.Pins)) trivial rfl hw rfl rfl fd_Net_1 ty33 fun v32 hw => ?_
 refine RL.len_rd (i := 0) (l := p0.Pins) trivial rfl hw rfl rfl un33 ?_
 refine ic ((p0.Pins.length : Int)) 0 rfl rfl rfl rfl ?_
 refine as_ (vb ((p0.Pins.length : Int) == 0)) rfl rfl ?_
 refine RL.nt ?_
 refine RC.ret ?_
 obtain rfl := oi hb
 exact fin1 rfl rfl ⟨rfl, hw.drop 3 rfl⟩
def netlist_Without_R (E : World) (Γ : List HP) (res : Netlist × Int) (v : Value) (w : World) : Prop := ∃ u0 : Value, v = .tuple #[u0, (vi res.2)] ∧ Holds E w (rd u0 res.1 :: Γ)
def netlist_Without_K (E : World) (Γ : List HP) (r : Netlist × Int) (σ : Nat → Value) (w : World) : Prop := finQ Tryd.prog 58 Tryd.f28 (netlist_Without_R E Γ r) .ret σ w
theorem netlist_Without_ok (N : Nat) {E w : World} {Γ : List HP} {i0 : Nat} {v0 : Value} {p0 : (List PartType)} {i1 : Nat} {v1 : Value} {p1 : Netlist} {i2 : Nat} {v2 : Value} {p2 : (List Str)} {res : Netlist × Int} (hw : Holds E w Γ) (h0 : Γ[i0]? = some (rd v0 p0)) (h1 : Γ[i1]? = some (rd v1 p1)) (h2 : Γ[i2]? = some (rd v2 p2)) (hb : netlist_Without N p0 p1 p2 = some res) :
    Calls Tryd.prog 28 [v0, v1, v2].toArray w (Ret (netlist_Without_R E Γ res)) := by
 unfold netlist_Without at hb
 refine enter Tryd.func28 rfl rfl (Nat.le_of_ble_eq_true rfl) ?_
 have hw := hw.dup (i := i0 + 0) h0
 have hw := hw.dup (i := i1 + 1) h1
 have hw := hw.dup (i := i2 + 2) h2
 refine RC.sr ?_
 refine RL.box_rd (i := 1) (v := v1) trivial rfl hw rfl rfl fun b31 w hw => ?_
 have hw := hw.freeze_bx (i := 0) rfl
 refine RL.box_rd (i := 1) (v := v2) trivial rfl hw rfl rfl fun b32 w hw => ?_
 have hw := hw.freeze_bx (i := 0) rfl
 refine RL.alloc trivial rfl hw ze26.z fun b33 w hw => ?_
 refine as_ (vi 0) rfl rfl ?_
 refine RL.nq ?_
 refine RC.sr ?_
 refine mv v0 rfl rfl ?_
 refine RL.load_pt (i := 2) (x := p1) trivial rfl hw rfl rfl ty26 fun v34 hw => ?_
 obtain ⟨x35, hx35, hb⟩ := bd hb
 refine RL.call trivial rfl fn13 [v0, v34] rfl (Calls_ret (netlist_CheckList_ok N  (i0 := 6) (i1 := 0) hw rfl rfl hx35) ?_)
 rintro _ w ⟨rfl, hw⟩
 refine as_ (vi x35) rfl rfl ?_
 refine RL.ns ?_
 refine mv (vi x35) rfl rfl ?_
 refine ic x35 0 rfl rfl rfl rfl ?_
 refine RL.nt ?_
 refine RC.cond (b := (x35 != 0)) rfl (fun hc => ?_) (fun hc => ?_)
 ·replace hb := cT hc hb
  refine RC.sr ?_
  refine RL.buildc (zs := [(.slice none 0 0), (.slice none 0 0)]) (cs := [(.slice none 0 0), (.slice none 0 0)]) trivial rfl [] rfl st26 trivial rfl ?_
  refine mv (vi x35) rfl rfl ?_
  have hw := hw.rd_nil Part
  have hw := hw.rd_nil Net
  have hw := hw.rd_agg (cs := [(.slice none 0 0), (.slice none 0 0)]) (x := (⟨([] : (List Part)), ([] : (List Net))⟩ : Netlist)) (fun M hs g => ⟨[(.slice none 0 0)], [(.slice none 0 0)], rfl, (rd_one rfl (g.sat 1 _ rfl).1), (rd_one rfl (g.sat 0 _ rfl).1)⟩) rfl
  refine RL.store_raw (i := 4) (j := 0) trivial hw rfl rfl rfl rfl ty26 rfl fun w hw => ?_
  refine as_ (vi x35) rfl rfl ?_
  refine RL.nt ?_
  refine RC.rt ?_
  obtain rfl := oi hb
  exact finC2 (i := 4) rfl hw rfl rfl ty26 rfl fun v36 hw => ⟨v36, rfl, hw.pick 11 [0] (new := [rd v36 (⟨([] : (List Part)), ([] : (List Net))⟩ : Netlist)]) rfl rfl (by decide) (by decide)⟩
 replace hb := cF hc hb
 refine RC.ss ?_
 refine RC.sr ?_
 refine RL.load_pt (i := 2) (x := p2) trivial rfl hw rfl rfl ty55 fun v37 hw => ?_
 refine RL.makeFunc trivial rfl [(vp b31 0)] rfl ?_
 obtain ⟨x38, hx38, hb⟩ := bd hb
 refine RL.call trivial rfl fn72 [v37, (vi 1000), (.func (.func 73) #[] #[(vp b31 0)])] rfl (Calls_ret (netlist_checkNames_ok N (p1 := 1000) (i0 := 0) hw rfl ⟨73, [(vp b31 0)], rfl, fn73, fun w Γl v y0 r i hw hi hr => by obtain rfl := hw.ofSc (γ := Str) hi; exact Calls_ret (netlist_Without_c1_ok N (p0 := y0) (i1 := Γl.length + 4) hw (up_get rfl) hr) fun _ _ h => h⟩ hx38) ?_)
 rintro _ w ⟨rfl, hw⟩
 refine as_ (vi x38) rfl rfl ?_
 refine RL.ns ?_
 refine mv (vi x38) rfl rfl ?_
 refine ic x38 0 rfl rfl rfl rfl ?_
 refine RL.nt ?_
 refine RC.cond (b := (x38 != 0)) rfl (fun hc => ?_) (fun hc => ?_)
 ·replace hb := cT hc hb
  refine RC.sr ?_
  refine RL.buildc (zs := [(.slice none 0 0), (.slice none 0 0)]) (cs := [(.slice none 0 0), (.slice none 0 0)]) trivial rfl [] rfl st26 trivial rfl ?_
  refine mv (vi x38) rfl rfl ?_
  have hw := hw.rd_nil Part
  have hw := hw.rd_nil Net
  have hw := hw.rd_agg (cs := [(.slice none 0 0), (.slice none 0 0)]) (x := (⟨([] : (List Part)), ([] : (List Net))⟩ : Netlist)) (fun M hs g => ⟨[(.slice none 0 0)], [(.slice none 0 0)], rfl, (rd_one rfl (g.sat 1 _ rfl).1), (rd_one rfl (g.sat 0 _ rfl).1)⟩) rfl
  refine RL.store_raw (i := 5) (j := 0) trivial hw rfl rfl rfl rfl ty26 rfl fun w hw => ?_
  refine as_ (vi x38) rfl rfl ?_
  refine RL.nt ?_
  refine RC.rt ?_
  obtain rfl := oi hb
  exact finC2 (i := 5) rfl hw rfl rfl ty26 rfl fun v39 hw => ⟨v39, rfl, hw.pick 12 [0] (new := [rd v39 (⟨([] : (List Part)), ([] : (List Net))⟩ : Netlist)]) rfl rfl (by decide) (by decide)⟩
 replace hb := cF hc hb
 refine RC.sx ?_
 refine RL.load_pt (i := 4) (x := p1) trivial rfl hw rfl rfl ty26 fun v40 hw => ?_
 obtain ⟨x41, hx41, hb⟩ := bd hb
 refine RL.call trivial rfl fn74 [v40] rfl (Calls_ret (netlist_Own_ok N  (i0 := 0) hw rfl hx41) ?_)
 rintro _ w ⟨v42, v43, us44, rfl, hw⟩
 refine RL.alloc_bc trivial rfl hw zc26 rfl fun b45 w hw => ?_
 refine RL.store_bca (i := 0) (cs := [v42, v43]) trivial hw rfl rfl rfl (oneL.all (⟨(one_own hw (i := 1) rfl), (one_own hw (i := 2) rfl), trivial⟩ : oneL [v42, v43])) ty26 rfl rfl fun w hw => ?_
 refine RL.ns ?_
 refine RL.fa_b trivial rfl rfl fa26_0 ?_
 refine RL.load_bc (i := 0) (v := v42) trivial rfl hw rfl rfl rfl ty23 ?_
 refine RL.makeFunc trivial rfl [(vp b32 0)] rfl ?_
 have hw := hw.pull (i := 1) rfl
 obtain ⟨x46, hx46, hb⟩ := bd hb
 refine RL.call trivial rfl fn75 [v42, (.func (.func 76) #[] #[(vp b32 0)])] rfl (Calls_ret (slices_DeleteFunc_Part_ok N   hw ⟨76, [(vp b32 0)], rfl, fn76, fun w Γl v y0 r i hw hi hr => by exact Calls_ret (netlist_Without_c2_ok N (i0 := i) (i1 := Γl.length + 8) hw hi (up_get rfl) hr) fun _ _ h => h⟩ hx46) ?_)
 rintro v47 w hw
 refine RL.fa_b trivial rfl rfl fa26_0 ?_
 refine RL.store_bc (i := 1) (v := v47) trivial hw rfl rfl rfl rfl (one_own hw (i := 0) rfl) ty23 fun w hw => ?_
 refine RL.nq ?_
 refine RC.sr ?_
 refine RL.fa_b trivial rfl rfl fa26_1 ?_
 refine RL.load_bc (i := 1) (v := v43) trivial rfl hw rfl rfl rfl ty24 ?_
 refine RL.len_nest (i := 3) (b := 4) (xs := x41.2) trivial rfl hw rfl rfl rfl un24 ?_
 refine mv (vi 0) rfl rfl ?_
 refine RL.nt ?_
 obtain ⟨s49, hN, hb⟩ := bd hb
 refine RC.fold (fun (k48 : Nat) (s49 : (List Net)) (σ : Nat → Value) (w : World) => ∃ (us110 : List Net_r1), agree σ [(5, (vp b32 0)), (6, (vp b33 0)), (10, (vp b45 0)), (35, (vi (x41.2.length : Int))), (36, (vi (k48 : Int)))] ∧ Holds E w ([pt (vp b32 0) p2, raw 26 b33 2, bc 26 b45 [v47, v43], own 87 v47 x46, own 64 v43 us110, bag XF_Net_r1 us110 s49 none] ++ Γ)) (fun (s49 : (List Net)) (σ : Nat → Value) (w : World) => ∃ (us111 : List Net_r1), agree σ [(6, (vp b33 0)), (10, (vp b45 0))] ∧ Holds E w ([pt (vp b32 0) p2, raw 26 b33 2, bc 26 b45 [v47, v43], own 87 v47 x46, own 64 v43 us111, bag XF_Net_r1 us111 s49 none] ++ Γ)) hN ?_ ?_ ?_ ?_
 ·exact ⟨us44, ⟨rfl, rfl, rfl, rfl, rfl, trivial⟩, hw.pick 14 [9, 8, 1, 0, 3, 4] (new := [pt (vp b32 0) p2, raw 26 b33 2, bc 26 b45 [v47, v43], own 87 v47 x46, own 64 v43 us44, bag XF_Net_r1 us44 x41.2 none]) rfl rfl (by decide) (by decide)⟩
 ·intro hm s49 σ w hI
  obtain ⟨us142, ha, hw⟩ := hI
  obtain ⟨τ, rfl⟩ := ha.ups
  refine RC.sr ?_
  refine ic ((x41.2.length : Int)) ((x41.2.length : Int)) rfl rfl rfl rfl ?_
  refine RL.nq ?_
  refine RC.cond_f dge ?_
  refine RC.ex ?_
  exact ⟨rfl, us142, ⟨rfl, rfl, trivial⟩, hw.pick 6 [0, 1, 2, 3, 4, 5] (new := [pt (vp b32 0) p2, raw 26 b33 2, bc 26 b45 [v47, v43], own 87 v47 x46, own 64 v43 us142, bag XF_Net_r1 us142 s49 none]) rfl rfl (by decide) (by decide)⟩
 ·intro hm k48 s49 s' σ w hk hI hb
  obtain ⟨us112, ha, hw⟩ := hI
  obtain ⟨τ, rfl⟩ := ha.ups
  refine RC.sr ?_
  refine ic ((k48 : Int)) ((x41.2.length : Int)) rfl rfl rfl rfl ?_
  refine RL.nq ?_
  refine RC.cond_t (dlt hk) ?_
  refine RC.ss ?_
  refine RC.bs ?_
  refine mv (vi (k48 : Int)) rfl rfl ?_
  refine as_ (vi (k48 : Int)) rfl rfl ?_
  refine RL.nt ?_
  obtain ⟨x113, hx113, hb⟩ := bd hb
  obtain ⟨x120, hx120, hb⟩ := bd hb
  obtain ⟨x122, hx122, hb⟩ := bd hb
  refine RC.drw mixed rfl (fun (D : Nat → Bool) (σ : Nat → Value) (w : World) => ∃ (v121 : Value), doneV D σ [(0, 39, (vp b45 1)), (1, 40, v43), (2, 41, (vi (k48 : Int))), (3, 42, (vp b45 1)), (4, 43, v43), (5, 44, (vi (k48 : Int))), (6, 45, (elA v43 (Int.toNat (k48 : Int)) 3 0)), (7, 46, (elA v43 (Int.toNat (k48 : Int)) 3 1)), (8, 47, (us112.getD (Int.toNat (k48 : Int)) (default : Net_r1)).Pins.v), (9, 48, (.func (.func 79) #[] #[(vp b32 0)])), (10, 49, v121), (11, 50, (elA v43 (Int.toNat (k48 : Int)) 3 0)), (12, 51, (elA v43 (Int.toNat (k48 : Int)) 3 1))] ∧ agree σ [(5, (vp b32 0)), (6, (vp b33 0)), (10, (vp b45 0)), (11, (vi (k48 : Int))), (35, (vi (x41.2.length : Int))), (36, (vi (k48 : Int)))] ∧ Holds E w ([bif D 13 then (junk) else (bif D 10 then (own 28 v121 x120) else (bif D 8 then (own 28 (us112.getD (Int.toNat (k48 : Int)) (default : Net_r1)).Pins.v x113.Pins) else junk)), pt (vp b32 0) p2, raw 26 b33 2, bc 26 b45 [v47, v43], own 87 v47 x46, bif D 13 then (own 64 v43 (us112.set (Int.toNat (k48 : Int)) { (us112.getD (Int.toNat (k48 : Int)) (default : Net_r1)) with Pins := rv v121 })) else (own 64 v43 us112), bif D 13 then (bag XF_Net_r1 (us112.set (Int.toNat (k48 : Int)) { (us112.getD (Int.toNat (k48 : Int)) (default : Net_r1)) with Pins := rv v121 }) (s49.set (Int.toNat (k48 : Int)) { x122 with Pins := x120 }) none) else (bif D 8 then (bag XF_Net_r1 us112 s49 (some (Int.toNat (k48 : Int)))) else (bag XF_Net_r1 us112 s49 none))] ++ Γ)) ?_ ⟨?_, ?_, ?_, ?_, ?_, ?_, ?_, ?_, ?_, ?_, ?_, ?_, ?_, ?_, trivial⟩ ?_
  ·have hw := hw.drew
   have hw := hw.junk
   exact ⟨undef, doneV.none, ⟨rfl, rfl, rfl, rfl, rfl, rfl, trivial⟩, hw⟩
  ·rintro D σ w hD hdep hcl ⟨v121, hv, ha, hw⟩
   obtain ⟨τ, rfl⟩ := (ac (ha.at 2 rfl) az).ups
   refine RL.fa_b trivial rfl rfl fa26_1 ?_
   refine RL.nil ?_
   exact ⟨rfl, v121, hv.put 0 rfl rfl, ha.up rfl, hw⟩
  ·rintro D σ w hD hdep hcl ⟨v121, hv, ha, hw⟩
   obtain ⟨τ, rfl⟩ := (ac (hv.at 0 rfl (hdep.1 rfl)) az).ups
   refine RL.load_bc (i := 3) (v := v43) trivial rfl hw rfl rfl rfl ty24 ?_
   refine RL.nil ?_
   exact ⟨rfl, v121, hv.put 1 rfl rfl, ha.up rfl, hw⟩
  ·rintro D σ w hD hdep hcl ⟨v121, hv, ha, hw⟩
   obtain ⟨τ, rfl⟩ := (ac (ha.at 3 rfl) az).ups
   refine mv (vi (k48 : Int)) rfl rfl ?_
   refine RL.nil ?_
   exact ⟨rfl, v121, hv.put 2 rfl rfl, ha.up rfl, hw⟩
  ·rintro D σ w hD hdep hcl ⟨v121, hv, ha, hw⟩
   obtain ⟨τ, rfl⟩ := (ac (ha.at 2 rfl) az).ups
   refine RL.fa_b trivial rfl rfl fa26_1 ?_
   refine RL.nil ?_
   exact ⟨rfl, v121, hv.put 3 rfl rfl, ha.up rfl, hw⟩
  ·rintro D σ w hD hdep hcl ⟨v121, hv, ha, hw⟩
   obtain ⟨τ, rfl⟩ := (ac (hv.at 3 rfl (hdep.1 rfl)) az).ups
   refine RL.load_bc (i := 3) (v := v43) trivial rfl hw rfl rfl rfl ty24 ?_
   refine RL.nil ?_
   exact ⟨rfl, v121, hv.put 4 rfl rfl, ha.up rfl, hw⟩
  ·rintro D σ w hD hdep hcl ⟨v121, hv, ha, hw⟩
   obtain ⟨τ, rfl⟩ := (ac (ha.at 3 rfl) az).ups
   refine mv (vi (k48 : Int)) rfl rfl ?_
   refine RL.nil ?_
   exact ⟨rfl, v121, hv.put 5 rfl rfl, ha.up rfl, hw⟩
  ·rintro D σ w hD hdep hcl ⟨v121, hv, ha, hw⟩
   obtain ⟨τ, rfl⟩ := (ac (hv.at 4 rfl (hdep.1 rfl)) (ac (hv.at 5 rfl (hdep.2.1 rfl)) az)).ups
   have hw := hw.selF (i := 5) rfl (nf (fun h => ft hD ((hcl 13 _ rfl h).2.2.2.2.2.2.2.2.2.1 rfl)))
   have hw := hw.selF (i := 6) rfl (nf (fun h => ft hD ((hcl 13 _ rfl h).2.2.2.2.2.2.2.2.2.1 rfl)))
   have hw := hw.selF (i := 6) rfl (nf (fun h => ft hD ((hcl 7 _ rfl ((hcl 8 _ rfl h).1 rfl)).1 rfl)))
   have hl129 := hw.bag_len (j := 6) rfl
   have hr130 := idx_raw (default : Net_r1) hl129 hx113
   refine RL.ia_ownA (i := 5) trivial rfl hw rfl rfl rfl sl24 hr130 ?_
   have hw := hw.altF (i := 5) (b := D 13) rfl (nf (fun h => ft hD ((hcl 13 _ rfl h).2.2.2.2.2.2.2.2.2.1 rfl))) (own 64 v43 (us112.set (Int.toNat (k48 : Int)) { (us112.getD (Int.toNat (k48 : Int)) (default : Net_r1)) with Pins := rv v121 }))
   have hw := hw.altF (i := 6) (b := D 8) rfl (nf (fun h => ft hD ((hcl 7 _ rfl ((hcl 8 _ rfl h).1 rfl)).1 rfl))) (bag XF_Net_r1 us112 s49 (some (Int.toNat (k48 : Int))))
   have hw := hw.altF (i := 6) (b := D 13) rfl (nf (fun h => ft hD ((hcl 13 _ rfl h).2.2.2.2.2.2.2.2.2.1 rfl))) (bag XF_Net_r1 (us112.set (Int.toNat (k48 : Int)) { (us112.getD (Int.toNat (k48 : Int)) (default : Net_r1)) with Pins := rv v121 }) (s49.set (Int.toNat (k48 : Int)) { x122 with Pins := x120 }) none)
   refine RL.nil ?_
   exact ⟨rfl, v121, hv.put 6 rfl rfl, ha.up rfl, hw⟩
  ·rintro D σ w hD hdep hcl ⟨v121, hv, ha, hw⟩
   obtain ⟨τ, rfl⟩ := (ac (hv.at 6 rfl (hdep.1 rfl)) az).ups
   have hw := hw.selF (i := 5) rfl (nf (fun h => ft hD ((hcl 13 _ rfl h).2.2.2.2.2.2.2.2.2.2.1 rfl)))
   have hw := hw.selF (i := 6) rfl (nf (fun h => ft hD ((hcl 13 _ rfl h).2.2.2.2.2.2.2.2.2.2.1 rfl)))
   have hw := hw.selF (i := 6) rfl (nf (fun h => ft hD ((hcl 8 _ rfl h).1 rfl)))
   have hl131 := hw.bag_len (j := 6) rfl
   have hr132 := idx_raw (default : Net_r1) hl131 hx113
   refine RL.fa_elA (α := Net_r1) trivial rfl rfl (elp hw (i := 5) rfl hr132 0) fa64_1 ?_
   have hw := hw.altF (i := 5) (b := D 13) rfl (nf (fun h => ft hD ((hcl 13 _ rfl h).2.2.2.2.2.2.2.2.2.2.1 rfl))) (own 64 v43 (us112.set (Int.toNat (k48 : Int)) { (us112.getD (Int.toNat (k48 : Int)) (default : Net_r1)) with Pins := rv v121 }))
   have hw := hw.altF (i := 6) (b := D 8) rfl (nf (fun h => ft hD ((hcl 8 _ rfl h).1 rfl))) (bag XF_Net_r1 us112 s49 (some (Int.toNat (k48 : Int))))
   have hw := hw.altF (i := 6) (b := D 13) rfl (nf (fun h => ft hD ((hcl 13 _ rfl h).2.2.2.2.2.2.2.2.2.2.1 rfl))) (bag XF_Net_r1 (us112.set (Int.toNat (k48 : Int)) { (us112.getD (Int.toNat (k48 : Int)) (default : Net_r1)) with Pins := rv v121 }) (s49.set (Int.toNat (k48 : Int)) { x122 with Pins := x120 }) none)
   refine RL.nil ?_
   exact ⟨rfl, v121, hv.put 7 rfl rfl, ha.up rfl, hw⟩
  ·rintro D σ w hD hdep hcl ⟨v121, hv, ha, hw⟩
   obtain ⟨τ, rfl⟩ := (ac (hv.at 7 rfl (hdep.1 rfl)) az).ups
   have hw := hw.selF (i := 0) rfl (nf (fun h => ft hD ((hcl 13 _ rfl h).2.2.2.2.2.2.2.2.2.2.2.1 rfl)))
   have hw := hw.selF (i := 0) rfl (nf (fun h => ft hD ((hcl 10 _ rfl h).1 rfl)))
   have hw := hw.selF (i := 0) rfl hD
   have hw := hw.selF (i := 5) rfl (nf (fun h => ft hD ((hcl 13 _ rfl h).2.2.2.2.2.2.2.2.2.2.2.1 rfl)))
   have hw := hw.selF (i := 6) rfl (nf (fun h => ft hD ((hcl 13 _ rfl h).2.2.2.2.2.2.2.2.2.2.2.1 rfl)))
   have hw := hw.selF (i := 6) rfl hD
   have hl133 := hw.bag_len (j := 6) rfl
   have hr134 := idx_raw (default : Net_r1) hl133 hx113
   refine RL.load_nest (i := 5) (b := 6) (jj := (k48 : Int)) xo_Net_r1 (default : Net_r1) trivial rfl hw rfl (elp hw (i := 5) rfl hr134 1) rfl rfl hx113 ty33 fun hw => ?_
   have hw := hw.pick 8 [0, 2, 3, 4, 5, 6, 7] (new := [own 28 (us112.getD (Int.toNat (k48 : Int)) (default : Net_r1)).Pins.v x113.Pins, pt (vp b32 0) p2, raw 26 b33 2, bc 26 b45 [v47, v43], own 87 v47 x46, own 64 v43 us112, bag XF_Net_r1 us112 s49 (some (Int.toNat (k48 : Int)))]) rfl rfl (by decide) (by decide)
   have hw := hw.altT (i := 0) (b := true) rfl rfl (junk)
   have hw := hw.altF (i := 0) (b := D 10) rfl (nf (fun h => ft hD ((hcl 10 _ rfl h).1 rfl))) (own 28 v121 x120)
   have hw := hw.altF (i := 0) (b := D 13) rfl (nf (fun h => ft hD ((hcl 13 _ rfl h).2.2.2.2.2.2.2.2.2.2.2.1 rfl))) (junk)
   have hw := hw.altF (i := 5) (b := D 13) rfl (nf (fun h => ft hD ((hcl 13 _ rfl h).2.2.2.2.2.2.2.2.2.2.2.1 rfl))) (own 64 v43 (us112.set (Int.toNat (k48 : Int)) { (us112.getD (Int.toNat (k48 : Int)) (default : Net_r1)) with Pins := rv v121 }))
   have hw := hw.altT (i := 6) (b := true) rfl rfl (bag XF_Net_r1 us112 s49 none)
   have hw := hw.altF (i := 6) (b := D 13) rfl (nf (fun h => ft hD ((hcl 13 _ rfl h).2.2.2.2.2.2.2.2.2.2.2.1 rfl))) (bag XF_Net_r1 (us112.set (Int.toNat (k48 : Int)) { (us112.getD (Int.toNat (k48 : Int)) (default : Net_r1)) with Pins := rv v121 }) (s49.set (Int.toNat (k48 : Int)) { x122 with Pins := x120 }) none)
   refine RL.nil ?_
   exact ⟨rfl, v121, hv.put 8 rfl rfl, ha.up rfl, hw⟩
  ·rintro D σ w hD hdep hcl ⟨v121, hv, ha, hw⟩
   obtain ⟨τ, rfl⟩ := (ac (ha.at 0 rfl) az).ups
   refine RL.makeFunc trivial rfl [(vp b32 0)] rfl ?_
   refine RL.nil ?_
   exact ⟨rfl, v121, hv.put 9 rfl rfl, ha.up rfl, hw⟩
  ·rintro D σ w hD hdep hcl ⟨v121, hv, ha, hw⟩
   obtain ⟨τ, rfl⟩ := (ac (hv.at 8 rfl (hdep.1 rfl)) (ac (hv.at 9 rfl (hdep.2.1 rfl)) az)).ups
   have hw := hw.selF (i := 0) rfl (nf (fun h => ft hD ((hcl 13 _ rfl h).2.1 rfl)))
   have hw := hw.selF (i := 0) rfl hD
   have hw := hw.selT (i := 0) rfl (hdep.1 rfl)
   have hw := hw.selF (i := 5) rfl (nf (fun h => ft hD ((hcl 13 _ rfl h).2.1 rfl)))
   have hw := hw.selF (i := 6) rfl (nf (fun h => ft hD ((hcl 13 _ rfl h).2.1 rfl)))
   have hw := hw.selT (i := 6) rfl (hdep.1 rfl)
   have hw := hw.pull (i := 0) rfl
   refine RL.call trivial rfl fn78 [(us112.getD (Int.toNat (k48 : Int)) (default : Net_r1)).Pins.v, (.func (.func 79) #[] #[(vp b32 0)])] rfl (Calls_ret (slices_DeleteFunc_Pin_ok N   hw ⟨79, [(vp b32 0)], rfl, fn79, fun w Γl v y0 r i hw hi hr => by exact Calls_ret (netlist_Without_c3_ok N (i0 := i) (i1 := Γl.length + 1) hw hi (up_get rfl) hr) fun _ _ h => h⟩ hx120) ?_)
   rintro v135 w hw
   have hw := hw.pick 8 [0, 2, 3, 4, 5, 6, 7] (new := [own 28 v135 x120, pt (vp b32 0) p2, raw 26 b33 2, bc 26 b45 [v47, v43], own 87 v47 x46, own 64 v43 us112, bag XF_Net_r1 us112 s49 (some (Int.toNat (k48 : Int)))]) rfl rfl (by decide) (by decide)
   have hw := hw.altT (i := 0) (b := true) rfl rfl (bif D 8 then (own 28 (us112.getD (Int.toNat (k48 : Int)) (default : Net_r1)).Pins.v x113.Pins) else junk)
   have hw := hw.altF (i := 0) (b := D 13) rfl (nf (fun h => ft hD ((hcl 13 _ rfl h).2.1 rfl))) (junk)
   have hw := hw.altF (i := 5) (b := D 13) rfl (nf (fun h => ft hD ((hcl 13 _ rfl h).2.1 rfl))) (own 64 v43 (us112.set (Int.toNat (k48 : Int)) { (us112.getD (Int.toNat (k48 : Int)) (default : Net_r1)) with Pins := rv v135 }))
   have hw := hw.altT (i := 6) (b := D 8) rfl (hdep.1 rfl) (bag XF_Net_r1 us112 s49 none)
   have hw := hw.altF (i := 6) (b := D 13) rfl (nf (fun h => ft hD ((hcl 13 _ rfl h).2.1 rfl))) (bag XF_Net_r1 (us112.set (Int.toNat (k48 : Int)) { (us112.getD (Int.toNat (k48 : Int)) (default : Net_r1)) with Pins := rv v135 }) (s49.set (Int.toNat (k48 : Int)) { x122 with Pins := x120 }) none)
   refine RL.nil ?_
   exact ⟨rfl, v135, hv.put 10 rfl rfl, ha.up rfl, hw⟩
  ·rintro D σ w hD hdep hcl ⟨v121, hv, ha, hw⟩
   obtain ⟨τ, rfl⟩ := (ac (hv.at 1 rfl (hdep.1 rfl)) (ac (hv.at 2 rfl (hdep.2.1 rfl)) az)).ups
   have hw := hw.selF (i := 5) rfl (nf (fun h => ft hD ((hcl 12 _ rfl ((hcl 13 _ rfl h).1 rfl)).1 rfl)))
   have hw := hw.selF (i := 6) rfl (nf (fun h => ft hD ((hcl 12 _ rfl ((hcl 13 _ rfl h).1 rfl)).1 rfl)))
   have hw := hw.selT (i := 6) rfl (hdep.2.2.2.2.2.2.2.2.2.2.1 rfl)
   have hl136 := hw.bag_len (j := 6) rfl
   have hr137 := idx_raw (default : Net_r1) hl136 hx122
   refine RL.ia_ownA (i := 5) trivial rfl hw rfl rfl rfl sl24 hr137 ?_
   have hw := hw.altF (i := 5) (b := D 13) rfl (nf (fun h => ft hD ((hcl 12 _ rfl ((hcl 13 _ rfl h).1 rfl)).1 rfl))) (own 64 v43 (us112.set (Int.toNat (k48 : Int)) { (us112.getD (Int.toNat (k48 : Int)) (default : Net_r1)) with Pins := rv v121 }))
   have hw := hw.altT (i := 6) (b := D 8) rfl (hdep.2.2.2.2.2.2.2.2.2.2.1 rfl) (bag XF_Net_r1 us112 s49 none)
   have hw := hw.altF (i := 6) (b := D 13) rfl (nf (fun h => ft hD ((hcl 12 _ rfl ((hcl 13 _ rfl h).1 rfl)).1 rfl))) (bag XF_Net_r1 (us112.set (Int.toNat (k48 : Int)) { (us112.getD (Int.toNat (k48 : Int)) (default : Net_r1)) with Pins := rv v121 }) (s49.set (Int.toNat (k48 : Int)) { x122 with Pins := x120 }) none)
   refine RL.nil ?_
   exact ⟨rfl, v121, hv.put 11 rfl rfl, ha.up rfl, hw⟩
  ·rintro D σ w hD hdep hcl ⟨v121, hv, ha, hw⟩
   obtain ⟨τ, rfl⟩ := (ac (hv.at 11 rfl (hdep.1 rfl)) az).ups
   have hw := hw.selF (i := 5) rfl (nf (fun h => ft hD ((hcl 13 _ rfl h).1 rfl)))
   have hw := hw.selF (i := 6) rfl (nf (fun h => ft hD ((hcl 13 _ rfl h).1 rfl)))
   have hw := hw.selT (i := 6) rfl (hdep.2.2.2.2.2.2.2.2.2.1 rfl)
   have hl138 := hw.bag_len (j := 6) rfl
   have hr139 := idx_raw (default : Net_r1) hl138 hx122
   refine RL.fa_elA (α := Net_r1) trivial rfl rfl (elp hw (i := 5) rfl hr139 0) fa64_1 ?_
   have hw := hw.altF (i := 5) (b := D 13) rfl (nf (fun h => ft hD ((hcl 13 _ rfl h).1 rfl))) (own 64 v43 (us112.set (Int.toNat (k48 : Int)) { (us112.getD (Int.toNat (k48 : Int)) (default : Net_r1)) with Pins := rv v121 }))
   have hw := hw.altT (i := 6) (b := D 8) rfl (hdep.2.2.2.2.2.2.2.2.2.1 rfl) (bag XF_Net_r1 us112 s49 none)
   have hw := hw.altF (i := 6) (b := D 13) rfl (nf (fun h => ft hD ((hcl 13 _ rfl h).1 rfl))) (bag XF_Net_r1 (us112.set (Int.toNat (k48 : Int)) { (us112.getD (Int.toNat (k48 : Int)) (default : Net_r1)) with Pins := rv v121 }) (s49.set (Int.toNat (k48 : Int)) { x122 with Pins := x120 }) none)
   refine RL.nil ?_
   exact ⟨rfl, v121, hv.put 12 rfl rfl, ha.up rfl, hw⟩
  ·rintro D σ w hD hdep hcl ⟨v121, hv, ha, hw⟩
   obtain ⟨τ, rfl⟩ := (ac (hv.at 10 rfl (hdep.2.1 rfl)) (ac (hv.at 12 rfl (hdep.1 rfl)) az)).ups
   have hw := hw.selF (i := 0) rfl hD
   have hw := hw.selT (i := 0) rfl (hdep.2.1 rfl)
   have hw := hw.selF (i := 5) rfl hD
   have hw := hw.selF (i := 6) rfl hD
   have hw := hw.selT (i := 6) rfl (hdep.2.2.2.2.2.2.2.2.2.2.2.1 rfl)
   have hl140 := hw.bag_len (j := 6) rfl
   have hr141 := idx_raw (default : Net_r1) hl140 hx122
   refine RL.store_nest (i := 5) (b := 6) (o := 0) (jj := (k48 : Int)) xo_Net_r1 (default : Net_r1) trivial hw rfl rfl (elp hw (i := 5) rfl hr141 1) rfl rfl (.inr rfl) rfl hx122 (by decide) (by decide) (by decide) ty33 fun w hw => ?_
   have hw := hw.altT (i := 0) (b := true) rfl rfl (bif D 10 then (own 28 v121 x120) else (bif D 8 then (own 28 (us112.getD (Int.toNat (k48 : Int)) (default : Net_r1)).Pins.v x113.Pins) else junk))
   have hw := hw.altT (i := 5) (b := true) rfl rfl (own 64 v43 us112)
   have hw := hw.altT (i := 6) (b := true) rfl rfl (bif D 8 then (bag XF_Net_r1 us112 s49 (some (Int.toNat (k48 : Int)))) else (bag XF_Net_r1 us112 s49 none))
   refine RL.nil ?_
   exact ⟨rfl, v121, hv.no rfl, ha, hw⟩
  rintro D σ w hall ⟨v121, hv, ha, hw⟩
  rw [hall 8 (by decide), hall 10 (by decide), hall 13 (by decide)] at hw
  obtain ⟨τ, rfl⟩ := (ac (ha.at 0 rfl) (ac (ha.at 1 rfl) (ac (ha.at 2 rfl) (ac (ha.at 3 rfl) (ac (ha.at 4 rfl) (ac (ha.at 5 rfl) az)))))).ups
  refine blkQ_n ?_
  refine thenQ_n ?_
  refine RC.region ?_
  refine RL.inc trivial rfl hk hm rfl rfl ?_
  refine mv (vi ((k48 + 1 : Nat) : Int)) rfl rfl ?_
  refine RL.nil ?_
  obtain rfl := oi hb
  exact ⟨rfl, (us112.set (Int.toNat (k48 : Int)) { (us112.getD (Int.toNat (k48 : Int)) (default : Net_r1)) with Pins := rv v121 }), ⟨rfl, rfl, rfl, rfl, rfl, trivial⟩, hw.pick 7 [1, 2, 3, 4, 5, 6] (new := [pt (vp b32 0) p2, raw 26 b33 2, bc 26 b45 [v47, v43], own 87 v47 x46, own 64 v43 (us112.set (Int.toNat (k48 : Int)) { (us112.getD (Int.toNat (k48 : Int)) (default : Net_r1)) with Pins := rv v121 }), bag XF_Net_r1 (us112.set (Int.toNat (k48 : Int)) { (us112.getD (Int.toNat (k48 : Int)) (default : Net_r1)) with Pins := rv v121 }) (s49.set (Int.toNat (k48 : Int)) { x122 with Pins := x120 }) none]) rfl rfl (by decide) (by decide)⟩
 intro σ w hJ
 obtain ⟨us111, ha, hw⟩ := hJ
 obtain ⟨τ, rfl⟩ := ha.ups
 refine thenQ_n ?_
 refine RC.sr ?_
 refine RL.fa_b trivial rfl rfl fa26_1 ?_
 refine RL.load_bc (i := 2) (v := v43) trivial rfl hw rfl rfl rfl ty24 ?_
 have hw := hw.nest_fz (X := XF_Net_r1) (b := 5) (j := 4) rfl (fun M h u x cs => xrd_Net_r1 M h u x cs) rfl rfl (by decide)
 have hw := hw.pull (i := 4) rfl
 obtain ⟨x143, hx143, hb⟩ := bd hb
 refine RL.call trivial rfl fn80 [v43, (.func (.func 81) #[] #[])] rfl (Calls_ret (slices_DeleteFunc_Net_ok N   hw ⟨81, [], rfl, fn81, fun w Γl v y0 r i hw hi hr => by exact Calls_ret (netlist_Without_c4_ok N (i0 := i) hw hi hr) fun _ _ h => h⟩ hx143) ?_)
 rintro v144 w hw
 refine RL.fa_b trivial rfl rfl fa26_1 ?_
 refine RL.store_bc (i := 3) (v := v144) trivial hw rfl rfl rfl rfl (one_own hw (i := 0) rfl) ty24 fun w hw => ?_
 refine RL.ns ?_
 have hw := hw.freeze (i := 4) rfl
 have hw := hw.freeze (i := 0) rfl
 have hw := hw.close_bc (i := 3) (x := (⟨x46, x143⟩ : Netlist)) rfl (fun M hs g => ⟨[v47], [v144], rfl, (rd_one rfl (g.sat 4 _ rfl).1), (rd_one rfl (g.sat 0 _ rfl).1)⟩)
 refine RL.load_bf (i := 3) (f := (fun x => x)) trivial rfl hw rfl rfl Fd.self ty26 fun v145 hw => ?_
 refine RL.store_raw (i := 3) (j := 0) trivial hw rfl rfl rfl rfl ty26 rfl fun w hw => ?_
 refine as_ (vi 0) rfl rfl ?_
 refine RL.nt ?_
 refine RC.ret ?_
 obtain rfl := oi hb
 exact finC2 (i := 3) rfl hw rfl rfl ty26 rfl fun v146 hw => ⟨v146, rfl, hw.pick 9 [0] (new := [rd v146 (⟨x46, x143⟩ : Netlist)]) rfl rfl (by decide) (by decide)⟩
end Go.Gk
