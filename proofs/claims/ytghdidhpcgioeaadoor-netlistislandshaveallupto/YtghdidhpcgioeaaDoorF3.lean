/-
  Printed by gen.py: Go functions as plain functions, and that they are.
-/
import Derived.Test.YtghdidhpcgioeaaDoorT
import Derived.Test.YtghdidhpcgioeaaDoorS
import Derived.Test.YtghdidhpcgioeaaDoorF2
set_option linter.unusedVariables false
set_option linter.unusedSimpArgs false
set_option linter.unusedSectionVars false
set_option maxRecDepth 100000
set_option maxHeartbeats 4000000

namespace Go.Gk
open Go Go.Proofs
def netlist_Islands_c1_R (E : World) (Γ : List HP) (res : Bool) (v : Value) (w : World) : Prop := v = (vb res) ∧ Holds E w Γ
def netlist_Islands_c1_K (E : World) (Γ : List HP) (r : Bool) (σ : Nat → Value) (w : World) : Prop := finQ Tryd.prog 8 Tryd.f16 (netlist_Islands_c1_R E Γ r) .ret σ w
theorem netlist_Islands_c1_ok (N : Nat) {E w : World} {Γ : List HP} {p0 : Str} {i1 : Nat} {v1 : Value} {p1 : Netlist} {res : Bool} (hw : Holds E w Γ) (h1 : Γ[i1]? = some (pt v1 p1)) (hb : netlist_Islands_c1 N p0 p1 = some res) :
    Calls Tryd.prog 16 [(str p0), v1].toArray w (Ret (netlist_Islands_c1_R E Γ res)) := by
 unfold netlist_Islands_c1 at hb
 refine enter Tryd.func16 rfl rfl (Nat.le_of_ble_eq_true rfl) ?_
 have hw := hw.dup_pt (i := i1 + 0) h1
 refine RC.sr ?_
 refine as_ (vb false) rfl rfl ?_
 refine RL.ns ?_
 refine RL.load_pt (i := 0) (x := p1) trivial rfl hw rfl rfl ty26 fun v31 hw => ?_
 refine mv (str p0) rfl rfl ?_
 obtain ⟨x32, hx32, hb⟩ := bd hb
 refine RL.call trivial rfl fn17 [v31, (str p0)] rfl (Calls_ret (netlist_NetAt_ok N (p1 := p0) (i0 := 0) hw rfl hx32) ?_)
 rintro _ w ⟨rfl, hw⟩
 refine ic x32 0 rfl rfl rfl rfl ?_
 refine as_ (vb (decide (x32 ≥ 0))) rfl rfl ?_
 refine RL.nt ?_
 refine RC.ret ?_
 obtain rfl := oi hb
 exact fin1 rfl rfl ⟨rfl, hw.drop 2 rfl⟩
def netlist_checkNames_R (E : World) (Γ : List HP) (res : Int) (v : Value) (w : World) : Prop := v = (vi res) ∧ Holds E w Γ
def netlist_checkNames_K (E : World) (Γ : List HP) (r : Int) (σ : Nat → Value) (w : World) : Prop := finQ Tryd.prog 36 Tryd.f15 (netlist_checkNames_R E Γ r) .ret σ w
theorem netlist_checkNames_ok (N : Nat) {E w : World} {Γ : List HP} {i0 : Nat} {v0 : Value} {p0 : (List Str)} {p1 : Int} {v2 : Value} {p2 : Str → Option Bool} {res : Int} (hw : Holds E w Γ) (h0 : Γ[i0]? = some (rd v0 p0)) (h2 : Fn1 Tryd.prog E Γ v2 p2 (fun (r : Bool) => Value.bool r)) (hb : netlist_checkNames N p0 p1 p2 = some res) :
    Calls Tryd.prog 15 [v0, (vi p1), v2].toArray w (Ret (netlist_checkNames_R E Γ res)) := by
 unfold netlist_checkNames at hb
 refine enter Tryd.func15 rfl rfl (Nat.le_of_ble_eq_true rfl) ?_
 have hw := hw.dup (i := i0 + 0) h0
 refine RC.sr ?_
 refine as_ (vi 0) rfl rfl ?_
 refine RL.nq ?_
 refine RC.sr ?_
 refine mv v0 rfl rfl ?_
 refine RL.len_rd (i := 0) (l := p0) trivial rfl hw rfl rfl un27 ?_
 refine mv (vi p1) rfl rfl ?_
 refine ic ((p0.length : Int)) p1 rfl rfl rfl rfl ?_
 refine RL.nt ?_
 refine RC.cond (b := (decide ((p0.length : Int) > p1))) rfl (fun hc => ?_) (fun hc => ?_)
 ·replace hb := cT hc hb
  refine RC.sr ?_
  refine as_ (vi 2) rfl rfl ?_
  refine RL.nt ?_
  refine RC.rt ?_
  obtain rfl := oi hb
  exact fin1 rfl rfl ⟨rfl, hw.drop 1 rfl⟩
 replace hb := cF hc hb
 refine RC.ss ?_
 refine RC.sr ?_
 refine mv v0 rfl rfl ?_
 refine RL.len_rd (i := 0) (l := p0) trivial rfl hw rfl rfl un27 ?_
 refine mv (vi 0) rfl rfl ?_
 refine RL.nt ?_
 obtain ⟨o53, hN, hb⟩ := bd hb
 refine RC.range (fun (k31 : Nat) (s32 : Unit) (σ : Nat → Value) (w : World) => agree σ [(0, v0), (2, v2), (13, v0), (14, (vi (p0.length : Int))), (15, (vi (k31 : Int)))] ∧ Holds E w ([rd v0 p0] ++ Γ)) (fun (s32 : Unit) (σ : Nat → Value) (w : World) => agree σ [] ∧ Holds E w ([rd v0 p0] ++ Γ)) (netlist_checkNames_K E Γ) hN ?_ ?_ ?_ ?_ ?_ 
 ·exact ⟨⟨rfl, rfl, rfl, rfl, rfl, trivial⟩, hw.pick 1 [0] (new := [rd v0 p0]) rfl rfl (by decide) (by decide)⟩
 ·intro hm s32 σ w hI
  obtain ⟨ha, hw⟩ := hI
  obtain ⟨τ, rfl⟩ := ha.ups
  refine RC.sr ?_
  refine ic ((p0.length : Int)) ((p0.length : Int)) rfl rfl rfl rfl ?_
  refine RL.nq ?_
  refine RC.cond_f dge ?_
  refine RC.ex ?_
  exact ⟨rfl, trivial, hw.pick 1 [0] (new := [rd v0 p0]) rfl rfl (by decide) (by decide)⟩
 ·intro hm k31 s32 fl σ w hk hI hb
  obtain ⟨ha, hw⟩ := hI
  obtain ⟨τ, rfl⟩ := ha.ups
  refine RC.sr ?_
  refine ic ((k31 : Int)) ((p0.length : Int)) rfl rfl rfl rfl ?_
  refine RL.nq ?_
  refine RC.cond_t (dlt hk) ?_
  refine RC.ss ?_
  refine RC.bs ?_
  refine mv (vi (k31 : Int)) rfl rfl ?_
  obtain ⟨x43, hx43, hb⟩ := bd hb
  refine RL.ia_rd (i := 0) trivial rfl hw rfl rfl rfl sl27 hx43 fun v44 hw => ?_
  refine RL.load_pts (i := 0) (y := x43) trivial rfl hw rfl rfl ty9 ?_
  refine as_ (vi (k31 : Int)) rfl rfl ?_
  refine as_ (str x43) rfl rfl ?_
  refine RL.nq ?_
  refine RC.sr ?_
  refine mv v2 rfl rfl ?_
  refine mv (str x43) rfl rfl ?_
  have hw := hw.sc (γ := Str) x43
  obtain ⟨x45, hx45, hb⟩ := bd hb
  refine RL.callF1 (i := 0) trivial rfl hw rfl h2 3 rfl rfl rfl hx45 fun w hw => ?_
  refine RL.not (b := x45) trivial rfl rfl ?_
  refine RL.nt ?_
  refine RC.cond (b := (!x45)) rfl (fun hc => ?_) (fun hc => ?_)
  ·replace hb := cT hc hb
   refine RC.sr ?_
   refine as_ (vi 9) rfl rfl ?_
   refine RL.nt ?_
   refine RC.rt ?_
   refine blkQ_r ?_
   refine thenQ_r ?_
   obtain rfl := oi hb
   exact ⟨rfl, fin1 rfl rfl ⟨rfl, hw.drop 3 rfl⟩⟩
  replace hb := cF hc hb
  refine RC.ss ?_
  obtain ⟨s49, hj, hb⟩ := bd hb
  refine RC.jn (fun (s49 : Bool) (σ : Nat → Value) (w : World) => agree σ [(0, v0), (2, v2), (13, v0), (14, (vi (p0.length : Int))), (15, (vi (k31 : Int))), (34, (vb s49))] ∧ Holds E w ([rd v0 p0] ++ Γ)) s49 ?_ ?_
  ·refine RC.region ?_
   refine mv (vi (k31 : Int)) rfl rfl ?_
   refine ic ((k31 : Int)) 0 rfl rfl rfl rfl ?_
   refine mv (vb (decide ((k31 : Int) > 0))) rfl rfl ?_
   rcases Bool.eq_false_or_eq_true (decide ((k31 : Int) > 0)) with hg50 | hg50
   rotate_left
   ·replace hj := cF hg50 hj
    refine sk rfl (.inl (cb hg50)) rfl ?_
    refine sk rfl (.inl (cb hg50)) rfl ?_
    refine sk rfl (.inl (cb hg50)) rfl ?_
    refine sk rfl (.inl (cb hg50)) rfl ?_
    refine sk rfl (.inl (cb hg50)) rfl ?_
    refine sk rfl (.inl (cb hg50)) rfl ?_
    refine sk rfl (.inl (cb hg50)) rfl ?_
    refine RL.pick (b := (decide ((k31 : Int) > 0))) (v := (vb false)) trivial rfl rfl (by rw [hg50]; rfl) ?_
    refine RL.nil ?_
    obtain rfl := oi hj
    exact ⟨rfl, ⟨rfl, rfl, rfl, rfl, rfl, rfl, trivial⟩, hw.pick 3 [2] (new := [rd v0 p0]) rfl rfl (by decide) (by decide)⟩
   replace hj := cT hg50 hj
   refine RL.move (v := (str x43)) ⟨_, rfl, cb hg50⟩ rfl rfl ?_
   refine RL.move (v := v0) ⟨_, rfl, cb hg50⟩ rfl rfl ?_
   refine RL.move (v := (vi (k31 : Int))) ⟨_, rfl, cb hg50⟩ rfl rfl ?_
   refine RL.iar (a := (k31 : Int)) (b := 1) ⟨_, rfl, cb hg50⟩ rfl rfl rfl rfl ?_
   obtain ⟨x51, hx51, hj⟩ := bd hj
   refine RL.ia_rd (i := 2) ⟨_, rfl, cb hg50⟩ rfl hw rfl rfl rfl sl27 hx51 fun v52 hw => ?_
   refine RL.load_pts (i := 0) (y := x51) ⟨_, rfl, cb hg50⟩ rfl hw rfl rfl ty9 ?_
   refine RL.scmp (a := x43) (b := x51) ⟨_, rfl, cb hg50⟩ rfl rfl rfl rfl ?_
   refine RL.pick (b := (decide ((k31 : Int) > 0))) (v := (vb (x43.ltb x51 || x43.eqb x51))) trivial rfl rfl (by rw [hg50]; rfl) ?_
   refine RL.nil ?_
   obtain rfl := oi hj
   exact ⟨rfl, ⟨rfl, rfl, rfl, rfl, rfl, rfl, trivial⟩, hw.pick 4 [3] (new := [rd v0 p0]) rfl rfl (by decide) (by decide)⟩
  rintro σ w ⟨ha, hw⟩
  obtain ⟨τ, rfl⟩ := ha.ups
  refine thenQ_n ?_
  refine RC.cond (b := s49) rfl (fun hc => ?_) (fun hc => ?_)
  rotate_left
  ·replace hb := cF hc hb
   refine RC.skip ?_
   refine blkQ_n ?_
   refine thenQ_n ?_
   refine RC.region ?_
   refine RL.inc trivial rfl hk hm rfl rfl ?_
   refine mv (vi ((k31 + 1 : Nat) : Int)) rfl rfl ?_
   refine RL.nil ?_
   obtain rfl := oi hb
   exact ⟨rfl, ⟨rfl, rfl, rfl, rfl, rfl, trivial⟩, hw.pick 1 [0] (new := [rd v0 p0]) rfl rfl (by decide) (by decide)⟩
  replace hb := cT hc hb
  refine RC.sr ?_
  refine as_ (vi 8) rfl rfl ?_
  refine RL.nt ?_
  refine RC.rb ?_
  refine thenQ_r ?_
  obtain rfl := oi hb
  exact ⟨rfl, fin1 rfl rfl ⟨rfl, hw.drop 1 rfl⟩⟩
 ·intro r σ w e hK
  subst e
  refine thenQ_r ?_
  obtain rfl := oi hb
  exact hK
 intro s32 σ w e hJ
 subst e
 rw [Fo.cs_go] at hb
 obtain ⟨ha, hw⟩ := hJ
 obtain ⟨τ, rfl⟩ := ha.ups
 refine thenQ_n ?_
 refine RC.sr ?_
 refine as_ (vi 0) rfl rfl ?_
 refine RL.nt ?_
 refine RC.ret ?_
 obtain rfl := oi hb
 exact fin1 rfl rfl ⟨rfl, hw.drop 1 rfl⟩
def netlist_NewUnion_R (E : World) (Γ : List HP) (res : ((List Int))) (v : Value) (w : World) : Prop := ∃ (ub0 : Nat) (u0_0 : Value), v = vp ub0 0 ∧ Holds E w (bc 91 ub0 [u0_0] :: own 3 u0_0 res :: Γ)
def netlist_NewUnion_K (E : World) (Γ : List HP) (r : ((List Int))) (σ : Nat → Value) (w : World) : Prop := finQ Tryd.prog 26 Tryd.f18 (netlist_NewUnion_R E Γ r) .ret σ w
theorem netlist_NewUnion_ok (N : Nat) {E w : World} {Γ : List HP} {p0 : Int} {res : ((List Int))} (hw : Holds E w Γ)  (hb : netlist_NewUnion N p0 = some res) :
    Calls Tryd.prog 18 [(vi p0)].toArray w (Ret (netlist_NewUnion_R E Γ res)) := by
 unfold netlist_NewUnion at hb
 refine enter Tryd.func18 rfl rfl (Nat.le_of_ble_eq_true rfl) ?_
 refine RC.sr ?_
 refine as_ (.pointer none) rfl rfl ?_
 refine RL.ns ?_
 refine mv (vi p0) rfl rfl ?_
 obtain ⟨x31, hx31, hb⟩ := bd hb
 refine RL.mk (k := p0) trivial rfl hw rfl rfl el61 zd3 hx31 fun v32 w hw => ?_
 refine RL.buildc (zs := [(.slice none 0 0)]) (cs := [v32]) trivial rfl [(0, v32)] rfl st91 ⟨(one_own hw (i := 0) rfl), trivial⟩ rfl ?_
 refine RL.box_bca (cs := [v32]) trivial rfl hw rfl (oneL.all (⟨(one_own hw (i := 0) rfl), trivial⟩ : oneL [v32])) fun b33 w hw => ?_
 refine as_ (vp b33 0) rfl rfl ?_
 refine RL.nq ?_
 refine RC.sr ?_
 refine mv (vp b33 0) rfl rfl ?_
 refine RL.nilCheck trivial rfl rfl ?_
 refine RL.fa_b trivial rfl rfl fa91_0 ?_
 refine RL.load_bc (i := 0) (v := v32) trivial rfl hw rfl rfl rfl ty61 ?_
 refine RL.len_own (i := 1) (l := x31) trivial rfl hw rfl rfl un61 ?_
 refine mv (vi 0) rfl rfl ?_
 refine RL.nt ?_
 obtain ⟨s35, hN, hb⟩ := bd hb
 refine RC.fold (fun (k34 : Nat) (s35 : (List Int)) (σ : Nat → Value) (w : World) => agree σ [(3, (vp b33 0)), (13, (vi (x31.length : Int))), (14, (vi (k34 : Int)))] ∧ Holds E w ([bc 91 b33 [v32], own 3 v32 s35] ++ Γ)) (fun (s35 : (List Int)) (σ : Nat → Value) (w : World) => agree σ [(3, (vp b33 0))] ∧ Holds E w ([bc 91 b33 [v32], own 3 v32 s35] ++ Γ)) hN ?_ ?_ ?_ ?_
 ·exact ⟨⟨rfl, rfl, rfl, trivial⟩, hw.pick 2 [0, 1] (new := [bc 91 b33 [v32], own 3 v32 x31]) rfl rfl (by decide) (by decide)⟩
 ·intro hm s35 σ w hI
  obtain ⟨ha, hw⟩ := hI
  obtain ⟨τ, rfl⟩ := ha.ups
  refine RC.sr ?_
  refine ic ((x31.length : Int)) ((x31.length : Int)) rfl rfl rfl rfl ?_
  refine RL.nq ?_
  refine RC.cond_f dge ?_
  refine RC.ex ?_
  exact ⟨rfl, ⟨rfl, trivial⟩, hw.pick 2 [0, 1] (new := [bc 91 b33 [v32], own 3 v32 s35]) rfl rfl (by decide) (by decide)⟩
 ·intro hm k34 s35 s' σ w hk hI hb
  obtain ⟨ha, hw⟩ := hI
  obtain ⟨τ, rfl⟩ := ha.ups
  refine RC.sr ?_
  refine ic ((k34 : Int)) ((x31.length : Int)) rfl rfl rfl rfl ?_
  refine RL.nq ?_
  refine RC.cond_t (dlt hk) ?_
  refine RC.ss ?_
  refine RC.bs ?_
  refine mv (vi (k34 : Int)) rfl rfl ?_
  refine as_ (vi (k34 : Int)) rfl rfl ?_
  refine RL.nt ?_
  refine RC.region ?_
  refine mv (vp b33 0) rfl rfl ?_
  refine RL.nilCheck trivial rfl rfl ?_
  refine RL.fa_b trivial rfl rfl fa91_0 ?_
  refine RL.load_bc (i := 0) (v := v32) trivial rfl hw rfl rfl rfl ty61 ?_
  refine mv (vi (k34 : Int)) rfl rfl ?_
  refine mv (vi (k34 : Int)) rfl rfl ?_
  obtain ⟨x38, hx38, hb⟩ := bd hb
  refine RL.ia_ownA (i := 1) trivial rfl hw rfl rfl rfl sl61 hx38 ?_
  have hw := hw.sc (γ := Int) (k34 : Int)
  refine RL.store_el (i := 2) (j := 0) (f := (fun _ y => y)) trivial hw rfl rfl (elp hw (i := 2) rfl hx38 0) rfl (idx_some hx38).2.1 rfl Fs.self (by decide) ty3 fun w hw => ?_
  refine RL.nil ?_
  refine blkQ_n ?_
  refine thenQ_n ?_
  refine RC.region ?_
  refine RL.inc trivial rfl hk hm rfl rfl ?_
  refine mv (vi ((k34 + 1 : Nat) : Int)) rfl rfl ?_
  refine RL.nil ?_
  obtain rfl := oi hb
  exact ⟨rfl, ⟨rfl, rfl, rfl, trivial⟩, hw.pick 3 [1, 2] (new := [bc 91 b33 [v32], own 3 v32 (s35.set (Int.toNat (k34 : Int)) (k34 : Int))]) rfl rfl (by decide) (by decide)⟩
 intro σ w hJ
 obtain ⟨ha, hw⟩ := hJ
 obtain ⟨τ, rfl⟩ := ha.ups
 refine thenQ_n ?_
 refine RC.sr ?_
 refine mv (vp b33 0) rfl rfl ?_
 refine as_ (vp b33 0) rfl rfl ?_
 refine RL.nt ?_
 refine RC.ret ?_
 obtain rfl := oi hb
 exact fin1 rfl rfl ⟨b33, v32, rfl, hw.pick 2 [0, 1] (new := [bc 91 b33 [v32], own 3 v32 s35]) rfl rfl (by decide) (by decide)⟩
def cmp_isNaN_string_R (E : World) (Γ : List HP) (res : Bool) (v : Value) (w : World) : Prop := v = (vb res) ∧ Holds E w Γ
def cmp_isNaN_string_K (E : World) (Γ : List HP) (r : Bool) (σ : Nat → Value) (w : World) : Prop := finQ Tryd.prog 6 Tryd.f81 (cmp_isNaN_string_R E Γ r) .ret σ w
theorem cmp_isNaN_string_ok (N : Nat) {E w : World} {Γ : List HP} {p0 : Str} {res : Bool} (hw : Holds E w Γ)  (hb : cmp_isNaN_string N p0 = some res) :
    Calls Tryd.prog 81 [(str p0)].toArray w (Ret (cmp_isNaN_string_R E Γ res)) := by
 unfold cmp_isNaN_string at hb
 refine enter Tryd.func81 rfl rfl (Nat.le_of_ble_eq_true rfl) ?_
 refine RC.sr ?_
 refine as_ (vb false) rfl rfl ?_
 refine RL.ns ?_
 refine mv (str p0) rfl rfl ?_
 refine mv (str p0) rfl rfl ?_
 refine RL.scmp (a := p0) (b := p0) trivial rfl rfl rfl rfl ?_
 refine as_ (vb (!p0.eqb p0)) rfl rfl ?_
 refine RL.nt ?_
 refine RC.ret ?_
 obtain rfl := oi hb
 exact fin1 rfl rfl ⟨rfl, hw.drop 0 rfl⟩
def cmp_Less_string_R (E : World) (Γ : List HP) (res : Bool) (v : Value) (w : World) : Prop := v = (vb res) ∧ Holds E w Γ
def cmp_Less_string_K (E : World) (Γ : List HP) (r : Bool) (σ : Nat → Value) (w : World) : Prop := finQ Tryd.prog 17 Tryd.f53 (cmp_Less_string_R E Γ r) .ret σ w
theorem cmp_Less_string_ok (N : Nat) {E w : World} {Γ : List HP} {p0 : Str} {p1 : Str} {res : Bool} (hw : Holds E w Γ)  (hb : cmp_Less_string N p0 p1 = some res) :
    Calls Tryd.prog 53 [(str p0), (str p1)].toArray w (Ret (cmp_Less_string_R E Γ res)) := by
 unfold cmp_Less_string at hb
 refine enter Tryd.func53 rfl rfl (Nat.le_of_ble_eq_true rfl) ?_
 refine RC.sr ?_
 refine as_ (vb false) rfl rfl ?_
 refine RL.nq ?_
 obtain ⟨s35, hj, hb⟩ := bd hb
 refine RC.jn (fun (s35 : Bool) (σ : Nat → Value) (w : World) => agree σ [(4, (vb s35))] ∧ Holds E w ([] ++ Γ)) s35 ?_ ?_
 ·refine RC.region ?_
  refine mv (str p0) rfl rfl ?_
  obtain ⟨x36, hx36, hj⟩ := bd hj
  refine RL.call trivial rfl fn81 [(str p0)] rfl (Calls_ret (cmp_isNaN_string_ok N (p0 := p0)  hw  hx36) ?_)
  rintro _ w ⟨rfl, hw⟩
  refine mv (vb x36) rfl rfl ?_
  rcases Bool.eq_false_or_eq_true x36 with hg37 | hg37
  rotate_left
  ·replace hj := cF hg37 hj
   refine sk rfl (.inl (cb hg37)) rfl ?_
   refine sk rfl (.inl (cb hg37)) rfl ?_
   refine sk rfl (.inl (cb hg37)) rfl ?_
   refine RL.pick (b := x36) (v := (vb false)) trivial rfl rfl (by rw [hg37]; rfl) ?_
   refine mv (vb false) rfl rfl ?_
   refine RL.move (v := (str p0)) ⟨_, rfl, rfl⟩ rfl rfl ?_
   refine RL.move (v := (str p1)) ⟨_, rfl, rfl⟩ rfl rfl ?_
   refine RL.scmp (a := p0) (b := p1) ⟨_, rfl, rfl⟩ rfl rfl rfl rfl ?_
   refine RL.pick (b := false) (v := (vb (p0.ltb p1))) trivial rfl rfl rfl ?_
   refine as_ (vb (p0.ltb p1)) rfl rfl ?_
   refine RL.nil ?_
   obtain rfl := oi hj
   exact ⟨rfl, ⟨rfl, trivial⟩, hw.pick 0 [] (new := []) rfl rfl (by decide) (by decide)⟩
  replace hj := cT hg37 hj
  refine RL.move (v := (str p1)) ⟨_, rfl, cb hg37⟩ rfl rfl ?_
  obtain ⟨x38, hx38, hj⟩ := bd hj
  refine RL.call ⟨_, rfl, cb hg37⟩ rfl fn81 [(str p1)] rfl (Calls_ret (cmp_isNaN_string_ok N (p0 := p1)  hw  hx38) ?_)
  rintro _ w ⟨rfl, hw⟩
  refine RL.not (b := x38) ⟨_, rfl, cb hg37⟩ rfl rfl ?_
  refine RL.pick (b := x36) (v := (vb (!x38))) trivial rfl rfl (by rw [hg37]; rfl) ?_
  refine mv (vb (!x38)) rfl rfl ?_
  refine RL.gs (c := true) (b := (!x38)) (v := (str p0)) rfl rfl rfl (gs_move rfl (fun _ => rfl)) ?_
  refine RL.gs (c := true) (b := (!x38)) (v := (str p1)) rfl rfl rfl (gs_move rfl (fun _ => rfl)) ?_
  refine RL.gs (c := true) (b := (!x38)) (v := (vb (p0.ltb p1))) rfl rfl rfl (gs_scmp (bop := .lss) (a := p0) (b := p1) rfl (fun h => by exact (cv_t h : cv (true && ((!x38) == false)) (str p0) = (str p0))) (fun h => by exact (cv_t h : cv (true && ((!x38) == false)) (str p1) = (str p1))) rfl) ?_
  refine RL.pick (b := (!x38)) (v := (vb ((!x38) || (p0.ltb p1)))) trivial rfl rfl (pk_or (c := true) rfl) ?_
  refine as_ (vb ((!x38) || (p0.ltb p1))) rfl rfl ?_
  refine RL.nil ?_
  obtain rfl := oi hj
  exact ⟨rfl, ⟨rfl, trivial⟩, hw.pick 0 [] (new := []) rfl rfl (by decide) (by decide)⟩
 rintro σ w ⟨ha, hw⟩
 obtain ⟨τ, rfl⟩ := ha.ups
 refine thenQ_n ?_
 refine RC.ret ?_
 obtain rfl := oi hb
 exact fin1 rfl rfl ⟨rfl, hw.drop 0 rfl⟩
def slices_isNaN_string_R (E : World) (Γ : List HP) (res : Bool) (v : Value) (w : World) : Prop := v = (vb res) ∧ Holds E w Γ
def slices_isNaN_string_K (E : World) (Γ : List HP) (r : Bool) (σ : Nat → Value) (w : World) : Prop := finQ Tryd.prog 6 Tryd.f73 (slices_isNaN_string_R E Γ r) .ret σ w
theorem slices_isNaN_string_ok (N : Nat) {E w : World} {Γ : List HP} {p0 : Str} {res : Bool} (hw : Holds E w Γ)  (hb : slices_isNaN_string N p0 = some res) :
    Calls Tryd.prog 73 [(str p0)].toArray w (Ret (slices_isNaN_string_R E Γ res)) := by
 unfold slices_isNaN_string at hb
 refine enter Tryd.func73 rfl rfl (Nat.le_of_ble_eq_true rfl) ?_
 refine RC.sr ?_
 refine as_ (vb false) rfl rfl ?_
 refine RL.ns ?_
 refine mv (str p0) rfl rfl ?_
 refine mv (str p0) rfl rfl ?_
 refine RL.scmp (a := p0) (b := p0) trivial rfl rfl rfl rfl ?_
 refine as_ (vb (!p0.eqb p0)) rfl rfl ?_
 refine RL.nt ?_
 refine RC.ret ?_
 obtain rfl := oi hb
 exact fin1 rfl rfl ⟨rfl, hw.drop 0 rfl⟩
def slices_BinarySearch_string_R (E : World) (Γ : List HP) (res : Int × Bool) (v : Value) (w : World) : Prop := v = .tuple #[(vi res.1), (vb res.2)] ∧ Holds E w Γ
def slices_BinarySearch_string_K (E : World) (Γ : List HP) (r : Int × Bool) (σ : Nat → Value) (w : World) : Prop := finQ Tryd.prog 54 Tryd.f42 (slices_BinarySearch_string_R E Γ r) .ret σ w
theorem slices_BinarySearch_string_ok (N : Nat) {E w : World} {Γ : List HP} {i0 : Nat} {v0 : Value} {p0 : (List Str)} {p1 : Str} {res : Int × Bool} (hw : Holds E w Γ) (h0 : Γ[i0]? = some (rd v0 p0)) (hb : slices_BinarySearch_string N p0 p1 = some res) :
    Calls Tryd.prog 42 [v0, (str p1)].toArray w (Ret (slices_BinarySearch_string_R E Γ res)) := by
 unfold slices_BinarySearch_string at hb
 refine enter Tryd.func42 rfl rfl (Nat.le_of_ble_eq_true rfl) ?_
 have hw := hw.dup (i := i0 + 0) h0
 refine RC.sr ?_
 refine as_ (vi 0) rfl rfl ?_
 refine as_ (vb false) rfl rfl ?_
 refine RL.ns ?_
 refine mv v0 rfl rfl ?_
 refine RL.len_rd (i := 0) (l := p0) trivial rfl hw rfl rfl un27 ?_
 refine as_ (vi (p0.length : Int)) rfl rfl ?_
 refine RL.ns ?_
 refine mv (vi (p0.length : Int)) rfl rfl ?_
 refine as_ (vi 0) rfl rfl ?_
 refine as_ (vi (p0.length : Int)) rfl rfl ?_
 refine RL.nq ?_
 obtain ⟨o74, hN, hb⟩ := bd hb
 refine RC.iter (fun (s32 : Int × Int) (σ : Nat → Value) (w : World) => agree σ [(0, v0), (1, (str p1)), (6, (vi (p0.length : Int))), (7, (vi s32.1)), (8, (vi s32.2))] ∧ Holds E w ([rd v0 p0] ++ Γ)) (fun (s32 : Int × Int) (σ : Nat → Value) (w : World) => agree σ [(0, v0), (1, (str p1)), (6, (vi (p0.length : Int))), (7, (vi s32.1))] ∧ Holds E w ([rd v0 p0] ++ Γ)) (fun (r : Empty) (_ : Nat → Value) (_ : World) => r.elim) hN ?_ ?_ ?_ ?_ 
 ·exact ⟨⟨rfl, rfl, rfl, rfl, rfl, trivial⟩, hw.pick 1 [0] (new := [rd v0 p0]) rfl rfl (by decide) (by decide)⟩
 ·intro s32 fl σ w hI hb
  obtain ⟨ha, hw⟩ := hI
  obtain ⟨τ, rfl⟩ := ha.ups
  refine RC.seq ?_
  refine RC.sr ?_
  refine mv (vi s32.1) rfl rfl ?_
  refine mv (vi s32.2) rfl rfl ?_
  refine ic (s32.1) (s32.2) rfl rfl rfl rfl ?_
  refine RL.nt ?_
  refine RC.cond (b := (decide (s32.1 < s32.2))) rfl (fun hc => ?_) (fun hc => ?_)
  rotate_left
  ·replace hb := cF hc hb
   refine RC.ex ?_
   obtain rfl := oi hb
   exact ⟨rfl, ⟨rfl, rfl, rfl, rfl, trivial⟩, hw.pick 1 [0] (new := [rd v0 p0]) rfl rfl (by decide) (by decide)⟩
  replace hb := cT hc hb
  refine RC.sn ?_
  refine RC.bs ?_
  refine mv (vi s32.1) rfl rfl ?_
  refine mv (vi s32.2) rfl rfl ?_
  refine RL.iar (a := s32.1) (b := s32.2) trivial rfl rfl rfl rfl ?_
  refine RL.conv (a := (IntKind.wrap .i64 (s32.1 + s32.2))) trivial rfl rfl ⟨_, un3⟩ un72 ?_
  refine RL.bin (v := (.int .u64 (IntKind.wrap .u64 (IntKind.wrap .i64 (s32.1 + s32.2))))) (v' := (.int .u64 1)) (u := (.int .u64 (Int.fdiv (IntKind.wrap .u64 (IntKind.wrap .i64 (s32.1 + s32.2))) 2))) trivial rfl rfl rfl (fun _ => rfl) (fun _ => rfl) ?_
  refine RL.conv (a := (Int.fdiv (IntKind.wrap .u64 (IntKind.wrap .i64 (s32.1 + s32.2))) 2)) trivial rfl rfl ⟨_, un72⟩ un3 ?_
  refine as_ (vi (IntKind.wrap .i64 (Int.fdiv (IntKind.wrap .u64 (IntKind.wrap .i64 (s32.1 + s32.2))) 2))) rfl rfl ?_
  refine RL.ns ?_
  refine mv v0 rfl rfl ?_
  refine mv (vi (IntKind.wrap .i64 (Int.fdiv (IntKind.wrap .u64 (IntKind.wrap .i64 (s32.1 + s32.2))) 2))) rfl rfl ?_
  obtain ⟨x41, hx41, hb⟩ := bd hb
  refine RL.ia_rd (i := 0) trivial rfl hw rfl rfl rfl sl27 hx41 fun v42 hw => ?_
  refine RL.load_pts (i := 0) (y := x41) trivial rfl hw rfl rfl ty9 ?_
  refine mv (str p1) rfl rfl ?_
  obtain ⟨x43, hx43, hb⟩ := bd hb
  refine RL.call trivial rfl fn53 [(str x41), (str p1)] rfl (Calls_ret (cmp_Less_string_ok N (p0 := x41) (p1 := p1)  hw  hx43) ?_)
  rintro _ w ⟨rfl, hw⟩
  refine RL.nt ?_
  obtain ⟨s44, hj, hb⟩ := bd hb
  refine RC.jn (fun (s44 : Int × Int) (σ : Nat → Value) (w : World) => agree σ [(0, v0), (1, (str p1)), (6, (vi (p0.length : Int))), (7, (vi s44.1)), (8, (vi s44.2))] ∧ Holds E w ([rd v0 p0] ++ Γ)) s44 ?_ ?_
  ·refine RC.cond (b := x43) rfl (fun hc => ?_) (fun hc => ?_)
   rotate_left
   ·replace hj := cF hc hj
    refine RC.region ?_
    refine mv (vi (IntKind.wrap .i64 (Int.fdiv (IntKind.wrap .u64 (IntKind.wrap .i64 (s32.1 + s32.2))) 2))) rfl rfl ?_
    refine as_ (vi (IntKind.wrap .i64 (Int.fdiv (IntKind.wrap .u64 (IntKind.wrap .i64 (s32.1 + s32.2))) 2))) rfl rfl ?_
    refine RL.nil ?_
    obtain rfl := oi hj
    exact ⟨rfl, ⟨rfl, rfl, rfl, rfl, rfl, trivial⟩, hw.pick 2 [1] (new := [rd v0 p0]) rfl rfl (by decide) (by decide)⟩
   replace hj := cT hc hj
   refine RC.region ?_
   refine mv (vi (IntKind.wrap .i64 (Int.fdiv (IntKind.wrap .u64 (IntKind.wrap .i64 (s32.1 + s32.2))) 2))) rfl rfl ?_
   refine RL.iar (a := (IntKind.wrap .i64 (Int.fdiv (IntKind.wrap .u64 (IntKind.wrap .i64 (s32.1 + s32.2))) 2))) (b := 1) trivial rfl rfl rfl rfl ?_
   refine as_ (vi (IntKind.wrap .i64 ((IntKind.wrap .i64 (Int.fdiv (IntKind.wrap .u64 (IntKind.wrap .i64 (s32.1 + s32.2))) 2)) + 1))) rfl rfl ?_
   refine RL.nil ?_
   obtain rfl := oi hj
   exact ⟨rfl, ⟨rfl, rfl, rfl, rfl, rfl, trivial⟩, hw.pick 2 [1] (new := [rd v0 p0]) rfl rfl (by decide) (by decide)⟩
  rintro σ w ⟨ha, hw⟩
  obtain ⟨τ, rfl⟩ := ha.ups
  refine blkQ_n ?_
  obtain rfl := oi hb
  exact ⟨rfl, ⟨rfl, rfl, rfl, rfl, rfl, trivial⟩, hw.pick 1 [0] (new := [rd v0 p0]) rfl rfl (by decide) (by decide)⟩
 ·intro r _ _ _ _
  exact r.elim
 intro s32 σ w e hJ
 subst e
 rw [Fo.cs_go] at hb
 obtain ⟨ha, hw⟩ := hJ
 obtain ⟨τ, rfl⟩ := ha.ups
 refine thenQ_n ?_
 refine RC.seq ?_
 obtain ⟨s64, hj, hb⟩ := bd hb
 refine RC.jn (fun (s64 : Bool) (σ : Nat → Value) (w : World) => agree σ [(4, (vi s32.1)), (5, (vb s64))] ∧ Holds E w ([] ++ Γ)) s64 ?_ ?_
 ·refine RC.region ?_
  refine mv (vi s32.1) rfl rfl ?_
  refine mv (vi s32.1) rfl rfl ?_
  refine mv (vi (p0.length : Int)) rfl rfl ?_
  refine ic (s32.1) ((p0.length : Int)) rfl rfl rfl rfl ?_
  refine mv (vb (decide (s32.1 < (p0.length : Int)))) rfl rfl ?_
  rcases Bool.eq_false_or_eq_true (decide (s32.1 < (p0.length : Int))) with hg65 | hg65
  rotate_left
  ·replace hj := cF hg65 hj
   refine sk rfl (.inl (cb hg65)) rfl ?_
   refine sk rfl (.inl (cb hg65)) rfl ?_
   refine sk rfl (.inl (cb hg65)) rfl ?_
   refine sk rfl (.inl (cb hg65)) rfl ?_
   refine sk rfl (.inl (cb hg65)) rfl ?_
   refine sk rfl (.inl (cb hg65)) rfl ?_
   refine sk rfl (.inl (cb hg65)) rfl ?_
   refine sk rfl (.inr rfl) rfl ?_
   refine sk rfl (.inr rfl) rfl ?_
   refine sk rfl (.inr rfl) rfl ?_
   refine sk rfl (.inr rfl) rfl ?_
   refine sk rfl (.inr rfl) rfl ?_
   refine sk rfl (.inr rfl) rfl ?_
   refine sk rfl (.inr rfl) rfl ?_
   refine sk rfl (.inr rfl) rfl ?_
   refine sk rfl (.inr rfl) rfl ?_
   refine sk rfl (.inl (cb hg65)) rfl ?_
   refine RL.pick (b := (decide (s32.1 < (p0.length : Int)))) (v := (vb false)) trivial rfl rfl (by rw [hg65]; rfl) ?_
   refine as_ (vi s32.1) rfl rfl ?_
   refine as_ (vb false) rfl rfl ?_
   refine RL.nil ?_
   obtain rfl := oi hj
   exact ⟨rfl, ⟨rfl, rfl, trivial⟩, hw.pick 1 [] (new := []) rfl rfl (by decide) (by decide)⟩
  replace hj := cT hg65 hj
  refine RL.move (v := v0) ⟨_, rfl, cb hg65⟩ rfl rfl ?_
  refine RL.move (v := (vi s32.1)) ⟨_, rfl, cb hg65⟩ rfl rfl ?_
  obtain ⟨x66, hx66, hj⟩ := bd hj
  refine RL.ia_rd (i := 0) ⟨_, rfl, cb hg65⟩ rfl hw rfl rfl rfl sl27 hx66 fun v67 hw => ?_
  refine RL.load_pts (i := 0) (y := x66) ⟨_, rfl, cb hg65⟩ rfl hw rfl rfl ty9 ?_
  refine RL.move (v := (str p1)) ⟨_, rfl, cb hg65⟩ rfl rfl ?_
  refine RL.scmp (a := x66) (b := p1) ⟨_, rfl, cb hg65⟩ rfl rfl rfl rfl ?_
  refine RL.move (v := (vb (x66.eqb p1))) ⟨_, rfl, cb hg65⟩ rfl rfl ?_
  rcases Bool.eq_false_or_eq_true (x66.eqb p1) with hg68 | hg68
  ·replace hj := cT hg68 hj
   refine sk rfl (.inl (cb hg68)) rfl ?_
   refine sk rfl (.inl (cb hg68)) rfl ?_
   refine sk rfl (.inl (cb hg68)) rfl ?_
   refine sk rfl (.inl (cb hg68)) rfl ?_
   refine sk rfl (.inl (cb hg68)) rfl ?_
   refine sk rfl (.inl (cb hg68)) rfl ?_
   refine sk rfl (.inr rfl) rfl ?_
   refine sk rfl (.inr rfl) rfl ?_
   refine sk rfl (.inl (cb hg68)) rfl ?_
   refine RL.pick (b := (x66.eqb p1)) (v := (vb true)) ⟨_, rfl, cb hg65⟩ rfl rfl (by rw [hg68]; rfl) ?_
   refine RL.pick (b := (decide (s32.1 < (p0.length : Int)))) (v := (vb true)) trivial rfl rfl (by rw [hg65]; rfl) ?_
   refine as_ (vi s32.1) rfl rfl ?_
   refine as_ (vb true) rfl rfl ?_
   refine RL.nil ?_
   obtain rfl := oi hj
   exact ⟨rfl, ⟨rfl, rfl, trivial⟩, hw.pick 2 [] (new := []) rfl rfl (by decide) (by decide)⟩
  replace hj := cF hg68 hj
  refine RL.move (v := v0) ⟨_, rfl, cb hg68⟩ rfl rfl ?_
  refine RL.move (v := (vi s32.1)) ⟨_, rfl, cb hg68⟩ rfl rfl ?_
  obtain ⟨x69, hx69, hj⟩ := bd hj
  refine RL.ia_rd (i := 1) ⟨_, rfl, cb hg68⟩ rfl hw rfl rfl rfl sl27 hx69 fun v70 hw => ?_
  refine RL.load_pts (i := 0) (y := x69) ⟨_, rfl, cb hg68⟩ rfl hw rfl rfl ty9 ?_
  obtain ⟨x71, hx71, hj⟩ := bd hj
  refine RL.call ⟨_, rfl, cb hg68⟩ rfl fn73 [(str x69)] rfl (Calls_ret (slices_isNaN_string_ok N (p0 := x69)  hw  hx71) ?_)
  rintro _ w ⟨rfl, hw⟩
  refine RL.move (v := (vb x71)) ⟨_, rfl, cb hg68⟩ rfl rfl ?_
  rcases Bool.eq_false_or_eq_true x71 with hg72 | hg72
  rotate_left
  ·replace hj := cF hg72 hj
   refine sk rfl (.inl (cb hg72)) rfl ?_
   refine sk rfl (.inl (cb hg72)) rfl ?_
   refine RL.pick (b := x71) (v := (vb false)) ⟨_, rfl, cb hg68⟩ rfl rfl (by rw [hg72]; rfl) ?_
   refine RL.pick (b := (x66.eqb p1)) (v := (vb false)) ⟨_, rfl, cb hg65⟩ rfl rfl (by rw [hg68]; rfl) ?_
   refine RL.pick (b := (decide (s32.1 < (p0.length : Int)))) (v := (vb false)) trivial rfl rfl (by rw [hg65]; rfl) ?_
   refine as_ (vi s32.1) rfl rfl ?_
   refine as_ (vb false) rfl rfl ?_
   refine RL.nil ?_
   obtain rfl := oi hj
   exact ⟨rfl, ⟨rfl, rfl, trivial⟩, hw.pick 3 [] (new := []) rfl rfl (by decide) (by decide)⟩
  replace hj := cT hg72 hj
  refine RL.move (v := (str p1)) ⟨_, rfl, cb hg72⟩ rfl rfl ?_
  obtain ⟨x73, hx73, hj⟩ := bd hj
  refine RL.call ⟨_, rfl, cb hg72⟩ rfl fn73 [(str p1)] rfl (Calls_ret (slices_isNaN_string_ok N (p0 := p1)  hw  hx73) ?_)
  rintro _ w ⟨rfl, hw⟩
  refine RL.pick (b := x71) (v := (vb x73)) ⟨_, rfl, cb hg68⟩ rfl rfl (by rw [hg72]; rfl) ?_
  refine RL.pick (b := (x66.eqb p1)) (v := (vb x73)) ⟨_, rfl, cb hg65⟩ rfl rfl (by rw [hg68]; rfl) ?_
  refine RL.pick (b := (decide (s32.1 < (p0.length : Int)))) (v := (vb x73)) trivial rfl rfl (by rw [hg65]; rfl) ?_
  refine as_ (vi s32.1) rfl rfl ?_
  refine as_ (vb x73) rfl rfl ?_
  refine RL.nil ?_
  obtain rfl := oi hj
  exact ⟨rfl, ⟨rfl, rfl, trivial⟩, hw.pick 3 [] (new := []) rfl rfl (by decide) (by decide)⟩
 rintro σ w ⟨ha, hw⟩
 obtain ⟨τ, rfl⟩ := ha.ups
 refine thenQ_n ?_
 refine RC.ret ?_
 obtain rfl := oi hb
 exact fin2 rfl rfl rfl ⟨rfl, hw.drop 0 rfl⟩
def netlist_has_R (E : World) (Γ : List HP) (res : Bool) (v : Value) (w : World) : Prop := v = (vb res) ∧ Holds E w Γ
def netlist_has_K (E : World) (Γ : List HP) (r : Bool) (σ : Nat → Value) (w : World) : Prop := finQ Tryd.prog 14 Tryd.f19 (netlist_has_R E Γ r) .ret σ w
theorem netlist_has_ok (N : Nat) {E w : World} {Γ : List HP} {i0 : Nat} {v0 : Value} {p0 : (List Str)} {p1 : Str} {res : Bool} (hw : Holds E w Γ) (h0 : Γ[i0]? = some (rd v0 p0)) (hb : netlist_has N p0 p1 = some res) :
    Calls Tryd.prog 19 [v0, (str p1)].toArray w (Ret (netlist_has_R E Γ res)) := by
 unfold netlist_has at hb
 refine enter Tryd.func19 rfl rfl (Nat.le_of_ble_eq_true rfl) ?_
 have hw := hw.dup (i := i0 + 0) h0
 refine RC.sr ?_
 refine as_ (vb false) rfl rfl ?_
 refine RL.ns ?_
 refine mv v0 rfl rfl ?_
 refine mv (str p1) rfl rfl ?_
 obtain ⟨x31, hx31, hb⟩ := bd hb
 refine RL.call trivial rfl fn42 [v0, (str p1)] rfl (Calls_ret (slices_BinarySearch_string_ok N (p1 := p1) (i0 := 0) hw rfl hx31) ?_)
 rintro _ w ⟨rfl, hw⟩
 refine mv (.tuple #[(vi x31.1), (vb x31.2)]) rfl rfl ?_
 refine RL.extract (v := (vi x31.1)) trivial rfl rfl rfl ?_
 refine RL.extract (v := (vb x31.2)) trivial rfl rfl rfl ?_
 refine as_ (vi x31.1) rfl rfl ?_
 refine as_ (vb x31.2) rfl rfl ?_
 refine RL.ns ?_
 refine mv (vb x31.2) rfl rfl ?_
 refine as_ (vb x31.2) rfl rfl ?_
 refine RL.nt ?_
 refine RC.ret ?_
 obtain rfl := oi hb
 exact fin1 rfl rfl ⟨rfl, hw.drop 1 rfl⟩
def netlist_Union_Top_R (E : World) (Γ : List HP) (b0 : Nat) (res : Int × (List Int)) (v : Value) (w : World) : Prop := ∃ u0_0 : Value, v = (vi res.1) ∧ Holds E w (bc 91 b0 [u0_0] :: own 3 u0_0 res.2 :: Γ)
def netlist_Union_Top_K (E : World) (Γ : List HP) (b0 : Nat) (r : Int × (List Int)) (σ : Nat → Value) (w : World) : Prop := finQ Tryd.prog 41 Tryd.f43 (netlist_Union_Top_R E Γ b0 r) .ret σ w
theorem netlist_Union_Top_ok (N : Nat) {E w : World} {Γ : List HP} {b0 : Nat} {v0_0 : Value} {p0_0 : (List Int)} {p1 : Int} {res : Int × (List Int)} (hw : Holds E w (bc 91 b0 [v0_0] :: own 3 v0_0 p0_0 :: Γ))  (hb : netlist_Union_Top N p0_0 p1 = some res) :
    Calls Tryd.prog 43 [(vp b0 0), (vi p1)].toArray w (Ret (netlist_Union_Top_R E Γ b0 res)) := by
 unfold netlist_Union_Top at hb
 refine enter Tryd.func43 rfl rfl (Nat.le_of_ble_eq_true rfl) ?_
 refine RC.sr ?_
 refine as_ (vi 0) rfl rfl ?_
 refine RL.nq ?_
 obtain ⟨o48, hN, hb⟩ := bd hb
 refine RC.iter (fun (s32 : (List Int) × Int) (σ : Nat → Value) (w : World) => agree σ [(0, (vp b0 0)), (1, (vi s32.2))] ∧ Holds E w ([bc 91 b0 [v0_0], own 3 v0_0 s32.1] ++ Γ)) (fun (s32 : (List Int) × Int) (σ : Nat → Value) (w : World) => agree σ [(0, (vp b0 0)), (1, (vi s32.2))] ∧ Holds E w ([bc 91 b0 [v0_0], own 3 v0_0 s32.1] ++ Γ)) (fun (r : Empty) (_ : Nat → Value) (_ : World) => r.elim) hN ?_ ?_ ?_ ?_ 
 ·exact ⟨⟨rfl, rfl, trivial⟩, hw.pick 2 [0, 1] (new := [bc 91 b0 [v0_0], own 3 v0_0 p0_0]) rfl rfl (by decide) (by decide)⟩
 ·intro s32 fl σ w hI hb
  obtain ⟨ha, hw⟩ := hI
  obtain ⟨τ, rfl⟩ := ha.ups
  refine RC.seq ?_
  refine RC.sr ?_
  refine mv (vp b0 0) rfl rfl ?_
  refine RL.nilCheck trivial rfl rfl ?_
  refine RL.fa_b trivial rfl rfl fa91_0 ?_
  refine RL.load_bc (i := 0) (v := v0_0) trivial rfl hw rfl rfl rfl ty61 ?_
  refine mv (vi s32.2) rfl rfl ?_
  obtain ⟨x43, hx43, hb⟩ := bd hb
  refine RL.ia_ownA (i := 1) trivial rfl hw rfl rfl rfl sl61 hx43 ?_
  refine RL.load_els (i := 1) (f := (fun x => x)) trivial rfl hw rfl (elp hw (i := 1) rfl hx43 0) rfl (idx_some hx43).2.1 Fd.self ty3 ?_
  refine mv (vi s32.2) rfl rfl ?_
  refine ic x43 (s32.2) rfl rfl rfl rfl ?_
  refine RL.nt ?_
  refine RC.cond (b := (x43 != s32.2)) rfl (fun hc => ?_) (fun hc => ?_)
  rotate_left
  ·replace hb := cF hc hb
   refine RC.ex ?_
   obtain rfl := oi hb
   exact ⟨rfl, ⟨rfl, rfl, trivial⟩, hw.pick 2 [0, 1] (new := [bc 91 b0 [v0_0], own 3 v0_0 s32.1]) rfl rfl (by decide) (by decide)⟩
  replace hb := cT hc hb
  refine RC.sn ?_
  refine RC.block ?_
  refine RC.seq ?_
  obtain ⟨x44, hx44, hb⟩ := bd hb
  obtain ⟨x45, hx45, hb⟩ := bd hb
  obtain ⟨x46, hx46, hb⟩ := bd hb
  refine RC.drw mixed rfl (fun (D : Nat → Bool) (σ : Nat → Value) (w : World) => doneV D σ [(0, 14, (vp b0 0)), (1, 15, (vp b0 0)), (2, 16, (vp b0 0)), (3, 17, v0_0), (4, 18, (vi s32.2)), (5, 19, (vp b0 0)), (6, 20, (vp b0 0)), (7, 21, (vp b0 0)), (8, 22, v0_0), (9, 23, (vp b0 0)), (10, 24, (vp b0 0)), (11, 25, (vp b0 0)), (12, 26, v0_0), (13, 27, (vi s32.2)), (14, 28, (elA v0_0 (Int.toNat s32.2) 1 0)), (15, 29, (vi x44)), (16, 30, (elA v0_0 (Int.toNat x44) 1 0)), (17, 31, (vi x45)), (18, 32, (elA v0_0 (Int.toNat s32.2) 1 0))] ∧ agree σ [(0, (vp b0 0)), (1, (vi s32.2))] ∧ Holds E w ([bc 91 b0 [v0_0], bif D 19 then (own 3 v0_0 (s32.1.set (Int.toNat s32.2) x45)) else (own 3 v0_0 s32.1)] ++ Γ)) ?_ ⟨?_, ?_, ?_, ?_, ?_, ?_, ?_, ?_, ?_, ?_, ?_, ?_, ?_, ?_, ?_, ?_, ?_, ?_, ?_, ?_, trivial⟩ ?_
  ·have hw := hw.drew
   exact ⟨doneV.none, ⟨rfl, rfl, trivial⟩, hw⟩
  ·rintro D σ w hD hdep hcl ⟨hv, ha, hw⟩
   obtain ⟨τ, rfl⟩ := (ac (ha.at 0 rfl) az).ups
   refine mv (vp b0 0) rfl rfl ?_
   refine RL.nil ?_
   exact ⟨rfl, hv.put 0 rfl rfl, ha.up rfl, hw⟩
  ·rintro D σ w hD hdep hcl ⟨hv, ha, hw⟩
   obtain ⟨τ, rfl⟩ := (ac (hv.at 0 rfl (hdep.1 rfl)) az).ups
   refine RL.nilCheck trivial rfl rfl ?_
   refine RL.nil ?_
   exact ⟨rfl, hv.put 1 rfl rfl, ha.up rfl, hw⟩
  ·rintro D σ w hD hdep hcl ⟨hv, ha, hw⟩
   obtain ⟨τ, rfl⟩ := (ac (hv.at 1 rfl (hdep.1 rfl)) az).ups
   refine RL.fa_b trivial rfl rfl fa91_0 ?_
   refine RL.nil ?_
   exact ⟨rfl, hv.put 2 rfl rfl, ha.up rfl, hw⟩
  ·rintro D σ w hD hdep hcl ⟨hv, ha, hw⟩
   obtain ⟨τ, rfl⟩ := (ac (hv.at 2 rfl (hdep.1 rfl)) az).ups
   refine RL.load_bc (i := 0) (v := v0_0) trivial rfl hw rfl rfl rfl ty61 ?_
   refine RL.nil ?_
   exact ⟨rfl, hv.put 3 rfl rfl, ha.up rfl, hw⟩
  ·rintro D σ w hD hdep hcl ⟨hv, ha, hw⟩
   obtain ⟨τ, rfl⟩ := (ac (ha.at 1 rfl) az).ups
   refine mv (vi s32.2) rfl rfl ?_
   refine RL.nil ?_
   exact ⟨rfl, hv.put 4 rfl rfl, ha.up rfl, hw⟩
  ·rintro D σ w hD hdep hcl ⟨hv, ha, hw⟩
   obtain ⟨τ, rfl⟩ := (ac (ha.at 0 rfl) az).ups
   refine mv (vp b0 0) rfl rfl ?_
   refine RL.nil ?_
   exact ⟨rfl, hv.put 5 rfl rfl, ha.up rfl, hw⟩
  ·rintro D σ w hD hdep hcl ⟨hv, ha, hw⟩
   obtain ⟨τ, rfl⟩ := (ac (hv.at 5 rfl (hdep.1 rfl)) az).ups
   refine RL.nilCheck trivial rfl rfl ?_
   refine RL.nil ?_
   exact ⟨rfl, hv.put 6 rfl rfl, ha.up rfl, hw⟩
  ·rintro D σ w hD hdep hcl ⟨hv, ha, hw⟩
   obtain ⟨τ, rfl⟩ := (ac (hv.at 6 rfl (hdep.1 rfl)) az).ups
   refine RL.fa_b trivial rfl rfl fa91_0 ?_
   refine RL.nil ?_
   exact ⟨rfl, hv.put 7 rfl rfl, ha.up rfl, hw⟩
  ·rintro D σ w hD hdep hcl ⟨hv, ha, hw⟩
   obtain ⟨τ, rfl⟩ := (ac (hv.at 7 rfl (hdep.1 rfl)) az).ups
   refine RL.load_bc (i := 0) (v := v0_0) trivial rfl hw rfl rfl rfl ty61 ?_
   refine RL.nil ?_
   exact ⟨rfl, hv.put 8 rfl rfl, ha.up rfl, hw⟩
  ·rintro D σ w hD hdep hcl ⟨hv, ha, hw⟩
   obtain ⟨τ, rfl⟩ := (ac (ha.at 0 rfl) az).ups
   refine mv (vp b0 0) rfl rfl ?_
   refine RL.nil ?_
   exact ⟨rfl, hv.put 9 rfl rfl, ha.up rfl, hw⟩
  ·rintro D σ w hD hdep hcl ⟨hv, ha, hw⟩
   obtain ⟨τ, rfl⟩ := (ac (hv.at 9 rfl (hdep.1 rfl)) az).ups
   refine RL.nilCheck trivial rfl rfl ?_
   refine RL.nil ?_
   exact ⟨rfl, hv.put 10 rfl rfl, ha.up rfl, hw⟩
  ·rintro D σ w hD hdep hcl ⟨hv, ha, hw⟩
   obtain ⟨τ, rfl⟩ := (ac (hv.at 10 rfl (hdep.1 rfl)) az).ups
   refine RL.fa_b trivial rfl rfl fa91_0 ?_
   refine RL.nil ?_
   exact ⟨rfl, hv.put 11 rfl rfl, ha.up rfl, hw⟩
  ·rintro D σ w hD hdep hcl ⟨hv, ha, hw⟩
   obtain ⟨τ, rfl⟩ := (ac (hv.at 11 rfl (hdep.1 rfl)) az).ups
   refine RL.load_bc (i := 0) (v := v0_0) trivial rfl hw rfl rfl rfl ty61 ?_
   refine RL.nil ?_
   exact ⟨rfl, hv.put 12 rfl rfl, ha.up rfl, hw⟩
  ·rintro D σ w hD hdep hcl ⟨hv, ha, hw⟩
   obtain ⟨τ, rfl⟩ := (ac (ha.at 1 rfl) az).ups
   refine mv (vi s32.2) rfl rfl ?_
   refine RL.nil ?_
   exact ⟨rfl, hv.put 13 rfl rfl, ha.up rfl, hw⟩
  ·rintro D σ w hD hdep hcl ⟨hv, ha, hw⟩
   obtain ⟨τ, rfl⟩ := (ac (hv.at 12 rfl (hdep.1 rfl)) (ac (hv.at 13 rfl (hdep.2.1 rfl)) az)).ups
   have hw := hw.selF (i := 1) rfl (nf (fun h => ft hD ((hcl 19 _ rfl h).2.2.2.2.2.2.2.2.2.2.2.2.2.2.2.2.1 rfl)))
   refine RL.ia_ownA (i := 1) trivial rfl hw rfl rfl rfl sl61 hx44 ?_
   have hw := hw.altF (i := 1) (b := D 19) rfl (nf (fun h => ft hD ((hcl 19 _ rfl h).2.2.2.2.2.2.2.2.2.2.2.2.2.2.2.2.1 rfl))) (own 3 v0_0 (s32.1.set (Int.toNat s32.2) x45))
   refine RL.nil ?_
   exact ⟨rfl, hv.put 14 rfl rfl, ha.up rfl, hw⟩
  ·rintro D σ w hD hdep hcl ⟨hv, ha, hw⟩
   obtain ⟨τ, rfl⟩ := (ac (hv.at 14 rfl (hdep.1 rfl)) az).ups
   have hw := hw.selF (i := 1) rfl (nf (fun h => ft hD ((hcl 19 _ rfl h).2.2.2.2.2.2.2.2.2.2.2.2.2.2.2.2.2.1 rfl)))
   refine RL.load_els (i := 1) (f := (fun x => x)) trivial rfl hw rfl (elp hw (i := 1) rfl hx44 0) rfl (idx_some hx44).2.1 Fd.self ty3 ?_
   have hw := hw.altF (i := 1) (b := D 19) rfl (nf (fun h => ft hD ((hcl 19 _ rfl h).2.2.2.2.2.2.2.2.2.2.2.2.2.2.2.2.2.1 rfl))) (own 3 v0_0 (s32.1.set (Int.toNat s32.2) x45))
   refine RL.nil ?_
   exact ⟨rfl, hv.put 15 rfl rfl, ha.up rfl, hw⟩
  ·rintro D σ w hD hdep hcl ⟨hv, ha, hw⟩
   obtain ⟨τ, rfl⟩ := (ac (hv.at 8 rfl (hdep.1 rfl)) (ac (hv.at 15 rfl (hdep.2.1 rfl)) az)).ups
   have hw := hw.selF (i := 1) rfl (nf (fun h => ft hD ((hcl 19 _ rfl h).2.2.2.2.2.2.2.2.2.2.2.2.2.2.2.2.2.2.1 rfl)))
   refine RL.ia_ownA (i := 1) trivial rfl hw rfl rfl rfl sl61 hx45 ?_
   have hw := hw.altF (i := 1) (b := D 19) rfl (nf (fun h => ft hD ((hcl 19 _ rfl h).2.2.2.2.2.2.2.2.2.2.2.2.2.2.2.2.2.2.1 rfl))) (own 3 v0_0 (s32.1.set (Int.toNat s32.2) x45))
   refine RL.nil ?_
   exact ⟨rfl, hv.put 16 rfl rfl, ha.up rfl, hw⟩
  ·rintro D σ w hD hdep hcl ⟨hv, ha, hw⟩
   obtain ⟨τ, rfl⟩ := (ac (hv.at 16 rfl (hdep.1 rfl)) az).ups
   have hw := hw.selF (i := 1) rfl (nf (fun h => ft hD ((hcl 19 _ rfl h).2.1 rfl)))
   refine RL.load_els (i := 1) (f := (fun x => x)) trivial rfl hw rfl (elp hw (i := 1) rfl hx45 0) rfl (idx_some hx45).2.1 Fd.self ty3 ?_
   have hw := hw.altF (i := 1) (b := D 19) rfl (nf (fun h => ft hD ((hcl 19 _ rfl h).2.1 rfl))) (own 3 v0_0 (s32.1.set (Int.toNat s32.2) x45))
   refine RL.nil ?_
   exact ⟨rfl, hv.put 17 rfl rfl, ha.up rfl, hw⟩
  ·rintro D σ w hD hdep hcl ⟨hv, ha, hw⟩
   obtain ⟨τ, rfl⟩ := (ac (hv.at 3 rfl (hdep.1 rfl)) (ac (hv.at 4 rfl (hdep.2.1 rfl)) az)).ups
   have hw := hw.selF (i := 1) rfl (nf (fun h => ft hD ((hcl 19 _ rfl h).1 rfl)))
   refine RL.ia_ownA (i := 1) trivial rfl hw rfl rfl rfl sl61 hx46 ?_
   have hw := hw.altF (i := 1) (b := D 19) rfl (nf (fun h => ft hD ((hcl 19 _ rfl h).1 rfl))) (own 3 v0_0 (s32.1.set (Int.toNat s32.2) x45))
   refine RL.nil ?_
   exact ⟨rfl, hv.put 18 rfl rfl, ha.up rfl, hw⟩
  ·rintro D σ w hD hdep hcl ⟨hv, ha, hw⟩
   obtain ⟨τ, rfl⟩ := (ac (hv.at 17 rfl (hdep.2.1 rfl)) (ac (hv.at 18 rfl (hdep.1 rfl)) az)).ups
   have hw := hw.selF (i := 1) rfl hD
   have hw := hw.sc (γ := Int) x45
   refine RL.store_el (i := 2) (j := 0) (f := (fun _ y => y)) trivial hw rfl rfl (elp hw (i := 2) rfl hx46 0) rfl (idx_some hx46).2.1 rfl Fs.self (by decide) ty3 fun w hw => ?_
   have hw := hw.pick 3 [1, 2] (new := [bc 91 b0 [v0_0], own 3 v0_0 (s32.1.set (Int.toNat s32.2) x45)]) rfl rfl (by decide) (by decide)
   have hw := hw.altT (i := 1) (b := true) rfl rfl (own 3 v0_0 s32.1)
   refine RL.nil ?_
   exact ⟨rfl, hv.no rfl, ha, hw⟩
  rintro D σ w hall ⟨hv, ha, hw⟩
  rw [hall 19 (by decide)] at hw
  obtain ⟨τ, rfl⟩ := (ac (ha.at 0 rfl) (ac (ha.at 1 rfl) az)).ups
  refine thenQ_n ?_
  refine RC.region ?_
  refine mv (vp b0 0) rfl rfl ?_
  refine RL.nilCheck trivial rfl rfl ?_
  refine RL.fa_b trivial rfl rfl fa91_0 ?_
  refine RL.load_bc (i := 0) (v := v0_0) trivial rfl hw rfl rfl rfl ty61 ?_
  refine mv (vi s32.2) rfl rfl ?_
  obtain ⟨x47, hx47, hb⟩ := bd hb
  refine RL.ia_ownA (i := 1) trivial rfl hw rfl rfl rfl sl61 hx47 ?_
  refine RL.load_els (i := 1) (f := (fun x => x)) trivial rfl hw rfl (elp hw (i := 1) rfl hx47 0) rfl (idx_some hx47).2.1 Fd.self ty3 ?_
  refine as_ (vi x47) rfl rfl ?_
  refine RL.nil ?_
  refine blkQ_n ?_
  obtain rfl := oi hb
  exact ⟨rfl, ⟨rfl, rfl, trivial⟩, hw.pick 2 [0, 1] (new := [bc 91 b0 [v0_0], own 3 v0_0 (s32.1.set (Int.toNat s32.2) x45)]) rfl rfl (by decide) (by decide)⟩
 ·intro r _ _ _ _
  exact r.elim
 intro s32 σ w e hJ
 subst e
 rw [Fo.cs_go] at hb
 obtain ⟨ha, hw⟩ := hJ
 obtain ⟨τ, rfl⟩ := ha.ups
 refine thenQ_n ?_
 refine RC.sr ?_
 refine mv (vi s32.2) rfl rfl ?_
 refine as_ (vi s32.2) rfl rfl ?_
 refine RL.nt ?_
 refine RC.ret ?_
 obtain rfl := oi hb
 exact fin1 rfl rfl ⟨v0_0, rfl, hw.pick 2 [0, 1] (new := [bc 91 b0 [v0_0], own 3 v0_0 s32.1]) rfl rfl (by decide) (by decide)⟩
def netlist_Union_Join_R (E : World) (Γ : List HP) (b0 : Nat) (res : (List Int)) (v : Value) (w : World) : Prop := ∃ u0_0 : Value, v = .tuple #[] ∧ Holds E w (bc 91 b0 [u0_0] :: own 3 u0_0 res :: Γ)
def netlist_Union_Join_K (E : World) (Γ : List HP) (b0 : Nat) (r : (List Int)) (σ : Nat → Value) (w : World) : Prop := finQ Tryd.prog 25 Tryd.f20 (netlist_Union_Join_R E Γ b0 r) .ret σ w
theorem netlist_Union_Join_ok (N : Nat) {E w : World} {Γ : List HP} {b0 : Nat} {v0_0 : Value} {p0_0 : (List Int)} {p1 : Int} {p2 : Int} {res : (List Int)} (hw : Holds E w (bc 91 b0 [v0_0] :: own 3 v0_0 p0_0 :: Γ))  (hb : netlist_Union_Join N p0_0 p1 p2 = some res) :
    Calls Tryd.prog 20 [(vp b0 0), (vi p1), (vi p2)].toArray w (Ret (netlist_Union_Join_R E Γ b0 res)) := by
 unfold netlist_Union_Join at hb
 refine enter Tryd.func20 rfl rfl (Nat.le_of_ble_eq_true rfl) ?_
 refine RC.sr ?_
 refine mv (vp b0 0) rfl rfl ?_
 refine mv (vi p1) rfl rfl ?_
 have hw := hw.pull (i := 1) rfl
 have hw := hw.pull (i := 1) rfl
 obtain ⟨x31, hx31, hb⟩ := bd hb
 refine RL.call trivial rfl fn43 [(vp b0 0), (vi p1)] rfl (Calls_ret (netlist_Union_Top_ok N (p1 := p1)  hw  hx31) ?_)
 rintro _ w ⟨v32, rfl, hw⟩
 refine mv (vp b0 0) rfl rfl ?_
 refine mv (vi p2) rfl rfl ?_
 have hw := hw.pull (i := 1) rfl
 have hw := hw.pull (i := 1) rfl
 obtain ⟨x33, hx33, hb⟩ := bd hb
 refine RL.call trivial rfl fn43 [(vp b0 0), (vi p2)] rfl (Calls_ret (netlist_Union_Top_ok N (p1 := p2)  hw  hx33) ?_)
 rintro _ w ⟨v34, rfl, hw⟩
 refine as_ (vi x31.1) rfl rfl ?_
 refine as_ (vi x33.1) rfl rfl ?_
 refine RL.nt ?_
 refine RC.region ?_
 refine mv (vp b0 0) rfl rfl ?_
 refine RL.nilCheck trivial rfl rfl ?_
 refine RL.fa_b trivial rfl rfl fa91_0 ?_
 refine RL.load_bc (i := 0) (v := v34) trivial rfl hw rfl rfl rfl ty61 ?_
 refine mv (vi x31.1) rfl rfl ?_
 refine mv (vi x33.1) rfl rfl ?_
 refine RL.max (a := x31.1) (b := x33.1) trivial rfl rfl rfl ?_
 refine mv (vi x31.1) rfl rfl ?_
 refine mv (vi x33.1) rfl rfl ?_
 refine RL.min (a := x31.1) (b := x33.1) trivial rfl rfl rfl ?_
 obtain ⟨x35, hx35, hb⟩ := bd hb
 refine RL.ia_ownA (i := 1) trivial rfl hw rfl rfl rfl sl61 hx35 ?_
 have hw := hw.sc (γ := Int) (if x33.1 < x31.1 then x33.1 else x31.1)
 refine RL.store_el (i := 2) (j := 0) (f := (fun _ y => y)) trivial hw rfl rfl (elp hw (i := 2) rfl hx35 0) rfl (idx_some hx35).2.1 rfl Fs.self (by decide) ty3 fun w hw => ?_
 refine RL.nil ?_
 obtain rfl := oi hb
 refine fin_n ?_
 exact fin0 rfl ⟨v34, rfl, hw.pick 7 [1, 2] (new := [bc 91 b0 [v34], own 3 v34 (x33.2.set (Int.toNat (if x31.1 < x33.1 then x33.1 else x31.1)) (if x33.1 < x31.1 then x33.1 else x31.1))]) rfl rfl (by decide) (by decide)⟩
def netlist_Union_Sets_R (E : World) (Γ : List HP) (b0 : Nat) (res : (List (List Int)) × (List Int)) (v : Value) (w : World) : Prop := ∃ u0 u0_0 : Value, v = u0 ∧ Holds E w (own 61 u0 res.1 :: bc 91 b0 [u0_0] :: own 3 u0_0 res.2 :: Γ)
def netlist_Union_Sets_K (E : World) (Γ : List HP) (b0 : Nat) (r : (List (List Int)) × (List Int)) (σ : Nat → Value) (w : World) : Prop := finQ Tryd.prog 45 Tryd.f22 (netlist_Union_Sets_R E Γ b0 r) .ret σ w
theorem netlist_Union_Sets_ok (N : Nat) {E w : World} {Γ : List HP} {b0 : Nat} {v0_0 : Value} {p0_0 : (List Int)} {res : (List (List Int)) × (List Int)} (hw : Holds E w (bc 91 b0 [v0_0] :: own 3 v0_0 p0_0 :: Γ))  (hb : netlist_Union_Sets N p0_0 = some res) :
    Calls Tryd.prog 22 [(vp b0 0)].toArray w (Ret (netlist_Union_Sets_R E Γ b0 res)) := by
 unfold netlist_Union_Sets at hb
 refine enter Tryd.func22 rfl rfl (Nat.le_of_ble_eq_true rfl) ?_
 refine RC.sr ?_
 refine as_ (.slice none 0 0) rfl rfl ?_
 refine RL.ns ?_
 refine as_ (.slice none 0 0) rfl rfl ?_
 refine RL.ns ?_
 refine RL.makeMap (κ := Int) (ν := Int) trivial rfl hw fun v31 w hw => ?_
 refine as_ v31 rfl rfl ?_
 refine RL.nq ?_
 refine RC.sr ?_
 refine mv (vp b0 0) rfl rfl ?_
 refine RL.nilCheck trivial rfl rfl ?_
 refine RL.fa_b trivial rfl rfl fa91_0 ?_
 refine RL.load_bc (i := 1) (v := v0_0) trivial rfl hw rfl rfl rfl ty61 ?_
 refine RL.len_own (i := 2) (l := p0_0) trivial rfl hw rfl rfl un61 ?_
 refine mv (vi 0) rfl rfl ?_
 refine RL.nt ?_
 obtain ⟨s33, hN, hb⟩ := bd hb
 refine RC.fold (fun (k32 : Nat) (s33 : (List Int) × (List (List Int)) × (List (Int × Int))) (σ : Nat → Value) (w : World) => ∃ (v108 : Value) (v109 : Value) (us110 : List RV), agree σ [(0, (vp b0 0)), (3, v109), (4, v31), (12, (vi (p0_0.length : Int))), (13, (vi (k32 : Int)))] ∧ Holds E w ([bc 91 b0 [v108], own 3 v108 s33.1, mp v31 s33.2.2, own 61 v109 us110, bag (XS 3 Int) us110 s33.2.1 none] ++ Γ)) (fun (s33 : (List Int) × (List (List Int)) × (List (Int × Int))) (σ : Nat → Value) (w : World) => ∃ (v111 : Value) (v112 : Value) (us113 : List RV), agree σ [(0, (vp b0 0)), (3, v112)] ∧ Holds E w ([bc 91 b0 [v111], own 3 v111 s33.1, mp v31 s33.2.2, own 61 v112 us113, bag (XS 3 Int) us113 s33.2.1 none] ++ Γ)) hN ?_ ?_ ?_ ?_
 ·have hw := hw.bag_nil (XS 3 Int)
  have hw := hw.own_nil RV 61
  exact ⟨v0_0, (.slice none 0 0), ([] : List RV), ⟨rfl, rfl, rfl, rfl, rfl, trivial⟩, hw.pick 5 [3, 4, 2, 0, 1] (new := [bc 91 b0 [v0_0], own 3 v0_0 p0_0, mp v31 ([] : (List (Int × Int))), own 61 (.slice none 0 0) ([] : List RV), bag (XS 3 Int) ([] : List RV) ([] : (List (List Int))) none]) rfl rfl (by decide) (by decide)⟩
 ·intro hm s33 σ w hI
  obtain ⟨v151, v152, us153, ha, hw⟩ := hI
  obtain ⟨τ, rfl⟩ := ha.ups
  refine RC.sr ?_
  refine ic ((p0_0.length : Int)) ((p0_0.length : Int)) rfl rfl rfl rfl ?_
  refine RL.nq ?_
  refine RC.cond_f dge ?_
  refine RC.ex ?_
  exact ⟨rfl, v151, v152, us153, ⟨rfl, rfl, trivial⟩, hw.pick 5 [0, 1, 2, 3, 4] (new := [bc 91 b0 [v151], own 3 v151 s33.1, mp v31 s33.2.2, own 61 v152 us153, bag (XS 3 Int) us153 s33.2.1 none]) rfl rfl (by decide) (by decide)⟩
 ·intro hm k32 s33 s' σ w hk hI hb
  obtain ⟨v114, v115, us116, ha, hw⟩ := hI
  obtain ⟨τ, rfl⟩ := ha.ups
  refine RC.sr ?_
  refine ic ((k32 : Int)) ((p0_0.length : Int)) rfl rfl rfl rfl ?_
  refine RL.nq ?_
  refine RC.cond_t (dlt hk) ?_
  refine RC.ss ?_
  refine RC.bs ?_
  refine mv (vi (k32 : Int)) rfl rfl ?_
  refine as_ (vi (k32 : Int)) rfl rfl ?_
  refine RL.ns ?_
  refine mv (vp b0 0) rfl rfl ?_
  refine mv (vi (k32 : Int)) rfl rfl ?_
  have hw := hw.pull (i := 1) rfl
  have hw := hw.pull (i := 1) rfl
  obtain ⟨x117, hx117, hb⟩ := bd hb
  refine RL.call trivial rfl fn43 [(vp b0 0), (vi (k32 : Int))] rfl (Calls_ret (netlist_Union_Top_ok N (p1 := (k32 : Int))  hw  hx117) ?_)
  rintro _ w ⟨v118, rfl, hw⟩
  refine as_ (vi x117.1) rfl rfl ?_
  refine RL.nq ?_
  refine RC.sr ?_
  refine mv (vi x117.1) rfl rfl ?_
  refine mv (vi (k32 : Int)) rfl rfl ?_
  refine ic (x117.1) ((k32 : Int)) rfl rfl rfl rfl ?_
  refine RL.nt ?_
  obtain ⟨s122, hj, hb⟩ := bd hb
  refine RC.jn (fun (s122 : (List (List Int)) × (List (Int × Int))) (σ : Nat → Value) (w : World) => ∃ (v123 : Value) (us124 : List RV), agree σ [(0, (vp b0 0)), (3, v123), (4, v31), (5, (vi (k32 : Int))), (6, (vi x117.1)), (12, (vi (p0_0.length : Int))), (13, (vi (k32 : Int)))] ∧ Holds E w ([bc 91 b0 [v118], own 3 v118 x117.2, mp v31 s122.2, own 61 v123 us124, bag (XS 3 Int) us124 s122.1 none] ++ Γ)) s122 ?_ ?_
  ·refine RC.cond (b := (x117.1 == (k32 : Int))) rfl (fun hc => ?_) (fun hc => ?_)
   rotate_left
   ·replace hj := cF hc hj
    refine RC.skip ?_
    obtain rfl := oi hj
    exact ⟨rfl, v115, us116, ⟨rfl, rfl, rfl, rfl, rfl, rfl, rfl, trivial⟩, hw.pick 7 [0, 1, 4, 5, 6] (new := [bc 91 b0 [v118], own 3 v118 x117.2, mp v31 s33.2.2, own 61 v115 us116, bag (XS 3 Int) us116 s33.2.1 none]) rfl rfl (by decide) (by decide)⟩
   replace hj := cT hc hj
   refine RC.sr ?_
   refine mv v31 rfl rfl ?_
   refine mv (vi (k32 : Int)) rfl rfl ?_
   refine mv v115 rfl rfl ?_
   refine RL.len_nest (i := 5) (b := 6) (xs := s33.2.1) trivial rfl hw rfl rfl rfl un59 ?_
   have hw := hw.sc (γ := Int) (s33.2.1.length : Int)
   refine RL.mapUpdate (i := 5) (j := 0) (k := (k32 : Int)) trivial hw rfl rfl rfl rfl rfl mt96 fun w hw => ?_
   refine RL.nt ?_
   refine RC.region ?_
   refine mv v115 rfl rfl ?_
   have hw := hw.own_nil Int 3
   have hw := hw.rd_rv (i := 0) rfl
   refine RL.bslice (l := ([rv (.slice none 0 0)] : List RV)) trivial rfl hw [(.slice none 0 0)] rfl rfl rfl sl59 ze61 (fun M hs g => ⟨(g.sat 0 _ rfl).1, trivial⟩) fun v125 w hw => ?_
   obtain ⟨x126, hx126, hj⟩ := bd hj
   have hw := hw.freeze (i := 0) rfl
   refine RL.app_nest (i := 9) (j := 0) (b := 10) (o := 2) trivial rfl hw rfl rfl rfl rfl rfl rfl (by decide) (by decide) (by decide) el59 hx126 fun v127 w hw => ?_
   refine as_ v127 rfl rfl ?_
   refine RL.nil ?_
   obtain rfl := oi hj
   exact ⟨rfl, v127, (us116 ++ [rv (.slice none 0 0)]), ⟨rfl, rfl, rfl, rfl, rfl, rfl, rfl, trivial⟩, hw.pick 11 [4, 5, 8, 9, 10] (new := [bc 91 b0 [v118], own 3 v118 x117.2, mp v31 (mput s33.2.2 (k32 : Int) (s33.2.1.length : Int)), own 61 v127 (us116 ++ [rv (.slice none 0 0)]), bag (XS 3 Int) (us116 ++ [rv (.slice none 0 0)]) x126 none]) rfl rfl (by decide) (by decide)⟩
  rintro σ w ⟨v123, us124, ha, hw⟩
  obtain ⟨τ, rfl⟩ := ha.ups
  refine thenQ_n ?_
  obtain ⟨x128, hx128, hb⟩ := bd hb
  obtain ⟨x134, hx134, hb⟩ := bd hb
  obtain ⟨x136, hx136, hb⟩ := bd hb
  refine RC.drw mixed rfl (fun (D : Nat → Bool) (σ : Nat → Value) (w : World) => ∃ (v133 : Value) (v135 : Value), doneV D σ [(0, 29, v123), (1, 30, v31), (2, 31, (vi x117.1)), (3, 32, (vi (mget s122.2 x117.1 (0 : Int)))), (4, 33, v123), (5, 34, v31), (6, 35, (vi x117.1)), (7, 36, (vi (mget s122.2 x117.1 (0 : Int)))), (8, 37, (elA v123 (Int.toNat (mget s122.2 x117.1 (0 : Int))) 1 0)), (9, 38, (us124.getD (Int.toNat (mget s122.2 x117.1 (0 : Int))) rvz).v), (10, 39, (vi (k32 : Int))), (11, 40, v133), (12, 41, v135), (13, 42, (elA v123 (Int.toNat (mget s122.2 x117.1 (0 : Int))) 1 0))] ∧ agree σ [(0, (vp b0 0)), (3, v123), (4, v31), (5, (vi (k32 : Int))), (6, (vi x117.1)), (12, (vi (p0_0.length : Int))), (13, (vi (k32 : Int)))] ∧ Holds E w ([bif D 12 then (rd v133 ([(k32 : Int)] : (List Int))) else (bif D 11 then (own 3 v133 ([(k32 : Int)] : (List Int))) else junk), bif D 14 then (junk) else (bif D 12 then (own 3 v135 x134) else junk), bc 91 b0 [v118], own 3 v118 x117.2, mp v31 s122.2, bif D 14 then (own 61 v123 (us124.set (Int.toNat (mget s122.2 x117.1 (0 : Int))) (rv v135))) else (own 61 v123 us124), bif D 14 then (bag (XS 3 Int) (us124.set (Int.toNat (mget s122.2 x117.1 (0 : Int))) (rv v135)) (s122.1.set (Int.toNat (mget s122.2 x117.1 (0 : Int))) x134) none) else (bif D 12 then (bag (XS 3 Int) us124 s122.1 (some (Int.toNat (mget s122.2 x117.1 (0 : Int))))) else (bag (XS 3 Int) us124 s122.1 none))] ++ Γ)) ?_ ⟨?_, ?_, ?_, ?_, ?_, ?_, ?_, ?_, ?_, ?_, ?_, ?_, ?_, ?_, ?_, trivial⟩ ?_
  ·have hw := hw.drew
   have hw := hw.junk
   have hw := hw.junk
   exact ⟨undef, undef, doneV.none, ⟨rfl, rfl, rfl, rfl, rfl, rfl, rfl, trivial⟩, hw⟩
  ·rintro D σ w hD hdep hcl ⟨v133, v135, hv, ha, hw⟩
   obtain ⟨τ, rfl⟩ := (ac (ha.at 1 rfl) az).ups
   refine mv v123 rfl rfl ?_
   refine RL.nil ?_
   exact ⟨rfl, v133, v135, hv.put 0 rfl rfl, ha.up rfl, hw⟩
  ·rintro D σ w hD hdep hcl ⟨v133, v135, hv, ha, hw⟩
   obtain ⟨τ, rfl⟩ := (ac (ha.at 2 rfl) az).ups
   refine mv v31 rfl rfl ?_
   refine RL.nil ?_
   exact ⟨rfl, v133, v135, hv.put 1 rfl rfl, ha.up rfl, hw⟩
  ·rintro D σ w hD hdep hcl ⟨v133, v135, hv, ha, hw⟩
   obtain ⟨τ, rfl⟩ := (ac (ha.at 4 rfl) az).ups
   refine mv (vi x117.1) rfl rfl ?_
   refine RL.nil ?_
   exact ⟨rfl, v133, v135, hv.put 2 rfl rfl, ha.up rfl, hw⟩
  ·rintro D σ w hD hdep hcl ⟨v133, v135, hv, ha, hw⟩
   obtain ⟨τ, rfl⟩ := (ac (hv.at 1 rfl (hdep.1 rfl)) (ac (hv.at 2 rfl (hdep.2.1 rfl)) az)).ups
   refine RL.lookup1s (i := 4) (k := x117.1) trivial rfl hw rfl rfl rfl mt96 ?_
   refine RL.nil ?_
   exact ⟨rfl, v133, v135, hv.put 3 rfl rfl, ha.up rfl, hw⟩
  ·rintro D σ w hD hdep hcl ⟨v133, v135, hv, ha, hw⟩
   obtain ⟨τ, rfl⟩ := (ac (ha.at 1 rfl) az).ups
   refine mv v123 rfl rfl ?_
   refine RL.nil ?_
   exact ⟨rfl, v133, v135, hv.put 4 rfl rfl, ha.up rfl, hw⟩
  ·rintro D σ w hD hdep hcl ⟨v133, v135, hv, ha, hw⟩
   obtain ⟨τ, rfl⟩ := (ac (ha.at 2 rfl) az).ups
   refine mv v31 rfl rfl ?_
   refine RL.nil ?_
   exact ⟨rfl, v133, v135, hv.put 5 rfl rfl, ha.up rfl, hw⟩
  ·rintro D σ w hD hdep hcl ⟨v133, v135, hv, ha, hw⟩
   obtain ⟨τ, rfl⟩ := (ac (ha.at 4 rfl) az).ups
   refine mv (vi x117.1) rfl rfl ?_
   refine RL.nil ?_
   exact ⟨rfl, v133, v135, hv.put 6 rfl rfl, ha.up rfl, hw⟩
  ·rintro D σ w hD hdep hcl ⟨v133, v135, hv, ha, hw⟩
   obtain ⟨τ, rfl⟩ := (ac (hv.at 5 rfl (hdep.1 rfl)) (ac (hv.at 6 rfl (hdep.2.1 rfl)) az)).ups
   refine RL.lookup1s (i := 4) (k := x117.1) trivial rfl hw rfl rfl rfl mt96 ?_
   refine RL.nil ?_
   exact ⟨rfl, v133, v135, hv.put 7 rfl rfl, ha.up rfl, hw⟩
  ·rintro D σ w hD hdep hcl ⟨v133, v135, hv, ha, hw⟩
   obtain ⟨τ, rfl⟩ := (ac (hv.at 4 rfl (hdep.1 rfl)) (ac (hv.at 7 rfl (hdep.2.1 rfl)) az)).ups
   have hw := hw.selF (i := 5) rfl (nf (fun h => ft hD ((hcl 14 _ rfl h).2.2.2.2.2.2.2.2.2.2.2.1 rfl)))
   have hw := hw.selF (i := 6) rfl (nf (fun h => ft hD ((hcl 14 _ rfl h).2.2.2.2.2.2.2.2.2.2.2.1 rfl)))
   have hw := hw.selF (i := 6) rfl (nf (fun h => ft hD ((hcl 9 _ rfl ((hcl 12 _ rfl h).1 rfl)).1 rfl)))
   have hl141 := hw.bag_len (j := 6) rfl
   have hr142 := idx_raw rvz hl141 hx128
   refine RL.ia_ownA (i := 5) trivial rfl hw rfl rfl rfl sl59 hr142 ?_
   have hw := hw.altF (i := 5) (b := D 14) rfl (nf (fun h => ft hD ((hcl 14 _ rfl h).2.2.2.2.2.2.2.2.2.2.2.1 rfl))) (own 61 v123 (us124.set (Int.toNat (mget s122.2 x117.1 (0 : Int))) (rv v135)))
   have hw := hw.altF (i := 6) (b := D 12) rfl (nf (fun h => ft hD ((hcl 9 _ rfl ((hcl 12 _ rfl h).1 rfl)).1 rfl))) (bag (XS 3 Int) us124 s122.1 (some (Int.toNat (mget s122.2 x117.1 (0 : Int)))))
   have hw := hw.altF (i := 6) (b := D 14) rfl (nf (fun h => ft hD ((hcl 14 _ rfl h).2.2.2.2.2.2.2.2.2.2.2.1 rfl))) (bag (XS 3 Int) (us124.set (Int.toNat (mget s122.2 x117.1 (0 : Int))) (rv v135)) (s122.1.set (Int.toNat (mget s122.2 x117.1 (0 : Int))) x134) none)
   refine RL.nil ?_
   exact ⟨rfl, v133, v135, hv.put 8 rfl rfl, ha.up rfl, hw⟩
  ·rintro D σ w hD hdep hcl ⟨v133, v135, hv, ha, hw⟩
   obtain ⟨τ, rfl⟩ := (ac (hv.at 8 rfl (hdep.1 rfl)) az).ups
   have hw := hw.selF (i := 5) rfl (nf (fun h => ft hD ((hcl 14 _ rfl h).2.2.2.2.2.2.2.2.2.2.2.2.1 rfl)))
   have hw := hw.selF (i := 6) rfl (nf (fun h => ft hD ((hcl 14 _ rfl h).2.2.2.2.2.2.2.2.2.2.2.2.1 rfl)))
   have hw := hw.selF (i := 6) rfl (nf (fun h => ft hD ((hcl 12 _ rfl h).1 rfl)))
   have hl143 := hw.bag_len (j := 6) rfl
   have hr144 := idx_raw rvz hl143 hx128
   refine RL.load_peek (i := 5) (b := 6) (jj := (mget s122.2 x117.1 (0 : Int))) (XS_xo 3 Int) rvz trivial rfl hw rfl (elp hw (i := 5) rfl hr144 0) rfl rfl hx128 ty61 ?_
   have hw := hw.altF (i := 5) (b := D 14) rfl (nf (fun h => ft hD ((hcl 14 _ rfl h).2.2.2.2.2.2.2.2.2.2.2.2.1 rfl))) (own 61 v123 (us124.set (Int.toNat (mget s122.2 x117.1 (0 : Int))) (rv v135)))
   have hw := hw.altF (i := 6) (b := D 12) rfl (nf (fun h => ft hD ((hcl 12 _ rfl h).1 rfl))) (bag (XS 3 Int) us124 s122.1 (some (Int.toNat (mget s122.2 x117.1 (0 : Int)))))
   have hw := hw.altF (i := 6) (b := D 14) rfl (nf (fun h => ft hD ((hcl 14 _ rfl h).2.2.2.2.2.2.2.2.2.2.2.2.1 rfl))) (bag (XS 3 Int) (us124.set (Int.toNat (mget s122.2 x117.1 (0 : Int))) (rv v135)) (s122.1.set (Int.toNat (mget s122.2 x117.1 (0 : Int))) x134) none)
   refine RL.nil ?_
   exact ⟨rfl, v133, v135, hv.put 9 rfl rfl, ha.up rfl, hw⟩
  ·rintro D σ w hD hdep hcl ⟨v133, v135, hv, ha, hw⟩
   obtain ⟨τ, rfl⟩ := (ac (ha.at 3 rfl) az).ups
   refine mv (vi (k32 : Int)) rfl rfl ?_
   refine RL.nil ?_
   exact ⟨rfl, v133, v135, hv.put 10 rfl rfl, ha.up rfl, hw⟩
  ·rintro D σ w hD hdep hcl ⟨v133, v135, hv, ha, hw⟩
   obtain ⟨τ, rfl⟩ := (ac (hv.at 10 rfl (hdep.1 rfl)) az).ups
   have hw := hw.selF (i := 0) rfl (nf (fun h => ft hD ((hcl 12 _ rfl h).2.1 rfl)))
   have hw := hw.selF (i := 0) rfl hD
   have hw := hw.sc (γ := Int) (k32 : Int)
   refine RL.bslice (l := ([(k32 : Int)] : (List Int))) trivial rfl hw [(vi (k32 : Int))] rfl rfl rfl sl61 ze3 (fun M hs g => ⟨(g.sat 0 _ rfl).1, trivial⟩) fun v145 w hw => ?_
   have hw := hw.pick 9 [0, 3, 4, 5, 6, 7, 8] (new := [own 3 v145 ([(k32 : Int)] : (List Int)), bif D 14 then (junk) else (bif D 12 then (own 3 v135 x134) else junk), bc 91 b0 [v118], own 3 v118 x117.2, mp v31 s122.2, bif D 14 then (own 61 v123 (us124.set (Int.toNat (mget s122.2 x117.1 (0 : Int))) (rv v135))) else (own 61 v123 us124), bif D 14 then (bag (XS 3 Int) (us124.set (Int.toNat (mget s122.2 x117.1 (0 : Int))) (rv v135)) (s122.1.set (Int.toNat (mget s122.2 x117.1 (0 : Int))) x134) none) else (bif D 12 then (bag (XS 3 Int) us124 s122.1 (some (Int.toNat (mget s122.2 x117.1 (0 : Int))))) else (bag (XS 3 Int) us124 s122.1 none))]) rfl rfl (by decide) (by decide)
   have hw := hw.altT (i := 0) (b := true) rfl rfl (junk)
   have hw := hw.altF (i := 0) (b := D 12) rfl (nf (fun h => ft hD ((hcl 12 _ rfl h).2.1 rfl))) (rd v145 ([(k32 : Int)] : (List Int)))
   refine RL.nil ?_
   exact ⟨rfl, v145, v135, hv.put 11 rfl rfl, ha.up rfl, hw⟩
  ·rintro D σ w hD hdep hcl ⟨v133, v135, hv, ha, hw⟩
   obtain ⟨τ, rfl⟩ := (ac (hv.at 9 rfl (hdep.1 rfl)) (ac (hv.at 11 rfl (hdep.2.1 rfl)) az)).ups
   have hw := hw.selF (i := 0) rfl hD
   have hw := hw.selT (i := 0) rfl (hdep.2.1 rfl)
   have hw := hw.selF (i := 1) rfl (nf (fun h => ft hD ((hcl 14 _ rfl h).2.1 rfl)))
   have hw := hw.selF (i := 1) rfl hD
   have hw := hw.selF (i := 5) rfl (nf (fun h => ft hD ((hcl 14 _ rfl h).2.1 rfl)))
   have hw := hw.selF (i := 6) rfl (nf (fun h => ft hD ((hcl 14 _ rfl h).2.1 rfl)))
   have hw := hw.selF (i := 6) rfl hD
   have hw := hw.focusX (j := 6) (jj := (mget s122.2 x117.1 (0 : Int))) (XS_xo 3 Int) rvz rfl hx128
   have hw := hw.freeze (i := 1) rfl
   refine RL.app (i := 0) (j := 1) trivial rfl hw rfl rfl rfl rfl el61 hx134 fun v146 w hw => ?_
   have hw := hw.pick 8 [1, 0, 3, 4, 5, 6, 7] (new := [rd v133 ([(k32 : Int)] : (List Int)), own 3 v146 x134, bc 91 b0 [v118], own 3 v118 x117.2, mp v31 s122.2, own 61 v123 us124, bag (XS 3 Int) us124 s122.1 (some (Int.toNat (mget s122.2 x117.1 (0 : Int))))]) rfl rfl (by decide) (by decide)
   have hw := hw.altT (i := 0) (b := true) rfl rfl (bif D 11 then (own 3 v133 ([(k32 : Int)] : (List Int))) else junk)
   have hw := hw.altT (i := 1) (b := true) rfl rfl (junk)
   have hw := hw.altF (i := 1) (b := D 14) rfl (nf (fun h => ft hD ((hcl 14 _ rfl h).2.1 rfl))) (junk)
   have hw := hw.altF (i := 5) (b := D 14) rfl (nf (fun h => ft hD ((hcl 14 _ rfl h).2.1 rfl))) (own 61 v123 (us124.set (Int.toNat (mget s122.2 x117.1 (0 : Int))) (rv v146)))
   have hw := hw.altT (i := 6) (b := true) rfl rfl (bag (XS 3 Int) us124 s122.1 none)
   have hw := hw.altF (i := 6) (b := D 14) rfl (nf (fun h => ft hD ((hcl 14 _ rfl h).2.1 rfl))) (bag (XS 3 Int) (us124.set (Int.toNat (mget s122.2 x117.1 (0 : Int))) (rv v146)) (s122.1.set (Int.toNat (mget s122.2 x117.1 (0 : Int))) x134) none)
   refine RL.nil ?_
   exact ⟨rfl, v133, v146, hv.put 12 rfl rfl, ha.up rfl, hw⟩
  ·rintro D σ w hD hdep hcl ⟨v133, v135, hv, ha, hw⟩
   obtain ⟨τ, rfl⟩ := (ac (hv.at 0 rfl (hdep.1 rfl)) (ac (hv.at 3 rfl (hdep.2.1 rfl)) az)).ups
   have hw := hw.selF (i := 5) rfl (nf (fun h => ft hD ((hcl 14 _ rfl h).1 rfl)))
   have hw := hw.selF (i := 6) rfl (nf (fun h => ft hD ((hcl 14 _ rfl h).1 rfl)))
   have hw := hw.selT (i := 6) rfl (hdep.2.2.2.2.2.2.2.2.2.2.2.2.2.2.1 rfl)
   have hl147 := hw.bag_len (j := 6) rfl
   have hr148 := idx_raw rvz hl147 hx136
   refine RL.ia_ownA (i := 5) trivial rfl hw rfl rfl rfl sl59 hr148 ?_
   have hw := hw.altF (i := 5) (b := D 14) rfl (nf (fun h => ft hD ((hcl 14 _ rfl h).1 rfl))) (own 61 v123 (us124.set (Int.toNat (mget s122.2 x117.1 (0 : Int))) (rv v135)))
   have hw := hw.altT (i := 6) (b := D 12) rfl (hdep.2.2.2.2.2.2.2.2.2.2.2.2.2.2.1 rfl) (bag (XS 3 Int) us124 s122.1 none)
   have hw := hw.altF (i := 6) (b := D 14) rfl (nf (fun h => ft hD ((hcl 14 _ rfl h).1 rfl))) (bag (XS 3 Int) (us124.set (Int.toNat (mget s122.2 x117.1 (0 : Int))) (rv v135)) (s122.1.set (Int.toNat (mget s122.2 x117.1 (0 : Int))) x134) none)
   refine RL.nil ?_
   exact ⟨rfl, v133, v135, hv.put 13 rfl rfl, ha.up rfl, hw⟩
  ·rintro D σ w hD hdep hcl ⟨v133, v135, hv, ha, hw⟩
   obtain ⟨τ, rfl⟩ := (ac (hv.at 12 rfl (hdep.2.1 rfl)) (ac (hv.at 13 rfl (hdep.1 rfl)) az)).ups
   have hw := hw.selF (i := 1) rfl hD
   have hw := hw.selT (i := 1) rfl (hdep.2.1 rfl)
   have hw := hw.selF (i := 5) rfl hD
   have hw := hw.selF (i := 6) rfl hD
   have hw := hw.selT (i := 6) rfl (hdep.2.1 rfl)
   have hl149 := hw.bag_len (j := 6) rfl
   have hr150 := idx_raw rvz hl149 hx136
   refine RL.store_nest (i := 5) (b := 6) (o := 1) (jj := (mget s122.2 x117.1 (0 : Int))) (XS_xo 3 Int) rvz trivial hw rfl rfl (elp hw (i := 5) rfl hr150 0) rfl rfl (.inr rfl) rfl hx136 (by decide) (by decide) (by decide) ty61 fun w hw => ?_
   have hw := hw.altT (i := 1) (b := true) rfl rfl (bif D 12 then (own 3 v135 x134) else junk)
   have hw := hw.altT (i := 5) (b := true) rfl rfl (own 61 v123 us124)
   have hw := hw.altT (i := 6) (b := true) rfl rfl (bif D 12 then (bag (XS 3 Int) us124 s122.1 (some (Int.toNat (mget s122.2 x117.1 (0 : Int))))) else (bag (XS 3 Int) us124 s122.1 none))
   refine RL.nil ?_
   exact ⟨rfl, v133, v135, hv.no rfl, ha, hw⟩
  rintro D σ w hall ⟨v133, v135, hv, ha, hw⟩
  rw [hall 11 (by decide), hall 12 (by decide), hall 14 (by decide)] at hw
  obtain ⟨τ, rfl⟩ := (ac (ha.at 0 rfl) (ac (ha.at 1 rfl) (ac (ha.at 2 rfl) (ac (ha.at 3 rfl) (ac (ha.at 4 rfl) (ac (ha.at 5 rfl) (ac (ha.at 6 rfl) az))))))).ups
  refine blkQ_n ?_
  refine thenQ_n ?_
  refine RC.region ?_
  refine RL.inc trivial rfl hk hm rfl rfl ?_
  refine mv (vi ((k32 + 1 : Nat) : Int)) rfl rfl ?_
  refine RL.nil ?_
  obtain rfl := oi hb
  exact ⟨rfl, v118, v123, (us124.set (Int.toNat (mget s122.2 x117.1 (0 : Int))) (rv v135)), ⟨rfl, rfl, rfl, rfl, rfl, trivial⟩, hw.pick 7 [2, 3, 4, 5, 6] (new := [bc 91 b0 [v118], own 3 v118 x117.2, mp v31 s122.2, own 61 v123 (us124.set (Int.toNat (mget s122.2 x117.1 (0 : Int))) (rv v135)), bag (XS 3 Int) (us124.set (Int.toNat (mget s122.2 x117.1 (0 : Int))) (rv v135)) (s122.1.set (Int.toNat (mget s122.2 x117.1 (0 : Int))) x134) none]) rfl rfl (by decide) (by decide)⟩
 intro σ w hJ
 obtain ⟨v111, v112, us113, ha, hw⟩ := hJ
 obtain ⟨τ, rfl⟩ := ha.ups
 refine thenQ_n ?_
 refine RC.sr ?_
 refine mv v112 rfl rfl ?_
 refine as_ v112 rfl rfl ?_
 refine RL.nt ?_
 refine RC.ret ?_
 obtain rfl := oi hb
 have hw := hw.nest_fz (X := (XS 3 Int)) (b := 4) (j := 3) rfl (fun M h u x cs => (XS_rd 3) M h u x cs) rfl rfl (by decide)
 exact fin1 rfl rfl ⟨v112, v111, rfl, hw.pick 5 [3, 0, 1] (new := [own 61 v112 s33.2.1, bc 91 b0 [v111], own 3 v111 s33.1]) rfl rfl (by decide) (by decide)⟩
def netlist_Islands_R (E : World) (Γ : List HP) (res : (List (List Str)) × Int) (v : Value) (w : World) : Prop := ∃ u0 : Value, v = .tuple #[u0, (vi res.2)] ∧ Holds E w (own 27 u0 res.1 :: Γ)
def netlist_Islands_K (E : World) (Γ : List HP) (r : (List (List Str)) × Int) (σ : Nat → Value) (w : World) : Prop := finQ Tryd.prog 101 Tryd.f5 (netlist_Islands_R E Γ r) .ret σ w
theorem netlist_Islands_ok (N : Nat) {E w : World} {Γ : List HP} {i0 : Nat} {v0 : Value} {p0 : (List PartType)} {i1 : Nat} {v1 : Value} {p1 : Netlist} {i2 : Nat} {v2 : Value} {p2 : (List Str)} {res : (List (List Str)) × Int} (hw : Holds E w Γ) (h0 : Γ[i0]? = some (rd v0 p0)) (h1 : Γ[i1]? = some (rd v1 p1)) (h2 : Γ[i2]? = some (rd v2 p2)) (hb : netlist_Islands N p0 p1 p2 = some res) :
    Calls Tryd.prog 5 [v0, v1, v2].toArray w (Ret (netlist_Islands_R E Γ res)) := by
 unfold netlist_Islands at hb
 refine enter Tryd.func5 rfl rfl (Nat.le_of_ble_eq_true rfl) ?_
 have hw := hw.dup (i := i0 + 0) h0
 have hw := hw.dup (i := i1 + 1) h1
 have hw := hw.dup (i := i2 + 2) h2
 refine RC.sr ?_
 refine RL.box_rd (i := 1) (v := v1) trivial rfl hw rfl rfl fun b31 w hw => ?_
 have hw := hw.freeze_bx (i := 0) rfl
 refine as_ (.slice none 0 0) rfl rfl ?_
 refine as_ (vi 0) rfl rfl ?_
 refine RL.nq ?_
 refine RC.sr ?_
 refine mv v0 rfl rfl ?_
 refine RL.load_pt (i := 0) (x := p1) trivial rfl hw rfl rfl ty26 fun v32 hw => ?_
 obtain ⟨x33, hx33, hb⟩ := bd hb
 refine RL.call trivial rfl fn14 [v0, v32] rfl (Calls_ret (netlist_CheckList_ok N  (i0 := 4) (i1 := 0) hw rfl rfl hx33) ?_)
 rintro _ w ⟨rfl, hw⟩
 refine as_ (vi x33) rfl rfl ?_
 refine RL.ns ?_
 refine mv (vi x33) rfl rfl ?_
 refine ic x33 0 rfl rfl rfl rfl ?_
 refine RL.nt ?_
 refine RC.cond (b := (x33 != 0)) rfl (fun hc => ?_) (fun hc => ?_)
 ·replace hb := cT hc hb
  refine RC.sr ?_
  refine mv (vi x33) rfl rfl ?_
  refine as_ (.slice none 0 0) rfl rfl ?_
  refine as_ (vi x33) rfl rfl ?_
  refine RL.nt ?_
  refine RC.rt ?_
  obtain rfl := oi hb
  have hw := hw.own_nil (List Str) 27
  exact fin2 rfl rfl rfl ⟨(.slice none 0 0), rfl, hw.pick 6 [0] (new := [own 27 (.slice none 0 0) ([] : (List (List Str)))]) rfl rfl (by decide) (by decide)⟩
 replace hb := cF hc hb
 refine RC.ss ?_
 refine RC.sr ?_
 refine mv v2 rfl rfl ?_
 refine RL.makeFunc trivial rfl [(vp b31 0)] rfl ?_
 obtain ⟨x34, hx34, hb⟩ := bd hb
 refine RL.call trivial rfl fn15 [v2, (vi 1000), (.func (.func 16) #[] #[(vp b31 0)])] rfl (Calls_ret (netlist_checkNames_ok N (p1 := 1000) (i0 := 2) hw rfl ⟨16, [(vp b31 0)], rfl, fn16, fun w Γl v y0 r i hw hi hr => by obtain rfl := hw.ofSc (γ := Str) hi; exact Calls_ret (netlist_Islands_c1_ok N (p0 := y0) (i1 := Γl.length + 1) hw (up_get rfl) hr) fun _ _ h => h⟩ hx34) ?_)
 rintro _ w ⟨rfl, hw⟩
 refine as_ (vi x34) rfl rfl ?_
 refine RL.ns ?_
 refine mv (vi x34) rfl rfl ?_
 refine ic x34 0 rfl rfl rfl rfl ?_
 refine RL.nt ?_
 refine RC.cond (b := (x34 != 0)) rfl (fun hc => ?_) (fun hc => ?_)
 ·replace hb := cT hc hb
  refine RC.sr ?_
  refine mv (vi x34) rfl rfl ?_
  refine as_ (.slice none 0 0) rfl rfl ?_
  refine as_ (vi x34) rfl rfl ?_
  refine RL.nt ?_
  refine RC.rt ?_
  obtain rfl := oi hb
  have hw := hw.own_nil (List Str) 27
  exact fin2 rfl rfl rfl ⟨(.slice none 0 0), rfl, hw.pick 6 [0] (new := [own 27 (.slice none 0 0) ([] : (List (List Str)))]) rfl rfl (by decide) (by decide)⟩
 replace hb := cF hc hb
 refine RC.sx ?_
 refine RL.fa_pt (i := 1) (f := fun (x : Netlist) => x.Parts) trivial rfl hw rfl rfl fa26_0 fd_Netlist_0 fun v35 hw => ?_
 refine RL.load_pt (i := 0) (x := p1.Parts) trivial rfl hw rfl rfl ty23 fun v36 hw => ?_
 refine RL.len_rd (i := 0) (l := p1.Parts) trivial rfl hw rfl rfl un23 ?_
 obtain ⟨x37, hx37, hb⟩ := bd hb
 refine RL.call trivial rfl fn18 [(vi (p1.Parts.length : Int))] rfl (Calls_ret (netlist_NewUnion_ok N (p0 := (p1.Parts.length : Int))  hw  hx37) ?_)
 rintro _ w ⟨b38, v39, rfl, hw⟩
 refine as_ (vp b38 0) rfl rfl ?_
 refine RL.nq ?_
 refine RC.sr ?_
 refine RL.fa_pt (i := 5) (f := fun (x : Netlist) => x.Nets) trivial rfl hw rfl rfl fa26_1 fd_Netlist_1 fun v40 hw => ?_
 refine RL.load_pt (i := 0) (x := p1.Nets) trivial rfl hw rfl rfl ty24 fun v41 hw => ?_
 refine RL.len_rd (i := 0) (l := p1.Nets) trivial rfl hw rfl rfl un24 ?_
 refine mv (vi 0) rfl rfl ?_
 refine RL.nt ?_
 obtain ⟨s43, hN, hb⟩ := bd hb
 refine RC.fold (fun (k42 : Nat) (s43 : (List Int)) (σ : Nat → Value) (w : World) => ∃ v220 : Value, agree σ [(2, v2), (4, (vp b31 0)), (10, (vp b38 0)), (38, v41), (39, (vi (p1.Nets.length : Int))), (40, (vi (k42 : Int)))] ∧ Holds E w ([rd v2 p2, pt (vp b31 0) p1, bc 91 b38 [v220], own 3 v220 s43, rd v41 p1.Nets] ++ Γ)) (fun (s43 : (List Int)) (σ : Nat → Value) (w : World) => ∃ v221 : Value, agree σ [(4, (vp b31 0)), (10, (vp b38 0))] ∧ Holds E w ([rd v2 p2, pt (vp b31 0) p1, bc 91 b38 [v221], own 3 v221 s43, rd v41 p1.Nets] ++ Γ)) hN ?_ ?_ ?_ ?_
 ·exact ⟨v39, ⟨rfl, rfl, rfl, rfl, rfl, rfl, trivial⟩, hw.pick 11 [8, 7, 2, 3, 0] (new := [rd v2 p2, pt (vp b31 0) p1, bc 91 b38 [v39], own 3 v39 x37, rd v41 p1.Nets]) rfl rfl (by decide) (by decide)⟩
 ·intro hm s43 σ w hI
  obtain ⟨v310, ha, hw⟩ := hI
  obtain ⟨τ, rfl⟩ := ha.ups
  refine RC.sr ?_
  refine ic ((p1.Nets.length : Int)) ((p1.Nets.length : Int)) rfl rfl rfl rfl ?_
  refine RL.nq ?_
  refine RC.cond_f dge ?_
  refine RC.ex ?_
  exact ⟨rfl, v310, ⟨rfl, rfl, trivial⟩, hw.pick 5 [0, 1, 2, 3, 4] (new := [rd v2 p2, pt (vp b31 0) p1, bc 91 b38 [v310], own 3 v310 s43, rd v41 p1.Nets]) rfl rfl (by decide) (by decide)⟩
 ·intro hm k42 s43 s' σ w hk hI hb
  obtain ⟨v222, ha, hw⟩ := hI
  obtain ⟨τ, rfl⟩ := ha.ups
  refine RC.sr ?_
  refine ic ((k42 : Int)) ((p1.Nets.length : Int)) rfl rfl rfl rfl ?_
  refine RL.nq ?_
  refine RC.cond_t (dlt hk) ?_
  refine RC.ss ?_
  refine RC.bs ?_
  obtain ⟨x223, hx223, hb⟩ := bd hb
  refine RL.ia_rd (i := 4) trivial rfl hw rfl rfl rfl sl24 hx223 fun v224 hw => ?_
  refine RL.load_pt (i := 0) (x := x223) trivial rfl hw rfl rfl ty39 fun v225 hw => ?_
  refine RL.alloc trivial rfl hw ze39.z fun b226 w hw => ?_
  refine RL.store_raw (i := 0) (j := 1) trivial hw rfl rfl rfl rfl ty39 rfl fun w hw => ?_
  refine RL.nq ?_
  refine RC.sr ?_
  refine mv v2 rfl rfl ?_
  refine RL.fa_b trivial rfl rfl fa39_0 ?_
  refine RL.load_bfs (i := 0) (f := (fun x => x.Name)) trivial rfl hw rfl rfl fd_Net_0 ty9 ?_
  obtain ⟨x227, hx227, hb⟩ := bd hb
  refine RL.call trivial rfl fn19 [v2, (str x223.Name)] rfl (Calls_ret (netlist_has_ok N (p1 := x223.Name) (i0 := 3) hw rfl hx227) ?_)
  rintro _ w ⟨rfl, hw⟩
  refine RL.nt ?_
  refine RC.cond (b := x227) rfl (fun hc => ?_) (fun hc => ?_)
  ·replace hb := cT hc hb
   refine RC.ex ?_
   refine blkQ_e ?_
   refine thenQ_n ?_
   refine RC.region ?_
   refine RL.inc trivial rfl hk hm rfl rfl ?_
   refine mv (vi ((k42 + 1 : Nat) : Int)) rfl rfl ?_
   refine RL.nil ?_
   obtain rfl := oi hb
   exact ⟨rfl, v222, ⟨rfl, rfl, rfl, rfl, rfl, rfl, trivial⟩, hw.pick 8 [3, 4, 5, 6, 7] (new := [rd v2 p2, pt (vp b31 0) p1, bc 91 b38 [v222], own 3 v222 s43, rd v41 p1.Nets]) rfl rfl (by decide) (by decide)⟩
  replace hb := cF hc hb
  refine RC.sx ?_
  refine RL.fa_b trivial rfl rfl fa39_1 ?_
  refine RL.load_bf (i := 0) (f := (fun x => x.Pins)) trivial rfl hw rfl rfl fd_Net_1 ty37 fun v228 hw => ?_
  refine RL.len_rd (i := 0) (l := x223.Pins) trivial rfl hw rfl rfl un37 ?_
  refine mv (vi 0) rfl rfl ?_
  refine RL.nt ?_
  obtain ⟨s230, hN, hb⟩ := bd hb
  refine RC.fold (fun (k229 : Nat) (s230 : (List Int)) (σ : Nat → Value) (w : World) => ∃ v281 : Value, agree σ [(2, v2), (4, (vp b31 0)), (10, (vp b38 0)), (12, (vp b226 0)), (38, v41), (39, (vi (p1.Nets.length : Int))), (40, (vi (k42 : Int))), (49, v228), (50, (vi (x223.Pins.length : Int))), (51, (vi (k229 : Int)))] ∧ Holds E w ([rd v2 p2, pt (vp b31 0) p1, bc 91 b38 [v281], own 3 v281 s230, bx 39 b226 x223, rd v41 p1.Nets, rd v228 x223.Pins] ++ Γ)) (fun (s230 : (List Int)) (σ : Nat → Value) (w : World) => ∃ v282 : Value, agree σ [(2, v2), (4, (vp b31 0)), (10, (vp b38 0)), (38, v41), (39, (vi (p1.Nets.length : Int))), (40, (vi (k42 : Int)))] ∧ Holds E w ([rd v2 p2, pt (vp b31 0) p1, bc 91 b38 [v282], own 3 v282 s230, bx 39 b226 x223, rd v41 p1.Nets, rd v228 x223.Pins] ++ Γ)) hN ?_ ?_ ?_ ?_
  ·exact ⟨v222, ⟨rfl, rfl, rfl, rfl, rfl, rfl, rfl, rfl, rfl, rfl, trivial⟩, hw.pick 9 [4, 5, 6, 7, 1, 8, 0] (new := [rd v2 p2, pt (vp b31 0) p1, bc 91 b38 [v222], own 3 v222 s43, bx 39 b226 x223, rd v41 p1.Nets, rd v228 x223.Pins]) rfl rfl (by decide) (by decide)⟩
  ·intro hm s230 σ w hI
   obtain ⟨v308, ha, hw⟩ := hI
   obtain ⟨τ, rfl⟩ := ha.ups
   refine RC.sr ?_
   refine ic ((x223.Pins.length : Int)) ((x223.Pins.length : Int)) rfl rfl rfl rfl ?_
   refine RL.nq ?_
   refine RC.cond_f dge ?_
   refine RC.ex ?_
   exact ⟨rfl, v308, ⟨rfl, rfl, rfl, rfl, rfl, rfl, trivial⟩, hw.pick 7 [0, 1, 2, 3, 4, 5, 6] (new := [rd v2 p2, pt (vp b31 0) p1, bc 91 b38 [v308], own 3 v308 s230, bx 39 b226 x223, rd v41 p1.Nets, rd v228 x223.Pins]) rfl rfl (by decide) (by decide)⟩
  ·intro hm k229 s230 s' σ w hk hI hb
   obtain ⟨v283, ha, hw⟩ := hI
   obtain ⟨τ, rfl⟩ := ha.ups
   refine RC.sr ?_
   refine ic ((k229 : Int)) ((x223.Pins.length : Int)) rfl rfl rfl rfl ?_
   refine RL.nq ?_
   refine RC.cond_t (dlt hk) ?_
   refine RC.ss ?_
   refine RC.bs ?_
   obtain ⟨x284, hx284, hb⟩ := bd hb
   refine RL.ia_rd (i := 6) trivial rfl hw rfl rfl rfl sl37 hx284 fun v285 hw => ?_
   refine RL.load_pt (i := 0) (x := x284) trivial rfl hw rfl rfl ty45 fun v286 hw => ?_
   refine RL.alloc trivial rfl hw ze45.z fun b287 w hw => ?_
   refine RL.store_raw (i := 0) (j := 1) trivial hw rfl rfl rfl rfl ty45 rfl fun w hw => ?_
   refine RL.nt ?_
   obtain ⟨x290, hx290, hb⟩ := bd hb
   obtain ⟨x294, hx294, hb⟩ := bd hb
   obtain ⟨x297, hx297, hb⟩ := bd hb
   obtain ⟨x298, hx298, hb⟩ := bd hb
   refine RC.drw mixed rfl (fun (D : Nat → Bool) (σ : Nat → Value) (w : World) => ∃ (v288 : Value) (v289 : Value) (v291 : Value) (v292 : Value) (v293 : Value) (v295 : Value) (v296 : Value) (v299 : Value), doneV D σ [(0, 55, (vp b38 0)), (1, 56, v288), (2, 57, v289), (3, 58, (vp b287 0)), (4, 59, (str x284.Part)), (5, 60, (vi x290)), (6, 61, v291), (7, 62, v292), (8, 63, (vp b226 1)), (9, 64, v293), (10, 65, v295), (11, 66, v296), (12, 67, (str x294.Part)), (13, 68, (vi x297))] ∧ agree σ [(2, v2), (4, (vp b31 0)), (10, (vp b38 0)), (12, (vp b226 0)), (14, (vp b287 0)), (38, v41), (39, (vi (p1.Nets.length : Int))), (40, (vi (k42 : Int))), (49, v228), (50, (vi (x223.Pins.length : Int))), (51, (vi (k229 : Int)))] ∧ Holds E w ([bif D 1 then (pt v288 p1.Parts) else junk, bif D 2 then (rd v289 p1.Parts) else junk, bif D 6 then (pt v291 p1.Parts) else junk, bif D 7 then (rd v292 p1.Parts) else junk, bif D 9 then (rd v293 x223.Pins) else junk, bif D 10 then (pt v295 x294) else junk, bif D 11 then (pt v296 x294.Part) else junk, bx 45 b287 x284, rd v286 x284, pt v285 x284, rd v2 p2, pt (vp b31 0) p1, bif D 14 then (bc 91 b38 [v299]) else (bc 91 b38 [v283]), bif D 14 then (own 3 v299 x298) else (own 3 v283 s230), bx 39 b226 x223, rd v41 p1.Nets, rd v228 x223.Pins] ++ Γ)) ?_ ⟨?_, ?_, ?_, ?_, ?_, ?_, ?_, ?_, ?_, ?_, ?_, ?_, ?_, ?_, ?_, trivial⟩ ?_
   ·have hw := hw.drew
    have hw := hw.junk
    have hw := hw.junk
    have hw := hw.junk
    have hw := hw.junk
    have hw := hw.junk
    have hw := hw.junk
    have hw := hw.junk
    exact ⟨undef, undef, undef, undef, undef, undef, undef, undef, doneV.none, ⟨rfl, rfl, rfl, rfl, rfl, rfl, rfl, rfl, rfl, rfl, rfl, trivial⟩, hw⟩
   ·rintro D σ w hD hdep hcl ⟨v288, v289, v291, v292, v293, v295, v296, v299, hv, ha, hw⟩
    obtain ⟨τ, rfl⟩ := (ac (ha.at 2 rfl) az).ups
    refine mv (vp b38 0) rfl rfl ?_
    refine RL.nil ?_
    exact ⟨rfl, v288, v289, v291, v292, v293, v295, v296, v299, hv.put 0 rfl rfl, ha.up rfl, hw⟩
   ·rintro D σ w hD hdep hcl ⟨v288, v289, v291, v292, v293, v295, v296, v299, hv, ha, hw⟩
    obtain ⟨τ, rfl⟩ := (ac (ha.at 1 rfl) az).ups
    have hw := hw.selF (i := 0) rfl hD
    refine RL.fa_pt (i := 11) (f := fun (x : Netlist) => x.Parts) trivial rfl hw rfl rfl fa26_0 fd_Netlist_0 fun v300 hw => ?_
    have hw := hw.pick 18 [0, 2, 3, 4, 5, 6, 7, 8, 9, 10, 11, 12, 13, 14, 15, 16, 17] (new := [pt v300 p1.Parts, bif D 2 then (rd v289 p1.Parts) else junk, bif D 6 then (pt v291 p1.Parts) else junk, bif D 7 then (rd v292 p1.Parts) else junk, bif D 9 then (rd v293 x223.Pins) else junk, bif D 10 then (pt v295 x294) else junk, bif D 11 then (pt v296 x294.Part) else junk, bx 45 b287 x284, rd v286 x284, pt v285 x284, rd v2 p2, pt (vp b31 0) p1, bif D 14 then (bc 91 b38 [v299]) else (bc 91 b38 [v283]), bif D 14 then (own 3 v299 x298) else (own 3 v283 s230), bx 39 b226 x223, rd v41 p1.Nets, rd v228 x223.Pins]) rfl rfl (by decide) (by decide)
    have hw := hw.altT (i := 0) (b := true) rfl rfl (junk)
    refine RL.nil ?_
    exact ⟨rfl, v300, v289, v291, v292, v293, v295, v296, v299, hv.put 1 rfl rfl, ha.up rfl, hw⟩
   ·rintro D σ w hD hdep hcl ⟨v288, v289, v291, v292, v293, v295, v296, v299, hv, ha, hw⟩
    obtain ⟨τ, rfl⟩ := (ac (hv.at 1 rfl (hdep.1 rfl)) az).ups
    have hw := hw.selT (i := 0) rfl (hdep.1 rfl)
    have hw := hw.selF (i := 1) rfl hD
    refine RL.load_pt (i := 0) (x := p1.Parts) trivial rfl hw rfl rfl ty23 fun v301 hw => ?_
    have hw := hw.pick 18 [1, 0, 3, 4, 5, 6, 7, 8, 9, 10, 11, 12, 13, 14, 15, 16, 17] (new := [pt v288 p1.Parts, rd v301 p1.Parts, bif D 6 then (pt v291 p1.Parts) else junk, bif D 7 then (rd v292 p1.Parts) else junk, bif D 9 then (rd v293 x223.Pins) else junk, bif D 10 then (pt v295 x294) else junk, bif D 11 then (pt v296 x294.Part) else junk, bx 45 b287 x284, rd v286 x284, pt v285 x284, rd v2 p2, pt (vp b31 0) p1, bif D 14 then (bc 91 b38 [v299]) else (bc 91 b38 [v283]), bif D 14 then (own 3 v299 x298) else (own 3 v283 s230), bx 39 b226 x223, rd v41 p1.Nets, rd v228 x223.Pins]) rfl rfl (by decide) (by decide)
    have hw := hw.altT (i := 0) (b := D 1) rfl (hdep.1 rfl) (junk)
    have hw := hw.altT (i := 1) (b := true) rfl rfl (junk)
    refine RL.nil ?_
    exact ⟨rfl, v288, v301, v291, v292, v293, v295, v296, v299, hv.put 2 rfl rfl, ha.up rfl, hw⟩
   ·rintro D σ w hD hdep hcl ⟨v288, v289, v291, v292, v293, v295, v296, v299, hv, ha, hw⟩
    obtain ⟨τ, rfl⟩ := (ac (ha.at 4 rfl) az).ups
    refine RL.fa_b trivial rfl rfl fa45_0 ?_
    refine RL.nil ?_
    exact ⟨rfl, v288, v289, v291, v292, v293, v295, v296, v299, hv.put 3 rfl rfl, ha.up rfl, hw⟩
   ·rintro D σ w hD hdep hcl ⟨v288, v289, v291, v292, v293, v295, v296, v299, hv, ha, hw⟩
    obtain ⟨τ, rfl⟩ := (ac (hv.at 3 rfl (hdep.1 rfl)) az).ups
    refine RL.load_bfs (i := 7) (f := (fun x => x.Part)) trivial rfl hw rfl rfl fd_Pin_0 ty9 ?_
    refine RL.nil ?_
    exact ⟨rfl, v288, v289, v291, v292, v293, v295, v296, v299, hv.put 4 rfl rfl, ha.up rfl, hw⟩
   ·rintro D σ w hD hdep hcl ⟨v288, v289, v291, v292, v293, v295, v296, v299, hv, ha, hw⟩
    obtain ⟨τ, rfl⟩ := (ac (hv.at 2 rfl (hdep.1 rfl)) (ac (hv.at 4 rfl (hdep.2.1 rfl)) az)).ups
    have hw := hw.selT (i := 1) rfl (hdep.1 rfl)
    refine RL.call trivial rfl fn21 [v289, (str x284.Part)] rfl (Calls_ret (netlist_partAt_ok N (p1 := x284.Part) (i0 := 1) hw rfl hx290) ?_)
    rintro _ w ⟨rfl, hw⟩
    have hw := hw.altT (i := 1) (b := D 2) rfl (hdep.1 rfl) (junk)
    refine RL.nil ?_
    exact ⟨rfl, v288, v289, v291, v292, v293, v295, v296, v299, hv.put 5 rfl rfl, ha.up rfl, hw⟩
   ·rintro D σ w hD hdep hcl ⟨v288, v289, v291, v292, v293, v295, v296, v299, hv, ha, hw⟩
    obtain ⟨τ, rfl⟩ := (ac (ha.at 1 rfl) az).ups
    have hw := hw.selF (i := 2) rfl hD
    refine RL.fa_pt (i := 11) (f := fun (x : Netlist) => x.Parts) trivial rfl hw rfl rfl fa26_0 fd_Netlist_0 fun v302 hw => ?_
    have hw := hw.pick 18 [1, 2, 0, 4, 5, 6, 7, 8, 9, 10, 11, 12, 13, 14, 15, 16, 17] (new := [bif D 1 then (pt v288 p1.Parts) else junk, bif D 2 then (rd v289 p1.Parts) else junk, pt v302 p1.Parts, bif D 7 then (rd v292 p1.Parts) else junk, bif D 9 then (rd v293 x223.Pins) else junk, bif D 10 then (pt v295 x294) else junk, bif D 11 then (pt v296 x294.Part) else junk, bx 45 b287 x284, rd v286 x284, pt v285 x284, rd v2 p2, pt (vp b31 0) p1, bif D 14 then (bc 91 b38 [v299]) else (bc 91 b38 [v283]), bif D 14 then (own 3 v299 x298) else (own 3 v283 s230), bx 39 b226 x223, rd v41 p1.Nets, rd v228 x223.Pins]) rfl rfl (by decide) (by decide)
    have hw := hw.altT (i := 2) (b := true) rfl rfl (junk)
    refine RL.nil ?_
    exact ⟨rfl, v288, v289, v302, v292, v293, v295, v296, v299, hv.put 6 rfl rfl, ha.up rfl, hw⟩
   ·rintro D σ w hD hdep hcl ⟨v288, v289, v291, v292, v293, v295, v296, v299, hv, ha, hw⟩
    obtain ⟨τ, rfl⟩ := (ac (hv.at 6 rfl (hdep.1 rfl)) az).ups
    have hw := hw.selT (i := 2) rfl (hdep.1 rfl)
    have hw := hw.selF (i := 3) rfl hD
    refine RL.load_pt (i := 2) (x := p1.Parts) trivial rfl hw rfl rfl ty23 fun v303 hw => ?_
    have hw := hw.pick 18 [1, 2, 3, 0, 5, 6, 7, 8, 9, 10, 11, 12, 13, 14, 15, 16, 17] (new := [bif D 1 then (pt v288 p1.Parts) else junk, bif D 2 then (rd v289 p1.Parts) else junk, pt v291 p1.Parts, rd v303 p1.Parts, bif D 9 then (rd v293 x223.Pins) else junk, bif D 10 then (pt v295 x294) else junk, bif D 11 then (pt v296 x294.Part) else junk, bx 45 b287 x284, rd v286 x284, pt v285 x284, rd v2 p2, pt (vp b31 0) p1, bif D 14 then (bc 91 b38 [v299]) else (bc 91 b38 [v283]), bif D 14 then (own 3 v299 x298) else (own 3 v283 s230), bx 39 b226 x223, rd v41 p1.Nets, rd v228 x223.Pins]) rfl rfl (by decide) (by decide)
    have hw := hw.altT (i := 2) (b := D 6) rfl (hdep.1 rfl) (junk)
    have hw := hw.altT (i := 3) (b := true) rfl rfl (junk)
    refine RL.nil ?_
    exact ⟨rfl, v288, v289, v291, v303, v293, v295, v296, v299, hv.put 7 rfl rfl, ha.up rfl, hw⟩
   ·rintro D σ w hD hdep hcl ⟨v288, v289, v291, v292, v293, v295, v296, v299, hv, ha, hw⟩
    obtain ⟨τ, rfl⟩ := (ac (ha.at 3 rfl) az).ups
    refine RL.fa_b trivial rfl rfl fa39_1 ?_
    refine RL.nil ?_
    exact ⟨rfl, v288, v289, v291, v292, v293, v295, v296, v299, hv.put 8 rfl rfl, ha.up rfl, hw⟩
   ·rintro D σ w hD hdep hcl ⟨v288, v289, v291, v292, v293, v295, v296, v299, hv, ha, hw⟩
    obtain ⟨τ, rfl⟩ := (ac (hv.at 8 rfl (hdep.1 rfl)) az).ups
    have hw := hw.selF (i := 4) rfl hD
    refine RL.load_bf (i := 14) (f := (fun x => x.Pins)) trivial rfl hw rfl rfl fd_Net_1 ty37 fun v304 hw => ?_
    have hw := hw.pick 18 [1, 2, 3, 4, 0, 6, 7, 8, 9, 10, 11, 12, 13, 14, 15, 16, 17] (new := [bif D 1 then (pt v288 p1.Parts) else junk, bif D 2 then (rd v289 p1.Parts) else junk, bif D 6 then (pt v291 p1.Parts) else junk, bif D 7 then (rd v292 p1.Parts) else junk, rd v304 x223.Pins, bif D 10 then (pt v295 x294) else junk, bif D 11 then (pt v296 x294.Part) else junk, bx 45 b287 x284, rd v286 x284, pt v285 x284, rd v2 p2, pt (vp b31 0) p1, bif D 14 then (bc 91 b38 [v299]) else (bc 91 b38 [v283]), bif D 14 then (own 3 v299 x298) else (own 3 v283 s230), bx 39 b226 x223, rd v41 p1.Nets, rd v228 x223.Pins]) rfl rfl (by decide) (by decide)
    have hw := hw.altT (i := 4) (b := true) rfl rfl (junk)
    refine RL.nil ?_
    exact ⟨rfl, v288, v289, v291, v292, v304, v295, v296, v299, hv.put 9 rfl rfl, ha.up rfl, hw⟩
   ·rintro D σ w hD hdep hcl ⟨v288, v289, v291, v292, v293, v295, v296, v299, hv, ha, hw⟩
    obtain ⟨τ, rfl⟩ := (ac (hv.at 9 rfl (hdep.1 rfl)) az).ups
    have hw := hw.selT (i := 4) rfl (hdep.1 rfl)
    have hw := hw.selF (i := 5) rfl hD
    refine RL.ia_rd (i := 4) trivial rfl hw rfl rfl rfl sl37 hx294 fun v305 hw => ?_
    have hw := hw.pick 18 [1, 2, 3, 4, 5, 0, 7, 8, 9, 10, 11, 12, 13, 14, 15, 16, 17] (new := [bif D 1 then (pt v288 p1.Parts) else junk, bif D 2 then (rd v289 p1.Parts) else junk, bif D 6 then (pt v291 p1.Parts) else junk, bif D 7 then (rd v292 p1.Parts) else junk, rd v293 x223.Pins, pt v305 x294, bif D 11 then (pt v296 x294.Part) else junk, bx 45 b287 x284, rd v286 x284, pt v285 x284, rd v2 p2, pt (vp b31 0) p1, bif D 14 then (bc 91 b38 [v299]) else (bc 91 b38 [v283]), bif D 14 then (own 3 v299 x298) else (own 3 v283 s230), bx 39 b226 x223, rd v41 p1.Nets, rd v228 x223.Pins]) rfl rfl (by decide) (by decide)
    have hw := hw.altT (i := 4) (b := D 9) rfl (hdep.1 rfl) (junk)
    have hw := hw.altT (i := 5) (b := true) rfl rfl (junk)
    refine RL.nil ?_
    exact ⟨rfl, v288, v289, v291, v292, v293, v305, v296, v299, hv.put 10 rfl rfl, ha.up rfl, hw⟩
   ·rintro D σ w hD hdep hcl ⟨v288, v289, v291, v292, v293, v295, v296, v299, hv, ha, hw⟩
    obtain ⟨τ, rfl⟩ := (ac (hv.at 10 rfl (hdep.1 rfl)) az).ups
    have hw := hw.selT (i := 5) rfl (hdep.1 rfl)
    have hw := hw.selF (i := 6) rfl hD
    refine RL.fa_pt (i := 5) (f := fun (x : Pin) => x.Part) trivial rfl hw rfl rfl fa45_0 fd_Pin_0 fun v306 hw => ?_
    have hw := hw.pick 18 [1, 2, 3, 4, 5, 6, 0, 8, 9, 10, 11, 12, 13, 14, 15, 16, 17] (new := [bif D 1 then (pt v288 p1.Parts) else junk, bif D 2 then (rd v289 p1.Parts) else junk, bif D 6 then (pt v291 p1.Parts) else junk, bif D 7 then (rd v292 p1.Parts) else junk, bif D 9 then (rd v293 x223.Pins) else junk, pt v295 x294, pt v306 x294.Part, bx 45 b287 x284, rd v286 x284, pt v285 x284, rd v2 p2, pt (vp b31 0) p1, bif D 14 then (bc 91 b38 [v299]) else (bc 91 b38 [v283]), bif D 14 then (own 3 v299 x298) else (own 3 v283 s230), bx 39 b226 x223, rd v41 p1.Nets, rd v228 x223.Pins]) rfl rfl (by decide) (by decide)
    have hw := hw.altT (i := 5) (b := D 10) rfl (hdep.1 rfl) (junk)
    have hw := hw.altT (i := 6) (b := true) rfl rfl (junk)
    refine RL.nil ?_
    exact ⟨rfl, v288, v289, v291, v292, v293, v295, v306, v299, hv.put 11 rfl rfl, ha.up rfl, hw⟩
   ·rintro D σ w hD hdep hcl ⟨v288, v289, v291, v292, v293, v295, v296, v299, hv, ha, hw⟩
    obtain ⟨τ, rfl⟩ := (ac (hv.at 11 rfl (hdep.1 rfl)) az).ups
    have hw := hw.selT (i := 6) rfl (hdep.1 rfl)
    refine RL.load_pts (i := 6) (y := x294.Part) trivial rfl hw rfl rfl ty9 ?_
    have hw := hw.altT (i := 6) (b := D 11) rfl (hdep.1 rfl) (junk)
    refine RL.nil ?_
    exact ⟨rfl, v288, v289, v291, v292, v293, v295, v296, v299, hv.put 12 rfl rfl, ha.up rfl, hw⟩
   ·rintro D σ w hD hdep hcl ⟨v288, v289, v291, v292, v293, v295, v296, v299, hv, ha, hw⟩
    obtain ⟨τ, rfl⟩ := (ac (hv.at 7 rfl (hdep.1 rfl)) (ac (hv.at 12 rfl (hdep.2.1 rfl)) az)).ups
    have hw := hw.selT (i := 3) rfl (hdep.1 rfl)
    refine RL.call trivial rfl fn21 [v292, (str x294.Part)] rfl (Calls_ret (netlist_partAt_ok N (p1 := x294.Part) (i0 := 3) hw rfl hx297) ?_)
    rintro _ w ⟨rfl, hw⟩
    have hw := hw.altT (i := 3) (b := D 7) rfl (hdep.1 rfl) (junk)
    refine RL.nil ?_
    exact ⟨rfl, v288, v289, v291, v292, v293, v295, v296, v299, hv.put 13 rfl rfl, ha.up rfl, hw⟩
   ·rintro D σ w hD hdep hcl ⟨v288, v289, v291, v292, v293, v295, v296, v299, hv, ha, hw⟩
    obtain ⟨τ, rfl⟩ := (ac (hv.at 0 rfl (hdep.1 rfl)) (ac (hv.at 5 rfl (hdep.2.1 rfl)) (ac (hv.at 13 rfl (hdep.2.2.1 rfl)) az))).ups
    have hw := hw.selF (i := 12) rfl hD
    have hw := hw.selF (i := 13) rfl hD
    have hw := hw.pull (i := 13) rfl
    have hw := hw.pull (i := 13) rfl
    refine RL.call trivial rfl fn20 [(vp b38 0), (vi x290), (vi x297)] rfl (Calls_ret (netlist_Union_Join_ok N (p1 := x290) (p2 := x297)  hw  hx298) ?_)
    rintro _ w ⟨v307, rfl, hw⟩
    have hw := hw.pick 19 [2, 3, 4, 5, 6, 7, 8, 9, 10, 11, 12, 13, 0, 1, 16, 17, 18] (new := [bif D 1 then (pt v288 p1.Parts) else junk, bif D 2 then (rd v289 p1.Parts) else junk, bif D 6 then (pt v291 p1.Parts) else junk, bif D 7 then (rd v292 p1.Parts) else junk, bif D 9 then (rd v293 x223.Pins) else junk, bif D 10 then (pt v295 x294) else junk, bif D 11 then (pt v296 x294.Part) else junk, bx 45 b287 x284, rd v286 x284, pt v285 x284, rd v2 p2, pt (vp b31 0) p1, bc 91 b38 [v307], own 3 v307 x298, bx 39 b226 x223, rd v41 p1.Nets, rd v228 x223.Pins]) rfl rfl (by decide) (by decide)
    have hw := hw.altT (i := 12) (b := true) rfl rfl (bc 91 b38 [v283])
    have hw := hw.altT (i := 13) (b := true) rfl rfl (own 3 v283 s230)
    refine RL.nil ?_
    exact ⟨rfl, v288, v289, v291, v292, v293, v295, v296, v307, hv.up rfl, ha.up rfl, hw⟩
   rintro D σ w hall ⟨v288, v289, v291, v292, v293, v295, v296, v299, hv, ha, hw⟩
   rw [hall 1 (by decide), hall 2 (by decide), hall 6 (by decide), hall 7 (by decide), hall 9 (by decide), hall 10 (by decide), hall 11 (by decide), hall 14 (by decide)] at hw
   obtain ⟨τ, rfl⟩ := (ac (ha.at 0 rfl) (ac (ha.at 1 rfl) (ac (ha.at 2 rfl) (ac (ha.at 3 rfl) (ac (ha.at 4 rfl) (ac (ha.at 5 rfl) (ac (ha.at 6 rfl) (ac (ha.at 7 rfl) (ac (ha.at 8 rfl) (ac (ha.at 9 rfl) (ac (ha.at 10 rfl) az))))))))))).ups
   refine blkQ_n ?_
   refine thenQ_n ?_
   refine RC.region ?_
   refine RL.inc trivial rfl hk hm rfl rfl ?_
   refine mv (vi ((k229 + 1 : Nat) : Int)) rfl rfl ?_
   refine RL.nil ?_
   obtain rfl := oi hb
   exact ⟨rfl, v299, ⟨rfl, rfl, rfl, rfl, rfl, rfl, rfl, rfl, rfl, rfl, trivial⟩, hw.pick 17 [10, 11, 12, 13, 14, 15, 16] (new := [rd v2 p2, pt (vp b31 0) p1, bc 91 b38 [v299], own 3 v299 x298, bx 39 b226 x223, rd v41 p1.Nets, rd v228 x223.Pins]) rfl rfl (by decide) (by decide)⟩
  intro σ w hJ
  obtain ⟨v282, ha, hw⟩ := hJ
  obtain ⟨τ, rfl⟩ := ha.ups
  refine blkQ_n ?_
  refine thenQ_n ?_
  refine RC.region ?_
  refine RL.inc trivial rfl hk hm rfl rfl ?_
  refine mv (vi ((k42 + 1 : Nat) : Int)) rfl rfl ?_
  refine RL.nil ?_
  obtain rfl := oi hb
  exact ⟨rfl, v282, ⟨rfl, rfl, rfl, rfl, rfl, rfl, trivial⟩, hw.pick 7 [0, 1, 2, 3, 5] (new := [rd v2 p2, pt (vp b31 0) p1, bc 91 b38 [v282], own 3 v282 s230, rd v41 p1.Nets]) rfl rfl (by decide) (by decide)⟩
 intro σ w hJ
 obtain ⟨v221, ha, hw⟩ := hJ
 obtain ⟨τ, rfl⟩ := ha.ups
 refine thenQ_n ?_
 refine RC.sr ?_
 refine as_ (.slice none 0 0) rfl rfl ?_
 refine RL.nq ?_
 refine RC.sr ?_
 refine mv (vp b38 0) rfl rfl ?_
 have hw := hw.pull (i := 3) rfl
 have hw := hw.pull (i := 3) rfl
 obtain ⟨x311, hx311, hb⟩ := bd hb
 refine RL.call trivial rfl fn22 [(vp b38 0)] rfl (Calls_ret (netlist_Union_Sets_ok N   hw  hx311) ?_)
 rintro v312 w ⟨_, v313, rfl, hw⟩
 refine RL.len_own (i := 0) (l := x311.1) trivial rfl hw rfl rfl un59 ?_
 refine mv (vi 0) rfl rfl ?_
 refine RL.nt ?_
 obtain ⟨s315, hN, hb⟩ := bd hb
 refine RC.fold (fun (k314 : Nat) (s315 : (List (List Str))) (σ : Nat → Value) (w : World) => ∃ v406 : Value, agree σ [(4, (vp b31 0)), (15, v406), (73, v312), (74, (vi (x311.1.length : Int))), (75, (vi (k314 : Int)))] ∧ Holds E w ([pt (vp b31 0) p1, own 61 v312 x311.1, own 27 v406 s315] ++ Γ)) (fun (s315 : (List (List Str))) (σ : Nat → Value) (w : World) => ∃ v407 : Value, agree σ [(15, v407)] ∧ Holds E w ([pt (vp b31 0) p1, own 61 v312 x311.1, own 27 v407 s315] ++ Γ)) hN ?_ ?_ ?_ ?_
 ·have hw := hw.own_nil (List Str) 27
  exact ⟨(.slice none 0 0), ⟨rfl, rfl, rfl, rfl, rfl, trivial⟩, hw.pick 9 [5, 1, 0] (new := [pt (vp b31 0) p1, own 61 v312 x311.1, own 27 (.slice none 0 0) ([] : (List (List Str)))]) rfl rfl (by decide) (by decide)⟩
 ·intro hm s315 σ w hI
  obtain ⟨v453, ha, hw⟩ := hI
  obtain ⟨τ, rfl⟩ := ha.ups
  refine RC.sr ?_
  refine ic ((x311.1.length : Int)) ((x311.1.length : Int)) rfl rfl rfl rfl ?_
  refine RL.nq ?_
  refine RC.cond_f dge ?_
  refine RC.ex ?_
  exact ⟨rfl, v453, ⟨rfl, trivial⟩, hw.pick 3 [0, 1, 2] (new := [pt (vp b31 0) p1, own 61 v312 x311.1, own 27 v453 s315]) rfl rfl (by decide) (by decide)⟩
 ·intro hm k314 s315 s' σ w hk hI hb
  obtain ⟨v408, ha, hw⟩ := hI
  obtain ⟨τ, rfl⟩ := ha.ups
  refine RC.sr ?_
  refine ic ((k314 : Int)) ((x311.1.length : Int)) rfl rfl rfl rfl ?_
  refine RL.nq ?_
  refine RC.cond_t (dlt hk) ?_
  refine RC.ss ?_
  refine RC.bs ?_
  obtain ⟨x409, hx409, hb⟩ := bd hb
  refine RL.ia_ownA (i := 1) trivial rfl hw rfl rfl rfl sl59 hx409 ?_
  refine RL.load_el (i := 1) (f := (fun x => x)) trivial rfl hw rfl (elp hw (i := 1) rfl hx409 0) rfl (idx_some hx409).2.1 Fd.self ty61 fun v410 hw => ?_
  refine as_ v410 rfl rfl ?_
  refine RL.ns ?_
  refine as_ (.slice none 0 0) rfl rfl ?_
  refine RL.nq ?_
  refine RC.sr ?_
  refine mv v410 rfl rfl ?_
  refine RL.len_rd (i := 0) (l := x409) trivial rfl hw rfl rfl un61 ?_
  refine mv (vi 0) rfl rfl ?_
  refine RL.nt ?_
  obtain ⟨s412, hN, hb⟩ := bd hb
  refine RC.fold (fun (k411 : Nat) (s412 : (List Str)) (σ : Nat → Value) (w : World) => ∃ v435 : Value, agree σ [(4, (vp b31 0)), (15, v408), (18, v435), (73, v312), (74, (vi (x311.1.length : Int))), (75, (vi (k314 : Int))), (79, v410), (80, (vi (x409.length : Int))), (81, (vi (k411 : Int)))] ∧ Holds E w ([pt (vp b31 0) p1, own 27 v408 s315, own 61 v312 x311.1, rd v410 x409, own 9 v435 s412] ++ Γ)) (fun (s412 : (List Str)) (σ : Nat → Value) (w : World) => ∃ v436 : Value, agree σ [(4, (vp b31 0)), (15, v408), (18, v436), (73, v312), (74, (vi (x311.1.length : Int))), (75, (vi (k314 : Int)))] ∧ Holds E w ([pt (vp b31 0) p1, own 27 v408 s315, own 61 v312 x311.1, rd v410 x409, own 9 v436 s412] ++ Γ)) hN ?_ ?_ ?_ ?_
  ·have hw := hw.own_nil Str 9
   exact ⟨(.slice none 0 0), ⟨rfl, rfl, rfl, rfl, rfl, rfl, rfl, rfl, rfl, trivial⟩, hw.pick 5 [2, 4, 3, 1, 0] (new := [pt (vp b31 0) p1, own 27 v408 s315, own 61 v312 x311.1, rd v410 x409, own 9 (.slice none 0 0) ([] : (List Str))]) rfl rfl (by decide) (by decide)⟩
  ·intro hm s412 σ w hI
   obtain ⟨v448, ha, hw⟩ := hI
   obtain ⟨τ, rfl⟩ := ha.ups
   refine RC.sr ?_
   refine ic ((x409.length : Int)) ((x409.length : Int)) rfl rfl rfl rfl ?_
   refine RL.nq ?_
   refine RC.cond_f dge ?_
   refine RC.ex ?_
   exact ⟨rfl, v448, ⟨rfl, rfl, rfl, rfl, rfl, rfl, trivial⟩, hw.pick 5 [0, 1, 2, 3, 4] (new := [pt (vp b31 0) p1, own 27 v408 s315, own 61 v312 x311.1, rd v410 x409, own 9 v448 s412]) rfl rfl (by decide) (by decide)⟩
  ·intro hm k411 s412 s' σ w hk hI hb
   obtain ⟨v437, ha, hw⟩ := hI
   obtain ⟨τ, rfl⟩ := ha.ups
   refine RC.sr ?_
   refine ic ((k411 : Int)) ((x409.length : Int)) rfl rfl rfl rfl ?_
   refine RL.nq ?_
   refine RC.cond_t (dlt hk) ?_
   refine RC.ss ?_
   refine RC.bs ?_
   obtain ⟨x438, hx438, hb⟩ := bd hb
   refine RL.ia_rd (i := 3) trivial rfl hw rfl rfl rfl sl61 hx438 fun v439 hw => ?_
   refine RL.load_pts (i := 0) (y := x438) trivial rfl hw rfl rfl ty3 ?_
   refine as_ (vi x438) rfl rfl ?_
   refine RL.nt ?_
   refine RC.region ?_
   refine mv v437 rfl rfl ?_
   refine RL.fa_pt (i := 1) (f := fun (x : Netlist) => x.Parts) trivial rfl hw rfl rfl fa26_0 fd_Netlist_0 fun v440 hw => ?_
   refine RL.load_pt (i := 0) (x := p1.Parts) trivial rfl hw rfl rfl ty23 fun v441 hw => ?_
   refine mv (vi x438) rfl rfl ?_
   obtain ⟨x442, hx442, hb⟩ := bd hb
   refine RL.ia_rd (i := 0) trivial rfl hw rfl rfl rfl sl23 hx442 fun v443 hw => ?_
   refine RL.fa_pt (i := 0) (f := fun (x : Part) => x.Name) trivial rfl hw rfl rfl fa36_0 fd_Part_0 fun v444 hw => ?_
   refine RL.load_pts (i := 0) (y := x442.Name) trivial rfl hw rfl rfl ty9 ?_
   have hw := hw.sc (γ := Str) x442.Name
   refine RL.bslice (l := ([x442.Name] : (List Str))) trivial rfl hw [(str x442.Name)] rfl rfl rfl sl27 ze9 (fun M hs g => ⟨(g.sat 0 _ rfl).1, trivial⟩) fun v445 w hw => ?_
   have hw := hw.freeze (i := 0) rfl
   obtain ⟨x446, hx446, hb⟩ := bd hb
   refine RL.app (i := 11) (j := 0) trivial rfl hw rfl rfl rfl rfl el27 hx446 fun v447 w hw => ?_
   refine as_ v447 rfl rfl ?_
   refine RL.nil ?_
   refine blkQ_n ?_
   refine thenQ_n ?_
   refine RC.region ?_
   refine RL.inc trivial rfl hk hm rfl rfl ?_
   refine mv (vi ((k411 + 1 : Nat) : Int)) rfl rfl ?_
   refine RL.nil ?_
   obtain rfl := oi hb
   exact ⟨rfl, v447, ⟨rfl, rfl, rfl, rfl, rfl, rfl, rfl, rfl, rfl, trivial⟩, hw.pick 12 [7, 8, 9, 10, 11] (new := [pt (vp b31 0) p1, own 27 v408 s315, own 61 v312 x311.1, rd v410 x409, own 9 v447 x446]) rfl rfl (by decide) (by decide)⟩
  intro σ w hJ
  obtain ⟨v436, ha, hw⟩ := hJ
  obtain ⟨τ, rfl⟩ := ha.ups
  refine thenQ_n ?_
  refine RC.region ?_
  refine mv v408 rfl rfl ?_
  refine mv v436 rfl rfl ?_
  have hw := hw.freeze (i := 4) rfl
  refine RL.bslice (l := ([s412] : (List (List Str)))) trivial rfl hw [v436] rfl rfl rfl sl28 ze27 (fun M hs g => ⟨(g.sat 4 _ rfl).1, trivial⟩) fun v449 w hw => ?_
  have hw := hw.freeze (i := 0) rfl
  obtain ⟨x450, hx450, hb⟩ := bd hb
  refine RL.app (i := 2) (j := 0) trivial rfl hw rfl rfl rfl rfl el28 hx450 fun v451 w hw => ?_
  refine as_ v451 rfl rfl ?_
  refine RL.nil ?_
  refine blkQ_n ?_
  refine thenQ_n ?_
  refine RC.region ?_
  refine RL.inc trivial rfl hk hm rfl rfl ?_
  refine mv (vi ((k314 + 1 : Nat) : Int)) rfl rfl ?_
  refine RL.nil ?_
  obtain rfl := oi hb
  exact ⟨rfl, v451, ⟨rfl, rfl, rfl, rfl, rfl, trivial⟩, hw.pick 6 [1, 3, 2] (new := [pt (vp b31 0) p1, own 61 v312 x311.1, own 27 v451 x450]) rfl rfl (by decide) (by decide)⟩
 intro σ w hJ
 obtain ⟨v407, ha, hw⟩ := hJ
 obtain ⟨τ, rfl⟩ := ha.ups
 refine thenQ_n ?_
 refine RC.sr ?_
 refine mv v407 rfl rfl ?_
 refine as_ v407 rfl rfl ?_
 refine as_ (vi 0) rfl rfl ?_
 refine RL.nt ?_
 refine RC.ret ?_
 obtain rfl := oi hb
 exact fin2 rfl rfl rfl ⟨v407, rfl, hw.pick 3 [2] (new := [own 27 v407 s315]) rfl rfl (by decide) (by decide)⟩
def slices_Grow_string_nil_R (E : World) (Γ : List HP) (res : (List Str)) (v : Value) (w : World) : Prop := Holds E w (own 9 v res :: Γ)
def slices_Grow_string_nil_K (E : World) (Γ : List HP) (r : (List Str)) (σ : Nat → Value) (w : World) : Prop := finQ Tryd.prog 27 Tryd.f24 (slices_Grow_string_nil_R E Γ r) .ret σ w
theorem slices_Grow_string_nil_ok (N : Nat) {E w : World} {Γ : List HP} {p1 : Int} {res : (List Str)} (hw : Holds E w Γ)  (hb : slices_Grow_string_nil N p1 = some res) :
    Calls Tryd.prog 24 [(.slice none 0 0), (vi p1)].toArray w (Ret (slices_Grow_string_nil_R E Γ res)) := by
 unfold slices_Grow_string_nil at hb
 refine enter Tryd.func24 rfl rfl (Nat.le_of_ble_eq_true rfl) ?_
 refine RC.sr ?_
 refine as_ (.slice none 0 0) rfl rfl ?_
 refine RL.nq ?_
 refine RC.sr ?_
 refine mv (vi p1) rfl rfl ?_
 refine ic p1 0 rfl rfl rfl rfl ?_
 refine RL.nt ?_
 refine RC.cond (b := (decide (p1 < 0))) rfl (fun hc => ?_) (fun hc => ?_)
 ·replace hb := cT hc hb
  cases hb
 replace hb := cF hc hb
 refine RC.ss ?_
 refine RC.sr ?_
 refine mv (vi p1) rfl rfl ?_
 refine mv (.slice none 0 0) rfl rfl ?_
 refine RL.cap_nil trivial rfl rfl un27 ?_
 refine mv (.slice none 0 0) rfl rfl ?_
 refine RL.lenl (m := 0) trivial rfl rfl un27 ?_
 refine RL.iar (a := ((0 : Nat) : Int)) (b := ((0 : Nat) : Int)) trivial rfl rfl rfl rfl ?_
 refine RL.iar (a := p1) (b := (IntKind.wrap .i64 (((0 : Nat) : Int) - ((0 : Nat) : Int)))) trivial rfl rfl rfl rfl ?_
 refine as_ (vi (IntKind.wrap .i64 (p1 - (IntKind.wrap .i64 (((0 : Nat) : Int) - ((0 : Nat) : Int)))))) rfl rfl ?_
 refine RL.ns ?_
 refine mv (vi (IntKind.wrap .i64 (p1 - (IntKind.wrap .i64 (((0 : Nat) : Int) - ((0 : Nat) : Int)))))) rfl rfl ?_
 refine ic ((IntKind.wrap .i64 (p1 - (IntKind.wrap .i64 (((0 : Nat) : Int) - ((0 : Nat) : Int)))))) 0 rfl rfl rfl rfl ?_
 refine RL.nt ?_
 obtain ⟨s35, hj, hb⟩ := bd hb
 refine RC.jn (fun (s35 : (List Str)) (σ : Nat → Value) (w : World) => ∃ v36 : Value, agree σ [(0, v36)] ∧ Holds E w ([own 9 v36 s35] ++ Γ)) s35 ?_ ?_
 ·refine RC.cond (b := (decide ((IntKind.wrap .i64 (p1 - (IntKind.wrap .i64 (((0 : Nat) : Int) - ((0 : Nat) : Int))))) > 0))) rfl (fun hc => ?_) (fun hc => ?_)
  rotate_left
  ·replace hj := cF hc hj
   refine RC.skip ?_
   obtain rfl := oi hj
   have hw := hw.own_nil Str 9
   exact ⟨rfl, (.slice none 0 0), ⟨rfl, trivial⟩, hw.pick 1 [0] (new := [own 9 (.slice none 0 0) ([] : (List Str))]) rfl rfl (by decide) (by decide)⟩
  replace hj := cT hc hj
  refine RC.region ?_
  refine mv (.slice none 0 0) rfl rfl ?_
  refine mv (.slice none 0 0) rfl rfl ?_
  refine RL.cap_nil trivial rfl rfl un27 ?_
  refine RL.cut_nil Str trivial rfl rfl sl27 (.inr ⟨rfl, rfl⟩) (.inl rfl) rfl rfl ?_
  refine mv (vi (IntKind.wrap .i64 (p1 - (IntKind.wrap .i64 (((0 : Nat) : Int) - ((0 : Nat) : Int)))))) rfl rfl ?_
  obtain ⟨x37, hx37, hj⟩ := bd hj
  refine RL.appz_nil (k := (IntKind.wrap .i64 (p1 - (IntKind.wrap .i64 (((0 : Nat) : Int) - ((0 : Nat) : Int)))))) trivial rfl hw rfl rfl el27 un3 zd9 hx37 fun v38 w hw => ?_
  refine mv (.slice none 0 0) rfl rfl ?_
  refine RL.lenl (m := 0) trivial rfl rfl un27 ?_
  obtain ⟨x39, hx39, hj⟩ := bd hj
  refine RL.cut_own (i := 0) trivial rfl hw rfl rfl sl27 (.inr ⟨rfl, rfl⟩) (.inl rfl) hx39 fun v40 hw => ?_
  refine as_ v40 rfl rfl ?_
  refine RL.nil ?_
  obtain rfl := oi hj
  exact ⟨rfl, v40, ⟨rfl, trivial⟩, hw.pick 1 [0] (new := [own 9 v40 x39]) rfl rfl (by decide) (by decide)⟩
 rintro σ w ⟨v36, ha, hw⟩
 obtain ⟨τ, rfl⟩ := ha.ups
 refine thenQ_n ?_
 refine RC.sr ?_
 refine mv v36 rfl rfl ?_
 refine as_ v36 rfl rfl ?_
 refine RL.nt ?_
 refine RC.ret ?_
 obtain rfl := oi hb
 exact fin1 rfl rfl (hw.pick 1 [0] (new := [own 9 v36 s35]) rfl rfl (by decide) (by decide))
def slices_Concat_string_R (E : World) (Γ : List HP) (res : (List Str)) (v : Value) (w : World) : Prop := Holds E w (own 9 v res :: Γ)
def slices_Concat_string_K (E : World) (Γ : List HP) (r : (List Str)) (σ : Nat → Value) (w : World) : Prop := finQ Tryd.prog 36 Tryd.f7 (slices_Concat_string_R E Γ r) .ret σ w
theorem slices_Concat_string_ok (N : Nat) {E w : World} {Γ : List HP} {i0 : Nat} {v0 : Value} {p0 : (List (List Str))} {res : (List Str)} (hw : Holds E w Γ) (h0 : Γ[i0]? = some (rd v0 p0)) (hb : slices_Concat_string N p0 = some res) :
    Calls Tryd.prog 7 [v0].toArray w (Ret (slices_Concat_string_R E Γ res)) := by
 unfold slices_Concat_string at hb
 refine enter Tryd.func7 rfl rfl (Nat.le_of_ble_eq_true rfl) ?_
 have hw := hw.dup (i := i0 + 0) h0
 refine RC.sr ?_
 refine as_ (.slice none 0 0) rfl rfl ?_
 refine RL.ns ?_
 refine as_ (vi 0) rfl rfl ?_
 refine RL.nq ?_
 refine RC.sr ?_
 refine mv v0 rfl rfl ?_
 refine RL.len_rd (i := 0) (l := p0) trivial rfl hw rfl rfl un28 ?_
 refine mv (vi 0) rfl rfl ?_
 refine RL.nt ?_
 obtain ⟨s32, hN, hb⟩ := bd hb
 refine RC.fold (fun (k31 : Nat) (s32 : Int) (σ : Nat → Value) (w : World) => agree σ [(0, v0), (3, (vi s32)), (9, v0), (10, (vi (p0.length : Int))), (11, (vi (k31 : Int)))] ∧ Holds E w ([rd v0 p0] ++ Γ)) (fun (s32 : Int) (σ : Nat → Value) (w : World) => agree σ [(0, v0), (3, (vi s32))] ∧ Holds E w ([rd v0 p0] ++ Γ)) hN ?_ ?_ ?_ ?_
 ·exact ⟨⟨rfl, rfl, rfl, rfl, rfl, trivial⟩, hw.pick 1 [0] (new := [rd v0 p0]) rfl rfl (by decide) (by decide)⟩
 ·intro hm s32 σ w hI
  obtain ⟨ha, hw⟩ := hI
  obtain ⟨τ, rfl⟩ := ha.ups
  refine RC.sr ?_
  refine ic ((p0.length : Int)) ((p0.length : Int)) rfl rfl rfl rfl ?_
  refine RL.nq ?_
  refine RC.cond_f dge ?_
  refine RC.ex ?_
  exact ⟨rfl, ⟨rfl, rfl, trivial⟩, hw.pick 1 [0] (new := [rd v0 p0]) rfl rfl (by decide) (by decide)⟩
 ·intro hm k31 s32 s' σ w hk hI hb
  obtain ⟨ha, hw⟩ := hI
  obtain ⟨τ, rfl⟩ := ha.ups
  refine RC.sr ?_
  refine ic ((k31 : Int)) ((p0.length : Int)) rfl rfl rfl rfl ?_
  refine RL.nq ?_
  refine RC.cond_t (dlt hk) ?_
  refine RC.ss ?_
  refine RC.bs ?_
  obtain ⟨x39, hx39, hb⟩ := bd hb
  refine RL.ia_rd (i := 0) trivial rfl hw rfl rfl rfl sl28 hx39 fun v40 hw => ?_
  refine RL.load_pt (i := 0) (x := x39) trivial rfl hw rfl rfl ty27 fun v41 hw => ?_
  refine as_ v41 rfl rfl ?_
  refine RL.ns ?_
  refine mv (vi s32) rfl rfl ?_
  refine mv v41 rfl rfl ?_
  refine RL.len_rd (i := 0) (l := x39) trivial rfl hw rfl rfl un27 ?_
  refine RL.iar (a := s32) (b := (x39.length : Int)) trivial rfl rfl rfl rfl ?_
  refine as_ (vi (IntKind.wrap .i64 (s32 + (x39.length : Int)))) rfl rfl ?_
  refine RL.ns ?_
  refine mv (vi (IntKind.wrap .i64 (s32 + (x39.length : Int)))) rfl rfl ?_
  refine ic ((IntKind.wrap .i64 (s32 + (x39.length : Int)))) 0 rfl rfl rfl rfl ?_
  refine RL.nt ?_
  refine RC.cond (b := (decide ((IntKind.wrap .i64 (s32 + (x39.length : Int))) < 0))) rfl (fun hc => ?_) (fun hc => ?_)
  ·replace hb := cT hc hb
   cases hb
  replace hb := cF hc hb
  refine RC.skip ?_
  refine blkQ_n ?_
  refine thenQ_n ?_
  refine RC.region ?_
  refine RL.inc trivial rfl hk hm rfl rfl ?_
  refine mv (vi ((k31 + 1 : Nat) : Int)) rfl rfl ?_
  refine RL.nil ?_
  obtain rfl := oi hb
  exact ⟨rfl, ⟨rfl, rfl, rfl, rfl, rfl, trivial⟩, hw.pick 3 [2] (new := [rd v0 p0]) rfl rfl (by decide) (by decide)⟩
 intro σ w hJ
 obtain ⟨ha, hw⟩ := hJ
 obtain ⟨τ, rfl⟩ := ha.ups
 refine thenQ_n ?_
 refine RC.sr ?_
 refine mv (vi s32) rfl rfl ?_
 obtain ⟨x42, hx42, hb⟩ := bd hb
 refine RL.call trivial rfl fn24 [(.slice none 0 0), (vi s32)] rfl (Calls_ret (slices_Grow_string_nil_ok N (p1 := s32)  hw  hx42) ?_)
 rintro v43 w hw
 refine as_ v43 rfl rfl ?_
 refine RL.nq ?_
 refine RC.sr ?_
 refine mv v0 rfl rfl ?_
 refine RL.len_rd (i := 1) (l := p0) trivial rfl hw rfl rfl un28 ?_
 refine mv (vi 0) rfl rfl ?_
 refine RL.nt ?_
 obtain ⟨s45, hN, hb⟩ := bd hb
 refine RC.fold (fun (k44 : Nat) (s45 : (List Str)) (σ : Nat → Value) (w : World) => ∃ v58 : Value, agree σ [(6, v58), (25, v0), (26, (vi (p0.length : Int))), (27, (vi (k44 : Int)))] ∧ Holds E w ([rd v0 p0, own 9 v58 s45] ++ Γ)) (fun (s45 : (List Str)) (σ : Nat → Value) (w : World) => ∃ v59 : Value, agree σ [(6, v59)] ∧ Holds E w ([rd v0 p0, own 9 v59 s45] ++ Γ)) hN ?_ ?_ ?_ ?_
 ·exact ⟨v43, ⟨rfl, rfl, rfl, rfl, trivial⟩, hw.pick 2 [1, 0] (new := [rd v0 p0, own 9 v43 x42]) rfl rfl (by decide) (by decide)⟩
 ·intro hm s45 σ w hI
  obtain ⟨v66, ha, hw⟩ := hI
  obtain ⟨τ, rfl⟩ := ha.ups
  refine RC.sr ?_
  refine ic ((p0.length : Int)) ((p0.length : Int)) rfl rfl rfl rfl ?_
  refine RL.nq ?_
  refine RC.cond_f dge ?_
  refine RC.ex ?_
  exact ⟨rfl, v66, ⟨rfl, trivial⟩, hw.pick 2 [0, 1] (new := [rd v0 p0, own 9 v66 s45]) rfl rfl (by decide) (by decide)⟩
 ·intro hm k44 s45 s' σ w hk hI hb
  obtain ⟨v60, ha, hw⟩ := hI
  obtain ⟨τ, rfl⟩ := ha.ups
  refine RC.sr ?_
  refine ic ((k44 : Int)) ((p0.length : Int)) rfl rfl rfl rfl ?_
  refine RL.nq ?_
  refine RC.cond_t (dlt hk) ?_
  refine RC.ss ?_
  refine RC.bs ?_
  obtain ⟨x61, hx61, hb⟩ := bd hb
  refine RL.ia_rd (i := 0) trivial rfl hw rfl rfl rfl sl28 hx61 fun v62 hw => ?_
  refine RL.load_pt (i := 0) (x := x61) trivial rfl hw rfl rfl ty27 fun v63 hw => ?_
  refine as_ v63 rfl rfl ?_
  refine RL.nt ?_
  refine RC.region ?_
  refine mv v60 rfl rfl ?_
  refine mv v63 rfl rfl ?_
  obtain ⟨x64, hx64, hb⟩ := bd hb
  refine RL.app (i := 3) (j := 0) trivial rfl hw rfl rfl rfl rfl el27 hx64 fun v65 w hw => ?_
  refine as_ v65 rfl rfl ?_
  refine RL.nil ?_
  refine blkQ_n ?_
  refine thenQ_n ?_
  refine RC.region ?_
  refine RL.inc trivial rfl hk hm rfl rfl ?_
  refine mv (vi ((k44 + 1 : Nat) : Int)) rfl rfl ?_
  refine RL.nil ?_
  obtain rfl := oi hb
  exact ⟨rfl, v65, ⟨rfl, rfl, rfl, rfl, trivial⟩, hw.pick 4 [2, 3] (new := [rd v0 p0, own 9 v65 x64]) rfl rfl (by decide) (by decide)⟩
 intro σ w hJ
 obtain ⟨v59, ha, hw⟩ := hJ
 obtain ⟨τ, rfl⟩ := ha.ups
 refine thenQ_n ?_
 refine RC.sr ?_
 refine mv v59 rfl rfl ?_
 refine as_ v59 rfl rfl ?_
 refine RL.nt ?_
 refine RC.ret ?_
 obtain rfl := oi hb
 exact fin1 rfl rfl (hw.pick 2 [1] (new := [own 9 v59 s45]) rfl rfl (by decide) (by decide))
end Go.Gk
