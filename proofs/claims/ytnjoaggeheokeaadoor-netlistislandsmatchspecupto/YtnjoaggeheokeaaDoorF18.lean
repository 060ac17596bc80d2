/-
  Printed by gen.py: Go functions as plain functions, and that they are.
-/
import Derived.Test.YtnjoaggeheokeaaDoorT
import Derived.Test.YtnjoaggeheokeaaDoorF4
import Derived.Test.YtnjoaggeheokeaaDoorF5
import Derived.Test.YtnjoaggeheokeaaDoorF8
import Derived.Test.YtnjoaggeheokeaaDoorF13
import Derived.Test.YtnjoaggeheokeaaDoorF17
set_option linter.unusedVariables false
set_option linter.unusedSimpArgs false
set_option linter.unusedSectionVars false
set_option maxRecDepth 100000
set_option maxHeartbeats 4000000

namespace Go.Gk
open Go Go.Proofs
def etchhouseref2_checkNetNames_R (E : World) (Γ : List HP) (res : Int) (v : Value) (w : World) : Prop := v = (vi res) ∧ Holds E w Γ
def etchhouseref2_checkNetNames_K (E : World) (Γ : List HP) (r : Int) (σ : Nat → Value) (w : World) : Prop := finQ Tryd.prog 33 Tryd.f92 (etchhouseref2_checkNetNames_R E Γ r) .ret σ w
theorem etchhouseref2_checkNetNames_ok (N : Nat) {E w : World} {Γ : List HP} {i0 : Nat} {v0 : Value} {p0 : Netlist} {i1 : Nat} {v1 : Value} {p1 : (List Str)} {res : Int} (hw : Holds E w Γ) (h0 : Γ[i0]? = some (rd v0 p0)) (h1 : Γ[i1]? = some (rd v1 p1)) (hb : etchhouseref2_checkNetNames N p0 p1 = some res) :
    Calls Tryd.prog 92 [v0, v1].toArray w (Ret (etchhouseref2_checkNetNames_R E Γ res)) := by
 unfold etchhouseref2_checkNetNames at hb
 refine enter Tryd.func92 rfl rfl (Nat.le_of_ble_eq_true rfl) ?_
 have hw := hw.dup (i := i0 + 0) h0
 have hw := hw.dup (i := i1 + 1) h1
 refine RC.sr ?_
 refine RL.box_rd (i := 1) (v := v0) trivial rfl hw rfl rfl fun b31 w hw => ?_
 refine as_ (vi 0) rfl rfl ?_
 refine RL.nq ?_
 refine RC.sr ?_
 refine mv v1 rfl rfl ?_
 refine RL.len_rd (i := 1) (l := p1) trivial rfl hw rfl rfl un55 ?_
 refine ic ((p1.length : Int)) 1000 rfl rfl rfl rfl ?_
 refine RL.nt ?_
 refine RC.cond (b := (decide ((p1.length : Int) > 1000))) rfl (fun hc => ?_) (fun hc => ?_)
 ·replace hb := cT hc hb
  refine RC.sr ?_
  refine as_ (vi 2) rfl rfl ?_
  refine RL.nt ?_
  refine RC.rt ?_
  obtain rfl := oi hb
  exact fin1 rfl rfl ⟨rfl, hw.drop 3 rfl⟩
 replace hb := cF hc hb
 refine RC.ss ?_
 refine RC.sr ?_
 refine mv v1 rfl rfl ?_
 refine RL.len_rd (i := 1) (l := p1) trivial rfl hw rfl rfl un55 ?_
 refine mv (vi 0) rfl rfl ?_
 refine RL.nt ?_
 obtain ⟨o56, hN, hb⟩ := bd hb
 refine RC.range (fun (k32 : Nat) (s33 : Unit) (σ : Nat → Value) (w : World) => agree σ [(1, v1), (2, (vp b31 0)), (10, v1), (11, (vi (p1.length : Int))), (12, (vi (k32 : Int)))] ∧ Holds E w ([rd v1 p1, bx 26 b31 p0] ++ Γ)) (fun (s33 : Unit) (σ : Nat → Value) (w : World) => agree σ [] ∧ Holds E w ([rd v1 p1, bx 26 b31 p0] ++ Γ)) (etchhouseref2_checkNetNames_K E Γ) hN ?_ ?_ ?_ ?_ ?_ 
 ·exact ⟨⟨rfl, rfl, rfl, rfl, rfl, trivial⟩, hw.pick 3 [1, 0] (new := [rd v1 p1, bx 26 b31 p0]) rfl rfl (by decide) (by decide)⟩
 ·intro hm s33 σ w hI
  obtain ⟨ha, hw⟩ := hI
  obtain ⟨τ, rfl⟩ := ha.ups
  refine RC.sr ?_
  refine ic ((p1.length : Int)) ((p1.length : Int)) rfl rfl rfl rfl ?_
  refine RL.nq ?_
  refine RC.cond_f dge ?_
  refine RC.ex ?_
  exact ⟨rfl, trivial, hw.pick 2 [0, 1] (new := [rd v1 p1, bx 26 b31 p0]) rfl rfl (by decide) (by decide)⟩
 ·intro hm k32 s33 fl σ w hk hI hb
  obtain ⟨ha, hw⟩ := hI
  obtain ⟨τ, rfl⟩ := ha.ups
  refine RC.sr ?_
  refine ic ((k32 : Int)) ((p1.length : Int)) rfl rfl rfl rfl ?_
  refine RL.nq ?_
  refine RC.cond_t (dlt hk) ?_
  refine RC.ss ?_
  refine RC.bs ?_
  refine mv (vi (k32 : Int)) rfl rfl ?_
  obtain ⟨x45, hx45, hb⟩ := bd hb
  refine RL.ia_rd (i := 0) trivial rfl hw rfl rfl rfl sl55 hx45 fun v46 hw => ?_
  refine RL.load_pts (i := 0) (y := x45) trivial rfl hw rfl rfl ty9 ?_
  refine as_ (vi (k32 : Int)) rfl rfl ?_
  refine as_ (str x45) rfl rfl ?_
  refine RL.nq ?_
  refine RC.sr ?_
  refine RL.load_bf (i := 2) (f := (fun x => x)) trivial rfl hw rfl rfl Fd.self ty26 fun v47 hw => ?_
  refine mv (str x45) rfl rfl ?_
  obtain ⟨x48, hx48, hb⟩ := bd hb
  refine RL.call trivial rfl fn129 [v47, (str x45)] rfl (Calls_ret (etchhouseref2_netNamed_ok N (p1 := x45) (i0 := 0) hw rfl hx48) ?_)
  rintro _ w ⟨rfl, hw⟩
  refine ic x48 0 rfl rfl rfl rfl ?_
  refine RL.nt ?_
  refine RC.cond (b := (decide (x48 < 0))) rfl (fun hc => ?_) (fun hc => ?_)
  ·replace hb := cT hc hb
   refine RC.sr ?_
   refine as_ (vi 9) rfl rfl ?_
   refine RL.nt ?_
   refine RC.rt ?_
   refine blkQ_r ?_
   refine thenQ_r ?_
   obtain rfl := oi hb
   exact ⟨rfl, fin1 rfl rfl ⟨rfl, hw.drop 4 rfl⟩⟩
  replace hb := cF hc hb
  refine RC.ss ?_
  obtain ⟨s52, hj, hb⟩ := bd hb
  refine RC.jn (fun (s52 : Bool) (σ : Nat → Value) (w : World) => agree σ [(1, v1), (2, (vp b31 0)), (10, v1), (11, (vi (p1.length : Int))), (12, (vi (k32 : Int))), (31, (vb s52))] ∧ Holds E w ([rd v1 p1, bx 26 b31 p0] ++ Γ)) s52 ?_ ?_
  ·refine RC.region ?_
   refine mv (vi (k32 : Int)) rfl rfl ?_
   refine ic ((k32 : Int)) 0 rfl rfl rfl rfl ?_
   refine mv (vb (decide ((k32 : Int) > 0))) rfl rfl ?_
   rcases Bool.eq_false_or_eq_true (decide ((k32 : Int) > 0)) with hg53 | hg53
   rotate_left
   ·replace hj := cF hg53 hj
    refine sk rfl (.inl (cb hg53)) rfl ?_
    refine sk rfl (.inl (cb hg53)) rfl ?_
    refine sk rfl (.inl (cb hg53)) rfl ?_
    refine sk rfl (.inl (cb hg53)) rfl ?_
    refine sk rfl (.inl (cb hg53)) rfl ?_
    refine sk rfl (.inl (cb hg53)) rfl ?_
    refine sk rfl (.inl (cb hg53)) rfl ?_
    refine RL.pick (b := (decide ((k32 : Int) > 0))) (v := (vb false)) trivial rfl rfl (by rw [hg53]; rfl) ?_
    refine RL.nil ?_
    obtain rfl := oi hj
    exact ⟨rfl, ⟨rfl, rfl, rfl, rfl, rfl, rfl, trivial⟩, hw.pick 4 [2, 3] (new := [rd v1 p1, bx 26 b31 p0]) rfl rfl (by decide) (by decide)⟩
   replace hj := cT hg53 hj
   refine RL.move (v := (str x45)) ⟨_, rfl, cb hg53⟩ rfl rfl ?_
   refine RL.move (v := v1) ⟨_, rfl, cb hg53⟩ rfl rfl ?_
   refine RL.move (v := (vi (k32 : Int))) ⟨_, rfl, cb hg53⟩ rfl rfl ?_
   refine RL.iar (a := (k32 : Int)) (b := 1) ⟨_, rfl, cb hg53⟩ rfl rfl rfl rfl ?_
   obtain ⟨x54, hx54, hj⟩ := bd hj
   refine RL.ia_rd (i := 2) ⟨_, rfl, cb hg53⟩ rfl hw rfl rfl rfl sl55 hx54 fun v55 hw => ?_
   refine RL.load_pts (i := 0) (y := x54) ⟨_, rfl, cb hg53⟩ rfl hw rfl rfl ty9 ?_
   refine RL.scmp (a := x45) (b := x54) ⟨_, rfl, cb hg53⟩ rfl rfl rfl rfl ?_
   refine RL.pick (b := (decide ((k32 : Int) > 0))) (v := (vb (x45.ltb x54 || x45.eqb x54))) trivial rfl rfl (by rw [hg53]; rfl) ?_
   refine RL.nil ?_
   obtain rfl := oi hj
   exact ⟨rfl, ⟨rfl, rfl, rfl, rfl, rfl, rfl, trivial⟩, hw.pick 5 [3, 4] (new := [rd v1 p1, bx 26 b31 p0]) rfl rfl (by decide) (by decide)⟩
  rintro σ w ⟨ha, hw⟩
  obtain ⟨τ, rfl⟩ := ha.ups
  refine thenQ_n ?_
  refine RC.cond (b := s52) rfl (fun hc => ?_) (fun hc => ?_)
  rotate_left
  ·replace hb := cF hc hb
   refine RC.skip ?_
   refine blkQ_n ?_
   refine thenQ_n ?_
   refine RC.region ?_
   refine RL.inc trivial rfl hk hm rfl rfl ?_
   refine mv (vi ((k32 + 1 : Nat) : Int)) rfl rfl ?_
   refine RL.nil ?_
   obtain rfl := oi hb
   exact ⟨rfl, ⟨rfl, rfl, rfl, rfl, rfl, trivial⟩, hw.pick 2 [0, 1] (new := [rd v1 p1, bx 26 b31 p0]) rfl rfl (by decide) (by decide)⟩
  replace hb := cT hc hb
  refine RC.sr ?_
  refine as_ (vi 8) rfl rfl ?_
  refine RL.nt ?_
  refine RC.rb ?_
  refine thenQ_r ?_
  obtain rfl := oi hb
  exact ⟨rfl, fin1 rfl rfl ⟨rfl, hw.drop 2 rfl⟩⟩
 ·intro r σ w e hK
  subst e
  refine thenQ_r ?_
  obtain rfl := oi hb
  exact hK
 intro s33 σ w e hJ
 subst e
 rw [Fo.cs_go] at hb
 obtain ⟨ha, hw⟩ := hJ
 obtain ⟨τ, rfl⟩ := ha.ups
 refine thenQ_n ?_
 refine RC.sr ?_
 refine as_ (vi 0) rfl rfl ?_
 refine RL.nt ?_
 refine RC.ret ?_
 obtain rfl := oi hb
 exact fin1 rfl rfl ⟨rfl, hw.drop 2 rfl⟩
def slices_Index_string_R (E : World) (Γ : List HP) (res : Int) (v : Value) (w : World) : Prop := v = (vi res) ∧ Holds E w Γ
def slices_Index_string_K (E : World) (Γ : List HP) (r : Int) (σ : Nat → Value) (w : World) : Prop := finQ Tryd.prog 19 Tryd.f122 (slices_Index_string_R E Γ r) .ret σ w
theorem slices_Index_string_ok (N : Nat) {E w : World} {Γ : List HP} {i0 : Nat} {v0 : Value} {p0 : (List Str)} {p1 : Str} {res : Int} (hw : Holds E w Γ) (h0 : Γ[i0]? = some (rd v0 p0)) (hb : slices_Index_string N p0 p1 = some res) :
    Calls Tryd.prog 122 [v0, (str p1)].toArray w (Ret (slices_Index_string_R E Γ res)) := by
 unfold slices_Index_string at hb
 refine enter Tryd.func122 rfl rfl (Nat.le_of_ble_eq_true rfl) ?_
 have hw := hw.dup (i := i0 + 0) h0
 refine RC.sr ?_
 refine as_ (vi 0) rfl rfl ?_
 refine RL.nq ?_
 refine RC.sr ?_
 refine mv v0 rfl rfl ?_
 refine RL.len_rd (i := 0) (l := p0) trivial rfl hw rfl rfl un55 ?_
 refine mv (vi 0) rfl rfl ?_
 refine RL.nt ?_
 obtain ⟨o37, hN, hb⟩ := bd hb
 refine RC.range (fun (k31 : Nat) (s32 : Unit) (σ : Nat → Value) (w : World) => agree σ [(0, v0), (1, (str p1)), (7, (vi (p0.length : Int))), (8, (vi (k31 : Int)))] ∧ Holds E w ([rd v0 p0] ++ Γ)) (fun (s32 : Unit) (σ : Nat → Value) (w : World) => agree σ [] ∧ Holds E w ([rd v0 p0] ++ Γ)) (slices_Index_string_K E Γ) hN ?_ ?_ ?_ ?_ ?_ 
 ·exact ⟨⟨rfl, rfl, rfl, rfl, trivial⟩, hw.pick 1 [0] (new := [rd v0 p0]) rfl rfl (by decide) (by decide)⟩
 ·intro hm s32 σ w hI
  obtain ⟨ha, hw⟩ := hI
  obtain ⟨τ, rfl⟩ := ha.ups
  refine RC.sr ?_
  refine ic ((p0.length : Int)) ((p0.length : Int)) rfl rfl rfl rfl ?_
  refine RL.nq ?_
  refine RC.cond_f dge ?_
  refine RC.ex ?_
  exact ⟨rfl, trivial, hw.pick 1 [0] (new := [rd v0 p0]) rfl rfl (by decide) (by decide)⟩
 ·intro hm k31 s32 fl σ w hk hI hb
  obtain ⟨ha, hw⟩ := hI
  obtain ⟨τ, rfl⟩ := ha.ups
  refine RC.sr ?_
  refine ic ((k31 : Int)) ((p0.length : Int)) rfl rfl rfl rfl ?_
  refine RL.nq ?_
  refine RC.cond_t (dlt hk) ?_
  refine RC.ss ?_
  refine RC.bs ?_
  refine mv (vi (k31 : Int)) rfl rfl ?_
  refine as_ (vi (k31 : Int)) rfl rfl ?_
  refine RL.ns ?_
  refine mv (str p1) rfl rfl ?_
  refine mv v0 rfl rfl ?_
  refine mv (vi (k31 : Int)) rfl rfl ?_
  obtain ⟨x35, hx35, hb⟩ := bd hb
  refine RL.ia_rd (i := 0) trivial rfl hw rfl rfl rfl sl55 hx35 fun v36 hw => ?_
  refine RL.load_pts (i := 0) (y := x35) trivial rfl hw rfl rfl ty9 ?_
  refine RL.scmp (a := p1) (b := x35) trivial rfl rfl rfl rfl ?_
  refine RL.nt ?_
  refine RC.cond (b := (p1.eqb x35)) rfl (fun hc => ?_) (fun hc => ?_)
  rotate_left
  ·replace hb := cF hc hb
   refine RC.skip ?_
   refine blkQ_n ?_
   refine thenQ_n ?_
   refine RC.region ?_
   refine RL.inc trivial rfl hk hm rfl rfl ?_
   refine mv (vi ((k31 + 1 : Nat) : Int)) rfl rfl ?_
   refine RL.nil ?_
   obtain rfl := oi hb
   exact ⟨rfl, ⟨rfl, rfl, rfl, rfl, trivial⟩, hw.pick 2 [1] (new := [rd v0 p0]) rfl rfl (by decide) (by decide)⟩
  replace hb := cT hc hb
  refine RC.sr ?_
  refine mv (vi (k31 : Int)) rfl rfl ?_
  refine as_ (vi (k31 : Int)) rfl rfl ?_
  refine RL.nt ?_
  refine RC.rb ?_
  refine thenQ_r ?_
  obtain rfl := oi hb
  exact ⟨rfl, fin1 rfl rfl ⟨rfl, hw.drop 2 rfl⟩⟩
 ·intro r σ w e hK
  subst e
  refine thenQ_r ?_
  obtain rfl := oi hb
  exact hK
 intro s32 σ w e hJ
 subst e
 rw [Fo.cs_go] at hb
 obtain ⟨ha, hw⟩ := hJ
 obtain ⟨τ, rfl⟩ := ha.ups
 refine thenQ_n ?_
 refine RC.sr ?_
 refine as_ (vi (-1)) rfl rfl ?_
 refine RL.nt ?_
 refine RC.ret ?_
 obtain rfl := oi hb
 exact fin1 rfl rfl ⟨rfl, hw.drop 1 rfl⟩
def slices_Contains_string_R (E : World) (Γ : List HP) (res : Bool) (v : Value) (w : World) : Prop := v = (vb res) ∧ Holds E w Γ
def slices_Contains_string_K (E : World) (Γ : List HP) (r : Bool) (σ : Nat → Value) (w : World) : Prop := finQ Tryd.prog 9 Tryd.f82 (slices_Contains_string_R E Γ r) .ret σ w
theorem slices_Contains_string_ok (N : Nat) {E w : World} {Γ : List HP} {i0 : Nat} {v0 : Value} {p0 : (List Str)} {p1 : Str} {res : Bool} (hw : Holds E w Γ) (h0 : Γ[i0]? = some (rd v0 p0)) (hb : slices_Contains_string N p0 p1 = some res) :
    Calls Tryd.prog 82 [v0, (str p1)].toArray w (Ret (slices_Contains_string_R E Γ res)) := by
 unfold slices_Contains_string at hb
 refine enter Tryd.func82 rfl rfl (Nat.le_of_ble_eq_true rfl) ?_
 have hw := hw.dup (i := i0 + 0) h0
 refine RC.sr ?_
 refine as_ (vb false) rfl rfl ?_
 refine RL.ns ?_
 refine mv v0 rfl rfl ?_
 refine mv (str p1) rfl rfl ?_
 obtain ⟨x31, hx31, hb⟩ := bd hb
 refine RL.call trivial rfl fn122 [v0, (str p1)] rfl (Calls_ret (slices_Index_string_ok N (p1 := p1) (i0 := 0) hw rfl hx31) ?_)
 rintro _ w ⟨rfl, hw⟩
 refine ic x31 0 rfl rfl rfl rfl ?_
 refine as_ (vb (decide (x31 ≥ 0))) rfl rfl ?_
 refine RL.nt ?_
 refine RC.ret ?_
 obtain rfl := oi hb
 exact fin1 rfl rfl ⟨rfl, hw.drop 1 rfl⟩
def etchhouseref2_island_R (E : World) (Γ : List HP) (res : (List Int)) (v : Value) (w : World) : Prop := Holds E w (own 3 v res :: Γ)
def etchhouseref2_island_K (E : World) (Γ : List HP) (r : (List Int)) (σ : Nat → Value) (w : World) : Prop := finQ Tryd.prog 97 Tryd.f93 (etchhouseref2_island_R E Γ r) .ret σ w
theorem etchhouseref2_island_ok (N : Nat) {E w : World} {Γ : List HP} {i0 : Nat} {v0 : Value} {p0 : Netlist} {i1 : Nat} {v1 : Value} {p1 : (List Str)} {p2 : Int} {res : (List Int)} (hw : Holds E w Γ) (h0 : Γ[i0]? = some (rd v0 p0)) (h1 : Γ[i1]? = some (rd v1 p1)) (hb : etchhouseref2_island N p0 p1 p2 = some res) :
    Calls Tryd.prog 93 [v0, v1, (vi p2)].toArray w (Ret (etchhouseref2_island_R E Γ res)) := by
 unfold etchhouseref2_island at hb
 refine enter Tryd.func93 rfl rfl (Nat.le_of_ble_eq_true rfl) ?_
 have hw := hw.dup (i := i0 + 0) h0
 have hw := hw.dup (i := i1 + 1) h1
 refine RC.sr ?_
 refine RL.box_rd (i := 1) (v := v0) trivial rfl hw rfl rfl fun b31 w hw => ?_
 refine as_ (.slice none 0 0) rfl rfl ?_
 refine RL.ns ?_
 refine RL.fa_b trivial rfl rfl fa26_0 ?_
 refine RL.load_bf (i := 0) (f := (fun x => x.Parts)) trivial rfl hw rfl rfl fd_Netlist_0 ty23 fun v32 hw => ?_
 refine RL.len_rd (i := 0) (l := p0.Parts) trivial rfl hw rfl rfl un23 ?_
 obtain ⟨x33, hx33, hb⟩ := bd hb
 refine RL.mk (k := (p0.Parts.length : Int)) trivial rfl hw rfl rfl el140 zd4 hx33 fun v34 w hw => ?_
 refine as_ v34 rfl rfl ?_
 refine RL.ns ?_
 refine mv v34 rfl rfl ?_
 refine mv (vi p2) rfl rfl ?_
 obtain ⟨x35, hx35, hb⟩ := bd hb
 refine RL.ia_ownA (i := 0) trivial rfl hw rfl rfl rfl sl140 hx35 ?_
 have hw := hw.sc (γ := Bool) true
 refine RL.store_el (i := 1) (j := 0) (f := (fun _ y => y)) trivial hw rfl rfl (elp hw (i := 1) rfl hx35 0) rfl (idx_some hx35).2.1 rfl Fs.self (by decide) ty4 fun w hw => ?_
 refine RL.nq ?_
 refine RC.sr ?_
 refine as_ (vb true) rfl rfl ?_
 refine RL.nt ?_
 obtain ⟨o905, hN, hb⟩ := bd hb
 refine RC.iter (fun (s37 : (List Bool) × Bool) (σ : Nat → Value) (w : World) => agree σ [(1, v1), (3, (vp b31 0)), (7, v34), (8, (vb s37.2))] ∧ Holds E w ([rd v1 p1, bx 26 b31 p0, own 4 v34 s37.1] ++ Γ)) (fun (s37 : (List Bool) × Bool) (σ : Nat → Value) (w : World) => agree σ [(7, v34)] ∧ Holds E w ([rd v1 p1, bx 26 b31 p0, own 4 v34 s37.1] ++ Γ)) (fun (r : Empty) (_ : Nat → Value) (_ : World) => r.elim) hN ?_ ?_ ?_ ?_ 
 ·exact ⟨⟨rfl, rfl, rfl, rfl, trivial⟩, hw.pick 6 [4, 3, 1] (new := [rd v1 p1, bx 26 b31 p0, own 4 v34 (x33.set (Int.toNat p2) true)]) rfl rfl (by decide) (by decide)⟩
 ·intro s37 fl σ w hI hb
  obtain ⟨ha, hw⟩ := hI
  obtain ⟨τ, rfl⟩ := ha.ups
  refine RC.seq ?_
  refine RC.sr ?_
  refine mv (vb s37.2) rfl rfl ?_
  refine RL.nt ?_
  refine RC.cond (b := s37.2) rfl (fun hc => ?_) (fun hc => ?_)
  rotate_left
  ·replace hb := cF hc hb
   refine RC.ex ?_
   obtain rfl := oi hb
   exact ⟨rfl, ⟨rfl, trivial⟩, hw.pick 3 [0, 1, 2] (new := [rd v1 p1, bx 26 b31 p0, own 4 v34 s37.1]) rfl rfl (by decide) (by decide)⟩
  replace hb := cT hc hb
  refine RC.sn ?_
  refine RC.bs ?_
  refine as_ (vb false) rfl rfl ?_
  refine RL.ns ?_
  refine RL.fa_b trivial rfl rfl fa26_1 ?_
  refine RL.load_bf (i := 1) (f := (fun x => x.Nets)) trivial rfl hw rfl rfl fd_Netlist_1 ty24 fun v592 hw => ?_
  refine RL.len_rd (i := 0) (l := p0.Nets) trivial rfl hw rfl rfl un24 ?_
  refine mv (vi 0) rfl rfl ?_
  refine RL.nt ?_
  obtain ⟨s594, hN, hb⟩ := bd hb
  refine RC.fold (fun (k593 : Nat) (s594 : (List Bool) × Bool) (σ : Nat → Value) (w : World) => agree σ [(1, v1), (3, (vp b31 0)), (7, v34), (8, (vb s594.2)), (29, v592), (30, (vi (p0.Nets.length : Int))), (31, (vi (k593 : Int)))] ∧ Holds E w ([rd v1 p1, bx 26 b31 p0, own 4 v34 s594.1, rd v592 p0.Nets] ++ Γ)) (fun (s594 : (List Bool) × Bool) (σ : Nat → Value) (w : World) => agree σ [(1, v1), (3, (vp b31 0)), (7, v34), (8, (vb s594.2))] ∧ Holds E w ([rd v1 p1, bx 26 b31 p0, own 4 v34 s594.1, rd v592 p0.Nets] ++ Γ)) hN ?_ ?_ ?_ ?_
  ·exact ⟨⟨rfl, rfl, rfl, rfl, rfl, rfl, rfl, trivial⟩, hw.pick 4 [1, 2, 3, 0] (new := [rd v1 p1, bx 26 b31 p0, own 4 v34 s37.1, rd v592 p0.Nets]) rfl rfl (by decide) (by decide)⟩
  ·intro hm s594 σ w hI
   obtain ⟨ha, hw⟩ := hI
   obtain ⟨τ, rfl⟩ := ha.ups
   refine RC.sr ?_
   refine ic ((p0.Nets.length : Int)) ((p0.Nets.length : Int)) rfl rfl rfl rfl ?_
   refine RL.nq ?_
   refine RC.cond_f dge ?_
   refine RC.ex ?_
   exact ⟨rfl, ⟨rfl, rfl, rfl, rfl, trivial⟩, hw.pick 4 [0, 1, 2, 3] (new := [rd v1 p1, bx 26 b31 p0, own 4 v34 s594.1, rd v592 p0.Nets]) rfl rfl (by decide) (by decide)⟩
  ·intro hm k593 s594 s' σ w hk hI hb
   obtain ⟨ha, hw⟩ := hI
   obtain ⟨τ, rfl⟩ := ha.ups
   refine RC.sr ?_
   refine ic ((k593 : Int)) ((p0.Nets.length : Int)) rfl rfl rfl rfl ?_
   refine RL.nq ?_
   refine RC.cond_t (dlt hk) ?_
   refine RC.ss ?_
   refine RC.bs ?_
   obtain ⟨x777, hx777, hb⟩ := bd hb
   refine RL.ia_rd (i := 3) trivial rfl hw rfl rfl rfl sl24 hx777 fun v778 hw => ?_
   refine RL.load_pt (i := 0) (x := x777) trivial rfl hw rfl rfl ty64 fun v779 hw => ?_
   refine RL.alloc trivial rfl hw ze64.z fun b780 w hw => ?_
   refine RL.store_raw (i := 0) (j := 1) trivial hw rfl rfl rfl rfl ty64 rfl fun w hw => ?_
   refine RL.nq ?_
   refine RC.sr ?_
   refine mv v1 rfl rfl ?_
   refine RL.fa_b trivial rfl rfl fa64_0 ?_
   refine RL.load_bfs (i := 0) (f := (fun x => x.Name)) trivial rfl hw rfl rfl fd_Net_0 ty9 ?_
   obtain ⟨x781, hx781, hb⟩ := bd hb
   refine RL.call trivial rfl fn82 [v1, (str x777.Name)] rfl (Calls_ret (slices_Contains_string_ok N (p1 := x777.Name) (i0 := 3) hw rfl hx781) ?_)
   rintro _ w ⟨rfl, hw⟩
   refine RL.nt ?_
   refine RC.cond (b := x781) rfl (fun hc => ?_) (fun hc => ?_)
   ·replace hb := cT hc hb
    refine RC.ex ?_
    refine blkQ_e ?_
    refine thenQ_n ?_
    refine RC.region ?_
    refine RL.inc trivial rfl hk hm rfl rfl ?_
    refine mv (vi ((k593 + 1 : Nat) : Int)) rfl rfl ?_
    refine RL.nil ?_
    obtain rfl := oi hb
    exact ⟨rfl, ⟨rfl, rfl, rfl, rfl, rfl, rfl, rfl, trivial⟩, hw.pick 7 [3, 4, 5, 6] (new := [rd v1 p1, bx 26 b31 p0, own 4 v34 s594.1, rd v592 p0.Nets]) rfl rfl (by decide) (by decide)⟩
   replace hb := cF hc hb
   refine RC.sx ?_
   refine as_ (vb false) rfl rfl ?_
   refine RL.nq ?_
   refine RC.sr ?_
   refine RL.fa_b trivial rfl rfl fa64_1 ?_
   refine RL.load_bf (i := 0) (f := (fun x => x.Pins)) trivial rfl hw rfl rfl fd_Net_1 ty33 fun v782 hw => ?_
   refine RL.len_rd (i := 0) (l := x777.Pins) trivial rfl hw rfl rfl un33 ?_
   refine mv (vi 0) rfl rfl ?_
   refine RL.nt ?_
   obtain ⟨s784, hN, hb⟩ := bd hb
   refine RC.fold (fun (k783 : Nat) (s784 : Bool) (σ : Nat → Value) (w : World) => agree σ [(1, v1), (3, (vp b31 0)), (7, v34), (8, (vb s594.2)), (10, (vp b780 0)), (11, (vb s784)), (29, v592), (30, (vi (p0.Nets.length : Int))), (31, (vi (k593 : Int))), (40, v782), (41, (vi (x777.Pins.length : Int))), (42, (vi (k783 : Int)))] ∧ Holds E w ([rd v1 p1, bx 26 b31 p0, own 4 v34 s594.1, bx 64 b780 x777, rd v592 p0.Nets, rd v782 x777.Pins] ++ Γ)) (fun (s784 : Bool) (σ : Nat → Value) (w : World) => agree σ [(1, v1), (3, (vp b31 0)), (7, v34), (8, (vb s594.2)), (10, (vp b780 0)), (11, (vb s784)), (29, v592), (30, (vi (p0.Nets.length : Int))), (31, (vi (k593 : Int)))] ∧ Holds E w ([rd v1 p1, bx 26 b31 p0, own 4 v34 s594.1, bx 64 b780 x777, rd v592 p0.Nets, rd v782 x777.Pins] ++ Γ)) hN ?_ ?_ ?_ ?_
   ·exact ⟨⟨rfl, rfl, rfl, rfl, rfl, rfl, rfl, rfl, rfl, rfl, rfl, rfl, trivial⟩, hw.pick 8 [4, 5, 6, 1, 7, 0] (new := [rd v1 p1, bx 26 b31 p0, own 4 v34 s594.1, bx 64 b780 x777, rd v592 p0.Nets, rd v782 x777.Pins]) rfl rfl (by decide) (by decide)⟩
   ·intro hm s784 σ w hI
    obtain ⟨ha, hw⟩ := hI
    obtain ⟨τ, rfl⟩ := ha.ups
    refine RC.sr ?_
    refine ic ((x777.Pins.length : Int)) ((x777.Pins.length : Int)) rfl rfl rfl rfl ?_
    refine RL.nq ?_
    refine RC.cond_f dge ?_
    refine RC.ex ?_
    exact ⟨rfl, ⟨rfl, rfl, rfl, rfl, rfl, rfl, rfl, rfl, rfl, trivial⟩, hw.pick 6 [0, 1, 2, 3, 4, 5] (new := [rd v1 p1, bx 26 b31 p0, own 4 v34 s594.1, bx 64 b780 x777, rd v592 p0.Nets, rd v782 x777.Pins]) rfl rfl (by decide) (by decide)⟩
   ·intro hm k783 s784 s' σ w hk hI hb
    obtain ⟨ha, hw⟩ := hI
    obtain ⟨τ, rfl⟩ := ha.ups
    refine RC.sr ?_
    refine ic ((k783 : Int)) ((x777.Pins.length : Int)) rfl rfl rfl rfl ?_
    refine RL.nq ?_
    refine RC.cond_t (dlt hk) ?_
    refine RC.ss ?_
    refine RC.bs ?_
    obtain ⟨x808, hx808, hb⟩ := bd hb
    refine RL.ia_rd (i := 5) trivial rfl hw rfl rfl rfl sl33 hx808 fun v809 hw => ?_
    refine RL.load_pt (i := 0) (x := x808) trivial rfl hw rfl rfl ty28 fun v810 hw => ?_
    refine RL.alloc trivial rfl hw ze28.z fun b811 w hw => ?_
    refine RL.store_raw (i := 0) (j := 1) trivial hw rfl rfl rfl rfl ty28 rfl fun w hw => ?_
    refine RL.nt ?_
    obtain ⟨s816, hj, hb⟩ := bd hb
    refine RC.jn (fun (s816 : Bool) (σ : Nat → Value) (w : World) => agree σ [(1, v1), (3, (vp b31 0)), (7, v34), (8, (vb s594.2)), (10, (vp b780 0)), (11, (vb s816)), (29, v592), (30, (vi (p0.Nets.length : Int))), (31, (vi (k593 : Int))), (40, v782), (41, (vi (x777.Pins.length : Int))), (42, (vi (k783 : Int)))] ∧ Holds E w ([rd v1 p1, bx 26 b31 p0, own 4 v34 s594.1, bx 64 b780 x777, rd v592 p0.Nets, rd v782 x777.Pins] ++ Γ)) s816 ?_ ?_
    ·refine RC.region ?_
     refine mv (vb s784) rfl rfl ?_
     refine mv (vb s784) rfl rfl ?_
     rcases Bool.eq_false_or_eq_true s784 with hg817 | hg817
     ·replace hj := cT hg817 hj
      refine sk rfl (.inl (cb hg817)) rfl ?_
      refine sk rfl (.inl (cb hg817)) rfl ?_
      refine sk rfl (.inl (cb hg817)) rfl ?_
      refine sk rfl (.inl (cb hg817)) rfl ?_
      refine sk rfl (.inl (cb hg817)) rfl ?_
      refine sk rfl (.inl (cb hg817)) rfl ?_
      refine sk rfl (.inl (cb hg817)) rfl ?_
      refine sk rfl (.inl (cb hg817)) rfl ?_
      refine RL.pick (b := s784) (v := (vb true)) trivial rfl rfl (by rw [hg817]; rfl) ?_
      refine as_ (vb true) rfl rfl ?_
      refine RL.nil ?_
      obtain rfl := oi hj
      exact ⟨rfl, ⟨rfl, rfl, rfl, rfl, rfl, rfl, rfl, rfl, rfl, rfl, rfl, rfl, trivial⟩, hw.pick 9 [3, 4, 5, 6, 7, 8] (new := [rd v1 p1, bx 26 b31 p0, own 4 v34 s594.1, bx 64 b780 x777, rd v592 p0.Nets, rd v782 x777.Pins]) rfl rfl (by decide) (by decide)⟩
     replace hj := cF hg817 hj
     refine RL.move (v := v34) ⟨_, rfl, cb hg817⟩ rfl rfl ?_
     refine RL.fa_b ⟨_, rfl, cb hg817⟩ rfl rfl fa26_0 ?_
     refine RL.load_bf (i := 4) (f := (fun x => x.Parts)) ⟨_, rfl, cb hg817⟩ rfl hw rfl rfl fd_Netlist_0 ty23 fun v818 hw => ?_
     refine RL.fa_b ⟨_, rfl, cb hg817⟩ rfl rfl fa28_0 ?_
     refine RL.load_bfs (i := 1) (f := (fun x => x.Part)) ⟨_, rfl, cb hg817⟩ rfl hw rfl rfl fd_Pin_0 ty9 ?_
     obtain ⟨x819, hx819, hj⟩ := bd hj
     refine RL.call ⟨_, rfl, cb hg817⟩ rfl fn68 [v818, (str x808.Part)] rfl (Calls_ret (etchhouseref2_partOf_ok N (p1 := x808.Part) (i0 := 0) hw rfl hx819) ?_)
     rintro _ w ⟨rfl, hw⟩
     obtain ⟨x820, hx820, hj⟩ := bd hj
     refine RL.ia_ownA (i := 6) ⟨_, rfl, cb hg817⟩ rfl hw rfl rfl rfl sl140 hx820 ?_
     refine RL.load_els (i := 6) (f := (fun x => x)) ⟨_, rfl, cb hg817⟩ rfl hw rfl (elp hw (i := 6) rfl hx820 0) rfl (idx_some hx820).2.1 Fd.self ty4 ?_
     refine RL.pick (b := s784) (v := (vb x820)) trivial rfl rfl (by rw [hg817]; rfl) ?_
     refine as_ (vb x820) rfl rfl ?_
     refine RL.nil ?_
     obtain rfl := oi hj
     exact ⟨rfl, ⟨rfl, rfl, rfl, rfl, rfl, rfl, rfl, rfl, rfl, rfl, rfl, rfl, trivial⟩, hw.pick 10 [4, 5, 6, 7, 8, 9] (new := [rd v1 p1, bx 26 b31 p0, own 4 v34 s594.1, bx 64 b780 x777, rd v592 p0.Nets, rd v782 x777.Pins]) rfl rfl (by decide) (by decide)⟩
    rintro σ w ⟨ha, hw⟩
    obtain ⟨τ, rfl⟩ := ha.ups
    refine blkQ_n ?_
    refine thenQ_n ?_
    refine RC.region ?_
    refine RL.inc trivial rfl hk hm rfl rfl ?_
    refine mv (vi ((k783 + 1 : Nat) : Int)) rfl rfl ?_
    refine RL.nil ?_
    obtain rfl := oi hb
    exact ⟨rfl, ⟨rfl, rfl, rfl, rfl, rfl, rfl, rfl, rfl, rfl, rfl, rfl, rfl, trivial⟩, hw.pick 6 [0, 1, 2, 3, 4, 5] (new := [rd v1 p1, bx 26 b31 p0, own 4 v34 s594.1, bx 64 b780 x777, rd v592 p0.Nets, rd v782 x777.Pins]) rfl rfl (by decide) (by decide)⟩
   intro σ w hJ
   obtain ⟨ha, hw⟩ := hJ
   obtain ⟨τ, rfl⟩ := ha.ups
   refine thenQ_n ?_
   refine RC.sr ?_
   refine RL.fa_b trivial rfl rfl fa64_1 ?_
   refine RL.load_bf (i := 3) (f := (fun x => x.Pins)) trivial rfl hw rfl rfl fd_Net_1 ty33 fun v821 hw => ?_
   refine RL.len_rd (i := 0) (l := x777.Pins) trivial rfl hw rfl rfl un33 ?_
   refine mv (vi 0) rfl rfl ?_
   refine RL.nt ?_
   obtain ⟨s823, hN, hb⟩ := bd hb
   refine RC.fold (fun (k822 : Nat) (s823 : (List Bool) × Bool) (σ : Nat → Value) (w : World) => agree σ [(1, v1), (3, (vp b31 0)), (7, v34), (8, (vb s823.2)), (11, (vb s784)), (29, v592), (30, (vi (p0.Nets.length : Int))), (31, (vi (k593 : Int))), (59, v821), (60, (vi (x777.Pins.length : Int))), (61, (vi (k822 : Int)))] ∧ Holds E w ([rd v1 p1, bx 26 b31 p0, own 4 v34 s823.1, rd v592 p0.Nets, rd v821 x777.Pins] ++ Γ)) (fun (s823 : (List Bool) × Bool) (σ : Nat → Value) (w : World) => agree σ [(1, v1), (3, (vp b31 0)), (7, v34), (8, (vb s823.2)), (29, v592), (30, (vi (p0.Nets.length : Int))), (31, (vi (k593 : Int)))] ∧ Holds E w ([rd v1 p1, bx 26 b31 p0, own 4 v34 s823.1, rd v592 p0.Nets, rd v821 x777.Pins] ++ Γ)) hN ?_ ?_ ?_ ?_
   ·exact ⟨⟨rfl, rfl, rfl, rfl, rfl, rfl, rfl, rfl, rfl, rfl, rfl, trivial⟩, hw.pick 7 [1, 2, 3, 5, 0] (new := [rd v1 p1, bx 26 b31 p0, own 4 v34 s594.1, rd v592 p0.Nets, rd v821 x777.Pins]) rfl rfl (by decide) (by decide)⟩
   ·intro hm s823 σ w hI
    obtain ⟨ha, hw⟩ := hI
    obtain ⟨τ, rfl⟩ := ha.ups
    refine RC.sr ?_
    refine ic ((x777.Pins.length : Int)) ((x777.Pins.length : Int)) rfl rfl rfl rfl ?_
    refine RL.nq ?_
    refine RC.cond_f dge ?_
    refine RC.ex ?_
    exact ⟨rfl, ⟨rfl, rfl, rfl, rfl, rfl, rfl, rfl, trivial⟩, hw.pick 5 [0, 1, 2, 3, 4] (new := [rd v1 p1, bx 26 b31 p0, own 4 v34 s823.1, rd v592 p0.Nets, rd v821 x777.Pins]) rfl rfl (by decide) (by decide)⟩
   ·intro hm k822 s823 s' σ w hk hI hb
    obtain ⟨ha, hw⟩ := hI
    obtain ⟨τ, rfl⟩ := ha.ups
    refine RC.sr ?_
    refine ic ((k822 : Int)) ((x777.Pins.length : Int)) rfl rfl rfl rfl ?_
    refine RL.nq ?_
    refine RC.cond_t (dlt hk) ?_
    refine RC.ss ?_
    refine RC.bs ?_
    obtain ⟨x852, hx852, hb⟩ := bd hb
    refine RL.ia_rd (i := 4) trivial rfl hw rfl rfl rfl sl33 hx852 fun v853 hw => ?_
    refine RL.load_pt (i := 0) (x := x852) trivial rfl hw rfl rfl ty28 fun v854 hw => ?_
    refine RL.alloc trivial rfl hw ze28.z fun b855 w hw => ?_
    refine RL.store_raw (i := 0) (j := 1) trivial hw rfl rfl rfl rfl ty28 rfl fun w hw => ?_
    refine RL.ns ?_
    refine RL.fa_b trivial rfl rfl fa26_0 ?_
    refine RL.load_bf (i := 4) (f := (fun x => x.Parts)) trivial rfl hw rfl rfl fd_Netlist_0 ty23 fun v856 hw => ?_
    refine RL.fa_b trivial rfl rfl fa28_0 ?_
    refine RL.load_bfs (i := 1) (f := (fun x => x.Part)) trivial rfl hw rfl rfl fd_Pin_0 ty9 ?_
    obtain ⟨x857, hx857, hb⟩ := bd hb
    refine RL.call trivial rfl fn68 [v856, (str x852.Part)] rfl (Calls_ret (etchhouseref2_partOf_ok N (p1 := x852.Part) (i0 := 0) hw rfl hx857) ?_)
    rintro _ w ⟨rfl, hw⟩
    refine as_ (vi x857) rfl rfl ?_
    refine RL.nq ?_
    obtain ⟨s860, hj, hb⟩ := bd hb
    refine RC.jn (fun (s860 : Bool) (σ : Nat → Value) (w : World) => agree σ [(1, v1), (3, (vp b31 0)), (7, v34), (8, (vb s823.2)), (11, (vb s784)), (16, (vi x857)), (29, v592), (30, (vi (p0.Nets.length : Int))), (31, (vi (k593 : Int))), (59, v821), (60, (vi (x777.Pins.length : Int))), (61, (vi (k822 : Int))), (77, (vb s860))] ∧ Holds E w ([rd v1 p1, bx 26 b31 p0, own 4 v34 s823.1, rd v592 p0.Nets, rd v821 x777.Pins] ++ Γ)) s860 ?_ ?_
    ·refine RC.region ?_
     refine mv (vb s784) rfl rfl ?_
     refine mv (vb s784) rfl rfl ?_
     rcases Bool.eq_false_or_eq_true s784 with hg861 | hg861
     rotate_left
     ·replace hj := cF hg861 hj
      refine sk rfl (.inl (cb hg861)) rfl ?_
      refine sk rfl (.inl (cb hg861)) rfl ?_
      refine sk rfl (.inl (cb hg861)) rfl ?_
      refine sk rfl (.inl (cb hg861)) rfl ?_
      refine sk rfl (.inl (cb hg861)) rfl ?_
      refine RL.pick (b := s784) (v := (vb false)) trivial rfl rfl (by rw [hg861]; rfl) ?_
      refine RL.nil ?_
      obtain rfl := oi hj
      exact ⟨rfl, ⟨rfl, rfl, rfl, rfl, rfl, rfl, rfl, rfl, rfl, rfl, rfl, rfl, rfl, trivial⟩, hw.pick 9 [4, 5, 6, 7, 8] (new := [rd v1 p1, bx 26 b31 p0, own 4 v34 s823.1, rd v592 p0.Nets, rd v821 x777.Pins]) rfl rfl (by decide) (by decide)⟩
     replace hj := cT hg861 hj
     refine RL.move (v := v34) ⟨_, rfl, cb hg861⟩ rfl rfl ?_
     refine RL.move (v := (vi x857)) ⟨_, rfl, cb hg861⟩ rfl rfl ?_
     obtain ⟨x862, hx862, hj⟩ := bd hj
     refine RL.ia_ownA (i := 6) ⟨_, rfl, cb hg861⟩ rfl hw rfl rfl rfl sl140 hx862 ?_
     refine RL.load_els (i := 6) (f := (fun x => x)) ⟨_, rfl, cb hg861⟩ rfl hw rfl (elp hw (i := 6) rfl hx862 0) rfl (idx_some hx862).2.1 Fd.self ty4 ?_
     refine RL.not (b := x862) ⟨_, rfl, cb hg861⟩ rfl rfl ?_
     refine RL.pick (b := s784) (v := (vb (!x862))) trivial rfl rfl (by rw [hg861]; rfl) ?_
     refine RL.nil ?_
     obtain rfl := oi hj
     exact ⟨rfl, ⟨rfl, rfl, rfl, rfl, rfl, rfl, rfl, rfl, rfl, rfl, rfl, rfl, rfl, trivial⟩, hw.pick 9 [4, 5, 6, 7, 8] (new := [rd v1 p1, bx 26 b31 p0, own 4 v34 s823.1, rd v592 p0.Nets, rd v821 x777.Pins]) rfl rfl (by decide) (by decide)⟩
    rintro σ w ⟨ha, hw⟩
    obtain ⟨τ, rfl⟩ := ha.ups
    refine thenQ_n ?_
    obtain ⟨s864, hj, hb⟩ := bd hb
    refine RC.jn (fun (s864 : (List Bool) × Bool) (σ : Nat → Value) (w : World) => agree σ [(1, v1), (3, (vp b31 0)), (7, v34), (8, (vb s864.2)), (11, (vb s784)), (29, v592), (30, (vi (p0.Nets.length : Int))), (31, (vi (k593 : Int))), (59, v821), (60, (vi (x777.Pins.length : Int))), (61, (vi (k822 : Int)))] ∧ Holds E w ([rd v1 p1, bx 26 b31 p0, own 4 v34 s864.1, rd v592 p0.Nets, rd v821 x777.Pins] ++ Γ)) s864 ?_ ?_
    ·refine RC.cond (b := s860) rfl (fun hc => ?_) (fun hc => ?_)
     rotate_left
     ·replace hj := cF hc hj
      refine RC.skip ?_
      obtain rfl := oi hj
      exact ⟨rfl, ⟨rfl, rfl, rfl, rfl, rfl, rfl, rfl, rfl, rfl, rfl, rfl, trivial⟩, hw.pick 5 [0, 1, 2, 3, 4] (new := [rd v1 p1, bx 26 b31 p0, own 4 v34 s823.1, rd v592 p0.Nets, rd v821 x777.Pins]) rfl rfl (by decide) (by decide)⟩
     replace hj := cT hc hj
     refine RC.region ?_
     refine mv v34 rfl rfl ?_
     refine mv (vi x857) rfl rfl ?_
     obtain ⟨x865, hx865, hj⟩ := bd hj
     refine RL.ia_ownA (i := 2) trivial rfl hw rfl rfl rfl sl140 hx865 ?_
     have hw := hw.sc (γ := Bool) true
     refine RL.store_el (i := 3) (j := 0) (f := (fun _ y => y)) trivial hw rfl rfl (elp hw (i := 3) rfl hx865 0) rfl (idx_some hx865).2.1 rfl Fs.self (by decide) ty4 fun w hw => ?_
     refine as_ (vb true) rfl rfl ?_
     refine RL.nil ?_
     obtain rfl := oi hj
     exact ⟨rfl, ⟨rfl, rfl, rfl, rfl, rfl, rfl, rfl, rfl, rfl, rfl, rfl, trivial⟩, hw.pick 6 [1, 2, 3, 4, 5] (new := [rd v1 p1, bx 26 b31 p0, own 4 v34 (s823.1.set (Int.toNat x857) true), rd v592 p0.Nets, rd v821 x777.Pins]) rfl rfl (by decide) (by decide)⟩
    rintro σ w ⟨ha, hw⟩
    obtain ⟨τ, rfl⟩ := ha.ups
    refine blkQ_n ?_
    refine thenQ_n ?_
    refine RC.region ?_
    refine RL.inc trivial rfl hk hm rfl rfl ?_
    refine mv (vi ((k822 + 1 : Nat) : Int)) rfl rfl ?_
    refine RL.nil ?_
    obtain rfl := oi hb
    exact ⟨rfl, ⟨rfl, rfl, rfl, rfl, rfl, rfl, rfl, rfl, rfl, rfl, rfl, trivial⟩, hw.pick 5 [0, 1, 2, 3, 4] (new := [rd v1 p1, bx 26 b31 p0, own 4 v34 s864.1, rd v592 p0.Nets, rd v821 x777.Pins]) rfl rfl (by decide) (by decide)⟩
   intro σ w hJ
   obtain ⟨ha, hw⟩ := hJ
   obtain ⟨τ, rfl⟩ := ha.ups
   refine blkQ_n ?_
   refine thenQ_n ?_
   refine RC.region ?_
   refine RL.inc trivial rfl hk hm rfl rfl ?_
   refine mv (vi ((k593 + 1 : Nat) : Int)) rfl rfl ?_
   refine RL.nil ?_
   obtain rfl := oi hb
   exact ⟨rfl, ⟨rfl, rfl, rfl, rfl, rfl, rfl, rfl, trivial⟩, hw.pick 5 [0, 1, 2, 3] (new := [rd v1 p1, bx 26 b31 p0, own 4 v34 s823.1, rd v592 p0.Nets]) rfl rfl (by decide) (by decide)⟩
  intro σ w hJ
  obtain ⟨ha, hw⟩ := hJ
  obtain ⟨τ, rfl⟩ := ha.ups
  refine blkQ_n ?_
  obtain rfl := oi hb
  exact ⟨rfl, ⟨rfl, rfl, rfl, rfl, trivial⟩, hw.pick 4 [0, 1, 2] (new := [rd v1 p1, bx 26 b31 p0, own 4 v34 s594.1]) rfl rfl (by decide) (by decide)⟩
 ·intro r _ _ _ _
  exact r.elim
 intro s37 σ w e hJ
 subst e
 rw [Fo.cs_go] at hb
 obtain ⟨ha, hw⟩ := hJ
 obtain ⟨τ, rfl⟩ := ha.ups
 refine thenQ_n ?_
 refine RC.sr ?_
 refine as_ (.slice none 0 0) rfl rfl ?_
 refine RL.nq ?_
 refine RC.sr ?_
 refine mv v34 rfl rfl ?_
 refine RL.len_own (i := 2) (l := s37.1) trivial rfl hw rfl rfl un140 ?_
 refine mv (vi 0) rfl rfl ?_
 refine RL.nt ?_
 obtain ⟨s870, hN, hb⟩ := bd hb
 refine RC.fold (fun (k869 : Nat) (s870 : (List Int)) (σ : Nat → Value) (w : World) => ∃ v891 : Value, agree σ [(17, v891), (83, v34), (84, (vi (s37.1.length : Int))), (85, (vi (k869 : Int)))] ∧ Holds E w ([own 4 v34 s37.1, own 3 v891 s870] ++ Γ)) (fun (s870 : (List Int)) (σ : Nat → Value) (w : World) => ∃ v892 : Value, agree σ [(17, v892)] ∧ Holds E w ([own 4 v34 s37.1, own 3 v892 s870] ++ Γ)) hN ?_ ?_ ?_ ?_
 ·have hw := hw.own_nil Int 3
  exact ⟨(.slice none 0 0), ⟨rfl, rfl, rfl, rfl, trivial⟩, hw.pick 4 [3, 0] (new := [own 4 v34 s37.1, own 3 (.slice none 0 0) ([] : (List Int))]) rfl rfl (by decide) (by decide)⟩
 ·intro hm s870 σ w hI
  obtain ⟨v903, ha, hw⟩ := hI
  obtain ⟨τ, rfl⟩ := ha.ups
  refine RC.sr ?_
  refine ic ((s37.1.length : Int)) ((s37.1.length : Int)) rfl rfl rfl rfl ?_
  refine RL.nq ?_
  refine RC.cond_f dge ?_
  refine RC.ex ?_
  exact ⟨rfl, v903, ⟨rfl, trivial⟩, hw.pick 2 [0, 1] (new := [own 4 v34 s37.1, own 3 v903 s870]) rfl rfl (by decide) (by decide)⟩
 ·intro hm k869 s870 s' σ w hk hI hb
  obtain ⟨v893, ha, hw⟩ := hI
  obtain ⟨τ, rfl⟩ := ha.ups
  refine RC.sr ?_
  refine ic ((k869 : Int)) ((s37.1.length : Int)) rfl rfl rfl rfl ?_
  refine RL.nq ?_
  refine RC.cond_t (dlt hk) ?_
  refine RC.ss ?_
  refine RC.bs ?_
  refine mv (vi (k869 : Int)) rfl rfl ?_
  obtain ⟨x894, hx894, hb⟩ := bd hb
  refine RL.ia_ownA (i := 0) trivial rfl hw rfl rfl rfl sl140 hx894 ?_
  refine RL.load_els (i := 0) (f := (fun x => x)) trivial rfl hw rfl (elp hw (i := 0) rfl hx894 0) rfl (idx_some hx894).2.1 Fd.self ty4 ?_
  refine as_ (vi (k869 : Int)) rfl rfl ?_
  refine as_ (vb x894) rfl rfl ?_
  refine RL.ns ?_
  refine mv (vb x894) rfl rfl ?_
  refine RL.nt ?_
  obtain ⟨s898, hj, hb⟩ := bd hb
  refine RC.jn (fun (s898 : (List Int)) (σ : Nat → Value) (w : World) => ∃ v899 : Value, agree σ [(17, v899), (83, v34), (84, (vi (s37.1.length : Int))), (85, (vi (k869 : Int)))] ∧ Holds E w ([own 4 v34 s37.1, own 3 v899 s898] ++ Γ)) s898 ?_ ?_
  ·refine RC.cond (b := x894) rfl (fun hc => ?_) (fun hc => ?_)
   rotate_left
   ·replace hj := cF hc hj
    refine RC.skip ?_
    obtain rfl := oi hj
    exact ⟨rfl, v893, ⟨rfl, rfl, rfl, rfl, trivial⟩, hw.pick 2 [0, 1] (new := [own 4 v34 s37.1, own 3 v893 s870]) rfl rfl (by decide) (by decide)⟩
   replace hj := cT hc hj
   refine RC.region ?_
   refine mv v893 rfl rfl ?_
   refine mv (vi (k869 : Int)) rfl rfl ?_
   have hw := hw.sc (γ := Int) (k869 : Int)
   refine RL.bslice (l := ([(k869 : Int)] : (List Int))) trivial rfl hw [(vi (k869 : Int))] rfl rfl rfl sl138 ze3 (fun M hs g => ⟨(g.sat 0 _ rfl).1, trivial⟩) fun v900 w hw => ?_
   have hw := hw.freeze (i := 0) rfl
   obtain ⟨x901, hx901, hj⟩ := bd hj
   refine RL.app (i := 3) (j := 0) trivial rfl hw rfl rfl rfl rfl el138 hx901 fun v902 w hw => ?_
   refine as_ v902 rfl rfl ?_
   refine RL.nil ?_
   obtain rfl := oi hj
   exact ⟨rfl, v902, ⟨rfl, rfl, rfl, rfl, trivial⟩, hw.pick 4 [2, 3] (new := [own 4 v34 s37.1, own 3 v902 x901]) rfl rfl (by decide) (by decide)⟩
  rintro σ w ⟨v899, ha, hw⟩
  obtain ⟨τ, rfl⟩ := ha.ups
  refine blkQ_n ?_
  refine thenQ_n ?_
  refine RC.region ?_
  refine RL.inc trivial rfl hk hm rfl rfl ?_
  refine mv (vi ((k869 + 1 : Nat) : Int)) rfl rfl ?_
  refine RL.nil ?_
  obtain rfl := oi hb
  exact ⟨rfl, v899, ⟨rfl, rfl, rfl, rfl, trivial⟩, hw.pick 2 [0, 1] (new := [own 4 v34 s37.1, own 3 v899 s898]) rfl rfl (by decide) (by decide)⟩
 intro σ w hJ
 obtain ⟨v892, ha, hw⟩ := hJ
 obtain ⟨τ, rfl⟩ := ha.ups
 refine thenQ_n ?_
 refine RC.sr ?_
 refine mv v892 rfl rfl ?_
 refine as_ v892 rfl rfl ?_
 refine RL.nt ?_
 refine RC.ret ?_
 obtain rfl := oi hb
 exact fin1 rfl rfl (hw.pick 2 [1] (new := [own 3 v892 s870]) rfl rfl (by decide) (by decide))
def etchhouseref2_Islands_R (E : World) (Γ : List HP) (res : (List (List Str)) × Int) (v : Value) (w : World) : Prop := ∃ u0 : Value, v = .tuple #[u0, (vi res.2)] ∧ Holds E w (own 55 u0 res.1 :: Γ)
def etchhouseref2_Islands_K (E : World) (Γ : List HP) (r : (List (List Str)) × Int) (σ : Nat → Value) (w : World) : Prop := finQ Tryd.prog 70 Tryd.f34 (etchhouseref2_Islands_R E Γ r) .ret σ w
theorem etchhouseref2_Islands_ok (N : Nat) {E w : World} {Γ : List HP} {i0 : Nat} {v0 : Value} {p0 : (List PartType)} {i1 : Nat} {v1 : Value} {p1 : Netlist} {i2 : Nat} {v2 : Value} {p2 : (List Str)} {res : (List (List Str)) × Int} (hw : Holds E w Γ) (h0 : Γ[i0]? = some (rd v0 p0)) (h1 : Γ[i1]? = some (rd v1 p1)) (h2 : Γ[i2]? = some (rd v2 p2)) (hb : etchhouseref2_Islands N p0 p1 p2 = some res) :
    Calls Tryd.prog 34 [v0, v1, v2].toArray w (Ret (etchhouseref2_Islands_R E Γ res)) := by
 unfold etchhouseref2_Islands at hb
 refine enter Tryd.func34 rfl rfl (Nat.le_of_ble_eq_true rfl) ?_
 have hw := hw.dup (i := i0 + 0) h0
 have hw := hw.dup (i := i1 + 1) h1
 have hw := hw.dup (i := i2 + 2) h2
 refine RC.sr ?_
 refine RL.box_rd (i := 1) (v := v1) trivial rfl hw rfl rfl fun b31 w hw => ?_
 refine as_ (.slice none 0 0) rfl rfl ?_
 refine as_ (vi 0) rfl rfl ?_
 refine RL.nq ?_
 refine RC.sr ?_
 refine mv v0 rfl rfl ?_
 refine RL.load_bf (i := 0) (f := (fun x => x)) trivial rfl hw rfl rfl Fd.self ty26 fun v32 hw => ?_
 obtain ⟨x33, hx33, hb⟩ := bd hb
 refine RL.call trivial rfl fn14 [v0, v32] rfl (Calls_ret (etchhouseref2_CheckList_ok N  (i0 := 4) (i1 := 0) hw rfl rfl hx33) ?_)
 rintro _ w ⟨rfl, hw⟩
 refine as_ (vi x33) rfl rfl ?_
 refine RL.ns ?_
 refine mv (vi x33) rfl rfl ?_
 refine ic x33 0 rfl rfl rfl rfl ?_
 refine RL.nt ?_
 refine RC.cond (b := (x33 != 0)) rfl (fun hc => ?_) (fun hc => ?_)
 ·replace hb := cT hc hb
  refine RC.sr ?_
  refine mv (vi x33) rfl rfl ?_
  refine as_ (.slice none 0 0) rfl rfl ?_
  refine as_ (vi x33) rfl rfl ?_
  refine RL.nt ?_
  refine RC.rt ?_
  obtain rfl := oi hb
  have hw := hw.own_nil (List Str) 55
  exact fin2 rfl rfl rfl ⟨(.slice none 0 0), rfl, hw.pick 6 [0] (new := [own 55 (.slice none 0 0) ([] : (List (List Str)))]) rfl rfl (by decide) (by decide)⟩
 replace hb := cF hc hb
 refine RC.ss ?_
 refine RC.sr ?_
 refine RL.load_bf (i := 1) (f := (fun x => x)) trivial rfl hw rfl rfl Fd.self ty26 fun v34 hw => ?_
 refine mv v2 rfl rfl ?_
 obtain ⟨x35, hx35, hb⟩ := bd hb
 refine RL.call trivial rfl fn92 [v34, v2] rfl (Calls_ret (etchhouseref2_checkNetNames_ok N  (i0 := 0) (i1 := 3) hw rfl rfl hx35) ?_)
 rintro _ w ⟨rfl, hw⟩
 refine as_ (vi x35) rfl rfl ?_
 refine RL.ns ?_
 refine mv (vi x35) rfl rfl ?_
 refine ic x35 0 rfl rfl rfl rfl ?_
 refine RL.nt ?_
 refine RC.cond (b := (x35 != 0)) rfl (fun hc => ?_) (fun hc => ?_)
 ·replace hb := cT hc hb
  refine RC.sr ?_
  refine mv (vi x35) rfl rfl ?_
  refine as_ (.slice none 0 0) rfl rfl ?_
  refine as_ (vi x35) rfl rfl ?_
  refine RL.nt ?_
  refine RC.rt ?_
  obtain rfl := oi hb
  have hw := hw.own_nil (List Str) 55
  exact fin2 rfl rfl rfl ⟨(.slice none 0 0), rfl, hw.pick 7 [0] (new := [own 55 (.slice none 0 0) ([] : (List (List Str)))]) rfl rfl (by decide) (by decide)⟩
 replace hb := cF hc hb
 refine RC.sx ?_
 refine RL.fa_b trivial rfl rfl fa26_0 ?_
 refine RL.load_bf (i := 2) (f := (fun x => x.Parts)) trivial rfl hw rfl rfl fd_Netlist_0 ty23 fun v36 hw => ?_
 refine RL.len_rd (i := 0) (l := p1.Parts) trivial rfl hw rfl rfl un23 ?_
 obtain ⟨x37, hx37, hb⟩ := bd hb
 refine RL.mk (k := (p1.Parts.length : Int)) trivial rfl hw rfl rfl el140 zd4 hx37 fun v38 w hw => ?_
 refine as_ v38 rfl rfl ?_
 refine RL.ns ?_
 refine as_ (.slice none 0 0) rfl rfl ?_
 refine RL.nq ?_
 refine RC.sr ?_
 refine RL.fa_b trivial rfl rfl fa26_0 ?_
 refine RL.load_bf (i := 4) (f := (fun x => x.Parts)) trivial rfl hw rfl rfl fd_Netlist_0 ty23 fun v39 hw => ?_
 refine RL.len_rd (i := 0) (l := p1.Parts) trivial rfl hw rfl rfl un23 ?_
 refine mv (vi 0) rfl rfl ?_
 refine RL.nt ?_
 obtain ⟨s41, hN, hb⟩ := bd hb
 refine RC.fold (fun (k40 : Nat) (s41 : (List Bool) × (List (List Str))) (σ : Nat → Value) (w : World) => ∃ v130 : Value, agree σ [(2, v2), (4, (vp b31 0)), (10, v38), (11, v130), (34, (vi (p1.Parts.length : Int))), (35, (vi (k40 : Int)))] ∧ Holds E w ([rd v2 p2, bx 26 b31 p1, own 4 v38 s41.1, own 55 v130 s41.2] ++ Γ)) (fun (s41 : (List Bool) × (List (List Str))) (σ : Nat → Value) (w : World) => ∃ v131 : Value, agree σ [(11, v131)] ∧ Holds E w ([rd v2 p2, bx 26 b31 p1, own 4 v38 s41.1, own 55 v131 s41.2] ++ Γ)) hN ?_ ?_ ?_ ?_
 ·have hw := hw.own_nil (List Str) 55
  exact ⟨(.slice none 0 0), ⟨rfl, rfl, rfl, rfl, rfl, rfl, trivial⟩, hw.pick 10 [7, 6, 2, 0] (new := [rd v2 p2, bx 26 b31 p1, own 4 v38 x37, own 55 (.slice none 0 0) ([] : (List (List Str)))]) rfl rfl (by decide) (by decide)⟩
 ·intro hm s41 σ w hI
  obtain ⟨v176, ha, hw⟩ := hI
  obtain ⟨τ, rfl⟩ := ha.ups
  refine RC.sr ?_
  refine ic ((p1.Parts.length : Int)) ((p1.Parts.length : Int)) rfl rfl rfl rfl ?_
  refine RL.nq ?_
  refine RC.cond_f dge ?_
  refine RC.ex ?_
  exact ⟨rfl, v176, ⟨rfl, trivial⟩, hw.pick 4 [0, 1, 2, 3] (new := [rd v2 p2, bx 26 b31 p1, own 4 v38 s41.1, own 55 v176 s41.2]) rfl rfl (by decide) (by decide)⟩
 ·intro hm k40 s41 s' σ w hk hI hb
  obtain ⟨v132, ha, hw⟩ := hI
  obtain ⟨τ, rfl⟩ := ha.ups
  refine RC.sr ?_
  refine ic ((k40 : Int)) ((p1.Parts.length : Int)) rfl rfl rfl rfl ?_
  refine RL.nq ?_
  refine RC.cond_t (dlt hk) ?_
  refine RC.ss ?_
  refine RC.bs ?_
  refine mv (vi (k40 : Int)) rfl rfl ?_
  refine as_ (vi (k40 : Int)) rfl rfl ?_
  refine RL.nq ?_
  refine RC.sr ?_
  refine mv v38 rfl rfl ?_
  refine mv (vi (k40 : Int)) rfl rfl ?_
  obtain ⟨x133, hx133, hb⟩ := bd hb
  refine RL.ia_ownA (i := 2) trivial rfl hw rfl rfl rfl sl140 hx133 ?_
  refine RL.load_els (i := 2) (f := (fun x => x)) trivial rfl hw rfl (elp hw (i := 2) rfl hx133 0) rfl (idx_some hx133).2.1 Fd.self ty4 ?_
  refine RL.nt ?_
  refine RC.cond (b := x133) rfl (fun hc => ?_) (fun hc => ?_)
  ·replace hb := cT hc hb
   refine RC.ex ?_
   refine blkQ_e ?_
   refine thenQ_n ?_
   refine RC.region ?_
   refine RL.inc trivial rfl hk hm rfl rfl ?_
   refine mv (vi ((k40 + 1 : Nat) : Int)) rfl rfl ?_
   refine RL.nil ?_
   obtain rfl := oi hb
   exact ⟨rfl, v132, ⟨rfl, rfl, rfl, rfl, rfl, rfl, trivial⟩, hw.pick 4 [0, 1, 2, 3] (new := [rd v2 p2, bx 26 b31 p1, own 4 v38 s41.1, own 55 v132 s41.2]) rfl rfl (by decide) (by decide)⟩
  replace hb := cF hc hb
  refine RC.sx ?_
  refine as_ (.slice none 0 0) rfl rfl ?_
  refine RL.nq ?_
  refine RC.sr ?_
  refine RL.load_bf (i := 1) (f := (fun x => x)) trivial rfl hw rfl rfl Fd.self ty26 fun v134 hw => ?_
  refine mv v2 rfl rfl ?_
  refine mv (vi (k40 : Int)) rfl rfl ?_
  obtain ⟨x135, hx135, hb⟩ := bd hb
  refine RL.call trivial rfl fn93 [v134, v2, (vi (k40 : Int))] rfl (Calls_ret (etchhouseref2_island_ok N (p2 := (k40 : Int)) (i0 := 0) (i1 := 1) hw rfl rfl hx135) ?_)
  rintro v136 w hw
  refine RL.len_own (i := 0) (l := x135) trivial rfl hw rfl rfl un138 ?_
  refine mv (vi 0) rfl rfl ?_
  refine RL.nt ?_
  obtain ⟨s138, hN, hb⟩ := bd hb
  refine RC.fold (fun (k137 : Nat) (s138 : (List Bool) × (List Str)) (σ : Nat → Value) (w : World) => ∃ v159 : Value, agree σ [(2, v2), (4, (vp b31 0)), (10, v38), (11, v132), (13, v159), (34, (vi (p1.Parts.length : Int))), (35, (vi (k40 : Int))), (45, v136), (46, (vi (x135.length : Int))), (47, (vi (k137 : Int)))] ∧ Holds E w ([rd v2 p2, bx 26 b31 p1, own 4 v38 s138.1, own 55 v132 s41.2, own 3 v136 x135, own 9 v159 s138.2] ++ Γ)) (fun (s138 : (List Bool) × (List Str)) (σ : Nat → Value) (w : World) => ∃ v160 : Value, agree σ [(2, v2), (4, (vp b31 0)), (10, v38), (11, v132), (13, v160), (34, (vi (p1.Parts.length : Int))), (35, (vi (k40 : Int)))] ∧ Holds E w ([rd v2 p2, bx 26 b31 p1, own 4 v38 s138.1, own 55 v132 s41.2, own 3 v136 x135, own 9 v160 s138.2] ++ Γ)) hN ?_ ?_ ?_ ?_
  ·have hw := hw.own_nil Str 9
   exact ⟨(.slice none 0 0), ⟨rfl, rfl, rfl, rfl, rfl, rfl, rfl, rfl, rfl, rfl, trivial⟩, hw.pick 7 [3, 4, 5, 6, 1, 0] (new := [rd v2 p2, bx 26 b31 p1, own 4 v38 s41.1, own 55 v132 s41.2, own 3 v136 x135, own 9 (.slice none 0 0) ([] : (List Str))]) rfl rfl (by decide) (by decide)⟩
  ·intro hm s138 σ w hI
   obtain ⟨v171, ha, hw⟩ := hI
   obtain ⟨τ, rfl⟩ := ha.ups
   refine RC.sr ?_
   refine ic ((x135.length : Int)) ((x135.length : Int)) rfl rfl rfl rfl ?_
   refine RL.nq ?_
   refine RC.cond_f dge ?_
   refine RC.ex ?_
   exact ⟨rfl, v171, ⟨rfl, rfl, rfl, rfl, rfl, rfl, rfl, trivial⟩, hw.pick 6 [0, 1, 2, 3, 4, 5] (new := [rd v2 p2, bx 26 b31 p1, own 4 v38 s138.1, own 55 v132 s41.2, own 3 v136 x135, own 9 v171 s138.2]) rfl rfl (by decide) (by decide)⟩
  ·intro hm k137 s138 s' σ w hk hI hb
   obtain ⟨v161, ha, hw⟩ := hI
   obtain ⟨τ, rfl⟩ := ha.ups
   refine RC.sr ?_
   refine ic ((k137 : Int)) ((x135.length : Int)) rfl rfl rfl rfl ?_
   refine RL.nq ?_
   refine RC.cond_t (dlt hk) ?_
   refine RC.ss ?_
   refine RC.bs ?_
   obtain ⟨x162, hx162, hb⟩ := bd hb
   refine RL.ia_ownA (i := 4) trivial rfl hw rfl rfl rfl sl138 hx162 ?_
   refine RL.load_els (i := 4) (f := (fun x => x)) trivial rfl hw rfl (elp hw (i := 4) rfl hx162 0) rfl (idx_some hx162).2.1 Fd.self ty3 ?_
   refine as_ (vi x162) rfl rfl ?_
   refine RL.ns ?_
   refine mv v38 rfl rfl ?_
   refine mv (vi x162) rfl rfl ?_
   obtain ⟨x163, hx163, hb⟩ := bd hb
   refine RL.ia_ownA (i := 2) trivial rfl hw rfl rfl rfl sl140 hx163 ?_
   have hw := hw.sc (γ := Bool) true
   refine RL.store_el (i := 3) (j := 0) (f := (fun _ y => y)) trivial hw rfl rfl (elp hw (i := 3) rfl hx163 0) rfl (idx_some hx163).2.1 rfl Fs.self (by decide) ty4 fun w hw => ?_
   refine RL.nt ?_
   refine RC.region ?_
   refine mv v161 rfl rfl ?_
   refine RL.fa_b trivial rfl rfl fa26_0 ?_
   refine RL.load_bf (i := 2) (f := (fun x => x.Parts)) trivial rfl hw rfl rfl fd_Netlist_0 ty23 fun v164 hw => ?_
   refine mv (vi x162) rfl rfl ?_
   obtain ⟨x165, hx165, hb⟩ := bd hb
   refine RL.ia_rd (i := 0) trivial rfl hw rfl rfl rfl sl23 hx165 fun v166 hw => ?_
   refine RL.fa_pt (i := 0) (f := fun (x : Part) => x.Name) trivial rfl hw rfl rfl fa87_0 fd_Part_0 fun v167 hw => ?_
   refine RL.load_pts (i := 0) (y := x165.Name) trivial rfl hw rfl rfl ty9 ?_
   have hw := hw.sc (γ := Str) x165.Name
   refine RL.bslice (l := ([x165.Name] : (List Str))) trivial rfl hw [(str x165.Name)] rfl rfl rfl sl55 ze9 (fun M hs g => ⟨(g.sat 0 _ rfl).1, trivial⟩) fun v168 w hw => ?_
   have hw := hw.freeze (i := 0) rfl
   obtain ⟨x169, hx169, hb⟩ := bd hb
   refine RL.app (i := 11) (j := 0) trivial rfl hw rfl rfl rfl rfl el55 hx169 fun v170 w hw => ?_
   refine as_ v170 rfl rfl ?_
   refine RL.nil ?_
   refine blkQ_n ?_
   refine thenQ_n ?_
   refine RC.region ?_
   refine RL.inc trivial rfl hk hm rfl rfl ?_
   refine mv (vi ((k137 + 1 : Nat) : Int)) rfl rfl ?_
   refine RL.nil ?_
   obtain rfl := oi hb
   exact ⟨rfl, v170, ⟨rfl, rfl, rfl, rfl, rfl, rfl, rfl, rfl, rfl, rfl, trivial⟩, hw.pick 12 [6, 7, 8, 9, 10, 11] (new := [rd v2 p2, bx 26 b31 p1, own 4 v38 (s138.1.set (Int.toNat x162) true), own 55 v132 s41.2, own 3 v136 x135, own 9 v170 x169]) rfl rfl (by decide) (by decide)⟩
  intro σ w hJ
  obtain ⟨v160, ha, hw⟩ := hJ
  obtain ⟨τ, rfl⟩ := ha.ups
  refine thenQ_n ?_
  refine RC.region ?_
  refine mv v132 rfl rfl ?_
  refine mv v160 rfl rfl ?_
  have hw := hw.freeze (i := 5) rfl
  refine RL.bslice (l := ([s138.2] : (List (List Str)))) trivial rfl hw [v160] rfl rfl rfl sl66 ze55 (fun M hs g => ⟨(g.sat 5 _ rfl).1, trivial⟩) fun v172 w hw => ?_
  have hw := hw.freeze (i := 0) rfl
  obtain ⟨x173, hx173, hb⟩ := bd hb
  refine RL.app (i := 4) (j := 0) trivial rfl hw rfl rfl rfl rfl el66 hx173 fun v174 w hw => ?_
  refine as_ v174 rfl rfl ?_
  refine RL.nil ?_
  refine blkQ_n ?_
  refine thenQ_n ?_
  refine RC.region ?_
  refine RL.inc trivial rfl hk hm rfl rfl ?_
  refine mv (vi ((k40 + 1 : Nat) : Int)) rfl rfl ?_
  refine RL.nil ?_
  obtain rfl := oi hb
  exact ⟨rfl, v174, ⟨rfl, rfl, rfl, rfl, rfl, rfl, trivial⟩, hw.pick 7 [1, 2, 3, 4] (new := [rd v2 p2, bx 26 b31 p1, own 4 v38 s138.1, own 55 v174 x173]) rfl rfl (by decide) (by decide)⟩
 intro σ w hJ
 obtain ⟨v131, ha, hw⟩ := hJ
 obtain ⟨τ, rfl⟩ := ha.ups
 refine thenQ_n ?_
 refine RC.sr ?_
 refine mv v131 rfl rfl ?_
 refine as_ v131 rfl rfl ?_
 refine as_ (vi 0) rfl rfl ?_
 refine RL.nt ?_
 refine RC.ret ?_
 obtain rfl := oi hb
 exact fin2 rfl rfl rfl ⟨v131, rfl, hw.pick 4 [3] (new := [own 55 v131 s41.2]) rfl rfl (by decide) (by decide)⟩
def etchhouseref2_SameRows_R (E : World) (Γ : List HP) (res : Bool) (v : Value) (w : World) : Prop := v = (vb res) ∧ Holds E w Γ
def etchhouseref2_SameRows_K (E : World) (Γ : List HP) (r : Bool) (σ : Nat → Value) (w : World) : Prop := finQ Tryd.prog 27 Tryd.f35 (etchhouseref2_SameRows_R E Γ r) .ret σ w
theorem etchhouseref2_SameRows_ok (N : Nat) {E w : World} {Γ : List HP} {i0 : Nat} {v0 : Value} {p0 : (List (List Str))} {i1 : Nat} {v1 : Value} {p1 : (List (List Str))} {res : Bool} (hw : Holds E w Γ) (h0 : Γ[i0]? = some (rd v0 p0)) (h1 : Γ[i1]? = some (rd v1 p1)) (hb : etchhouseref2_SameRows N p0 p1 = some res) :
    Calls Tryd.prog 35 [v0, v1].toArray w (Ret (etchhouseref2_SameRows_R E Γ res)) := by
 unfold etchhouseref2_SameRows at hb
 refine enter Tryd.func35 rfl rfl (Nat.le_of_ble_eq_true rfl) ?_
 have hw := hw.dup (i := i0 + 0) h0
 have hw := hw.dup (i := i1 + 1) h1
 refine RC.sr ?_
 refine as_ (vb false) rfl rfl ?_
 refine RL.nq ?_
 refine RC.sr ?_
 refine mv v0 rfl rfl ?_
 refine RL.len_rd (i := 1) (l := p0) trivial rfl hw rfl rfl un66 ?_
 refine mv v1 rfl rfl ?_
 refine RL.len_rd (i := 0) (l := p1) trivial rfl hw rfl rfl un66 ?_
 refine ic ((p0.length : Int)) ((p1.length : Int)) rfl rfl rfl rfl ?_
 refine RL.nt ?_
 refine RC.cond (b := ((p0.length : Int) != (p1.length : Int))) rfl (fun hc => ?_) (fun hc => ?_)
 ·replace hb := cT hc hb
  refine RC.sr ?_
  refine as_ (vb false) rfl rfl ?_
  refine RL.nt ?_
  refine RC.rt ?_
  obtain rfl := oi hb
  exact fin1 rfl rfl ⟨rfl, hw.drop 2 rfl⟩
 replace hb := cF hc hb
 refine RC.ss ?_
 refine RC.sr ?_
 refine mv v0 rfl rfl ?_
 refine RL.len_rd (i := 1) (l := p0) trivial rfl hw rfl rfl un66 ?_
 refine mv (vi 0) rfl rfl ?_
 refine RL.nt ?_
 obtain ⟨o55, hN, hb⟩ := bd hb
 refine RC.range (fun (k31 : Nat) (s32 : Unit) (σ : Nat → Value) (w : World) => agree σ [(0, v0), (1, v1), (12, (vi (p0.length : Int))), (13, (vi (k31 : Int)))] ∧ Holds E w ([rd v0 p0, rd v1 p1] ++ Γ)) (fun (s32 : Unit) (σ : Nat → Value) (w : World) => agree σ [] ∧ Holds E w ([rd v0 p0, rd v1 p1] ++ Γ)) (etchhouseref2_SameRows_K E Γ) hN ?_ ?_ ?_ ?_ ?_ 
 ·exact ⟨⟨rfl, rfl, rfl, rfl, trivial⟩, hw.pick 2 [1, 0] (new := [rd v0 p0, rd v1 p1]) rfl rfl (by decide) (by decide)⟩
 ·intro hm s32 σ w hI
  obtain ⟨ha, hw⟩ := hI
  obtain ⟨τ, rfl⟩ := ha.ups
  refine RC.sr ?_
  refine ic ((p0.length : Int)) ((p0.length : Int)) rfl rfl rfl rfl ?_
  refine RL.nq ?_
  refine RC.cond_f dge ?_
  refine RC.ex ?_
  exact ⟨rfl, trivial, hw.pick 2 [0, 1] (new := [rd v0 p0, rd v1 p1]) rfl rfl (by decide) (by decide)⟩
 ·intro hm k31 s32 fl σ w hk hI hb
  obtain ⟨ha, hw⟩ := hI
  obtain ⟨τ, rfl⟩ := ha.ups
  refine RC.sr ?_
  refine ic ((k31 : Int)) ((p0.length : Int)) rfl rfl rfl rfl ?_
  refine RL.nq ?_
  refine RC.cond_t (dlt hk) ?_
  refine RC.ss ?_
  refine RC.bs ?_
  refine mv (vi (k31 : Int)) rfl rfl ?_
  refine as_ (vi (k31 : Int)) rfl rfl ?_
  refine RL.nq ?_
  obtain ⟨x44, hx44, hb⟩ := bd hb
  obtain ⟨x47, hx47, hb⟩ := bd hb
  obtain ⟨x50, hx50, hb⟩ := bd hb
  refine RC.drw mixed rfl (fun (D : Nat → Bool) (σ : Nat → Value) (w : World) => ∃ (v45 : Value) (v46 : Value) (v48 : Value) (v49 : Value), doneV D σ [(0, 16, v0), (1, 17, (vi (k31 : Int))), (2, 18, v45), (3, 19, v46), (4, 20, v1), (5, 21, (vi (k31 : Int))), (6, 22, v48), (7, 23, v49), (8, 24, (vb x50)), (9, 25, (vb (!x50)))] ∧ agree σ [(0, v0), (1, v1), (5, (vi (k31 : Int))), (12, (vi (p0.length : Int))), (13, (vi (k31 : Int)))] ∧ Holds E w ([bif D 2 then (pt v45 x44) else junk, bif D 3 then (rd v46 x44) else junk, bif D 6 then (pt v48 x47) else junk, bif D 7 then (rd v49 x47) else junk, rd v0 p0, rd v1 p1] ++ Γ)) ?_ ⟨?_, ?_, ?_, ?_, ?_, ?_, ?_, ?_, ?_, ?_, trivial⟩ ?_
  ·have hw := hw.drew
   have hw := hw.junk
   have hw := hw.junk
   have hw := hw.junk
   have hw := hw.junk
   exact ⟨undef, undef, undef, undef, doneV.none, ⟨rfl, rfl, rfl, rfl, rfl, trivial⟩, hw⟩
  ·rintro D σ w hD hdep hcl ⟨v45, v46, v48, v49, hv, ha, hw⟩
   obtain ⟨τ, rfl⟩ := (ac (ha.at 0 rfl) az).ups
   refine mv v0 rfl rfl ?_
   refine RL.nil ?_
   exact ⟨rfl, v45, v46, v48, v49, hv.put 0 rfl rfl, ha.up rfl, hw⟩
  ·rintro D σ w hD hdep hcl ⟨v45, v46, v48, v49, hv, ha, hw⟩
   obtain ⟨τ, rfl⟩ := (ac (ha.at 2 rfl) az).ups
   refine mv (vi (k31 : Int)) rfl rfl ?_
   refine RL.nil ?_
   exact ⟨rfl, v45, v46, v48, v49, hv.put 1 rfl rfl, ha.up rfl, hw⟩
  ·rintro D σ w hD hdep hcl ⟨v45, v46, v48, v49, hv, ha, hw⟩
   obtain ⟨τ, rfl⟩ := (ac (hv.at 0 rfl (hdep.1 rfl)) (ac (hv.at 1 rfl (hdep.2.1 rfl)) az)).ups
   have hw := hw.selF (i := 0) rfl hD
   refine RL.ia_rd (i := 4) trivial rfl hw rfl rfl rfl sl66 hx44 fun v51 hw => ?_
   have hw := hw.pick 7 [0, 2, 3, 4, 5, 6] (new := [pt v51 x44, bif D 3 then (rd v46 x44) else junk, bif D 6 then (pt v48 x47) else junk, bif D 7 then (rd v49 x47) else junk, rd v0 p0, rd v1 p1]) rfl rfl (by decide) (by decide)
   have hw := hw.altT (i := 0) (b := true) rfl rfl (junk)
   refine RL.nil ?_
   exact ⟨rfl, v51, v46, v48, v49, hv.put 2 rfl rfl, ha.up rfl, hw⟩
  ·rintro D σ w hD hdep hcl ⟨v45, v46, v48, v49, hv, ha, hw⟩
   obtain ⟨τ, rfl⟩ := (ac (hv.at 2 rfl (hdep.1 rfl)) az).ups
   have hw := hw.selT (i := 0) rfl (hdep.1 rfl)
   have hw := hw.selF (i := 1) rfl hD
   refine RL.load_pt (i := 0) (x := x44) trivial rfl hw rfl rfl ty55 fun v52 hw => ?_
   have hw := hw.pick 7 [1, 0, 3, 4, 5, 6] (new := [pt v45 x44, rd v52 x44, bif D 6 then (pt v48 x47) else junk, bif D 7 then (rd v49 x47) else junk, rd v0 p0, rd v1 p1]) rfl rfl (by decide) (by decide)
   have hw := hw.altT (i := 0) (b := D 2) rfl (hdep.1 rfl) (junk)
   have hw := hw.altT (i := 1) (b := true) rfl rfl (junk)
   refine RL.nil ?_
   exact ⟨rfl, v45, v52, v48, v49, hv.put 3 rfl rfl, ha.up rfl, hw⟩
  ·rintro D σ w hD hdep hcl ⟨v45, v46, v48, v49, hv, ha, hw⟩
   obtain ⟨τ, rfl⟩ := (ac (ha.at 1 rfl) az).ups
   refine mv v1 rfl rfl ?_
   refine RL.nil ?_
   exact ⟨rfl, v45, v46, v48, v49, hv.put 4 rfl rfl, ha.up rfl, hw⟩
  ·rintro D σ w hD hdep hcl ⟨v45, v46, v48, v49, hv, ha, hw⟩
   obtain ⟨τ, rfl⟩ := (ac (ha.at 2 rfl) az).ups
   refine mv (vi (k31 : Int)) rfl rfl ?_
   refine RL.nil ?_
   exact ⟨rfl, v45, v46, v48, v49, hv.put 5 rfl rfl, ha.up rfl, hw⟩
  ·rintro D σ w hD hdep hcl ⟨v45, v46, v48, v49, hv, ha, hw⟩
   obtain ⟨τ, rfl⟩ := (ac (hv.at 4 rfl (hdep.1 rfl)) (ac (hv.at 5 rfl (hdep.2.1 rfl)) az)).ups
   have hw := hw.selF (i := 2) rfl hD
   refine RL.ia_rd (i := 5) trivial rfl hw rfl rfl rfl sl66 hx47 fun v53 hw => ?_
   have hw := hw.pick 7 [1, 2, 0, 4, 5, 6] (new := [bif D 2 then (pt v45 x44) else junk, bif D 3 then (rd v46 x44) else junk, pt v53 x47, bif D 7 then (rd v49 x47) else junk, rd v0 p0, rd v1 p1]) rfl rfl (by decide) (by decide)
   have hw := hw.altT (i := 2) (b := true) rfl rfl (junk)
   refine RL.nil ?_
   exact ⟨rfl, v45, v46, v53, v49, hv.put 6 rfl rfl, ha.up rfl, hw⟩
  ·rintro D σ w hD hdep hcl ⟨v45, v46, v48, v49, hv, ha, hw⟩
   obtain ⟨τ, rfl⟩ := (ac (hv.at 6 rfl (hdep.1 rfl)) az).ups
   have hw := hw.selT (i := 2) rfl (hdep.1 rfl)
   have hw := hw.selF (i := 3) rfl hD
   refine RL.load_pt (i := 2) (x := x47) trivial rfl hw rfl rfl ty55 fun v54 hw => ?_
   have hw := hw.pick 7 [1, 2, 3, 0, 5, 6] (new := [bif D 2 then (pt v45 x44) else junk, bif D 3 then (rd v46 x44) else junk, pt v48 x47, rd v54 x47, rd v0 p0, rd v1 p1]) rfl rfl (by decide) (by decide)
   have hw := hw.altT (i := 2) (b := D 6) rfl (hdep.1 rfl) (junk)
   have hw := hw.altT (i := 3) (b := true) rfl rfl (junk)
   refine RL.nil ?_
   exact ⟨rfl, v45, v46, v48, v54, hv.put 7 rfl rfl, ha.up rfl, hw⟩
  ·rintro D σ w hD hdep hcl ⟨v45, v46, v48, v49, hv, ha, hw⟩
   obtain ⟨τ, rfl⟩ := (ac (hv.at 3 rfl (hdep.1 rfl)) (ac (hv.at 7 rfl (hdep.2.1 rfl)) az)).ups
   have hw := hw.selT (i := 1) rfl (hdep.1 rfl)
   have hw := hw.selT (i := 3) rfl (hdep.2.1 rfl)
   refine RL.call trivial rfl fn64 [v46, v49] rfl (Calls_ret (slices_Equal_string_ok N  (i0 := 1) (i1 := 3) hw rfl rfl hx50) ?_)
   rintro _ w ⟨rfl, hw⟩
   have hw := hw.altT (i := 1) (b := D 3) rfl (hdep.1 rfl) (junk)
   have hw := hw.altT (i := 3) (b := D 7) rfl (hdep.2.1 rfl) (junk)
   refine RL.nil ?_
   exact ⟨rfl, v45, v46, v48, v49, hv.put 8 rfl rfl, ha.up rfl, hw⟩
  ·rintro D σ w hD hdep hcl ⟨v45, v46, v48, v49, hv, ha, hw⟩
   obtain ⟨τ, rfl⟩ := (ac (hv.at 8 rfl (hdep.1 rfl)) az).ups
   refine RL.not (b := x50) trivial rfl rfl ?_
   refine RL.nil ?_
   exact ⟨rfl, v45, v46, v48, v49, hv.put 9 rfl rfl, ha.up rfl, hw⟩
  rintro D σ w hall ⟨v45, v46, v48, v49, hv, ha, hw⟩
  rw [hall 2 (by decide), hall 3 (by decide), hall 6 (by decide), hall 7 (by decide)] at hw
  obtain ⟨τ, rfl⟩ := (ac (hv.at 9 rfl (hall 9 (by decide))) (ac (ha.at 0 rfl) (ac (ha.at 1 rfl) (ac (ha.at 2 rfl) (ac (ha.at 3 rfl) (ac (ha.at 4 rfl) az)))))).ups
  refine thenQ_n ?_
  refine RC.cond (b := (!x50)) rfl (fun hc => ?_) (fun hc => ?_)
  rotate_left
  ·replace hb := cF hc hb
   refine RC.skip ?_
   refine blkQ_n ?_
   refine thenQ_n ?_
   refine RC.region ?_
   refine RL.inc trivial rfl hk hm rfl rfl ?_
   refine mv (vi ((k31 + 1 : Nat) : Int)) rfl rfl ?_
   refine RL.nil ?_
   obtain rfl := oi hb
   exact ⟨rfl, ⟨rfl, rfl, rfl, rfl, trivial⟩, hw.pick 6 [4, 5] (new := [rd v0 p0, rd v1 p1]) rfl rfl (by decide) (by decide)⟩
  replace hb := cT hc hb
  refine RC.sr ?_
  refine as_ (vb false) rfl rfl ?_
  refine RL.nt ?_
  refine RC.rb ?_
  refine thenQ_r ?_
  obtain rfl := oi hb
  exact ⟨rfl, fin1 rfl rfl ⟨rfl, hw.drop 6 rfl⟩⟩
 ·intro r σ w e hK
  subst e
  refine thenQ_r ?_
  obtain rfl := oi hb
  exact hK
 intro s32 σ w e hJ
 subst e
 rw [Fo.cs_go] at hb
 obtain ⟨ha, hw⟩ := hJ
 obtain ⟨τ, rfl⟩ := ha.ups
 refine thenQ_n ?_
 refine RC.sr ?_
 refine as_ (vb true) rfl rfl ?_
 refine RL.nt ?_
 refine RC.ret ?_
 obtain rfl := oi hb
 exact fin1 rfl rfl ⟨rfl, hw.drop 2 rfl⟩
def etchhouselaw2_NetlistIslandsMatchSpec_R (E : World) (Γ : List HP) (res : Bool) (v : Value) (w : World) : Prop := v = (vb res) ∧ Holds E w Γ
def etchhouselaw2_NetlistIslandsMatchSpec_K (E : World) (Γ : List HP) (r : Bool) (σ : Nat → Value) (w : World) : Prop := finQ Tryd.prog 36 Tryd.f10 (etchhouselaw2_NetlistIslandsMatchSpec_R E Γ r) .ret σ w
theorem etchhouselaw2_NetlistIslandsMatchSpec_ok (N : Nat) {E w : World} {Γ : List HP} {i0 : Nat} {v0 : Value} {p0 : (List PartType)} {i1 : Nat} {v1 : Value} {p1 : Netlist} {i2 : Nat} {v2 : Value} {p2 : (List Str)} {res : Bool} (hw : Holds E w Γ) (h0 : Γ[i0]? = some (rd v0 p0)) (h1 : Γ[i1]? = some (rd v1 p1)) (h2 : Γ[i2]? = some (rd v2 p2)) (hb : etchhouselaw2_NetlistIslandsMatchSpec N p0 p1 p2 = some res) :
    Calls Tryd.prog 10 [v0, v1, v2].toArray w (Ret (etchhouselaw2_NetlistIslandsMatchSpec_R E Γ res)) := by
 unfold etchhouselaw2_NetlistIslandsMatchSpec at hb
 refine enter Tryd.func10 rfl rfl (Nat.le_of_ble_eq_true rfl) ?_
 have hw := hw.dup (i := i0 + 0) h0
 have hw := hw.dup (i := i1 + 1) h1
 have hw := hw.dup (i := i2 + 2) h2
 refine RC.sr ?_
 refine RL.box_rd (i := 1) (v := v1) trivial rfl hw rfl rfl fun b31 w hw => ?_
 refine as_ (vb false) rfl rfl ?_
 refine RL.ns ?_
 refine mv v0 rfl rfl ?_
 refine RL.load_bf (i := 0) (f := (fun x => x)) trivial rfl hw rfl rfl Fd.self ty26 fun v32 hw => ?_
 refine mv v2 rfl rfl ?_
 obtain ⟨x33, hx33, hb⟩ := bd hb
 refine RL.call trivial rfl fn33 [v0, v32, v2] rfl (Calls_ret (netlist_Islands_ok N  (i0 := 4) (i1 := 0) (i2 := 2) hw rfl rfl rfl hx33) ?_)
 rintro _ w ⟨v34, rfl, hw⟩
 refine mv (.tuple #[v34, (vi x33.2)]) rfl rfl ?_
 refine RL.extract (v := v34) trivial rfl rfl rfl ?_
 refine RL.extract (v := (vi x33.2)) trivial rfl rfl rfl ?_
 refine as_ v34 rfl rfl ?_
 refine as_ (vi x33.2) rfl rfl ?_
 refine RL.ns ?_
 refine mv v0 rfl rfl ?_
 refine RL.load_bf (i := 2) (f := (fun x => x)) trivial rfl hw rfl rfl Fd.self ty26 fun v35 hw => ?_
 refine mv v2 rfl rfl ?_
 obtain ⟨x36, hx36, hb⟩ := bd hb
 refine RL.call trivial rfl fn34 [v0, v35, v2] rfl (Calls_ret (etchhouseref2_Islands_ok N  (i0 := 6) (i1 := 0) (i2 := 4) hw rfl rfl rfl hx36) ?_)
 rintro _ w ⟨v37, rfl, hw⟩
 refine mv (.tuple #[v37, (vi x36.2)]) rfl rfl ?_
 refine RL.extract (v := v37) trivial rfl rfl rfl ?_
 refine RL.extract (v := (vi x36.2)) trivial rfl rfl rfl ?_
 refine as_ v37 rfl rfl ?_
 refine as_ (vi x36.2) rfl rfl ?_
 refine RL.nq ?_
 obtain ⟨s44, hj, hb⟩ := bd hb
 refine RC.jn (fun (s44 : Bool) (σ : Nat → Value) (w : World) => agree σ [(6, (vb s44))] ∧ Holds E w ([] ++ Γ)) s44 ?_ ?_
 ·refine RC.region ?_
  refine mv (vi x33.2) rfl rfl ?_
  refine mv (vi x36.2) rfl rfl ?_
  refine ic (x33.2) (x36.2) rfl rfl rfl rfl ?_
  refine mv (vb (x33.2 == x36.2)) rfl rfl ?_
  rcases Bool.eq_false_or_eq_true (x33.2 == x36.2) with hg45 | hg45
  rotate_left
  ·replace hj := cF hg45 hj
   refine sk rfl (.inl (cb hg45)) rfl ?_
   refine sk rfl (.inl (cb hg45)) rfl ?_
   refine sk rfl (.inl (cb hg45)) rfl ?_
   refine RL.pick (b := (x33.2 == x36.2)) (v := (vb false)) trivial rfl rfl (by rw [hg45]; rfl) ?_
   refine mv (vb false) rfl rfl ?_
   refine sk rfl (.inl rfl) rfl ?_
   refine RL.pick (b := false) (v := (vb false)) trivial rfl rfl rfl ?_
   refine as_ (vb false) rfl rfl ?_
   refine RL.nil ?_
   obtain rfl := oi hj
   exact ⟨rfl, ⟨rfl, trivial⟩, hw.pick 8 [] (new := []) rfl rfl (by decide) (by decide)⟩
  replace hj := cT hg45 hj
  refine RL.move (v := v34) ⟨_, rfl, cb hg45⟩ rfl rfl ?_
  refine RL.move (v := v37) ⟨_, rfl, cb hg45⟩ rfl rfl ?_
  have hw := hw.freeze (i := 2) rfl
  have hw := hw.freeze (i := 0) rfl
  obtain ⟨x46, hx46, hj⟩ := bd hj
  refine RL.call ⟨_, rfl, cb hg45⟩ rfl fn35 [v34, v37] rfl (Calls_ret (etchhouseref2_SameRows_ok N  (i0 := 2) (i1 := 0) hw rfl rfl hx46) ?_)
  rintro _ w ⟨rfl, hw⟩
  refine RL.pick (b := (x33.2 == x36.2)) (v := (vb x46)) trivial rfl rfl (by rw [hg45]; rfl) ?_
  refine mv (vb x46) rfl rfl ?_
  rcases Bool.eq_false_or_eq_true x46 with hg47 | hg47
  rotate_left
  ·replace hj := cF hg47 hj
   refine sk rfl (.inl (cb hg47)) rfl ?_
   refine RL.pick (b := x46) (v := (vb false)) trivial rfl rfl (by rw [hg47]; rfl) ?_
   refine as_ (vb false) rfl rfl ?_
   refine RL.nil ?_
   obtain rfl := oi hj
   exact ⟨rfl, ⟨rfl, trivial⟩, hw.pick 8 [] (new := []) rfl rfl (by decide) (by decide)⟩
  replace hj := cT hg47 hj
  obtain ⟨x48, hx48, hj⟩ := bd hj
  refine RL.call ⟨_, rfl, cb hg47⟩ rfl fn18 [] rfl (Calls_ret (etchhouselaw2_awake_ok N   hw  hx48) ?_)
  rintro _ w ⟨rfl, hw⟩
  refine RL.pick (b := x46) (v := (vb x48)) trivial rfl rfl (by rw [hg47]; rfl) ?_
  refine as_ (vb x48) rfl rfl ?_
  refine RL.nil ?_
  obtain rfl := oi hj
  exact ⟨rfl, ⟨rfl, trivial⟩, hw.pick 8 [] (new := []) rfl rfl (by decide) (by decide)⟩
 rintro σ w ⟨ha, hw⟩
 obtain ⟨τ, rfl⟩ := ha.ups
 refine thenQ_n ?_
 refine RC.ret ?_
 obtain rfl := oi hb
 exact fin1 rfl rfl ⟨rfl, hw.drop 0 rfl⟩
end Go.Gk
