/-
  Printed by gen.py: Go functions as plain functions, and that they are.
-/
import Derived.Test.YtghdidhpcgioeaaDoorT
import Derived.Test.YtghdidhpcgioeaaDoorS
import Derived.Test.YtghdidhpcgioeaaDoorF1
import Derived.Test.YtghdidhpcgioeaaDoorF2
set_option linter.unusedVariables false
set_option linter.unusedSimpArgs false
set_option linter.unusedSectionVars false
set_option maxRecDepth 100000
set_option maxHeartbeats 4000000

namespace Go.Gk
open Go Go.Proofs
def netlist_pinsOf_R (E : World) (Γ : List HP) (res : (List Pin)) (v : Value) (w : World) : Prop := Holds E w (own 45 v res :: Γ)
def netlist_pinsOf_K (E : World) (Γ : List HP) (r : (List Pin)) (σ : Nat → Value) (w : World) : Prop := finQ Tryd.prog 31 Tryd.f75 (netlist_pinsOf_R E Γ r) .ret σ w
theorem netlist_pinsOf_ok (N : Nat) {E w : World} {Γ : List HP} {i0 : Nat} {v0 : Value} {p0 : (List PartType)} {i1 : Nat} {v1 : Value} {p1 : Part} {res : (List Pin)} (hw : Holds E w Γ) (h0 : Γ[i0]? = some (rd v0 p0)) (h1 : Γ[i1]? = some (rd v1 p1)) (hb : netlist_pinsOf N p0 p1 = some res) :
    Calls Tryd.prog 75 [v0, v1].toArray w (Ret (netlist_pinsOf_R E Γ res)) := by
 unfold netlist_pinsOf at hb
 refine enter Tryd.func75 rfl rfl (Nat.le_of_ble_eq_true rfl) ?_
 have hw := hw.dup (i := i0 + 0) h0
 have hw := hw.dup (i := i1 + 1) h1
 refine RC.sr ?_
 refine RL.box_rd (i := 0) (v := v1) trivial rfl hw rfl rfl fun b31 w hw => ?_
 refine as_ (.slice none 0 0) rfl rfl ?_
 refine RL.ns ?_
 refine as_ (.slice none 0 0) rfl rfl ?_
 refine RL.nq ?_
 refine RC.sr ?_
 refine mv v0 rfl rfl ?_
 refine mv v0 rfl rfl ?_
 refine RL.fa_b trivial rfl rfl fa36_1 ?_
 refine RL.load_bfs (i := 0) (f := (fun x => x.Type_)) trivial rfl hw rfl rfl fd_Part_1 ty9 ?_
 obtain ⟨x32, hx32, hb⟩ := bd hb
 refine RL.call trivial rfl fn67 [v0, (str p1.Type_)] rfl (Calls_ret (netlist_TypeAt_ok N (p1 := p1.Type_) (i0 := 2) hw rfl hx32) ?_)
 rintro _ w ⟨rfl, hw⟩
 obtain ⟨x33, hx33, hb⟩ := bd hb
 refine RL.ia_rd (i := 2) trivial rfl hw rfl rfl rfl sl22 hx33 fun v34 hw => ?_
 refine RL.fa_pt (i := 0) (f := fun (x : PartType) => x.Pins) trivial rfl hw rfl rfl fa66_1 fd_PartType_1 fun v35 hw => ?_
 refine RL.load_pt (i := 0) (x := x33.Pins) trivial rfl hw rfl rfl ty64 fun v36 hw => ?_
 refine RL.len_rd (i := 0) (l := x33.Pins) trivial rfl hw rfl rfl un64 ?_
 refine mv (vi 0) rfl rfl ?_
 refine RL.nt ?_
 obtain ⟨s38, hN, hb⟩ := bd hb
 refine RC.fold (fun (k37 : Nat) (s38 : (List Pin)) (σ : Nat → Value) (w : World) => ∃ v57 : Value, agree σ [(3, (vp b31 0)), (5, v57), (15, v36), (16, (vi (x33.Pins.length : Int))), (17, (vi (k37 : Int)))] ∧ Holds E w ([bx 36 b31 p1, rd v36 x33.Pins, own 45 v57 s38] ++ Γ)) (fun (s38 : (List Pin)) (σ : Nat → Value) (w : World) => ∃ v58 : Value, agree σ [(5, v58)] ∧ Holds E w ([bx 36 b31 p1, rd v36 x33.Pins, own 45 v58 s38] ++ Γ)) hN ?_ ?_ ?_ ?_
 ·have hw := hw.own_nil Pin 45
  exact ⟨(.slice none 0 0), ⟨rfl, rfl, rfl, rfl, rfl, trivial⟩, hw.pick 7 [4, 1, 0] (new := [bx 36 b31 p1, rd v36 x33.Pins, own 45 (.slice none 0 0) ([] : (List Pin))]) rfl rfl (by decide) (by decide)⟩
 ·intro hm s38 σ w hI
  obtain ⟨v68, ha, hw⟩ := hI
  obtain ⟨τ, rfl⟩ := ha.ups
  refine RC.sr ?_
  refine ic ((x33.Pins.length : Int)) ((x33.Pins.length : Int)) rfl rfl rfl rfl ?_
  refine RL.nq ?_
  refine RC.cond_f dge ?_
  refine RC.ex ?_
  exact ⟨rfl, v68, ⟨rfl, trivial⟩, hw.pick 3 [0, 1, 2] (new := [bx 36 b31 p1, rd v36 x33.Pins, own 45 v68 s38]) rfl rfl (by decide) (by decide)⟩
 ·intro hm k37 s38 s' σ w hk hI hb
  obtain ⟨v59, ha, hw⟩ := hI
  obtain ⟨τ, rfl⟩ := ha.ups
  refine RC.sr ?_
  refine ic ((k37 : Int)) ((x33.Pins.length : Int)) rfl rfl rfl rfl ?_
  refine RL.nq ?_
  refine RC.cond_t (dlt hk) ?_
  refine RC.ss ?_
  refine RC.bs ?_
  obtain ⟨x60, hx60, hb⟩ := bd hb
  refine RL.ia_rd (i := 1) trivial rfl hw rfl rfl rfl sl64 hx60 fun v61 hw => ?_
  refine RL.load_pt (i := 0) (x := x60) trivial rfl hw rfl rfl ty63 fun v62 hw => ?_
  refine RL.alloc trivial rfl hw ze63.z fun b63 w hw => ?_
  refine RL.store_raw (i := 0) (j := 1) trivial hw rfl rfl rfl rfl ty63 rfl fun w hw => ?_
  refine RL.nt ?_
  refine RC.region ?_
  refine mv v59 rfl rfl ?_
  refine RL.fa_b trivial rfl rfl fa36_0 ?_
  refine RL.load_bfs (i := 3) (f := (fun x => x.Name)) trivial rfl hw rfl rfl fd_Part_0 ty9 ?_
  refine RL.fa_b trivial rfl rfl fa63_0 ?_
  refine RL.load_bfs (i := 0) (f := (fun x => x.Name)) trivial rfl hw rfl rfl fd_PinType_0 ty9 ?_
  have hw := hw.sc (γ := Str) p1.Name
  have hw := hw.sc (γ := Str) x60.Name
  refine RL.build (y := (⟨p1.Name, x60.Name⟩ : Pin)) trivial rfl hw [(0, (str p1.Name)), (1, (str x60.Name))] rfl st45 rfl (fun M hs g => by have h := z_Pin M; exact Fills.cons (f := fun (x : Pin) y => { x with Part := y }) rfl h fs_Pin_0 (by decide) (g.sat 1 _ rfl).1 fun _ h => Fills.cons (f := fun (x : Pin) y => { x with Pin := y }) rfl h fs_Pin_1 (by decide) (g.sat 0 _ rfl).1 fun _ h => Fills.nil h) fun v64 hw => ?_
  refine RL.bslice (l := ([(⟨p1.Name, x60.Name⟩ : Pin)] : (List Pin))) trivial rfl hw [v64] rfl rfl rfl sl37 ze45 (fun M hs g => ⟨(g.sat 0 _ rfl).1, trivial⟩) fun v65 w hw => ?_
  have hw := hw.freeze (i := 0) rfl
  obtain ⟨x66, hx66, hb⟩ := bd hb
  refine RL.app (i := 9) (j := 0) trivial rfl hw rfl rfl rfl rfl el37 hx66 fun v67 w hw => ?_
  refine as_ v67 rfl rfl ?_
  refine RL.nil ?_
  refine blkQ_n ?_
  refine thenQ_n ?_
  refine RC.region ?_
  refine RL.inc trivial rfl hk hm rfl rfl ?_
  refine mv (vi ((k37 + 1 : Nat) : Int)) rfl rfl ?_
  refine RL.nil ?_
  obtain rfl := oi hb
  exact ⟨rfl, v67, ⟨rfl, rfl, rfl, rfl, rfl, trivial⟩, hw.pick 10 [7, 8, 9] (new := [bx 36 b31 p1, rd v36 x33.Pins, own 45 v67 x66]) rfl rfl (by decide) (by decide)⟩
 intro σ w hJ
 obtain ⟨v58, ha, hw⟩ := hJ
 obtain ⟨τ, rfl⟩ := ha.ups
 refine thenQ_n ?_
 refine RC.sr ?_
 refine mv v58 rfl rfl ?_
 refine as_ v58 rfl rfl ?_
 refine RL.nt ?_
 refine RC.ret ?_
 obtain rfl := oi hb
 exact fin1 rfl rfl (hw.pick 3 [2] (new := [own 45 v58 s38]) rfl rfl (by decide) (by decide))
def netlist_LooseOf_R (E : World) (Γ : List HP) (res : (List Pin)) (v : Value) (w : World) : Prop := Holds E w (own 45 v res :: Γ)
def netlist_LooseOf_K (E : World) (Γ : List HP) (r : (List Pin)) (σ : Nat → Value) (w : World) : Prop := finQ Tryd.prog 45 Tryd.f46 (netlist_LooseOf_R E Γ r) .ret σ w
theorem netlist_LooseOf_ok (N : Nat) {E w : World} {Γ : List HP} {i0 : Nat} {v0 : Value} {p0 : (List PartType)} {i1 : Nat} {v1 : Value} {p1 : Netlist} {res : (List Pin)} (hw : Holds E w Γ) (h0 : Γ[i0]? = some (rd v0 p0)) (h1 : Γ[i1]? = some (rd v1 p1)) (hb : netlist_LooseOf N p0 p1 = some res) :
    Calls Tryd.prog 46 [v0, v1].toArray w (Ret (netlist_LooseOf_R E Γ res)) := by
 unfold netlist_LooseOf at hb
 refine enter Tryd.func46 rfl rfl (Nat.le_of_ble_eq_true rfl) ?_
 have hw := hw.dup (i := i0 + 0) h0
 have hw := hw.dup (i := i1 + 1) h1
 refine RC.sr ?_
 refine RL.box_rd (i := 0) (v := v1) trivial rfl hw rfl rfl fun b31 w hw => ?_
 refine as_ (.slice none 0 0) rfl rfl ?_
 refine RL.ns ?_
 refine RL.load_bf (i := 0) (f := (fun x => x)) trivial rfl hw rfl rfl Fd.self ty26 fun v32 hw => ?_
 obtain ⟨x33, hx33, hb⟩ := bd hb
 refine RL.call trivial rfl fn74 [v32] rfl (Calls_ret (netlist_Nets_ok N  (i0 := 0) hw rfl hx33) ?_)
 rintro v34 w hw
 refine as_ v34 rfl rfl ?_
 refine RL.ns ?_
 refine as_ (.slice none 0 0) rfl rfl ?_
 refine RL.nq ?_
 refine RC.sr ?_
 refine RL.fa_b trivial rfl rfl fa26_0 ?_
 refine RL.load_bf (i := 2) (f := (fun x => x.Parts)) trivial rfl hw rfl rfl fd_Netlist_0 ty23 fun v35 hw => ?_
 refine RL.len_rd (i := 0) (l := p1.Parts) trivial rfl hw rfl rfl un23 ?_
 refine mv (vi 0) rfl rfl ?_
 refine RL.nt ?_
 obtain ⟨s37, hN, hb⟩ := bd hb
 refine RC.fold (fun (k36 : Nat) (s37 : (List Pin)) (σ : Nat → Value) (w : World) => ∃ v156 : Value, agree σ [(0, v0), (5, v34), (6, v156), (16, v35), (17, (vi (p1.Parts.length : Int))), (18, (vi (k36 : Int)))] ∧ Holds E w ([rd v0 p0, mp v34 x33, rd v35 p1.Parts, own 45 v156 s37] ++ Γ)) (fun (s37 : (List Pin)) (σ : Nat → Value) (w : World) => ∃ v157 : Value, agree σ [(6, v157)] ∧ Holds E w ([rd v0 p0, mp v34 x33, rd v35 p1.Parts, own 45 v157 s37] ++ Γ)) hN ?_ ?_ ?_ ?_
 ·have hw := hw.own_nil Pin 45
  exact ⟨(.slice none 0 0), ⟨rfl, rfl, rfl, rfl, rfl, rfl, trivial⟩, hw.pick 7 [6, 2, 1, 0] (new := [rd v0 p0, mp v34 x33, rd v35 p1.Parts, own 45 (.slice none 0 0) ([] : (List Pin))]) rfl rfl (by decide) (by decide)⟩
 ·intro hm s37 σ w hI
  obtain ⟨v217, ha, hw⟩ := hI
  obtain ⟨τ, rfl⟩ := ha.ups
  refine RC.sr ?_
  refine ic ((p1.Parts.length : Int)) ((p1.Parts.length : Int)) rfl rfl rfl rfl ?_
  refine RL.nq ?_
  refine RC.cond_f dge ?_
  refine RC.ex ?_
  exact ⟨rfl, v217, ⟨rfl, trivial⟩, hw.pick 4 [0, 1, 2, 3] (new := [rd v0 p0, mp v34 x33, rd v35 p1.Parts, own 45 v217 s37]) rfl rfl (by decide) (by decide)⟩
 ·intro hm k36 s37 s' σ w hk hI hb
  obtain ⟨v158, ha, hw⟩ := hI
  obtain ⟨τ, rfl⟩ := ha.ups
  refine RC.sr ?_
  refine ic ((k36 : Int)) ((p1.Parts.length : Int)) rfl rfl rfl rfl ?_
  refine RL.nq ?_
  refine RC.cond_t (dlt hk) ?_
  refine RC.ss ?_
  refine RC.bs ?_
  obtain ⟨x159, hx159, hb⟩ := bd hb
  refine RL.ia_rd (i := 2) trivial rfl hw rfl rfl rfl sl23 hx159 fun v160 hw => ?_
  refine RL.load_pt (i := 0) (x := x159) trivial rfl hw rfl rfl ty36 fun v161 hw => ?_
  refine RL.alloc trivial rfl hw ze36.z fun b162 w hw => ?_
  refine RL.store_raw (i := 0) (j := 1) trivial hw rfl rfl rfl rfl ty36 rfl fun w hw => ?_
  refine RL.ns ?_
  refine mv v0 rfl rfl ?_
  refine RL.load_bf (i := 0) (f := (fun x => x)) trivial rfl hw rfl rfl Fd.self ty36 fun v163 hw => ?_
  obtain ⟨x164, hx164, hb⟩ := bd hb
  refine RL.call trivial rfl fn75 [v0, v163] rfl (Calls_ret (netlist_pinsOf_ok N  (i0 := 4) (i1 := 0) hw rfl rfl hx164) ?_)
  rintro v165 w hw
  refine RL.len_own (i := 0) (l := x164) trivial rfl hw rfl rfl un37 ?_
  refine mv (vi 0) rfl rfl ?_
  refine RL.nt ?_
  obtain ⟨s167, hN, hb⟩ := bd hb
  refine RC.fold (fun (k166 : Nat) (s167 : (List Pin)) (σ : Nat → Value) (w : World) => ∃ v198 : Value, agree σ [(0, v0), (5, v34), (6, v198), (16, v35), (17, (vi (p1.Parts.length : Int))), (18, (vi (k36 : Int))), (24, v165), (25, (vi (x164.length : Int))), (26, (vi (k166 : Int)))] ∧ Holds E w ([rd v0 p0, mp v34 x33, rd v35 p1.Parts, own 45 v165 x164, own 45 v198 s167] ++ Γ)) (fun (s167 : (List Pin)) (σ : Nat → Value) (w : World) => ∃ v199 : Value, agree σ [(0, v0), (5, v34), (6, v199), (16, v35), (17, (vi (p1.Parts.length : Int))), (18, (vi (k36 : Int)))] ∧ Holds E w ([rd v0 p0, mp v34 x33, rd v35 p1.Parts, own 45 v165 x164, own 45 v199 s167] ++ Γ)) hN ?_ ?_ ?_ ?_
  ·exact ⟨v158, ⟨rfl, rfl, rfl, rfl, rfl, rfl, rfl, rfl, rfl, trivial⟩, hw.pick 9 [5, 6, 7, 0, 8] (new := [rd v0 p0, mp v34 x33, rd v35 p1.Parts, own 45 v165 x164, own 45 v158 s37]) rfl rfl (by decide) (by decide)⟩
  ·intro hm s167 σ w hI
   obtain ⟨v215, ha, hw⟩ := hI
   obtain ⟨τ, rfl⟩ := ha.ups
   refine RC.sr ?_
   refine ic ((x164.length : Int)) ((x164.length : Int)) rfl rfl rfl rfl ?_
   refine RL.nq ?_
   refine RC.cond_f dge ?_
   refine RC.ex ?_
   exact ⟨rfl, v215, ⟨rfl, rfl, rfl, rfl, rfl, rfl, trivial⟩, hw.pick 5 [0, 1, 2, 3, 4] (new := [rd v0 p0, mp v34 x33, rd v35 p1.Parts, own 45 v165 x164, own 45 v215 s167]) rfl rfl (by decide) (by decide)⟩
  ·intro hm k166 s167 s' σ w hk hI hb
   obtain ⟨v200, ha, hw⟩ := hI
   obtain ⟨τ, rfl⟩ := ha.ups
   refine RC.sr ?_
   refine ic ((k166 : Int)) ((x164.length : Int)) rfl rfl rfl rfl ?_
   refine RL.nq ?_
   refine RC.cond_t (dlt hk) ?_
   refine RC.ss ?_
   refine RC.bs ?_
   obtain ⟨x201, hx201, hb⟩ := bd hb
   refine RL.ia_ownA (i := 3) trivial rfl hw rfl rfl rfl sl37 hx201 ?_
   refine RL.load_el (i := 3) (f := (fun x => x)) trivial rfl hw rfl (elp hw (i := 3) rfl hx201 0) rfl (idx_some hx201).2.1 Fd.self ty45 fun v202 hw => ?_
   refine RL.alloc trivial rfl hw ze45.z fun b203 w hw => ?_
   refine RL.store_raw (i := 0) (j := 1) trivial hw rfl rfl rfl rfl ty45 rfl fun w hw => ?_
   refine RL.ns ?_
   refine mv v34 rfl rfl ?_
   refine RL.load_bf (i := 0) (f := (fun x => x)) trivial rfl hw rfl rfl Fd.self ty45 fun v204 hw => ?_
   refine RL.lookup2s (i := 4) (k := x201) trivial rfl hw rfl (key_rd hw (j := 0) rfl) rfl mt121 ?_
   refine mv (.tuple #[(vi (mget x33 x201 (0 : Int))), (vb (mhas x33 x201))]) rfl rfl ?_
   refine RL.extract (v := (vi (mget x33 x201 (0 : Int)))) trivial rfl rfl rfl ?_
   refine RL.extract (v := (vb (mhas x33 x201))) trivial rfl rfl rfl ?_
   refine as_ (vi (mget x33 x201 (0 : Int))) rfl rfl ?_
   refine as_ (vb (mhas x33 x201)) rfl rfl ?_
   refine RL.ns ?_
   refine mv (vb (mhas x33 x201)) rfl rfl ?_
   refine RL.not (b := (mhas x33 x201)) trivial rfl rfl ?_
   refine RL.nt ?_
   obtain ⟨s209, hj, hb⟩ := bd hb
   refine RC.jn (fun (s209 : (List Pin)) (σ : Nat → Value) (w : World) => ∃ v210 : Value, agree σ [(0, v0), (5, v34), (6, v210), (16, v35), (17, (vi (p1.Parts.length : Int))), (18, (vi (k36 : Int))), (24, v165), (25, (vi (x164.length : Int))), (26, (vi (k166 : Int)))] ∧ Holds E w ([rd v0 p0, mp v34 x33, rd v35 p1.Parts, own 45 v165 x164, own 45 v210 s209] ++ Γ)) s209 ?_ ?_
   ·refine RC.cond (b := (!(mhas x33 x201))) rfl (fun hc => ?_) (fun hc => ?_)
    rotate_left
    ·replace hj := cF hc hj
     refine RC.skip ?_
     obtain rfl := oi hj
     exact ⟨rfl, v200, ⟨rfl, rfl, rfl, rfl, rfl, rfl, rfl, rfl, rfl, trivial⟩, hw.pick 8 [3, 4, 5, 6, 7] (new := [rd v0 p0, mp v34 x33, rd v35 p1.Parts, own 45 v165 x164, own 45 v200 s167]) rfl rfl (by decide) (by decide)⟩
    replace hj := cT hc hj
    refine RC.region ?_
    refine mv v200 rfl rfl ?_
    refine RL.load_bf (i := 1) (f := (fun x => x)) trivial rfl hw rfl rfl Fd.self ty45 fun v211 hw => ?_
    refine RL.bslice (l := ([x201] : (List Pin))) trivial rfl hw [v211] rfl rfl rfl sl37 ze45 (fun M hs g => ⟨(g.sat 0 _ rfl).1, trivial⟩) fun v212 w hw => ?_
    have hw := hw.freeze (i := 0) rfl
    obtain ⟨x213, hx213, hj⟩ := bd hj
    refine RL.app (i := 9) (j := 0) trivial rfl hw rfl rfl rfl rfl el37 hx213 fun v214 w hw => ?_
    refine as_ v214 rfl rfl ?_
    refine RL.nil ?_
    obtain rfl := oi hj
    exact ⟨rfl, v214, ⟨rfl, rfl, rfl, rfl, rfl, rfl, rfl, rfl, rfl, trivial⟩, hw.pick 10 [5, 6, 7, 8, 9] (new := [rd v0 p0, mp v34 x33, rd v35 p1.Parts, own 45 v165 x164, own 45 v214 x213]) rfl rfl (by decide) (by decide)⟩
   rintro σ w ⟨v210, ha, hw⟩
   obtain ⟨τ, rfl⟩ := ha.ups
   refine blkQ_n ?_
   refine thenQ_n ?_
   refine RC.region ?_
   refine RL.inc trivial rfl hk hm rfl rfl ?_
   refine mv (vi ((k166 + 1 : Nat) : Int)) rfl rfl ?_
   refine RL.nil ?_
   obtain rfl := oi hb
   exact ⟨rfl, v210, ⟨rfl, rfl, rfl, rfl, rfl, rfl, rfl, rfl, rfl, trivial⟩, hw.pick 5 [0, 1, 2, 3, 4] (new := [rd v0 p0, mp v34 x33, rd v35 p1.Parts, own 45 v165 x164, own 45 v210 s209]) rfl rfl (by decide) (by decide)⟩
  intro σ w hJ
  obtain ⟨v199, ha, hw⟩ := hJ
  obtain ⟨τ, rfl⟩ := ha.ups
  refine blkQ_n ?_
  refine thenQ_n ?_
  refine RC.region ?_
  refine RL.inc trivial rfl hk hm rfl rfl ?_
  refine mv (vi ((k36 + 1 : Nat) : Int)) rfl rfl ?_
  refine RL.nil ?_
  obtain rfl := oi hb
  exact ⟨rfl, v199, ⟨rfl, rfl, rfl, rfl, rfl, rfl, trivial⟩, hw.pick 5 [0, 1, 2, 4] (new := [rd v0 p0, mp v34 x33, rd v35 p1.Parts, own 45 v199 s167]) rfl rfl (by decide) (by decide)⟩
 intro σ w hJ
 obtain ⟨v157, ha, hw⟩ := hJ
 obtain ⟨τ, rfl⟩ := ha.ups
 refine thenQ_n ?_
 refine RC.sr ?_
 refine mv v157 rfl rfl ?_
 refine as_ v157 rfl rfl ?_
 refine RL.nt ?_
 refine RC.ret ?_
 obtain rfl := oi hb
 exact fin1 rfl rfl (hw.pick 4 [3] (new := [own 45 v157 s37]) rfl rfl (by decide) (by decide))
def netlist_Loose_R (E : World) (Γ : List HP) (res : (List Pin) × Int) (v : Value) (w : World) : Prop := ∃ u0 : Value, v = .tuple #[u0, (vi res.2)] ∧ Holds E w (own 45 u0 res.1 :: Γ)
def netlist_Loose_K (E : World) (Γ : List HP) (r : (List Pin) × Int) (σ : Nat → Value) (w : World) : Prop := finQ Tryd.prog 16 Tryd.f23 (netlist_Loose_R E Γ r) .ret σ w
theorem netlist_Loose_ok (N : Nat) {E w : World} {Γ : List HP} {i0 : Nat} {v0 : Value} {p0 : (List PartType)} {i1 : Nat} {v1 : Value} {p1 : Netlist} {res : (List Pin) × Int} (hw : Holds E w Γ) (h0 : Γ[i0]? = some (rd v0 p0)) (h1 : Γ[i1]? = some (rd v1 p1)) (hb : netlist_Loose N p0 p1 = some res) :
    Calls Tryd.prog 23 [v0, v1].toArray w (Ret (netlist_Loose_R E Γ res)) := by
 unfold netlist_Loose at hb
 refine enter Tryd.func23 rfl rfl (Nat.le_of_ble_eq_true rfl) ?_
 have hw := hw.dup (i := i0 + 0) h0
 have hw := hw.dup (i := i1 + 1) h1
 refine RC.sr ?_
 refine RL.box_rd (i := 0) (v := v1) trivial rfl hw rfl rfl fun b31 w hw => ?_
 refine as_ (.slice none 0 0) rfl rfl ?_
 refine as_ (vi 0) rfl rfl ?_
 refine RL.nq ?_
 refine RC.sr ?_
 refine mv v0 rfl rfl ?_
 refine RL.load_bf (i := 0) (f := (fun x => x)) trivial rfl hw rfl rfl Fd.self ty26 fun v32 hw => ?_
 obtain ⟨x33, hx33, hb⟩ := bd hb
 refine RL.call trivial rfl fn14 [v0, v32] rfl (Calls_ret (netlist_CheckList_ok N  (i0 := 3) (i1 := 0) hw rfl rfl hx33) ?_)
 rintro _ w ⟨rfl, hw⟩
 refine as_ (vi x33) rfl rfl ?_
 refine RL.ns ?_
 refine mv (vi x33) rfl rfl ?_
 refine ic x33 0 rfl rfl rfl rfl ?_
 refine RL.nt ?_
 refine RC.cond (b := (x33 != 0)) rfl (fun hc => ?_) (fun hc => ?_)
 ·replace hb := cT hc hb
  refine RC.sr ?_
  refine mv (vi x33) rfl rfl ?_
  refine as_ (.slice none 0 0) rfl rfl ?_
  refine as_ (vi x33) rfl rfl ?_
  refine RL.nt ?_
  refine RC.rt ?_
  obtain rfl := oi hb
  have hw := hw.own_nil Pin 45
  exact fin2 rfl rfl rfl ⟨(.slice none 0 0), rfl, hw.pick 5 [0] (new := [own 45 (.slice none 0 0) ([] : (List Pin))]) rfl rfl (by decide) (by decide)⟩
 replace hb := cF hc hb
 refine RC.sx ?_
 refine mv v0 rfl rfl ?_
 refine RL.load_bf (i := 1) (f := (fun x => x)) trivial rfl hw rfl rfl Fd.self ty26 fun v34 hw => ?_
 obtain ⟨x35, hx35, hb⟩ := bd hb
 refine RL.call trivial rfl fn46 [v0, v34] rfl (Calls_ret (netlist_LooseOf_ok N  (i0 := 4) (i1 := 0) hw rfl rfl hx35) ?_)
 rintro v36 w hw
 refine as_ v36 rfl rfl ?_
 refine as_ (vi 0) rfl rfl ?_
 refine RL.nt ?_
 refine RC.ret ?_
 obtain rfl := oi hb
 exact fin2 rfl rfl rfl ⟨v36, rfl, hw.pick 6 [0] (new := [own 45 v36 x35]) rfl rfl (by decide) (by decide)⟩
def etchhouselaw2_awake_R (E : World) (Γ : List HP) (res : Bool) (v : Value) (w : World) : Prop := v = (vb res) ∧ Holds E w Γ
def etchhouselaw2_awake_K (E : World) (Γ : List HP) (r : Bool) (σ : Nat → Value) (w : World) : Prop := finQ Tryd.prog 30 Tryd.f6 (etchhouselaw2_awake_R E Γ r) .ret σ w
theorem etchhouselaw2_awake_ok (N : Nat) {E w : World} {Γ : List HP}  {res : Bool} (hw : Holds E w Γ)  (hb : etchhouselaw2_awake N  = some res) :
    Calls Tryd.prog 6 [].toArray w (Ret (etchhouselaw2_awake_R E Γ res)) := by
 unfold etchhouselaw2_awake at hb
 refine enter Tryd.func6 rfl rfl (Nat.le_of_ble_eq_true rfl) ?_
 refine RC.sr ?_
 refine as_ (vb false) rfl rfl ?_
 refine RL.ns ?_
 have hw := hw.sc (γ := Str) ⟨[49]⟩
 have hw := hw.sc (γ := Int) 6
 refine RL.build (y := (⟨⟨[49]⟩, 6, 0⟩ : PinType)) trivial rfl hw [(0, (str ⟨[49]⟩)), (1, (vi 6))] rfl st63 rfl (fun M hs g => by have h := z_PinType M; exact Fills.cons (f := fun (x : PinType) y => { x with Name := y }) rfl h fs_PinType_0 (by decide) (g.sat 1 _ rfl).1 fun _ h => Fills.cons (f := fun (x : PinType) y => { x with Kind := y }) rfl h fs_PinType_1 (by decide) (g.sat 0 _ rfl).1 fun _ h => Fills.nil h) fun v31 hw => ?_
 refine RL.bslice (l := ([(⟨⟨[49]⟩, 6, 0⟩ : PinType)] : (List PinType))) trivial rfl hw [v31] rfl rfl rfl sl64 ze63 (fun M hs g => ⟨(g.sat 0 _ rfl).1, trivial⟩) fun v32 w hw => ?_
 have hw := hw.sc (γ := Str) ⟨[114]⟩
 have hw := hw.freeze (i := 1) rfl
 refine RL.build (y := (⟨⟨[114]⟩, ([(⟨⟨[49]⟩, 6, 0⟩ : PinType)] : (List PinType))⟩ : PartType)) trivial rfl hw [(0, (str ⟨[114]⟩)), (1, v32)] rfl st66 rfl (fun M hs g => by have h := z_PartType M; exact Fills.cons (f := fun (x : PartType) y => { x with Name := y }) rfl h fs_PartType_0 (by decide) (g.sat 0 _ rfl).1 fun _ h => Fills.cons (f := fun (x : PartType) y => { x with Pins := y }) rfl h fs_PartType_1 (by decide) (g.sat 1 _ rfl).1 fun _ h => Fills.nil h) fun v33 hw => ?_
 refine RL.bslice (l := ([(⟨⟨[114]⟩, ([(⟨⟨[49]⟩, 6, 0⟩ : PinType)] : (List PinType))⟩ : PartType)] : (List PartType))) trivial rfl hw [v33] rfl rfl rfl sl22 ze66 (fun M hs g => ⟨(g.sat 0 _ rfl).1, trivial⟩) fun v34 w hw => ?_
 refine as_ v34 rfl rfl ?_
 refine RL.ns ?_
 refine mv v34 rfl rfl ?_
 have hw := hw.sc (γ := Str) ⟨[97]⟩
 have hw := hw.sc (γ := Str) ⟨[114]⟩
 refine RL.build (y := (⟨⟨[97]⟩, ⟨[114]⟩⟩ : Part)) trivial rfl hw [(0, (str ⟨[97]⟩)), (1, (str ⟨[114]⟩))] rfl st36 rfl (fun M hs g => by have h := z_Part M; exact Fills.cons (f := fun (x : Part) y => { x with Name := y }) rfl h fs_Part_0 (by decide) (g.sat 1 _ rfl).1 fun _ h => Fills.cons (f := fun (x : Part) y => { x with Type_ := y }) rfl h fs_Part_1 (by decide) (g.sat 0 _ rfl).1 fun _ h => Fills.nil h) fun v35 hw => ?_
 refine RL.bslice (l := ([(⟨⟨[97]⟩, ⟨[114]⟩⟩ : Part)] : (List Part))) trivial rfl hw [v35] rfl rfl rfl sl23 ze36 (fun M hs g => ⟨(g.sat 0 _ rfl).1, trivial⟩) fun v36 w hw => ?_
 have hw := hw.freeze (i := 0) rfl
 refine RL.build (y := (⟨([(⟨⟨[97]⟩, ⟨[114]⟩⟩ : Part)] : (List Part)), []⟩ : Netlist)) trivial rfl hw [(0, v36)] rfl st26 rfl (fun M hs g => by have h := z_Netlist M; exact Fills.cons (f := fun (x : Netlist) y => { x with Parts := y }) rfl h fs_Netlist_0 (by decide) (g.sat 0 _ rfl).1 fun _ h => Fills.nil h) fun v37 hw => ?_
 have hw := hw.freeze (i := 5) rfl
 obtain ⟨x38, hx38, hb⟩ := bd hb
 refine RL.call trivial rfl fn23 [v34, v37] rfl (Calls_ret (netlist_Loose_ok N  (i0 := 5) (i1 := 0) hw rfl rfl hx38) ?_)
 rintro _ w ⟨v39, rfl, hw⟩
 refine mv (.tuple #[v39, (vi x38.2)]) rfl rfl ?_
 refine RL.extract (v := v39) trivial rfl rfl rfl ?_
 refine RL.extract (v := (vi x38.2)) trivial rfl rfl rfl ?_
 refine as_ v39 rfl rfl ?_
 refine as_ (vi x38.2) rfl rfl ?_
 refine RL.nq ?_
 obtain ⟨s46, hj, hb⟩ := bd hb
 refine RC.jn (fun (s46 : Bool) (σ : Nat → Value) (w : World) => agree σ [(0, (vb s46))] ∧ Holds E w ([] ++ Γ)) s46 ?_ ?_
 ·refine RC.region ?_
  refine mv (vi x38.2) rfl rfl ?_
  refine ic (x38.2) 0 rfl rfl rfl rfl ?_
  refine mv (vb (x38.2 == 0)) rfl rfl ?_
  rcases Bool.eq_false_or_eq_true (x38.2 == 0) with hg47 | hg47
  rotate_left
  ·replace hj := cF hg47 hj
   refine sk rfl (.inl (cb hg47)) rfl ?_
   refine sk rfl (.inl (cb hg47)) rfl ?_
   refine sk rfl (.inl (cb hg47)) rfl ?_
   refine RL.pick (b := (x38.2 == 0)) (v := (vb false)) trivial rfl rfl (by rw [hg47]; rfl) ?_
   refine mv (vb false) rfl rfl ?_
   refine sk rfl (.inl rfl) rfl ?_
   refine sk rfl (.inl rfl) rfl ?_
   refine sk rfl (.inl rfl) rfl ?_
   refine sk rfl (.inl rfl) rfl ?_
   refine sk rfl (.inl rfl) rfl ?_
   refine RL.pick (b := false) (v := (vb false)) trivial rfl rfl rfl ?_
   refine as_ (vb false) rfl rfl ?_
   refine RL.nil ?_
   obtain rfl := oi hj
   exact ⟨rfl, ⟨rfl, trivial⟩, hw.pick 13 [] (new := []) rfl rfl (by decide) (by decide)⟩
  replace hj := cT hg47 hj
  refine RL.move (v := v39) ⟨_, rfl, cb hg47⟩ rfl rfl ?_
  refine RL.len_own (i := 0) (l := x38.1) ⟨_, rfl, cb hg47⟩ rfl hw rfl rfl un37 ?_
  refine RL.icmp (a := (x38.1.length : Int)) (b := 1) ⟨_, rfl, cb hg47⟩ rfl rfl rfl rfl ?_
  refine RL.pick (b := (x38.2 == 0)) (v := (vb ((x38.1.length : Int) == 1))) trivial rfl rfl (by rw [hg47]; rfl) ?_
  refine mv (vb ((x38.1.length : Int) == 1)) rfl rfl ?_
  rcases Bool.eq_false_or_eq_true ((x38.1.length : Int) == 1) with hg48 | hg48
  rotate_left
  ·replace hj := cF hg48 hj
   refine sk rfl (.inl (cb hg48)) rfl ?_
   refine sk rfl (.inl (cb hg48)) rfl ?_
   refine sk rfl (.inl (cb hg48)) rfl ?_
   refine sk rfl (.inl (cb hg48)) rfl ?_
   refine sk rfl (.inl (cb hg48)) rfl ?_
   refine RL.pick (b := ((x38.1.length : Int) == 1)) (v := (vb false)) trivial rfl rfl (by rw [hg48]; rfl) ?_
   refine as_ (vb false) rfl rfl ?_
   refine RL.nil ?_
   obtain rfl := oi hj
   exact ⟨rfl, ⟨rfl, trivial⟩, hw.pick 13 [] (new := []) rfl rfl (by decide) (by decide)⟩
  replace hj := cT hg48 hj
  refine RL.move (v := v39) ⟨_, rfl, cb hg48⟩ rfl rfl ?_
  obtain ⟨x49, hx49, hj⟩ := bd hj
  refine RL.ia_ownA (i := 0) ⟨_, rfl, cb hg48⟩ rfl hw rfl rfl rfl sl37 hx49 ?_
  refine RL.load_el (i := 0) (f := (fun x => x)) ⟨_, rfl, cb hg48⟩ rfl hw rfl (elp hw (i := 0) rfl hx49 0) rfl (idx_some hx49).2.1 Fd.self ty45 fun v50 hw => ?_
  have hw := hw.sc (γ := Str) ⟨[97]⟩
  have hw := hw.sc (γ := Str) ⟨[49]⟩
  refine RL.build (y := (⟨⟨[97]⟩, ⟨[49]⟩⟩ : Pin)) ⟨_, rfl, cb hg48⟩ rfl hw [(0, (str ⟨[97]⟩)), (1, (str ⟨[49]⟩))] rfl st45 rfl (fun M hs g => by have h := z_Pin M; exact Fills.cons (f := fun (x : Pin) y => { x with Part := y }) rfl h fs_Pin_0 (by decide) (g.sat 1 _ rfl).1 fun _ h => Fills.cons (f := fun (x : Pin) y => { x with Pin := y }) rfl h fs_Pin_1 (by decide) (g.sat 0 _ rfl).1 fun _ h => Fills.nil h) fun v51 hw => ?_
  refine RL.seq (i := 3) (j := 0) (a := x49) (b := (⟨⟨[97]⟩, ⟨[49]⟩⟩ : Pin)) ⟨_, rfl, cb hg48⟩ rfl hw rfl rfl rfl rfl eqt45 rfl ?_
  refine RL.pick (b := ((x38.1.length : Int) == 1)) (v := (vb (decide (x49 = (⟨⟨[97]⟩, ⟨[49]⟩⟩ : Pin))))) trivial rfl rfl (by rw [hg48]; rfl) ?_
  refine as_ (vb (decide (x49 = (⟨⟨[97]⟩, ⟨[49]⟩⟩ : Pin)))) rfl rfl ?_
  refine RL.nil ?_
  obtain rfl := oi hj
  exact ⟨rfl, ⟨rfl, trivial⟩, hw.pick 17 [] (new := []) rfl rfl (by decide) (by decide)⟩
 rintro σ w ⟨ha, hw⟩
 obtain ⟨τ, rfl⟩ := ha.ups
 refine thenQ_n ?_
 refine RC.ret ?_
 obtain rfl := oi hb
 exact fin1 rfl rfl ⟨rfl, hw.drop 0 rfl⟩
end Go.Gk
