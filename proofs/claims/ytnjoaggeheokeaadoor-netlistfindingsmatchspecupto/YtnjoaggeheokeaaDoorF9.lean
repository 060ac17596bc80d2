/-
  Printed by gen.py: Go functions as plain functions, and that they are.
-/
import Derived.Test.YtnjoaggeheokeaaDoorT
import Derived.Test.YtnjoaggeheokeaaDoorF4
import Derived.Test.YtnjoaggeheokeaaDoorF6
set_option linter.unusedVariables false
set_option linter.unusedSimpArgs false
set_option linter.unusedSectionVars false
set_option maxRecDepth 100000
set_option maxHeartbeats 4000000

namespace Go.Gk
open Go Go.Proofs
def etchhouseref2_loose_R (E : World) (Γ : List HP) (res : (List Pin)) (v : Value) (w : World) : Prop := Holds E w (own 28 v res :: Γ)
def etchhouseref2_loose_K (E : World) (Γ : List HP) (r : (List Pin)) (σ : Nat → Value) (w : World) : Prop := finQ Tryd.prog 47 Tryd.f48 (etchhouseref2_loose_R E Γ r) .ret σ w
theorem etchhouseref2_loose_ok (N : Nat) {E w : World} {Γ : List HP} {i0 : Nat} {v0 : Value} {p0 : (List PartType)} {i1 : Nat} {v1 : Value} {p1 : Netlist} {res : (List Pin)} (hw : Holds E w Γ) (h0 : Γ[i0]? = some (rd v0 p0)) (h1 : Γ[i1]? = some (rd v1 p1)) (hb : etchhouseref2_loose N p0 p1 = some res) :
    Calls Tryd.prog 48 [v0, v1].toArray w (Ret (etchhouseref2_loose_R E Γ res)) := by
 unfold etchhouseref2_loose at hb
 refine enter Tryd.func48 rfl rfl (Nat.le_of_ble_eq_true rfl) ?_
 have hw := hw.dup (i := i0 + 0) h0
 have hw := hw.dup (i := i1 + 1) h1
 refine RC.sr ?_
 refine RL.box_rd (i := 0) (v := v1) trivial rfl hw rfl rfl fun b31 w hw => ?_
 refine as_ (.slice none 0 0) rfl rfl ?_
 refine RL.ns ?_
 refine as_ (.slice none 0 0) rfl rfl ?_
 refine RL.nq ?_
 refine RC.sr ?_
 refine RL.fa_b trivial rfl rfl fa26_0 ?_
 refine RL.load_bf (i := 0) (f := (fun x => x.Parts)) trivial rfl hw rfl rfl fd_Netlist_0 ty23 fun v32 hw => ?_
 refine RL.len_rd (i := 0) (l := p1.Parts) trivial rfl hw rfl rfl un23 ?_
 refine mv (vi 0) rfl rfl ?_
 refine RL.nt ?_
 obtain ⟨s34, hN, hb⟩ := bd hb
 refine RC.fold (fun (k33 : Nat) (s34 : (List Pin)) (σ : Nat → Value) (w : World) => ∃ v187 : Value, agree σ [(0, v0), (3, (vp b31 0)), (5, v187), (12, v32), (13, (vi (p1.Parts.length : Int))), (14, (vi (k33 : Int)))] ∧ Holds E w ([rd v0 p0, bx 26 b31 p1, rd v32 p1.Parts, own 28 v187 s34] ++ Γ)) (fun (s34 : (List Pin)) (σ : Nat → Value) (w : World) => ∃ v188 : Value, agree σ [(5, v188)] ∧ Holds E w ([rd v0 p0, bx 26 b31 p1, rd v32 p1.Parts, own 28 v188 s34] ++ Γ)) hN ?_ ?_ ?_ ?_
 ·have hw := hw.own_nil Pin 28
  exact ⟨(.slice none 0 0), ⟨rfl, rfl, rfl, rfl, rfl, rfl, trivial⟩, hw.pick 5 [4, 2, 1, 0] (new := [rd v0 p0, bx 26 b31 p1, rd v32 p1.Parts, own 28 (.slice none 0 0) ([] : (List Pin))]) rfl rfl (by decide) (by decide)⟩
 ·intro hm s34 σ w hI
  obtain ⟨v265, ha, hw⟩ := hI
  obtain ⟨τ, rfl⟩ := ha.ups
  refine RC.sr ?_
  refine ic ((p1.Parts.length : Int)) ((p1.Parts.length : Int)) rfl rfl rfl rfl ?_
  refine RL.nq ?_
  refine RC.cond_f dge ?_
  refine RC.ex ?_
  exact ⟨rfl, v265, ⟨rfl, trivial⟩, hw.pick 4 [0, 1, 2, 3] (new := [rd v0 p0, bx 26 b31 p1, rd v32 p1.Parts, own 28 v265 s34]) rfl rfl (by decide) (by decide)⟩
 ·intro hm k33 s34 s' σ w hk hI hb
  obtain ⟨v189, ha, hw⟩ := hI
  obtain ⟨τ, rfl⟩ := ha.ups
  refine RC.sr ?_
  refine ic ((k33 : Int)) ((p1.Parts.length : Int)) rfl rfl rfl rfl ?_
  refine RL.nq ?_
  refine RC.cond_t (dlt hk) ?_
  refine RC.ss ?_
  refine RC.bs ?_
  obtain ⟨x190, hx190, hb⟩ := bd hb
  refine RL.ia_rd (i := 2) trivial rfl hw rfl rfl rfl sl23 hx190 fun v191 hw => ?_
  refine RL.load_pt (i := 0) (x := x190) trivial rfl hw rfl rfl ty87 fun v192 hw => ?_
  refine RL.alloc trivial rfl hw ze87.z fun b193 w hw => ?_
  refine RL.store_raw (i := 0) (j := 1) trivial hw rfl rfl rfl rfl ty87 rfl fun w hw => ?_
  refine RL.ns ?_
  refine mv v0 rfl rfl ?_
  refine mv v0 rfl rfl ?_
  refine RL.fa_b trivial rfl rfl fa87_1 ?_
  refine RL.load_bfs (i := 0) (f := (fun x => x.Type_)) trivial rfl hw rfl rfl fd_Part_1 ty9 ?_
  obtain ⟨x194, hx194, hb⟩ := bd hb
  refine RL.call trivial rfl fn69 [v0, (str x190.Type_)] rfl (Calls_ret (etchhouseref2_typeOf_ok N (p1 := x190.Type_) (i0 := 3) hw rfl hx194) ?_)
  rintro _ w ⟨rfl, hw⟩
  obtain ⟨x195, hx195, hb⟩ := bd hb
  refine RL.ia_rd (i := 3) trivial rfl hw rfl rfl rfl sl22 hx195 fun v196 hw => ?_
  refine RL.fa_pt (i := 0) (f := fun (x : PartType) => x.Pins) trivial rfl hw rfl rfl fa85_1 fd_PartType_1 fun v197 hw => ?_
  refine RL.load_pt (i := 0) (x := x195.Pins) trivial rfl hw rfl rfl ty83 fun v198 hw => ?_
  refine RL.len_rd (i := 0) (l := x195.Pins) trivial rfl hw rfl rfl un83 ?_
  refine mv (vi 0) rfl rfl ?_
  refine RL.nt ?_
  obtain ⟨s200, hN, hb⟩ := bd hb
  refine RC.fold (fun (k199 : Nat) (s200 : (List Pin)) (σ : Nat → Value) (w : World) => ∃ v241 : Value, agree σ [(0, v0), (3, (vp b31 0)), (5, v241), (7, (vp b193 0)), (12, v32), (13, (vi (p1.Parts.length : Int))), (14, (vi (k33 : Int))), (25, v198), (26, (vi (x195.Pins.length : Int))), (27, (vi (k199 : Int)))] ∧ Holds E w ([rd v0 p0, bx 26 b31 p1, bx 87 b193 x190, rd v32 p1.Parts, rd v198 x195.Pins, own 28 v241 s200] ++ Γ)) (fun (s200 : (List Pin)) (σ : Nat → Value) (w : World) => ∃ v242 : Value, agree σ [(0, v0), (3, (vp b31 0)), (5, v242), (12, v32), (13, (vi (p1.Parts.length : Int))), (14, (vi (k33 : Int)))] ∧ Holds E w ([rd v0 p0, bx 26 b31 p1, bx 87 b193 x190, rd v32 p1.Parts, rd v198 x195.Pins, own 28 v242 s200] ++ Γ)) hN ?_ ?_ ?_ ?_
  ·exact ⟨v189, ⟨rfl, rfl, rfl, rfl, rfl, rfl, rfl, rfl, rfl, rfl, trivial⟩, hw.pick 10 [6, 7, 3, 8, 0, 9] (new := [rd v0 p0, bx 26 b31 p1, bx 87 b193 x190, rd v32 p1.Parts, rd v198 x195.Pins, own 28 v189 s34]) rfl rfl (by decide) (by decide)⟩
  ·intro hm s200 σ w hI
   obtain ⟨v263, ha, hw⟩ := hI
   obtain ⟨τ, rfl⟩ := ha.ups
   refine RC.sr ?_
   refine ic ((x195.Pins.length : Int)) ((x195.Pins.length : Int)) rfl rfl rfl rfl ?_
   refine RL.nq ?_
   refine RC.cond_f dge ?_
   refine RC.ex ?_
   exact ⟨rfl, v263, ⟨rfl, rfl, rfl, rfl, rfl, rfl, trivial⟩, hw.pick 6 [0, 1, 2, 3, 4, 5] (new := [rd v0 p0, bx 26 b31 p1, bx 87 b193 x190, rd v32 p1.Parts, rd v198 x195.Pins, own 28 v263 s200]) rfl rfl (by decide) (by decide)⟩
  ·intro hm k199 s200 s' σ w hk hI hb
   obtain ⟨v243, ha, hw⟩ := hI
   obtain ⟨τ, rfl⟩ := ha.ups
   refine RC.sr ?_
   refine ic ((k199 : Int)) ((x195.Pins.length : Int)) rfl rfl rfl rfl ?_
   refine RL.nq ?_
   refine RC.cond_t (dlt hk) ?_
   refine RC.ss ?_
   refine RC.bs ?_
   obtain ⟨x244, hx244, hb⟩ := bd hb
   refine RL.ia_rd (i := 4) trivial rfl hw rfl rfl rfl sl83 hx244 fun v245 hw => ?_
   refine RL.load_pt (i := 0) (x := x244) trivial rfl hw rfl rfl ty82 fun v246 hw => ?_
   refine RL.alloc trivial rfl hw ze82.z fun b247 w hw => ?_
   refine RL.store_raw (i := 0) (j := 1) trivial hw rfl rfl rfl rfl ty82 rfl fun w hw => ?_
   refine RL.ns ?_
   refine RL.fa_b trivial rfl rfl fa87_0 ?_
   refine RL.load_bfs (i := 5) (f := (fun x => x.Name)) trivial rfl hw rfl rfl fd_Part_0 ty9 ?_
   refine RL.fa_b trivial rfl rfl fa82_0 ?_
   refine RL.load_bfs (i := 0) (f := (fun x => x.Name)) trivial rfl hw rfl rfl fd_PinType_0 ty9 ?_
   have hw := hw.sc (γ := Str) x190.Name
   have hw := hw.sc (γ := Str) x244.Name
   refine RL.build (y := (⟨x190.Name, x244.Name⟩ : Pin)) trivial rfl hw [(0, (str x190.Name)), (1, (str x244.Name))] rfl st28 rfl (fun M hs g => by have h := z_Pin M; exact Fills.cons (f := fun (x : Pin) y => { x with Part := y }) rfl h fs_Pin_0 (by decide) (g.sat 1 _ rfl).1 fun _ h => Fills.cons (f := fun (x : Pin) y => { x with Pin := y }) rfl h fs_Pin_1 (by decide) (g.sat 0 _ rfl).1 fun _ h => Fills.nil h) fun v248 hw => ?_
   refine RL.alloc trivial rfl hw ze28.z fun b249 w hw => ?_
   refine RL.store_raw (i := 0) (j := 1) trivial hw rfl rfl rfl rfl ty28 rfl fun w hw => ?_
   refine RL.ns ?_
   refine RL.load_bf (i := 8) (f := (fun x => x)) trivial rfl hw rfl rfl Fd.self ty26 fun v250 hw => ?_
   refine RL.load_bf (i := 1) (f := (fun x => x)) trivial rfl hw rfl rfl Fd.self ty28 fun v251 hw => ?_
   obtain ⟨x252, hx252, hb⟩ := bd hb
   refine RL.call trivial rfl fn39 [v250, v251] rfl (Calls_ret (etchhouseref2_netOf_ok N  (i0 := 1) (i1 := 0) hw rfl rfl hx252) ?_)
   rintro _ w ⟨rfl, hw⟩
   refine ic x252 0 rfl rfl rfl rfl ?_
   refine RL.nt ?_
   obtain ⟨s257, hj, hb⟩ := bd hb
   refine RC.jn (fun (s257 : (List Pin)) (σ : Nat → Value) (w : World) => ∃ v258 : Value, agree σ [(0, v0), (3, (vp b31 0)), (5, v258), (7, (vp b193 0)), (12, v32), (13, (vi (p1.Parts.length : Int))), (14, (vi (k33 : Int))), (25, v198), (26, (vi (x195.Pins.length : Int))), (27, (vi (k199 : Int)))] ∧ Holds E w ([rd v0 p0, bx 26 b31 p1, bx 87 b193 x190, rd v32 p1.Parts, rd v198 x195.Pins, own 28 v258 s257] ++ Γ)) s257 ?_ ?_
   ·refine RC.cond (b := (decide (x252 < 0))) rfl (fun hc => ?_) (fun hc => ?_)
    rotate_left
    ·replace hj := cF hc hj
     refine RC.skip ?_
     obtain rfl := oi hj
     exact ⟨rfl, v243, ⟨rfl, rfl, rfl, rfl, rfl, rfl, rfl, rfl, rfl, rfl, trivial⟩, hw.pick 15 [9, 10, 11, 12, 13, 14] (new := [rd v0 p0, bx 26 b31 p1, bx 87 b193 x190, rd v32 p1.Parts, rd v198 x195.Pins, own 28 v243 s200]) rfl rfl (by decide) (by decide)⟩
    replace hj := cT hc hj
    refine RC.region ?_
    refine mv v243 rfl rfl ?_
    refine RL.load_bf (i := 2) (f := (fun x => x)) trivial rfl hw rfl rfl Fd.self ty28 fun v259 hw => ?_
    refine RL.bslice (l := ([(⟨x190.Name, x244.Name⟩ : Pin)] : (List Pin))) trivial rfl hw [v259] rfl rfl rfl sl33 ze28 (fun M hs g => ⟨(g.sat 0 _ rfl).1, trivial⟩) fun v260 w hw => ?_
    have hw := hw.freeze (i := 0) rfl
    obtain ⟨x261, hx261, hj⟩ := bd hj
    refine RL.app (i := 16) (j := 0) trivial rfl hw rfl rfl rfl rfl el33 hx261 fun v262 w hw => ?_
    refine as_ v262 rfl rfl ?_
    refine RL.nil ?_
    obtain rfl := oi hj
    exact ⟨rfl, v262, ⟨rfl, rfl, rfl, rfl, rfl, rfl, rfl, rfl, rfl, rfl, trivial⟩, hw.pick 17 [11, 12, 13, 14, 15, 16] (new := [rd v0 p0, bx 26 b31 p1, bx 87 b193 x190, rd v32 p1.Parts, rd v198 x195.Pins, own 28 v262 x261]) rfl rfl (by decide) (by decide)⟩
   rintro σ w ⟨v258, ha, hw⟩
   obtain ⟨τ, rfl⟩ := ha.ups
   refine blkQ_n ?_
   refine thenQ_n ?_
   refine RC.region ?_
   refine RL.inc trivial rfl hk hm rfl rfl ?_
   refine mv (vi ((k199 + 1 : Nat) : Int)) rfl rfl ?_
   refine RL.nil ?_
   obtain rfl := oi hb
   exact ⟨rfl, v258, ⟨rfl, rfl, rfl, rfl, rfl, rfl, rfl, rfl, rfl, rfl, trivial⟩, hw.pick 6 [0, 1, 2, 3, 4, 5] (new := [rd v0 p0, bx 26 b31 p1, bx 87 b193 x190, rd v32 p1.Parts, rd v198 x195.Pins, own 28 v258 s257]) rfl rfl (by decide) (by decide)⟩
  intro σ w hJ
  obtain ⟨v242, ha, hw⟩ := hJ
  obtain ⟨τ, rfl⟩ := ha.ups
  refine blkQ_n ?_
  refine thenQ_n ?_
  refine RC.region ?_
  refine RL.inc trivial rfl hk hm rfl rfl ?_
  refine mv (vi ((k33 + 1 : Nat) : Int)) rfl rfl ?_
  refine RL.nil ?_
  obtain rfl := oi hb
  exact ⟨rfl, v242, ⟨rfl, rfl, rfl, rfl, rfl, rfl, trivial⟩, hw.pick 6 [0, 1, 3, 5] (new := [rd v0 p0, bx 26 b31 p1, rd v32 p1.Parts, own 28 v242 s200]) rfl rfl (by decide) (by decide)⟩
 intro σ w hJ
 obtain ⟨v188, ha, hw⟩ := hJ
 obtain ⟨τ, rfl⟩ := ha.ups
 refine thenQ_n ?_
 refine RC.sr ?_
 refine mv v188 rfl rfl ?_
 refine as_ v188 rfl rfl ?_
 refine RL.nt ?_
 refine RC.ret ?_
 obtain rfl := oi hb
 exact fin1 rfl rfl (hw.pick 4 [3] (new := [own 28 v188 s34]) rfl rfl (by decide) (by decide))
end Go.Gk
