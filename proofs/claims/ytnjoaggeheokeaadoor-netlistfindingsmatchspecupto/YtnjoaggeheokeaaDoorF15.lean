/-
  Printed by gen.py: Go functions as plain functions, and that they are.
-/
import Derived.Test.YtnjoaggeheokeaaDoorT
import Derived.Test.YtnjoaggeheokeaaDoorF4
import Derived.Test.YtnjoaggeheokeaaDoorF5
import Derived.Test.YtnjoaggeheokeaaDoorF9
import Derived.Test.YtnjoaggeheokeaaDoorF13
set_option linter.unusedVariables false
set_option linter.unusedSimpArgs false
set_option linter.unusedSectionVars false
set_option maxRecDepth 100000
set_option maxHeartbeats 4000000

namespace Go.Gk
open Go Go.Proofs
def etchhouseref2_kindOf_R (E : World) (Γ : List HP) (res : Int) (v : Value) (w : World) : Prop := v = (vi res) ∧ Holds E w Γ
def etchhouseref2_kindOf_K (E : World) (Γ : List HP) (r : Int) (σ : Nat → Value) (w : World) : Prop := finQ Tryd.prog 32 Tryd.f57 (etchhouseref2_kindOf_R E Γ r) .ret σ w
theorem etchhouseref2_kindOf_ok (N : Nat) {E w : World} {Γ : List HP} {i0 : Nat} {v0 : Value} {p0 : (List PartType)} {i1 : Nat} {v1 : Value} {p1 : Netlist} {i2 : Nat} {v2 : Value} {p2 : Pin} {res : Int} (hw : Holds E w Γ) (h0 : Γ[i0]? = some (rd v0 p0)) (h1 : Γ[i1]? = some (rd v1 p1)) (h2 : Γ[i2]? = some (rd v2 p2)) (hb : etchhouseref2_kindOf N p0 p1 p2 = some res) :
    Calls Tryd.prog 57 [v0, v1, v2].toArray w (Ret (etchhouseref2_kindOf_R E Γ res)) := by
 unfold etchhouseref2_kindOf at hb
 refine enter Tryd.func57 rfl rfl (Nat.le_of_ble_eq_true rfl) ?_
 have hw := hw.dup (i := i0 + 0) h0
 have hw := hw.dup (i := i1 + 1) h1
 have hw := hw.dup (i := i2 + 2) h2
 refine RC.sr ?_
 refine RL.box_rd (i := 1) (v := v1) trivial rfl hw rfl rfl fun b31 w hw => ?_
 refine RL.box_rd (i := 1) (v := v2) trivial rfl hw rfl rfl fun b32 w hw => ?_
 refine as_ (vi 0) rfl rfl ?_
 refine RL.nq ?_
 obtain ⟨x35, hx35, hb⟩ := bd hb
 obtain ⟨x36, hx36, hb⟩ := bd hb
 obtain ⟨x39, hx39, hb⟩ := bd hb
 obtain ⟨x40, hx40, hb⟩ := bd hb
 refine RC.drw mixed rfl (fun (D : Nat → Bool) (σ : Nat → Value) (w : World) => ∃ (v33 : Value) (v34 : Value) (v37 : Value) (v38 : Value) (v41 : Value) (v42 : Value) (b43 : Nat), doneV D σ [(0, 8, v0), (1, 9, v0), (2, 10, (vp b31 0)), (3, 11, v33), (4, 12, (vp b31 0)), (5, 13, v34), (6, 14, (vp b32 0)), (7, 15, (str p2.Part)), (8, 16, (vi x35)), (9, 17, v37), (10, 18, v38), (11, 19, (str x36.Type_)), (12, 20, (vi x39)), (13, 21, v41), (14, 22, v42), (15, 7, (vp b43 0))] ∧ agree σ [(0, v0), (4, (vp b31 0)), (5, (vp b32 0))] ∧ Holds E w ([bif D 3 then (rd v33 p1.Parts) else junk, bif D 5 then (rd v34 p1.Parts) else junk, bif D 9 then (pt v37 x36) else junk, bif D 10 then (pt v38 x36.Type_) else junk, bif D 13 then (pt v41 x40) else junk, bif D 14 then (rd v42 x40) else junk, bif D 16 then (bx 85 b43 x40) else (bif D 15 then (raw 85 b43 2) else junk), bx 28 b32 p2, bx 26 b31 p1, rd v2 p2, rd v1 p1, rd v0 p0] ++ Γ)) ?_ ⟨?_, ?_, ?_, ?_, ?_, ?_, ?_, ?_, ?_, ?_, ?_, ?_, ?_, ?_, ?_, ?_, ?_, trivial⟩ ?_
 ·have hw := hw.drew
  have hw := hw.junk
  have hw := hw.junk
  have hw := hw.junk
  have hw := hw.junk
  have hw := hw.junk
  have hw := hw.junk
  have hw := hw.junk
  exact ⟨undef, undef, undef, undef, undef, undef, 0, doneV.none, ⟨rfl, rfl, rfl, trivial⟩, hw⟩
 ·rintro D σ w hD hdep hcl ⟨v33, v34, v37, v38, v41, v42, b43, hv, ha, hw⟩
  obtain ⟨τ, rfl⟩ := (ac (ha.at 0 rfl) az).ups
  refine mv v0 rfl rfl ?_
  refine RL.nil ?_
  exact ⟨rfl, v33, v34, v37, v38, v41, v42, b43, hv.put 0 rfl rfl, ha.up rfl, hw⟩
 ·rintro D σ w hD hdep hcl ⟨v33, v34, v37, v38, v41, v42, b43, hv, ha, hw⟩
  obtain ⟨τ, rfl⟩ := (ac (ha.at 0 rfl) az).ups
  refine mv v0 rfl rfl ?_
  refine RL.nil ?_
  exact ⟨rfl, v33, v34, v37, v38, v41, v42, b43, hv.put 1 rfl rfl, ha.up rfl, hw⟩
 ·rintro D σ w hD hdep hcl ⟨v33, v34, v37, v38, v41, v42, b43, hv, ha, hw⟩
  obtain ⟨τ, rfl⟩ := (ac (ha.at 1 rfl) az).ups
  refine RL.fa_b trivial rfl rfl fa26_0 ?_
  refine RL.nil ?_
  exact ⟨rfl, v33, v34, v37, v38, v41, v42, b43, hv.put 2 rfl rfl, ha.up rfl, hw⟩
 ·rintro D σ w hD hdep hcl ⟨v33, v34, v37, v38, v41, v42, b43, hv, ha, hw⟩
  obtain ⟨τ, rfl⟩ := (ac (hv.at 2 rfl (hdep.1 rfl)) az).ups
  have hw := hw.selF (i := 0) rfl hD
  refine RL.load_bf (i := 8) (f := (fun x => x.Parts)) trivial rfl hw rfl rfl fd_Netlist_0 ty23 fun v44 hw => ?_
  have hw := hw.pick 13 [0, 2, 3, 4, 5, 6, 7, 8, 9, 10, 11, 12] (new := [rd v44 p1.Parts, bif D 5 then (rd v34 p1.Parts) else junk, bif D 9 then (pt v37 x36) else junk, bif D 10 then (pt v38 x36.Type_) else junk, bif D 13 then (pt v41 x40) else junk, bif D 14 then (rd v42 x40) else junk, bif D 16 then (bx 85 b43 x40) else (bif D 15 then (raw 85 b43 2) else junk), bx 28 b32 p2, bx 26 b31 p1, rd v2 p2, rd v1 p1, rd v0 p0]) rfl rfl (by decide) (by decide)
  have hw := hw.altT (i := 0) (b := true) rfl rfl (junk)
  refine RL.nil ?_
  exact ⟨rfl, v44, v34, v37, v38, v41, v42, b43, hv.put 3 rfl rfl, ha.up rfl, hw⟩
 ·rintro D σ w hD hdep hcl ⟨v33, v34, v37, v38, v41, v42, b43, hv, ha, hw⟩
  obtain ⟨τ, rfl⟩ := (ac (ha.at 1 rfl) az).ups
  refine RL.fa_b trivial rfl rfl fa26_0 ?_
  refine RL.nil ?_
  exact ⟨rfl, v33, v34, v37, v38, v41, v42, b43, hv.put 4 rfl rfl, ha.up rfl, hw⟩
 ·rintro D σ w hD hdep hcl ⟨v33, v34, v37, v38, v41, v42, b43, hv, ha, hw⟩
  obtain ⟨τ, rfl⟩ := (ac (hv.at 4 rfl (hdep.1 rfl)) az).ups
  have hw := hw.selF (i := 1) rfl hD
  refine RL.load_bf (i := 8) (f := (fun x => x.Parts)) trivial rfl hw rfl rfl fd_Netlist_0 ty23 fun v45 hw => ?_
  have hw := hw.pick 13 [1, 0, 3, 4, 5, 6, 7, 8, 9, 10, 11, 12] (new := [bif D 3 then (rd v33 p1.Parts) else junk, rd v45 p1.Parts, bif D 9 then (pt v37 x36) else junk, bif D 10 then (pt v38 x36.Type_) else junk, bif D 13 then (pt v41 x40) else junk, bif D 14 then (rd v42 x40) else junk, bif D 16 then (bx 85 b43 x40) else (bif D 15 then (raw 85 b43 2) else junk), bx 28 b32 p2, bx 26 b31 p1, rd v2 p2, rd v1 p1, rd v0 p0]) rfl rfl (by decide) (by decide)
  have hw := hw.altT (i := 1) (b := true) rfl rfl (junk)
  refine RL.nil ?_
  exact ⟨rfl, v33, v45, v37, v38, v41, v42, b43, hv.put 5 rfl rfl, ha.up rfl, hw⟩
 ·rintro D σ w hD hdep hcl ⟨v33, v34, v37, v38, v41, v42, b43, hv, ha, hw⟩
  obtain ⟨τ, rfl⟩ := (ac (ha.at 2 rfl) az).ups
  refine RL.fa_b trivial rfl rfl fa28_0 ?_
  refine RL.nil ?_
  exact ⟨rfl, v33, v34, v37, v38, v41, v42, b43, hv.put 6 rfl rfl, ha.up rfl, hw⟩
 ·rintro D σ w hD hdep hcl ⟨v33, v34, v37, v38, v41, v42, b43, hv, ha, hw⟩
  obtain ⟨τ, rfl⟩ := (ac (hv.at 6 rfl (hdep.1 rfl)) az).ups
  refine RL.load_bfs (i := 7) (f := (fun x => x.Part)) trivial rfl hw rfl rfl fd_Pin_0 ty9 ?_
  refine RL.nil ?_
  exact ⟨rfl, v33, v34, v37, v38, v41, v42, b43, hv.put 7 rfl rfl, ha.up rfl, hw⟩
 ·rintro D σ w hD hdep hcl ⟨v33, v34, v37, v38, v41, v42, b43, hv, ha, hw⟩
  obtain ⟨τ, rfl⟩ := (ac (hv.at 5 rfl (hdep.1 rfl)) (ac (hv.at 7 rfl (hdep.2.1 rfl)) az)).ups
  have hw := hw.selT (i := 1) rfl (hdep.1 rfl)
  refine RL.call trivial rfl fn68 [v34, (str p2.Part)] rfl (Calls_ret (etchhouseref2_partOf_ok N (p1 := p2.Part) (i0 := 1) hw rfl hx35) ?_)
  rintro _ w ⟨rfl, hw⟩
  have hw := hw.altT (i := 1) (b := D 5) rfl (hdep.1 rfl) (junk)
  refine RL.nil ?_
  exact ⟨rfl, v33, v34, v37, v38, v41, v42, b43, hv.put 8 rfl rfl, ha.up rfl, hw⟩
 ·rintro D σ w hD hdep hcl ⟨v33, v34, v37, v38, v41, v42, b43, hv, ha, hw⟩
  obtain ⟨τ, rfl⟩ := (ac (hv.at 3 rfl (hdep.1 rfl)) (ac (hv.at 8 rfl (hdep.2.1 rfl)) az)).ups
  have hw := hw.selT (i := 0) rfl (hdep.1 rfl)
  have hw := hw.selF (i := 2) rfl hD
  refine RL.ia_rd (i := 0) trivial rfl hw rfl rfl rfl sl23 hx36 fun v46 hw => ?_
  have hw := hw.pick 13 [1, 2, 0, 4, 5, 6, 7, 8, 9, 10, 11, 12] (new := [rd v33 p1.Parts, bif D 5 then (rd v34 p1.Parts) else junk, pt v46 x36, bif D 10 then (pt v38 x36.Type_) else junk, bif D 13 then (pt v41 x40) else junk, bif D 14 then (rd v42 x40) else junk, bif D 16 then (bx 85 b43 x40) else (bif D 15 then (raw 85 b43 2) else junk), bx 28 b32 p2, bx 26 b31 p1, rd v2 p2, rd v1 p1, rd v0 p0]) rfl rfl (by decide) (by decide)
  have hw := hw.altT (i := 0) (b := D 3) rfl (hdep.1 rfl) (junk)
  have hw := hw.altT (i := 2) (b := true) rfl rfl (junk)
  refine RL.nil ?_
  exact ⟨rfl, v33, v34, v46, v38, v41, v42, b43, hv.put 9 rfl rfl, ha.up rfl, hw⟩
 ·rintro D σ w hD hdep hcl ⟨v33, v34, v37, v38, v41, v42, b43, hv, ha, hw⟩
  obtain ⟨τ, rfl⟩ := (ac (hv.at 9 rfl (hdep.1 rfl)) az).ups
  have hw := hw.selT (i := 2) rfl (hdep.1 rfl)
  have hw := hw.selF (i := 3) rfl hD
  refine RL.fa_pt (i := 2) (f := fun (x : Part) => x.Type_) trivial rfl hw rfl rfl fa87_1 fd_Part_1 fun v47 hw => ?_
  have hw := hw.pick 13 [1, 2, 3, 0, 5, 6, 7, 8, 9, 10, 11, 12] (new := [bif D 3 then (rd v33 p1.Parts) else junk, bif D 5 then (rd v34 p1.Parts) else junk, pt v37 x36, pt v47 x36.Type_, bif D 13 then (pt v41 x40) else junk, bif D 14 then (rd v42 x40) else junk, bif D 16 then (bx 85 b43 x40) else (bif D 15 then (raw 85 b43 2) else junk), bx 28 b32 p2, bx 26 b31 p1, rd v2 p2, rd v1 p1, rd v0 p0]) rfl rfl (by decide) (by decide)
  have hw := hw.altT (i := 2) (b := D 9) rfl (hdep.1 rfl) (junk)
  have hw := hw.altT (i := 3) (b := true) rfl rfl (junk)
  refine RL.nil ?_
  exact ⟨rfl, v33, v34, v37, v47, v41, v42, b43, hv.put 10 rfl rfl, ha.up rfl, hw⟩
 ·rintro D σ w hD hdep hcl ⟨v33, v34, v37, v38, v41, v42, b43, hv, ha, hw⟩
  obtain ⟨τ, rfl⟩ := (ac (hv.at 10 rfl (hdep.1 rfl)) az).ups
  have hw := hw.selT (i := 3) rfl (hdep.1 rfl)
  refine RL.load_pts (i := 3) (y := x36.Type_) trivial rfl hw rfl rfl ty9 ?_
  have hw := hw.altT (i := 3) (b := D 10) rfl (hdep.1 rfl) (junk)
  refine RL.nil ?_
  exact ⟨rfl, v33, v34, v37, v38, v41, v42, b43, hv.put 11 rfl rfl, ha.up rfl, hw⟩
 ·rintro D σ w hD hdep hcl ⟨v33, v34, v37, v38, v41, v42, b43, hv, ha, hw⟩
  obtain ⟨τ, rfl⟩ := (ac (hv.at 1 rfl (hdep.1 rfl)) (ac (hv.at 11 rfl (hdep.2.1 rfl)) az)).ups
  refine RL.call trivial rfl fn69 [v0, (str x36.Type_)] rfl (Calls_ret (etchhouseref2_typeOf_ok N (p1 := x36.Type_) (i0 := 11) hw rfl hx39) ?_)
  rintro _ w ⟨rfl, hw⟩
  refine RL.nil ?_
  exact ⟨rfl, v33, v34, v37, v38, v41, v42, b43, hv.put 12 rfl rfl, ha.up rfl, hw⟩
 ·rintro D σ w hD hdep hcl ⟨v33, v34, v37, v38, v41, v42, b43, hv, ha, hw⟩
  obtain ⟨τ, rfl⟩ := (ac (hv.at 0 rfl (hdep.1 rfl)) (ac (hv.at 12 rfl (hdep.2.1 rfl)) az)).ups
  have hw := hw.selF (i := 4) rfl hD
  refine RL.ia_rd (i := 11) trivial rfl hw rfl rfl rfl sl22 hx40 fun v48 hw => ?_
  have hw := hw.pick 13 [1, 2, 3, 4, 0, 6, 7, 8, 9, 10, 11, 12] (new := [bif D 3 then (rd v33 p1.Parts) else junk, bif D 5 then (rd v34 p1.Parts) else junk, bif D 9 then (pt v37 x36) else junk, bif D 10 then (pt v38 x36.Type_) else junk, pt v48 x40, bif D 14 then (rd v42 x40) else junk, bif D 16 then (bx 85 b43 x40) else (bif D 15 then (raw 85 b43 2) else junk), bx 28 b32 p2, bx 26 b31 p1, rd v2 p2, rd v1 p1, rd v0 p0]) rfl rfl (by decide) (by decide)
  have hw := hw.altT (i := 4) (b := true) rfl rfl (junk)
  refine RL.nil ?_
  exact ⟨rfl, v33, v34, v37, v38, v48, v42, b43, hv.put 13 rfl rfl, ha.up rfl, hw⟩
 ·rintro D σ w hD hdep hcl ⟨v33, v34, v37, v38, v41, v42, b43, hv, ha, hw⟩
  obtain ⟨τ, rfl⟩ := (ac (hv.at 13 rfl (hdep.1 rfl)) az).ups
  have hw := hw.selT (i := 4) rfl (hdep.1 rfl)
  have hw := hw.selF (i := 5) rfl hD
  refine RL.load_pt (i := 4) (x := x40) trivial rfl hw rfl rfl ty85 fun v49 hw => ?_
  have hw := hw.pick 13 [1, 2, 3, 4, 5, 0, 7, 8, 9, 10, 11, 12] (new := [bif D 3 then (rd v33 p1.Parts) else junk, bif D 5 then (rd v34 p1.Parts) else junk, bif D 9 then (pt v37 x36) else junk, bif D 10 then (pt v38 x36.Type_) else junk, pt v41 x40, rd v49 x40, bif D 16 then (bx 85 b43 x40) else (bif D 15 then (raw 85 b43 2) else junk), bx 28 b32 p2, bx 26 b31 p1, rd v2 p2, rd v1 p1, rd v0 p0]) rfl rfl (by decide) (by decide)
  have hw := hw.altT (i := 4) (b := D 13) rfl (hdep.1 rfl) (junk)
  have hw := hw.altT (i := 5) (b := true) rfl rfl (junk)
  refine RL.nil ?_
  exact ⟨rfl, v33, v34, v37, v38, v41, v49, b43, hv.put 14 rfl rfl, ha.up rfl, hw⟩
 ·rintro D σ w hD hdep hcl ⟨v33, v34, v37, v38, v41, v42, b43, hv, ha, hw⟩
  obtain ⟨τ, rfl⟩ := (az (σ := σ)).ups
  have hw := hw.selF (i := 6) rfl (nf (fun h => ft hD ((hcl 16 _ rfl h).1 rfl)))
  have hw := hw.selF (i := 6) rfl hD
  refine RL.alloc trivial rfl hw ze85.z fun b50 w hw => ?_
  have hw := hw.pick 13 [1, 2, 3, 4, 5, 6, 0, 8, 9, 10, 11, 12] (new := [bif D 3 then (rd v33 p1.Parts) else junk, bif D 5 then (rd v34 p1.Parts) else junk, bif D 9 then (pt v37 x36) else junk, bif D 10 then (pt v38 x36.Type_) else junk, bif D 13 then (pt v41 x40) else junk, bif D 14 then (rd v42 x40) else junk, raw 85 b50 2, bx 28 b32 p2, bx 26 b31 p1, rd v2 p2, rd v1 p1, rd v0 p0]) rfl rfl (by decide) (by decide)
  have hw := hw.altT (i := 6) (b := true) rfl rfl (junk)
  have hw := hw.altF (i := 6) (b := D 16) rfl (nf (fun h => ft hD ((hcl 16 _ rfl h).1 rfl))) (bx 85 b50 x40)
  refine RL.nil ?_
  exact ⟨rfl, v33, v34, v37, v38, v41, v42, b50, hv.put 15 rfl rfl, ha.up rfl, hw⟩
 ·rintro D σ w hD hdep hcl ⟨v33, v34, v37, v38, v41, v42, b43, hv, ha, hw⟩
  obtain ⟨τ, rfl⟩ := (ac (hv.at 14 rfl (hdep.2.1 rfl)) (ac (hv.at 15 rfl (hdep.1 rfl)) az)).ups
  have hw := hw.selT (i := 5) rfl (hdep.2.1 rfl)
  have hw := hw.selF (i := 6) rfl hD
  have hw := hw.selT (i := 6) rfl (hdep.1 rfl)
  refine RL.store_raw (i := 6) (j := 5) trivial hw rfl rfl rfl rfl ty85 rfl fun w hw => ?_
  have hw := hw.altT (i := 5) (b := D 14) rfl (hdep.2.1 rfl) (junk)
  have hw := hw.altT (i := 6) (b := true) rfl rfl (bif D 15 then (raw 85 b43 2) else junk)
  refine RL.nil ?_
  exact ⟨rfl, v33, v34, v37, v38, v41, v42, b43, hv.no rfl, ha, hw⟩
 rintro D σ w hall ⟨v33, v34, v37, v38, v41, v42, b43, hv, ha, hw⟩
 rw [hall 3 (by decide), hall 5 (by decide), hall 9 (by decide), hall 10 (by decide), hall 13 (by decide), hall 14 (by decide), hall 15 (by decide), hall 16 (by decide)] at hw
 obtain ⟨τ, rfl⟩ := (ac (hv.at 15 rfl (hall 15 (by decide))) (ac (ha.at 0 rfl) (ac (ha.at 1 rfl) (ac (ha.at 2 rfl) az)))).ups
 refine thenQ_n ?_
 refine RC.seq ?_
 obtain ⟨x53, hx53, hb⟩ := bd hb
 obtain ⟨x54, hx54, hb⟩ := bd hb
 refine RC.drw mixed rfl (fun (D : Nat → Bool) (σ : Nat → Value) (w : World) => ∃ (v51 : Value) (v52 : Value) (v55 : Value) (v56 : Value), doneV D σ [(0, 23, (vp b43 1)), (1, 24, v51), (2, 25, v52), (3, 26, (vp b32 1)), (4, 27, (str p2.Pin)), (5, 28, (vi x53)), (6, 29, v55), (7, 30, v56), (8, 31, (vi x54.Kind)), (9, 6, (vi x54.Kind))] ∧ agree σ [(5, (vp b32 0)), (7, (vp b43 0))] ∧ Holds E w ([bif D 1 then (rd v51 x40.Pins) else junk, bif D 2 then (rd v52 x40) else junk, bif D 6 then (pt v55 x54) else junk, bif D 7 then (pt v56 x54.Kind) else junk, rd v33 p1.Parts, rd v34 p1.Parts, pt v37 x36, pt v38 x36.Type_, pt v41 x40, rd v42 x40, bx 85 b43 x40, bx 28 b32 p2, bx 26 b31 p1, rd v2 p2, rd v1 p1, rd v0 p0] ++ Γ)) ?_ ⟨?_, ?_, ?_, ?_, ?_, ?_, ?_, ?_, ?_, ?_, trivial⟩ ?_
 ·have hw := hw.drew
  have hw := hw.junk
  have hw := hw.junk
  have hw := hw.junk
  have hw := hw.junk
  exact ⟨undef, undef, undef, undef, doneV.none, ⟨rfl, rfl, trivial⟩, hw⟩
 ·rintro D σ w hD hdep hcl ⟨v51, v52, v55, v56, hv, ha, hw⟩
  obtain ⟨τ, rfl⟩ := (ac (ha.at 1 rfl) az).ups
  refine RL.fa_b trivial rfl rfl fa85_1 ?_
  refine RL.nil ?_
  exact ⟨rfl, v51, v52, v55, v56, hv.put 0 rfl rfl, ha.up rfl, hw⟩
 ·rintro D σ w hD hdep hcl ⟨v51, v52, v55, v56, hv, ha, hw⟩
  obtain ⟨τ, rfl⟩ := (ac (hv.at 0 rfl (hdep.1 rfl)) az).ups
  have hw := hw.selF (i := 0) rfl hD
  refine RL.load_bf (i := 10) (f := (fun x => x.Pins)) trivial rfl hw rfl rfl fd_PartType_1 ty83 fun v57 hw => ?_
  have hw := hw.pick 17 [0, 2, 3, 4, 5, 6, 7, 8, 9, 10, 11, 12, 13, 14, 15, 16] (new := [rd v57 x40.Pins, bif D 2 then (rd v52 x40) else junk, bif D 6 then (pt v55 x54) else junk, bif D 7 then (pt v56 x54.Kind) else junk, rd v33 p1.Parts, rd v34 p1.Parts, pt v37 x36, pt v38 x36.Type_, pt v41 x40, rd v42 x40, bx 85 b43 x40, bx 28 b32 p2, bx 26 b31 p1, rd v2 p2, rd v1 p1, rd v0 p0]) rfl rfl (by decide) (by decide)
  have hw := hw.altT (i := 0) (b := true) rfl rfl (junk)
  refine RL.nil ?_
  exact ⟨rfl, v57, v52, v55, v56, hv.put 1 rfl rfl, ha.up rfl, hw⟩
 ·rintro D σ w hD hdep hcl ⟨v51, v52, v55, v56, hv, ha, hw⟩
  obtain ⟨τ, rfl⟩ := (ac (ha.at 1 rfl) az).ups
  have hw := hw.selF (i := 1) rfl hD
  refine RL.load_bf (i := 10) (f := (fun x => x)) trivial rfl hw rfl rfl Fd.self ty85 fun v58 hw => ?_
  have hw := hw.pick 17 [1, 0, 3, 4, 5, 6, 7, 8, 9, 10, 11, 12, 13, 14, 15, 16] (new := [bif D 1 then (rd v51 x40.Pins) else junk, rd v58 x40, bif D 6 then (pt v55 x54) else junk, bif D 7 then (pt v56 x54.Kind) else junk, rd v33 p1.Parts, rd v34 p1.Parts, pt v37 x36, pt v38 x36.Type_, pt v41 x40, rd v42 x40, bx 85 b43 x40, bx 28 b32 p2, bx 26 b31 p1, rd v2 p2, rd v1 p1, rd v0 p0]) rfl rfl (by decide) (by decide)
  have hw := hw.altT (i := 1) (b := true) rfl rfl (junk)
  refine RL.nil ?_
  exact ⟨rfl, v51, v58, v55, v56, hv.put 2 rfl rfl, ha.up rfl, hw⟩
 ·rintro D σ w hD hdep hcl ⟨v51, v52, v55, v56, hv, ha, hw⟩
  obtain ⟨τ, rfl⟩ := (ac (ha.at 0 rfl) az).ups
  refine RL.fa_b trivial rfl rfl fa28_1 ?_
  refine RL.nil ?_
  exact ⟨rfl, v51, v52, v55, v56, hv.put 3 rfl rfl, ha.up rfl, hw⟩
 ·rintro D σ w hD hdep hcl ⟨v51, v52, v55, v56, hv, ha, hw⟩
  obtain ⟨τ, rfl⟩ := (ac (hv.at 3 rfl (hdep.1 rfl)) az).ups
  refine RL.load_bfs (i := 11) (f := (fun x => x.Pin)) trivial rfl hw rfl rfl fd_Pin_1 ty9 ?_
  refine RL.nil ?_
  exact ⟨rfl, v51, v52, v55, v56, hv.put 4 rfl rfl, ha.up rfl, hw⟩
 ·rintro D σ w hD hdep hcl ⟨v51, v52, v55, v56, hv, ha, hw⟩
  obtain ⟨τ, rfl⟩ := (ac (hv.at 2 rfl (hdep.1 rfl)) (ac (hv.at 4 rfl (hdep.2.1 rfl)) az)).ups
  have hw := hw.selT (i := 1) rfl (hdep.1 rfl)
  refine RL.call trivial rfl fn94 [v52, (str p2.Pin)] rfl (Calls_ret (etchhouseref2_pinOf_ok N (p1 := p2.Pin) (i0 := 1) hw rfl hx53) ?_)
  rintro _ w ⟨rfl, hw⟩
  have hw := hw.altT (i := 1) (b := D 2) rfl (hdep.1 rfl) (junk)
  refine RL.nil ?_
  exact ⟨rfl, v51, v52, v55, v56, hv.put 5 rfl rfl, ha.up rfl, hw⟩
 ·rintro D σ w hD hdep hcl ⟨v51, v52, v55, v56, hv, ha, hw⟩
  obtain ⟨τ, rfl⟩ := (ac (hv.at 1 rfl (hdep.1 rfl)) (ac (hv.at 5 rfl (hdep.2.1 rfl)) az)).ups
  have hw := hw.selT (i := 0) rfl (hdep.1 rfl)
  have hw := hw.selF (i := 2) rfl hD
  refine RL.ia_rd (i := 0) trivial rfl hw rfl rfl rfl sl83 hx54 fun v59 hw => ?_
  have hw := hw.pick 17 [1, 2, 0, 4, 5, 6, 7, 8, 9, 10, 11, 12, 13, 14, 15, 16] (new := [rd v51 x40.Pins, bif D 2 then (rd v52 x40) else junk, pt v59 x54, bif D 7 then (pt v56 x54.Kind) else junk, rd v33 p1.Parts, rd v34 p1.Parts, pt v37 x36, pt v38 x36.Type_, pt v41 x40, rd v42 x40, bx 85 b43 x40, bx 28 b32 p2, bx 26 b31 p1, rd v2 p2, rd v1 p1, rd v0 p0]) rfl rfl (by decide) (by decide)
  have hw := hw.altT (i := 0) (b := D 1) rfl (hdep.1 rfl) (junk)
  have hw := hw.altT (i := 2) (b := true) rfl rfl (junk)
  refine RL.nil ?_
  exact ⟨rfl, v51, v52, v59, v56, hv.put 6 rfl rfl, ha.up rfl, hw⟩
 ·rintro D σ w hD hdep hcl ⟨v51, v52, v55, v56, hv, ha, hw⟩
  obtain ⟨τ, rfl⟩ := (ac (hv.at 6 rfl (hdep.1 rfl)) az).ups
  have hw := hw.selT (i := 2) rfl (hdep.1 rfl)
  have hw := hw.selF (i := 3) rfl hD
  refine RL.fa_pt (i := 2) (f := fun (x : PinType) => x.Kind) trivial rfl hw rfl rfl fa82_1 fd_PinType_1 fun v60 hw => ?_
  have hw := hw.pick 17 [1, 2, 3, 0, 5, 6, 7, 8, 9, 10, 11, 12, 13, 14, 15, 16] (new := [bif D 1 then (rd v51 x40.Pins) else junk, bif D 2 then (rd v52 x40) else junk, pt v55 x54, pt v60 x54.Kind, rd v33 p1.Parts, rd v34 p1.Parts, pt v37 x36, pt v38 x36.Type_, pt v41 x40, rd v42 x40, bx 85 b43 x40, bx 28 b32 p2, bx 26 b31 p1, rd v2 p2, rd v1 p1, rd v0 p0]) rfl rfl (by decide) (by decide)
  have hw := hw.altT (i := 2) (b := D 6) rfl (hdep.1 rfl) (junk)
  have hw := hw.altT (i := 3) (b := true) rfl rfl (junk)
  refine RL.nil ?_
  exact ⟨rfl, v51, v52, v55, v60, hv.put 7 rfl rfl, ha.up rfl, hw⟩
 ·rintro D σ w hD hdep hcl ⟨v51, v52, v55, v56, hv, ha, hw⟩
  obtain ⟨τ, rfl⟩ := (ac (hv.at 7 rfl (hdep.1 rfl)) az).ups
  have hw := hw.selT (i := 3) rfl (hdep.1 rfl)
  refine RL.load_pts (i := 3) (y := x54.Kind) trivial rfl hw rfl rfl ty3 ?_
  have hw := hw.altT (i := 3) (b := D 7) rfl (hdep.1 rfl) (junk)
  refine RL.nil ?_
  exact ⟨rfl, v51, v52, v55, v56, hv.put 8 rfl rfl, ha.up rfl, hw⟩
 ·rintro D σ w hD hdep hcl ⟨v51, v52, v55, v56, hv, ha, hw⟩
  obtain ⟨τ, rfl⟩ := (ac (hv.at 8 rfl (hdep.1 rfl)) az).ups
  refine as_ (vi x54.Kind) rfl rfl ?_
  refine RL.nil ?_
  exact ⟨rfl, v51, v52, v55, v56, hv.put 9 rfl rfl, ha.up rfl, hw⟩
 rintro D σ w hall ⟨v51, v52, v55, v56, hv, ha, hw⟩
 rw [hall 1 (by decide), hall 2 (by decide), hall 6 (by decide), hall 7 (by decide)] at hw
 obtain ⟨τ, rfl⟩ := (ac (hv.at 9 rfl (hall 9 (by decide))) (ac (ha.at 0 rfl) (ac (ha.at 1 rfl) az))).ups
 refine thenQ_n ?_
 refine RC.ret ?_
 obtain rfl := oi hb
 exact fin1 rfl rfl ⟨rfl, hw.drop 16 rfl⟩
def slices_Index_int_R (E : World) (Γ : List HP) (res : Int) (v : Value) (w : World) : Prop := v = (vi res) ∧ Holds E w Γ
def slices_Index_int_K (E : World) (Γ : List HP) (r : Int) (σ : Nat → Value) (w : World) : Prop := finQ Tryd.prog 19 Tryd.f150 (slices_Index_int_R E Γ r) .ret σ w
theorem slices_Index_int_ok (N : Nat) {E w : World} {Γ : List HP} {i0 : Nat} {v0 : Value} {p0 : (List Int)} {p1 : Int} {res : Int} (hw : Holds E w Γ) (h0 : Γ[i0]? = some (rd v0 p0)) (hb : slices_Index_int N p0 p1 = some res) :
    Calls Tryd.prog 150 [v0, (vi p1)].toArray w (Ret (slices_Index_int_R E Γ res)) := by
 unfold slices_Index_int at hb
 refine enter Tryd.func150 rfl rfl (Nat.le_of_ble_eq_true rfl) ?_
 have hw := hw.dup (i := i0 + 0) h0
 refine RC.sr ?_
 refine as_ (vi 0) rfl rfl ?_
 refine RL.nq ?_
 refine RC.sr ?_
 refine mv v0 rfl rfl ?_
 refine RL.len_rd (i := 0) (l := p0) trivial rfl hw rfl rfl un138 ?_
 refine mv (vi 0) rfl rfl ?_
 refine RL.nt ?_
 obtain ⟨o37, hN, hb⟩ := bd hb
 refine RC.range (fun (k31 : Nat) (s32 : Unit) (σ : Nat → Value) (w : World) => agree σ [(0, v0), (1, (vi p1)), (7, (vi (p0.length : Int))), (8, (vi (k31 : Int)))] ∧ Holds E w ([rd v0 p0] ++ Γ)) (fun (s32 : Unit) (σ : Nat → Value) (w : World) => agree σ [] ∧ Holds E w ([rd v0 p0] ++ Γ)) (slices_Index_int_K E Γ) hN ?_ ?_ ?_ ?_ ?_ 
 ·exact ⟨⟨rfl, rfl, rfl, rfl, trivial⟩, hw.pick 1 [0] (new := [rd v0 p0]) rfl rfl (by decide) (by decide)⟩
 ·intro hm s32 σ w hI
  obtain ⟨ha, hw⟩ := hI
  obtain ⟨τ, rfl⟩ := ha.ups
  refine RC.sr ?_
  refine ic ((p0.length : Int)) ((p0.length : Int)) rfl rfl rfl rfl ?_
  refine RL.nq ?_
  refine RC.cond_f dge ?_
  refine RC.ex ?_
  exact ⟨rfl, trivial, hw.pick 1 [0] (new := [rd v0 p0]) rfl rfl (by decide) (by decide)⟩
 ·intro hm k31 s32 fl σ w hk hI hb
  obtain ⟨ha, hw⟩ := hI
  obtain ⟨τ, rfl⟩ := ha.ups
  refine RC.sr ?_
  refine ic ((k31 : Int)) ((p0.length : Int)) rfl rfl rfl rfl ?_
  refine RL.nq ?_
  refine RC.cond_t (dlt hk) ?_
  refine RC.ss ?_
  refine RC.bs ?_
  refine mv (vi (k31 : Int)) rfl rfl ?_
  refine as_ (vi (k31 : Int)) rfl rfl ?_
  refine RL.ns ?_
  refine mv (vi p1) rfl rfl ?_
  refine mv v0 rfl rfl ?_
  refine mv (vi (k31 : Int)) rfl rfl ?_
  obtain ⟨x35, hx35, hb⟩ := bd hb
  refine RL.ia_rd (i := 0) trivial rfl hw rfl rfl rfl sl138 hx35 fun v36 hw => ?_
  refine RL.load_pts (i := 0) (y := x35) trivial rfl hw rfl rfl ty3 ?_
  refine ic p1 x35 rfl rfl rfl rfl ?_
  refine RL.nt ?_
  refine RC.cond (b := (p1 == x35)) rfl (fun hc => ?_) (fun hc => ?_)
  rotate_left
  ·replace hb := cF hc hb
   refine RC.skip ?_
   refine blkQ_n ?_
   refine thenQ_n ?_
   refine RC.region ?_
   refine RL.inc trivial rfl hk hm rfl rfl ?_
   refine mv (vi ((k31 + 1 : Nat) : Int)) rfl rfl ?_
   refine RL.nil ?_
   obtain rfl := oi hb
   exact ⟨rfl, ⟨rfl, rfl, rfl, rfl, trivial⟩, hw.pick 2 [1] (new := [rd v0 p0]) rfl rfl (by decide) (by decide)⟩
  replace hb := cT hc hb
  refine RC.sr ?_
  refine mv (vi (k31 : Int)) rfl rfl ?_
  refine as_ (vi (k31 : Int)) rfl rfl ?_
  refine RL.nt ?_
  refine RC.rb ?_
  refine thenQ_r ?_
  obtain rfl := oi hb
  exact ⟨rfl, fin1 rfl rfl ⟨rfl, hw.drop 2 rfl⟩⟩
 ·intro r σ w e hK
  subst e
  refine thenQ_r ?_
  obtain rfl := oi hb
  exact hK
 intro s32 σ w e hJ
 subst e
 rw [Fo.cs_go] at hb
 obtain ⟨ha, hw⟩ := hJ
 obtain ⟨τ, rfl⟩ := ha.ups
 refine thenQ_n ?_
 refine RC.sr ?_
 refine as_ (vi (-1)) rfl rfl ?_
 refine RL.nt ?_
 refine RC.ret ?_
 obtain rfl := oi hb
 exact fin1 rfl rfl ⟨rfl, hw.drop 1 rfl⟩
def slices_Contains_int_R (E : World) (Γ : List HP) (res : Bool) (v : Value) (w : World) : Prop := v = (vb res) ∧ Holds E w Γ
def slices_Contains_int_K (E : World) (Γ : List HP) (r : Bool) (σ : Nat → Value) (w : World) : Prop := finQ Tryd.prog 9 Tryd.f138 (slices_Contains_int_R E Γ r) .ret σ w
theorem slices_Contains_int_ok (N : Nat) {E w : World} {Γ : List HP} {i0 : Nat} {v0 : Value} {p0 : (List Int)} {p1 : Int} {res : Bool} (hw : Holds E w Γ) (h0 : Γ[i0]? = some (rd v0 p0)) (hb : slices_Contains_int N p0 p1 = some res) :
    Calls Tryd.prog 138 [v0, (vi p1)].toArray w (Ret (slices_Contains_int_R E Γ res)) := by
 unfold slices_Contains_int at hb
 refine enter Tryd.func138 rfl rfl (Nat.le_of_ble_eq_true rfl) ?_
 have hw := hw.dup (i := i0 + 0) h0
 refine RC.sr ?_
 refine as_ (vb false) rfl rfl ?_
 refine RL.ns ?_
 refine mv v0 rfl rfl ?_
 refine mv (vi p1) rfl rfl ?_
 obtain ⟨x31, hx31, hb⟩ := bd hb
 refine RL.call trivial rfl fn150 [v0, (vi p1)] rfl (Calls_ret (slices_Index_int_ok N (p1 := p1) (i0 := 0) hw rfl hx31) ?_)
 rintro _ w ⟨rfl, hw⟩
 refine ic x31 0 rfl rfl rfl rfl ?_
 refine as_ (vb (decide (x31 ≥ 0))) rfl rfl ?_
 refine RL.nt ?_
 refine RC.ret ?_
 obtain rfl := oi hb
 exact fin1 rfl rfl ⟨rfl, hw.drop 1 rfl⟩
def etchhouseref2_ofKinds_R (E : World) (Γ : List HP) (res : (List Pin)) (v : Value) (w : World) : Prop := Holds E w (own 28 v res :: Γ)
def etchhouseref2_ofKinds_K (E : World) (Γ : List HP) (r : (List Pin)) (σ : Nat → Value) (w : World) : Prop := finQ Tryd.prog 31 Tryd.f112 (etchhouseref2_ofKinds_R E Γ r) .ret σ w
theorem etchhouseref2_ofKinds_ok (N : Nat) {E w : World} {Γ : List HP} {i0 : Nat} {v0 : Value} {p0 : (List PartType)} {i1 : Nat} {v1 : Value} {p1 : Netlist} {i2 : Nat} {v2 : Value} {p2 : Net} {i3 : Nat} {v3 : Value} {p3 : (List Int)} {res : (List Pin)} (hw : Holds E w Γ) (h0 : Γ[i0]? = some (rd v0 p0)) (h1 : Γ[i1]? = some (rd v1 p1)) (h2 : Γ[i2]? = some (rd v2 p2)) (h3 : Γ[i3]? = some (rd v3 p3)) (hb : etchhouseref2_ofKinds N p0 p1 p2 p3 = some res) :
    Calls Tryd.prog 112 [v0, v1, v2, v3].toArray w (Ret (etchhouseref2_ofKinds_R E Γ res)) := by
 unfold etchhouseref2_ofKinds at hb
 refine enter Tryd.func112 rfl rfl (Nat.le_of_ble_eq_true rfl) ?_
 have hw := hw.dup (i := i0 + 0) h0
 have hw := hw.dup (i := i1 + 1) h1
 have hw := hw.dup (i := i2 + 2) h2
 have hw := hw.dup (i := i3 + 3) h3
 refine RC.sr ?_
 refine RL.box_rd (i := 2) (v := v1) trivial rfl hw rfl rfl fun b31 w hw => ?_
 refine RL.box_rd (i := 2) (v := v2) trivial rfl hw rfl rfl fun b32 w hw => ?_
 refine as_ (.slice none 0 0) rfl rfl ?_
 refine RL.ns ?_
 refine as_ (.slice none 0 0) rfl rfl ?_
 refine RL.nq ?_
 refine RC.sr ?_
 refine RL.fa_b trivial rfl rfl fa64_1 ?_
 refine RL.load_bf (i := 0) (f := (fun x => x.Pins)) trivial rfl hw rfl rfl fd_Net_1 ty33 fun v33 hw => ?_
 refine RL.len_rd (i := 0) (l := p2.Pins) trivial rfl hw rfl rfl un33 ?_
 refine mv (vi 0) rfl rfl ?_
 refine RL.nt ?_
 obtain ⟨s35, hN, hb⟩ := bd hb
 refine RC.fold (fun (k34 : Nat) (s35 : (List Pin)) (σ : Nat → Value) (w : World) => ∃ v74 : Value, agree σ [(0, v0), (3, v3), (5, (vp b31 0)), (9, v74), (13, v33), (14, (vi (p2.Pins.length : Int))), (15, (vi (k34 : Int)))] ∧ Holds E w ([rd v0 p0, rd v3 p3, bx 26 b31 p1, rd v33 p2.Pins, own 28 v74 s35] ++ Γ)) (fun (s35 : (List Pin)) (σ : Nat → Value) (w : World) => ∃ v75 : Value, agree σ [(9, v75)] ∧ Holds E w ([rd v0 p0, rd v3 p3, bx 26 b31 p1, rd v33 p2.Pins, own 28 v75 s35] ++ Γ)) hN ?_ ?_ ?_ ?_
 ·have hw := hw.own_nil Pin 28
  exact ⟨(.slice none 0 0), ⟨rfl, rfl, rfl, rfl, rfl, rfl, rfl, trivial⟩, hw.pick 8 [7, 4, 3, 1, 0] (new := [rd v0 p0, rd v3 p3, bx 26 b31 p1, rd v33 p2.Pins, own 28 (.slice none 0 0) ([] : (List Pin))]) rfl rfl (by decide) (by decide)⟩
 ·intro hm s35 σ w hI
  obtain ⟨v95, ha, hw⟩ := hI
  obtain ⟨τ, rfl⟩ := ha.ups
  refine RC.sr ?_
  refine ic ((p2.Pins.length : Int)) ((p2.Pins.length : Int)) rfl rfl rfl rfl ?_
  refine RL.nq ?_
  refine RC.cond_f dge ?_
  refine RC.ex ?_
  exact ⟨rfl, v95, ⟨rfl, trivial⟩, hw.pick 5 [0, 1, 2, 3, 4] (new := [rd v0 p0, rd v3 p3, bx 26 b31 p1, rd v33 p2.Pins, own 28 v95 s35]) rfl rfl (by decide) (by decide)⟩
 ·intro hm k34 s35 s' σ w hk hI hb
  obtain ⟨v76, ha, hw⟩ := hI
  obtain ⟨τ, rfl⟩ := ha.ups
  refine RC.sr ?_
  refine ic ((k34 : Int)) ((p2.Pins.length : Int)) rfl rfl rfl rfl ?_
  refine RL.nq ?_
  refine RC.cond_t (dlt hk) ?_
  refine RC.ss ?_
  refine RC.bs ?_
  obtain ⟨x77, hx77, hb⟩ := bd hb
  refine RL.ia_rd (i := 3) trivial rfl hw rfl rfl rfl sl33 hx77 fun v78 hw => ?_
  refine RL.load_pt (i := 0) (x := x77) trivial rfl hw rfl rfl ty28 fun v79 hw => ?_
  refine RL.alloc trivial rfl hw ze28.z fun b80 w hw => ?_
  refine RL.store_raw (i := 0) (j := 1) trivial hw rfl rfl rfl rfl ty28 rfl fun w hw => ?_
  refine RL.ns ?_
  refine mv v3 rfl rfl ?_
  refine mv v0 rfl rfl ?_
  refine RL.load_bf (i := 5) (f := (fun x => x)) trivial rfl hw rfl rfl Fd.self ty26 fun v81 hw => ?_
  refine RL.load_bf (i := 1) (f := (fun x => x)) trivial rfl hw rfl rfl Fd.self ty28 fun v82 hw => ?_
  obtain ⟨x83, hx83, hb⟩ := bd hb
  refine RL.call trivial rfl fn57 [v0, v81, v82] rfl (Calls_ret (etchhouseref2_kindOf_ok N  (i0 := 5) (i1 := 1) (i2 := 0) hw rfl rfl rfl hx83) ?_)
  rintro _ w ⟨rfl, hw⟩
  obtain ⟨x84, hx84, hb⟩ := bd hb
  refine RL.call trivial rfl fn138 [v3, (vi x83)] rfl (Calls_ret (slices_Contains_int_ok N (p1 := x83) (i0 := 6) hw rfl hx84) ?_)
  rintro _ w ⟨rfl, hw⟩
  refine RL.nt ?_
  obtain ⟨s89, hj, hb⟩ := bd hb
  refine RC.jn (fun (s89 : (List Pin)) (σ : Nat → Value) (w : World) => ∃ v90 : Value, agree σ [(0, v0), (3, v3), (5, (vp b31 0)), (9, v90), (13, v33), (14, (vi (p2.Pins.length : Int))), (15, (vi (k34 : Int)))] ∧ Holds E w ([rd v0 p0, rd v3 p3, bx 26 b31 p1, rd v33 p2.Pins, own 28 v90 s89] ++ Γ)) s89 ?_ ?_
  ·refine RC.cond (b := x84) rfl (fun hc => ?_) (fun hc => ?_)
   rotate_left
   ·replace hj := cF hc hj
    refine RC.skip ?_
    obtain rfl := oi hj
    exact ⟨rfl, v76, ⟨rfl, rfl, rfl, rfl, rfl, rfl, rfl, trivial⟩, hw.pick 10 [5, 6, 7, 8, 9] (new := [rd v0 p0, rd v3 p3, bx 26 b31 p1, rd v33 p2.Pins, own 28 v76 s35]) rfl rfl (by decide) (by decide)⟩
   replace hj := cT hc hj
   refine RC.region ?_
   refine mv v76 rfl rfl ?_
   refine RL.load_bf (i := 2) (f := (fun x => x)) trivial rfl hw rfl rfl Fd.self ty28 fun v91 hw => ?_
   refine RL.bslice (l := ([x77] : (List Pin))) trivial rfl hw [v91] rfl rfl rfl sl33 ze28 (fun M hs g => ⟨(g.sat 0 _ rfl).1, trivial⟩) fun v92 w hw => ?_
   have hw := hw.freeze (i := 0) rfl
   obtain ⟨x93, hx93, hj⟩ := bd hj
   refine RL.app (i := 11) (j := 0) trivial rfl hw rfl rfl rfl rfl el33 hx93 fun v94 w hw => ?_
   refine as_ v94 rfl rfl ?_
   refine RL.nil ?_
   obtain rfl := oi hj
   exact ⟨rfl, v94, ⟨rfl, rfl, rfl, rfl, rfl, rfl, rfl, trivial⟩, hw.pick 12 [7, 8, 9, 10, 11] (new := [rd v0 p0, rd v3 p3, bx 26 b31 p1, rd v33 p2.Pins, own 28 v94 x93]) rfl rfl (by decide) (by decide)⟩
  rintro σ w ⟨v90, ha, hw⟩
  obtain ⟨τ, rfl⟩ := ha.ups
  refine blkQ_n ?_
  refine thenQ_n ?_
  refine RC.region ?_
  refine RL.inc trivial rfl hk hm rfl rfl ?_
  refine mv (vi ((k34 + 1 : Nat) : Int)) rfl rfl ?_
  refine RL.nil ?_
  obtain rfl := oi hb
  exact ⟨rfl, v90, ⟨rfl, rfl, rfl, rfl, rfl, rfl, rfl, trivial⟩, hw.pick 5 [0, 1, 2, 3, 4] (new := [rd v0 p0, rd v3 p3, bx 26 b31 p1, rd v33 p2.Pins, own 28 v90 s89]) rfl rfl (by decide) (by decide)⟩
 intro σ w hJ
 obtain ⟨v75, ha, hw⟩ := hJ
 obtain ⟨τ, rfl⟩ := ha.ups
 refine thenQ_n ?_
 refine RC.sr ?_
 refine mv v75 rfl rfl ?_
 refine as_ v75 rfl rfl ?_
 refine RL.nt ?_
 refine RC.ret ?_
 obtain rfl := oi hb
 exact fin1 rfl rfl (hw.pick 5 [4] (new := [own 28 v75 s35]) rfl rfl (by decide) (by decide))
def etchhouseref2_netFindings_R (E : World) (Γ : List HP) (res : (List Finding)) (v : Value) (w : World) : Prop := Holds E w (own 96 v res :: Γ)
def etchhouseref2_netFindings_K (E : World) (Γ : List HP) (r : (List Finding)) (σ : Nat → Value) (w : World) : Prop := finQ Tryd.prog 125 Tryd.f56 (etchhouseref2_netFindings_R E Γ r) .ret σ w
theorem etchhouseref2_netFindings_ok (N : Nat) {E w : World} {Γ : List HP} {i0 : Nat} {v0 : Value} {p0 : (List PartType)} {i1 : Nat} {v1 : Value} {p1 : Netlist} {i2 : Nat} {v2 : Value} {p2 : Net} {res : (List Finding)} (hw : Holds E w Γ) (h0 : Γ[i0]? = some (rd v0 p0)) (h1 : Γ[i1]? = some (rd v1 p1)) (h2 : Γ[i2]? = some (rd v2 p2)) (hb : etchhouseref2_netFindings N p0 p1 p2 = some res) :
    Calls Tryd.prog 56 [v0, v1, v2].toArray w (Ret (etchhouseref2_netFindings_R E Γ res)) := by
 unfold etchhouseref2_netFindings at hb
 refine enter Tryd.func56 rfl rfl (Nat.le_of_ble_eq_true rfl) ?_
 have hw := hw.dup (i := i0 + 0) h0
 have hw := hw.dup (i := i1 + 1) h1
 have hw := hw.dup (i := i2 + 2) h2
 refine RC.sr ?_
 refine RL.box_rd (i := 1) (v := v1) trivial rfl hw rfl rfl fun b31 w hw => ?_
 refine RL.box_rd (i := 1) (v := v2) trivial rfl hw rfl rfl fun b32 w hw => ?_
 refine as_ (.slice none 0 0) rfl rfl ?_
 refine RL.ns ?_
 refine as_ (.slice none 0 0) rfl rfl ?_
 refine RL.ns ?_
 refine mv v0 rfl rfl ?_
 refine RL.load_bf (i := 1) (f := (fun x => x)) trivial rfl hw rfl rfl Fd.self ty26 fun v33 hw => ?_
 refine RL.load_bf (i := 1) (f := (fun x => x)) trivial rfl hw rfl rfl Fd.self ty64 fun v34 hw => ?_
 have hw := hw.sc (γ := Int) 2
 refine RL.bslice (l := ([2] : (List Int))) trivial rfl hw [(vi 2)] rfl rfl rfl sl138 ze3 (fun M hs g => ⟨(g.sat 0 _ rfl).1, trivial⟩) fun v35 w hw => ?_
 have hw := hw.freeze (i := 0) rfl
 obtain ⟨x36, hx36, hb⟩ := bd hb
 refine RL.call trivial rfl fn112 [v0, v33, v34, v35] rfl (Calls_ret (etchhouseref2_ofKinds_ok N  (i0 := 8) (i1 := 3) (i2 := 2) (i3 := 0) hw rfl rfl rfl rfl hx36) ?_)
 rintro v37 w hw
 refine as_ v37 rfl rfl ?_
 refine RL.ns ?_
 refine mv v0 rfl rfl ?_
 refine RL.load_bf (i := 6) (f := (fun x => x)) trivial rfl hw rfl rfl Fd.self ty26 fun v38 hw => ?_
 refine RL.load_bf (i := 6) (f := (fun x => x)) trivial rfl hw rfl rfl Fd.self ty64 fun v39 hw => ?_
 have hw := hw.sc (γ := Int) 5
 refine RL.bslice (l := ([5] : (List Int))) trivial rfl hw [(vi 5)] rfl rfl rfl sl138 ze3 (fun M hs g => ⟨(g.sat 0 _ rfl).1, trivial⟩) fun v40 w hw => ?_
 have hw := hw.freeze (i := 0) rfl
 obtain ⟨x41, hx41, hb⟩ := bd hb
 refine RL.call trivial rfl fn112 [v0, v38, v39, v40] rfl (Calls_ret (etchhouseref2_ofKinds_ok N  (i0 := 13) (i1 := 3) (i2 := 2) (i3 := 0) hw rfl rfl rfl rfl hx41) ?_)
 rintro v42 w hw
 refine as_ v42 rfl rfl ?_
 refine RL.nq ?_
 refine RC.seq ?_
 obtain ⟨s46, hj, hb⟩ := bd hb
 refine RC.jn (fun (s46 : Bool) (σ : Nat → Value) (w : World) => agree σ [(0, v0), (4, (vp b31 0)), (5, (vp b32 0)), (7, (.slice none 0 0)), (9, v42), (35, (vb s46))] ∧ Holds E w ([rd v0 p0, bx 26 b31 p1, bx 64 b32 p2, own 28 v42 x41] ++ Γ)) s46 ?_ ?_
 ·refine RC.region ?_
  refine mv v37 rfl rfl ?_
  refine RL.len_own (i := 5) (l := x36) trivial rfl hw rfl rfl un33 ?_
  refine ic ((x36.length : Int)) 1 rfl rfl rfl rfl ?_
  refine mv (vb (decide ((x36.length : Int) > 1))) rfl rfl ?_
  rcases Bool.eq_false_or_eq_true (decide ((x36.length : Int) > 1)) with hg47 | hg47
  ·replace hj := cT hg47 hj
   refine sk rfl (.inl (cb hg47)) rfl ?_
   refine sk rfl (.inl (cb hg47)) rfl ?_
   refine sk rfl (.inl (cb hg47)) rfl ?_
   refine sk rfl (.inl (cb hg47)) rfl ?_
   refine sk rfl (.inr rfl) rfl ?_
   refine sk rfl (.inr rfl) rfl ?_
   refine sk rfl (.inr rfl) rfl ?_
   refine sk rfl (.inl (cb hg47)) rfl ?_
   refine RL.pick (b := (decide ((x36.length : Int) > 1))) (v := (vb true)) trivial rfl rfl (by rw [hg47]; rfl) ?_
   refine RL.nil ?_
   obtain rfl := oi hj
   exact ⟨rfl, ⟨rfl, rfl, rfl, rfl, rfl, rfl, trivial⟩, hw.pick 15 [14, 11, 10, 0] (new := [rd v0 p0, bx 26 b31 p1, bx 64 b32 p2, own 28 v42 x41]) rfl rfl (by decide) (by decide)⟩
  replace hj := cF hg47 hj
  refine RL.move (v := v37) ⟨_, rfl, cb hg47⟩ rfl rfl ?_
  refine RL.len_own (i := 5) (l := x36) ⟨_, rfl, cb hg47⟩ rfl hw rfl rfl un33 ?_
  refine RL.icmp (a := (x36.length : Int)) (b := 0) ⟨_, rfl, cb hg47⟩ rfl rfl rfl rfl ?_
  refine RL.move (v := (vb (decide ((x36.length : Int) > 0)))) ⟨_, rfl, cb hg47⟩ rfl rfl ?_
  rcases Bool.eq_false_or_eq_true (decide ((x36.length : Int) > 0)) with hg48 | hg48
  ·replace hj := cT hg48 hj
   refine RL.move (v := v42) ⟨_, rfl, cb hg48⟩ rfl rfl ?_
   refine RL.len_own (i := 0) (l := x41) ⟨_, rfl, cb hg48⟩ rfl hw rfl rfl un33 ?_
   refine RL.icmp (a := (x41.length : Int)) (b := 0) ⟨_, rfl, cb hg48⟩ rfl rfl rfl rfl ?_
   refine RL.pick (b := (decide ((x36.length : Int) > 0))) (v := (vb (decide ((x41.length : Int) > 0)))) ⟨_, rfl, cb hg47⟩ rfl rfl (by rw [hg48]; rfl) ?_
   refine RL.pick (b := (decide ((x36.length : Int) > 1))) (v := (vb (decide ((x41.length : Int) > 0)))) trivial rfl rfl (by rw [hg47]; rfl) ?_
   refine RL.nil ?_
   obtain rfl := oi hj
   exact ⟨rfl, ⟨rfl, rfl, rfl, rfl, rfl, rfl, trivial⟩, hw.pick 15 [14, 11, 10, 0] (new := [rd v0 p0, bx 26 b31 p1, bx 64 b32 p2, own 28 v42 x41]) rfl rfl (by decide) (by decide)⟩
  replace hj := cF hg48 hj
  refine sk rfl (.inl (cb hg48)) rfl ?_
  refine sk rfl (.inl (cb hg48)) rfl ?_
  refine sk rfl (.inl (cb hg48)) rfl ?_
  refine RL.pick (b := (decide ((x36.length : Int) > 0))) (v := (vb false)) ⟨_, rfl, cb hg47⟩ rfl rfl (by rw [hg48]; rfl) ?_
  refine RL.pick (b := (decide ((x36.length : Int) > 1))) (v := (vb false)) trivial rfl rfl (by rw [hg47]; rfl) ?_
  refine RL.nil ?_
  obtain rfl := oi hj
  exact ⟨rfl, ⟨rfl, rfl, rfl, rfl, rfl, rfl, trivial⟩, hw.pick 15 [14, 11, 10, 0] (new := [rd v0 p0, bx 26 b31 p1, bx 64 b32 p2, own 28 v42 x41]) rfl rfl (by decide) (by decide)⟩
 rintro σ w ⟨ha, hw⟩
 obtain ⟨τ, rfl⟩ := ha.ups
 refine thenQ_n ?_
 obtain ⟨s65, hj, hb⟩ := bd hb
 refine RC.jn (fun (s65 : (List Finding)) (σ : Nat → Value) (w : World) => ∃ v66 : Value, agree σ [(0, v0), (4, (vp b31 0)), (5, (vp b32 0)), (7, v66), (9, v42)] ∧ Holds E w ([rd v0 p0, bx 26 b31 p1, bx 64 b32 p2, own 28 v42 x41, own 96 v66 s65] ++ Γ)) s65 ?_ ?_
 ·refine RC.cond (b := s46) rfl (fun hc => ?_) (fun hc => ?_)
  rotate_left
  ·replace hj := cF hc hj
   refine RC.skip ?_
   obtain rfl := oi hj
   have hw := hw.own_nil Finding 96
   exact ⟨rfl, (.slice none 0 0), ⟨rfl, rfl, rfl, rfl, rfl, trivial⟩, hw.pick 5 [1, 2, 3, 4, 0] (new := [rd v0 p0, bx 26 b31 p1, bx 64 b32 p2, own 28 v42 x41, own 96 (.slice none 0 0) ([] : (List Finding))]) rfl rfl (by decide) (by decide)⟩
  replace hj := cT hc hj
  obtain ⟨x70, hx70, hj⟩ := bd hj
  obtain ⟨x74, hx74, hj⟩ := bd hj
  refine RC.drw mixed rfl (fun (D : Nat → Bool) (σ : Nat → Value) (w : World) => ∃ (v67 : Value) (v68 : Value) (v69 : Value) (v71 : Value) (v72 : Value) (v73 : Value) (v75 : Value), doneV D σ [(0, 36, (.slice none 0 0)), (1, 37, (vp b32 0)), (2, 38, (str p2.Name)), (3, 39, v0), (4, 40, v67), (5, 41, v68), (6, 42, v69), (7, 43, v71), (8, 44, v72), (9, 45, v73), (10, 46, v75), (11, 7, v75)] ∧ agree σ [(0, v0), (4, (vp b31 0)), (5, (vp b32 0)), (9, v42)] ∧ oldV D σ [(11, 7, (.slice none 0 0))] ∧ Holds E w ([bif D 4 then (rd v67 p1) else junk, bif D 5 then (rd v68 p2) else junk, bif D 7 then (rd v69 ([2, 5] : (List Int))) else (bif D 6 then (own 3 v69 ([2, 5] : (List Int))) else junk), bif D 8 then (rd v71 x70) else (bif D 7 then (own 28 v71 x70) else junk), bif D 8 then (rd v72 (⟨1, p2.Name, x70⟩ : Finding)) else junk, bif D 10 then (rd v73 ([(⟨1, p2.Name, x70⟩ : Finding)] : (List Finding))) else (bif D 9 then (own 96 v73 ([(⟨1, p2.Name, x70⟩ : Finding)] : (List Finding))) else junk), bif D 10 then (own 96 v75 x74) else junk, rd v0 p0, bx 26 b31 p1, bx 64 b32 p2, own 28 v42 x41] ++ Γ)) ?_ ⟨?_, ?_, ?_, ?_, ?_, ?_, ?_, ?_, ?_, ?_, ?_, ?_, trivial⟩ ?_
  ·have hw := hw.drew
   have hw := hw.junk
   have hw := hw.junk
   have hw := hw.junk
   have hw := hw.junk
   have hw := hw.junk
   have hw := hw.junk
   have hw := hw.junk
   exact ⟨undef, undef, undef, undef, undef, undef, undef, doneV.none, ⟨rfl, rfl, rfl, rfl, trivial⟩, ⟨fun _ => rfl, trivial⟩, hw⟩
  ·rintro D σ w hD hdep hcl ⟨v67, v68, v69, v71, v72, v73, v75, hv, ha, ho, hw⟩
   obtain ⟨τ, rfl⟩ := (ac (ho.at 0 rfl (nf (fun h => ft hD ((hcl 11 _ rfl h).2.2.1 rfl)))) az).ups
   refine mv (.slice none 0 0) rfl rfl ?_
   refine RL.nil ?_
   exact ⟨rfl, v67, v68, v69, v71, v72, v73, v75, hv.put 0 rfl rfl, ha.up rfl, ho.up rfl, hw⟩
  ·rintro D σ w hD hdep hcl ⟨v67, v68, v69, v71, v72, v73, v75, hv, ha, ho, hw⟩
   obtain ⟨τ, rfl⟩ := (ac (ha.at 2 rfl) az).ups
   refine RL.fa_b trivial rfl rfl fa64_0 ?_
   refine RL.nil ?_
   exact ⟨rfl, v67, v68, v69, v71, v72, v73, v75, hv.put 1 rfl rfl, ha.up rfl, ho.up rfl, hw⟩
  ·rintro D σ w hD hdep hcl ⟨v67, v68, v69, v71, v72, v73, v75, hv, ha, ho, hw⟩
   obtain ⟨τ, rfl⟩ := (ac (hv.at 1 rfl (hdep.1 rfl)) az).ups
   refine RL.load_bfs (i := 9) (f := (fun x => x.Name)) trivial rfl hw rfl rfl fd_Net_0 ty9 ?_
   refine RL.nil ?_
   exact ⟨rfl, v67, v68, v69, v71, v72, v73, v75, hv.put 2 rfl rfl, ha.up rfl, ho.up rfl, hw⟩
  ·rintro D σ w hD hdep hcl ⟨v67, v68, v69, v71, v72, v73, v75, hv, ha, ho, hw⟩
   obtain ⟨τ, rfl⟩ := (ac (ha.at 0 rfl) az).ups
   refine mv v0 rfl rfl ?_
   refine RL.nil ?_
   exact ⟨rfl, v67, v68, v69, v71, v72, v73, v75, hv.put 3 rfl rfl, ha.up rfl, ho.up rfl, hw⟩
  ·rintro D σ w hD hdep hcl ⟨v67, v68, v69, v71, v72, v73, v75, hv, ha, ho, hw⟩
   obtain ⟨τ, rfl⟩ := (ac (ha.at 1 rfl) az).ups
   have hw := hw.selF (i := 0) rfl hD
   refine RL.load_bf (i := 8) (f := (fun x => x)) trivial rfl hw rfl rfl Fd.self ty26 fun v76 hw => ?_
   have hw := hw.pick 12 [0, 2, 3, 4, 5, 6, 7, 8, 9, 10, 11] (new := [rd v76 p1, bif D 5 then (rd v68 p2) else junk, bif D 7 then (rd v69 ([2, 5] : (List Int))) else (bif D 6 then (own 3 v69 ([2, 5] : (List Int))) else junk), bif D 8 then (rd v71 x70) else (bif D 7 then (own 28 v71 x70) else junk), bif D 8 then (rd v72 (⟨1, p2.Name, x70⟩ : Finding)) else junk, bif D 10 then (rd v73 ([(⟨1, p2.Name, x70⟩ : Finding)] : (List Finding))) else (bif D 9 then (own 96 v73 ([(⟨1, p2.Name, x70⟩ : Finding)] : (List Finding))) else junk), bif D 10 then (own 96 v75 x74) else junk, rd v0 p0, bx 26 b31 p1, bx 64 b32 p2, own 28 v42 x41]) rfl rfl (by decide) (by decide)
   have hw := hw.altT (i := 0) (b := true) rfl rfl (junk)
   refine RL.nil ?_
   exact ⟨rfl, v76, v68, v69, v71, v72, v73, v75, hv.put 4 rfl rfl, ha.up rfl, ho.up rfl, hw⟩
  ·rintro D σ w hD hdep hcl ⟨v67, v68, v69, v71, v72, v73, v75, hv, ha, ho, hw⟩
   obtain ⟨τ, rfl⟩ := (ac (ha.at 2 rfl) az).ups
   have hw := hw.selF (i := 1) rfl hD
   refine RL.load_bf (i := 9) (f := (fun x => x)) trivial rfl hw rfl rfl Fd.self ty64 fun v77 hw => ?_
   have hw := hw.pick 12 [1, 0, 3, 4, 5, 6, 7, 8, 9, 10, 11] (new := [bif D 4 then (rd v67 p1) else junk, rd v77 p2, bif D 7 then (rd v69 ([2, 5] : (List Int))) else (bif D 6 then (own 3 v69 ([2, 5] : (List Int))) else junk), bif D 8 then (rd v71 x70) else (bif D 7 then (own 28 v71 x70) else junk), bif D 8 then (rd v72 (⟨1, p2.Name, x70⟩ : Finding)) else junk, bif D 10 then (rd v73 ([(⟨1, p2.Name, x70⟩ : Finding)] : (List Finding))) else (bif D 9 then (own 96 v73 ([(⟨1, p2.Name, x70⟩ : Finding)] : (List Finding))) else junk), bif D 10 then (own 96 v75 x74) else junk, rd v0 p0, bx 26 b31 p1, bx 64 b32 p2, own 28 v42 x41]) rfl rfl (by decide) (by decide)
   have hw := hw.altT (i := 1) (b := true) rfl rfl (junk)
   refine RL.nil ?_
   exact ⟨rfl, v67, v77, v69, v71, v72, v73, v75, hv.put 5 rfl rfl, ha.up rfl, ho.up rfl, hw⟩
  ·rintro D σ w hD hdep hcl ⟨v67, v68, v69, v71, v72, v73, v75, hv, ha, ho, hw⟩
   obtain ⟨τ, rfl⟩ := (az (σ := σ)).ups
   have hw := hw.selF (i := 2) rfl (nf (fun h => ft hD ((hcl 7 _ rfl h).2.2.2.1 rfl)))
   have hw := hw.selF (i := 2) rfl hD
   have hw := hw.sc (γ := Int) 2
   have hw := hw.sc (γ := Int) 5
   refine RL.bslice (l := ([2, 5] : (List Int))) trivial rfl hw [(vi 2), (vi 5)] rfl rfl rfl sl138 ze3 (fun M hs g => ⟨(g.sat 1 _ rfl).1, ⟨(g.sat 0 _ rfl).1, trivial⟩⟩) fun v78 w hw => ?_
   have hw := hw.pick 14 [3, 4, 0, 6, 7, 8, 9, 10, 11, 12, 13] (new := [bif D 4 then (rd v67 p1) else junk, bif D 5 then (rd v68 p2) else junk, own 3 v78 ([2, 5] : (List Int)), bif D 8 then (rd v71 x70) else (bif D 7 then (own 28 v71 x70) else junk), bif D 8 then (rd v72 (⟨1, p2.Name, x70⟩ : Finding)) else junk, bif D 10 then (rd v73 ([(⟨1, p2.Name, x70⟩ : Finding)] : (List Finding))) else (bif D 9 then (own 96 v73 ([(⟨1, p2.Name, x70⟩ : Finding)] : (List Finding))) else junk), bif D 10 then (own 96 v75 x74) else junk, rd v0 p0, bx 26 b31 p1, bx 64 b32 p2, own 28 v42 x41]) rfl rfl (by decide) (by decide)
   have hw := hw.altT (i := 2) (b := true) rfl rfl (junk)
   have hw := hw.altF (i := 2) (b := D 7) rfl (nf (fun h => ft hD ((hcl 7 _ rfl h).2.2.2.1 rfl))) (rd v78 ([2, 5] : (List Int)))
   refine RL.nil ?_
   exact ⟨rfl, v67, v68, v78, v71, v72, v73, v75, hv.put 6 rfl rfl, ha.up rfl, ho.up rfl, hw⟩
  ·rintro D σ w hD hdep hcl ⟨v67, v68, v69, v71, v72, v73, v75, hv, ha, ho, hw⟩
   obtain ⟨τ, rfl⟩ := (ac (hv.at 3 rfl (hdep.1 rfl)) (ac (hv.at 4 rfl (hdep.2.1 rfl)) (ac (hv.at 5 rfl (hdep.2.2.1 rfl)) (ac (hv.at 6 rfl (hdep.2.2.2.1 rfl)) az)))).ups
   have hw := hw.selT (i := 0) rfl (hdep.2.1 rfl)
   have hw := hw.selT (i := 1) rfl (hdep.2.2.1 rfl)
   have hw := hw.selF (i := 2) rfl hD
   have hw := hw.selT (i := 2) rfl (hdep.2.2.2.1 rfl)
   have hw := hw.selF (i := 3) rfl (nf (fun h => ft hD ((hcl 8 _ rfl h).2.1 rfl)))
   have hw := hw.selF (i := 3) rfl hD
   have hw := hw.freeze (i := 2) rfl
   refine RL.call trivial rfl fn112 [v0, v67, v68, v69] rfl (Calls_ret (etchhouseref2_ofKinds_ok N  (i0 := 7) (i1 := 0) (i2 := 1) (i3 := 2) hw rfl rfl rfl rfl hx70) ?_)
   rintro v79 w hw
   have hw := hw.pick 12 [1, 2, 3, 0, 5, 6, 7, 8, 9, 10, 11] (new := [rd v67 p1, rd v68 p2, rd v69 ([2, 5] : (List Int)), own 28 v79 x70, bif D 8 then (rd v72 (⟨1, p2.Name, x70⟩ : Finding)) else junk, bif D 10 then (rd v73 ([(⟨1, p2.Name, x70⟩ : Finding)] : (List Finding))) else (bif D 9 then (own 96 v73 ([(⟨1, p2.Name, x70⟩ : Finding)] : (List Finding))) else junk), bif D 10 then (own 96 v75 x74) else junk, rd v0 p0, bx 26 b31 p1, bx 64 b32 p2, own 28 v42 x41]) rfl rfl (by decide) (by decide)
   have hw := hw.altT (i := 0) (b := D 4) rfl (hdep.2.1 rfl) (junk)
   have hw := hw.altT (i := 1) (b := D 5) rfl (hdep.2.2.1 rfl) (junk)
   have hw := hw.altT (i := 2) (b := true) rfl rfl (bif D 6 then (own 3 v69 ([2, 5] : (List Int))) else junk)
   have hw := hw.altT (i := 3) (b := true) rfl rfl (junk)
   have hw := hw.altF (i := 3) (b := D 8) rfl (nf (fun h => ft hD ((hcl 8 _ rfl h).2.1 rfl))) (rd v79 x70)
   refine RL.nil ?_
   exact ⟨rfl, v67, v68, v69, v79, v72, v73, v75, hv.put 7 rfl rfl, ha.up rfl, ho.up rfl, hw⟩
  ·rintro D σ w hD hdep hcl ⟨v67, v68, v69, v71, v72, v73, v75, hv, ha, ho, hw⟩
   obtain ⟨τ, rfl⟩ := (ac (hv.at 2 rfl (hdep.1 rfl)) (ac (hv.at 7 rfl (hdep.2.1 rfl)) az)).ups
   have hw := hw.selF (i := 3) rfl hD
   have hw := hw.selT (i := 3) rfl (hdep.2.1 rfl)
   have hw := hw.selF (i := 4) rfl hD
   have hw := hw.sc (γ := Int) 1
   have hw := hw.sc (γ := Str) p2.Name
   have hw := hw.freeze (i := 5) rfl
   refine RL.build (y := (⟨1, p2.Name, x70⟩ : Finding)) trivial rfl hw [(0, (vi 1)), (1, (str p2.Name)), (2, v71)] rfl st96 rfl (fun M hs g => by have h := z_Finding M; exact Fills.cons (f := fun (x : Finding) y => { x with Kind := y }) rfl h fs_Finding_0 (by decide) (g.sat 1 _ rfl).1 fun _ h => Fills.cons (f := fun (x : Finding) y => { x with Net := y }) rfl h fs_Finding_1 (by decide) (g.sat 0 _ rfl).1 fun _ h => Fills.cons (f := fun (x : Finding) y => { x with Pins := y }) rfl h fs_Finding_2 (by decide) (g.sat 5 _ rfl).1 fun _ h => Fills.nil h) fun v80 hw => ?_
   have hw := hw.pick 14 [3, 4, 5, 6, 0, 8, 9, 10, 11, 12, 13] (new := [bif D 4 then (rd v67 p1) else junk, bif D 5 then (rd v68 p2) else junk, bif D 7 then (rd v69 ([2, 5] : (List Int))) else (bif D 6 then (own 3 v69 ([2, 5] : (List Int))) else junk), rd v71 x70, rd v80 (⟨1, p2.Name, x70⟩ : Finding), bif D 10 then (rd v73 ([(⟨1, p2.Name, x70⟩ : Finding)] : (List Finding))) else (bif D 9 then (own 96 v73 ([(⟨1, p2.Name, x70⟩ : Finding)] : (List Finding))) else junk), bif D 10 then (own 96 v75 x74) else junk, rd v0 p0, bx 26 b31 p1, bx 64 b32 p2, own 28 v42 x41]) rfl rfl (by decide) (by decide)
   have hw := hw.altT (i := 3) (b := true) rfl rfl (bif D 7 then (own 28 v71 x70) else junk)
   have hw := hw.altT (i := 4) (b := true) rfl rfl (junk)
   refine RL.nil ?_
   exact ⟨rfl, v67, v68, v69, v71, v80, v73, v75, hv.put 8 rfl rfl, ha.up rfl, ho.up rfl, hw⟩
  ·rintro D σ w hD hdep hcl ⟨v67, v68, v69, v71, v72, v73, v75, hv, ha, ho, hw⟩
   obtain ⟨τ, rfl⟩ := (ac (hv.at 8 rfl (hdep.1 rfl)) az).ups
   have hw := hw.selT (i := 4) rfl (hdep.1 rfl)
   have hw := hw.selF (i := 5) rfl (nf (fun h => ft hD ((hcl 10 _ rfl h).2.1 rfl)))
   have hw := hw.selF (i := 5) rfl hD
   refine RL.bslice (l := ([(⟨1, p2.Name, x70⟩ : Finding)] : (List Finding))) trivial rfl hw [v72] rfl rfl rfl sl39 ze96 (fun M hs g => ⟨(g.sat 4 _ rfl).1, trivial⟩) fun v81 w hw => ?_
   have hw := hw.pick 12 [1, 2, 3, 4, 5, 0, 7, 8, 9, 10, 11] (new := [bif D 4 then (rd v67 p1) else junk, bif D 5 then (rd v68 p2) else junk, bif D 7 then (rd v69 ([2, 5] : (List Int))) else (bif D 6 then (own 3 v69 ([2, 5] : (List Int))) else junk), bif D 8 then (rd v71 x70) else (bif D 7 then (own 28 v71 x70) else junk), rd v72 (⟨1, p2.Name, x70⟩ : Finding), own 96 v81 ([(⟨1, p2.Name, x70⟩ : Finding)] : (List Finding)), bif D 10 then (own 96 v75 x74) else junk, rd v0 p0, bx 26 b31 p1, bx 64 b32 p2, own 28 v42 x41]) rfl rfl (by decide) (by decide)
   have hw := hw.altT (i := 4) (b := D 8) rfl (hdep.1 rfl) (junk)
   have hw := hw.altT (i := 5) (b := true) rfl rfl (junk)
   have hw := hw.altF (i := 5) (b := D 10) rfl (nf (fun h => ft hD ((hcl 10 _ rfl h).2.1 rfl))) (rd v81 ([(⟨1, p2.Name, x70⟩ : Finding)] : (List Finding)))
   refine RL.nil ?_
   exact ⟨rfl, v67, v68, v69, v71, v72, v81, v75, hv.put 9 rfl rfl, ha.up rfl, ho.up rfl, hw⟩
  ·rintro D σ w hD hdep hcl ⟨v67, v68, v69, v71, v72, v73, v75, hv, ha, ho, hw⟩
   obtain ⟨τ, rfl⟩ := (ac (hv.at 0 rfl (hdep.1 rfl)) (ac (hv.at 9 rfl (hdep.2.1 rfl)) az)).ups
   have hw := hw.selF (i := 5) rfl hD
   have hw := hw.selT (i := 5) rfl (hdep.2.1 rfl)
   have hw := hw.selF (i := 6) rfl hD
   have hw := hw.own_nil Finding 96
   have hw := hw.freeze (i := 6) rfl
   refine RL.app (i := 0) (j := 6) trivial rfl hw rfl rfl rfl rfl el39 hx74 fun v82 w hw => ?_
   have hw := hw.pick 12 [1, 2, 3, 4, 5, 6, 0, 8, 9, 10, 11] (new := [bif D 4 then (rd v67 p1) else junk, bif D 5 then (rd v68 p2) else junk, bif D 7 then (rd v69 ([2, 5] : (List Int))) else (bif D 6 then (own 3 v69 ([2, 5] : (List Int))) else junk), bif D 8 then (rd v71 x70) else (bif D 7 then (own 28 v71 x70) else junk), bif D 8 then (rd v72 (⟨1, p2.Name, x70⟩ : Finding)) else junk, rd v73 ([(⟨1, p2.Name, x70⟩ : Finding)] : (List Finding)), own 96 v82 x74, rd v0 p0, bx 26 b31 p1, bx 64 b32 p2, own 28 v42 x41]) rfl rfl (by decide) (by decide)
   have hw := hw.altT (i := 5) (b := true) rfl rfl (bif D 9 then (own 96 v73 ([(⟨1, p2.Name, x70⟩ : Finding)] : (List Finding))) else junk)
   have hw := hw.altT (i := 6) (b := true) rfl rfl (junk)
   have hv := hv.re 11 rfl (v' := v82) (fun h => ft hD ((hcl 11 _ rfl h).1 rfl))
   refine RL.nil ?_
   exact ⟨rfl, v67, v68, v69, v71, v72, v73, v82, hv.put 10 rfl rfl, ha.up rfl, ho.up rfl, hw⟩
  ·rintro D σ w hD hdep hcl ⟨v67, v68, v69, v71, v72, v73, v75, hv, ha, ho, hw⟩
   obtain ⟨τ, rfl⟩ := (ac (hv.at 10 rfl (hdep.1 rfl)) az).ups
   refine as_ v75 rfl rfl ?_
   refine RL.nil ?_
   exact ⟨rfl, v67, v68, v69, v71, v72, v73, v75, hv.put 11 rfl rfl, ha.up rfl, ho.up rfl, hw⟩
  rintro D σ w hall ⟨v67, v68, v69, v71, v72, v73, v75, hv, ha, _, hw⟩
  rw [hall 4 (by decide), hall 5 (by decide), hall 6 (by decide), hall 7 (by decide), hall 8 (by decide), hall 9 (by decide), hall 10 (by decide)] at hw
  obtain ⟨τ, rfl⟩ := (ac (hv.at 11 rfl (hall 11 (by decide))) (ac (ha.at 0 rfl) (ac (ha.at 1 rfl) (ac (ha.at 2 rfl) (ac (ha.at 3 rfl) az))))).ups
  obtain rfl := oi hj
  exact ⟨rfl, v75, ⟨rfl, rfl, rfl, rfl, rfl, trivial⟩, hw.pick 11 [7, 8, 9, 10, 6] (new := [rd v0 p0, bx 26 b31 p1, bx 64 b32 p2, own 28 v42 x41, own 96 v75 x74]) rfl rfl (by decide) (by decide)⟩
 rintro σ w ⟨v66, ha, hw⟩
 obtain ⟨τ, rfl⟩ := ha.ups
 refine thenQ_n ?_
 refine RC.sr ?_
 refine mv v0 rfl rfl ?_
 refine RL.load_bf (i := 1) (f := (fun x => x)) trivial rfl hw rfl rfl Fd.self ty26 fun v83 hw => ?_
 refine RL.load_bf (i := 3) (f := (fun x => x)) trivial rfl hw rfl rfl Fd.self ty64 fun v84 hw => ?_
 have hw := hw.sc (γ := Int) 1
 refine RL.bslice (l := ([1] : (List Int))) trivial rfl hw [(vi 1)] rfl rfl rfl sl138 ze3 (fun M hs g => ⟨(g.sat 0 _ rfl).1, trivial⟩) fun v85 w hw => ?_
 have hw := hw.freeze (i := 0) rfl
 obtain ⟨x86, hx86, hb⟩ := bd hb
 refine RL.call trivial rfl fn112 [v0, v83, v84, v85] rfl (Calls_ret (etchhouseref2_ofKinds_ok N  (i0 := 4) (i1 := 3) (i2 := 2) (i3 := 0) hw rfl rfl rfl rfl hx86) ?_)
 rintro v87 w hw
 refine as_ v87 rfl rfl ?_
 refine RL.nq ?_
 refine RC.seq ?_
 obtain ⟨s94, hj, hb⟩ := bd hb
 refine RC.jn (fun (s94 : Bool) (σ : Nat → Value) (w : World) => agree σ [(0, v0), (4, (vp b31 0)), (5, (vp b32 0)), (7, v66), (9, v42), (10, v87), (63, (vb s94))] ∧ Holds E w ([rd v0 p0, bx 26 b31 p1, bx 64 b32 p2, own 96 v66 s65, own 28 v42 x41, own 28 v87 x86] ++ Γ)) s94 ?_ ?_
 ·refine RC.region ?_
  refine mv v87 rfl rfl ?_
  refine RL.len_own (i := 0) (l := x86) trivial rfl hw rfl rfl un33 ?_
  refine ic ((x86.length : Int)) 0 rfl rfl rfl rfl ?_
  refine mv (vb (decide ((x86.length : Int) > 0))) rfl rfl ?_
  rcases Bool.eq_false_or_eq_true (decide ((x86.length : Int) > 0)) with hg95 | hg95
  rotate_left
  ·replace hj := cF hg95 hj
   refine sk rfl (.inl (cb hg95)) rfl ?_
   refine sk rfl (.inl (cb hg95)) rfl ?_
   refine sk rfl (.inl (cb hg95)) rfl ?_
   refine sk rfl (.inl (cb hg95)) rfl ?_
   refine sk rfl (.inl (cb hg95)) rfl ?_
   refine sk rfl (.inl (cb hg95)) rfl ?_
   refine sk rfl (.inl (cb hg95)) rfl ?_
   refine RL.pick (b := (decide ((x86.length : Int) > 0))) (v := (vb false)) trivial rfl rfl (by rw [hg95]; rfl) ?_
   refine RL.nil ?_
   obtain rfl := oi hj
   exact ⟨rfl, ⟨rfl, rfl, rfl, rfl, rfl, rfl, rfl, trivial⟩, hw.pick 10 [5, 6, 7, 9, 8, 0] (new := [rd v0 p0, bx 26 b31 p1, bx 64 b32 p2, own 96 v66 s65, own 28 v42 x41, own 28 v87 x86]) rfl rfl (by decide) (by decide)⟩
  replace hj := cT hg95 hj
  refine RL.move (v := v0) ⟨_, rfl, cb hg95⟩ rfl rfl ?_
  refine RL.load_bf (i := 6) (f := (fun x => x)) ⟨_, rfl, cb hg95⟩ rfl hw rfl rfl Fd.self ty26 fun v96 hw => ?_
  refine RL.load_bf (i := 8) (f := (fun x => x)) ⟨_, rfl, cb hg95⟩ rfl hw rfl rfl Fd.self ty64 fun v97 hw => ?_
  have hw := hw.sc (γ := Int) 2
  have hw := hw.sc (γ := Int) 3
  have hw := hw.sc (γ := Int) 6
  have hw := hw.sc (γ := Int) 5
  refine RL.bslice (l := ([2, 3, 6, 5] : (List Int))) ⟨_, rfl, cb hg95⟩ rfl hw [(vi 2), (vi 3), (vi 6), (vi 5)] rfl rfl rfl sl138 ze3 (fun M hs g => ⟨(g.sat 3 _ rfl).1, ⟨(g.sat 2 _ rfl).1, ⟨(g.sat 1 _ rfl).1, ⟨(g.sat 0 _ rfl).1, trivial⟩⟩⟩⟩) fun v98 w hw => ?_
  have hw := hw.freeze (i := 0) rfl
  obtain ⟨x99, hx99, hj⟩ := bd hj
  refine RL.call ⟨_, rfl, cb hg95⟩ rfl fn112 [v0, v96, v97, v98] rfl (Calls_ret (etchhouseref2_ofKinds_ok N  (i0 := 12) (i1 := 6) (i2 := 5) (i3 := 0) hw rfl rfl rfl rfl hx99) ?_)
  rintro v100 w hw
  refine RL.len_own (i := 0) (l := x99) ⟨_, rfl, cb hg95⟩ rfl hw rfl rfl un33 ?_
  refine RL.icmp (a := (x99.length : Int)) (b := 0) ⟨_, rfl, cb hg95⟩ rfl rfl rfl rfl ?_
  refine RL.pick (b := (decide ((x86.length : Int) > 0))) (v := (vb ((x99.length : Int) == 0))) trivial rfl rfl (by rw [hg95]; rfl) ?_
  refine RL.nil ?_
  obtain rfl := oi hj
  exact ⟨rfl, ⟨rfl, rfl, rfl, rfl, rfl, rfl, rfl, trivial⟩, hw.pick 18 [13, 14, 15, 17, 16, 8] (new := [rd v0 p0, bx 26 b31 p1, bx 64 b32 p2, own 96 v66 s65, own 28 v42 x41, own 28 v87 x86]) rfl rfl (by decide) (by decide)⟩
 rintro σ w ⟨ha, hw⟩
 obtain ⟨τ, rfl⟩ := ha.ups
 refine thenQ_n ?_
 obtain ⟨s105, hj, hb⟩ := bd hb
 refine RC.jn (fun (s105 : (List Finding)) (σ : Nat → Value) (w : World) => ∃ v106 : Value, agree σ [(0, v0), (4, (vp b31 0)), (5, (vp b32 0)), (7, v106), (9, v42)] ∧ Holds E w ([rd v0 p0, bx 26 b31 p1, bx 64 b32 p2, own 28 v42 x41, own 96 v106 s105] ++ Γ)) s105 ?_ ?_
 ·refine RC.cond (b := s94) rfl (fun hc => ?_) (fun hc => ?_)
  rotate_left
  ·replace hj := cF hc hj
   refine RC.skip ?_
   obtain rfl := oi hj
   exact ⟨rfl, v66, ⟨rfl, rfl, rfl, rfl, rfl, trivial⟩, hw.pick 6 [0, 1, 2, 4, 3] (new := [rd v0 p0, bx 26 b31 p1, bx 64 b32 p2, own 28 v42 x41, own 96 v66 s65]) rfl rfl (by decide) (by decide)⟩
  replace hj := cT hc hj
  refine RC.region ?_
  refine mv v66 rfl rfl ?_
  refine RL.fa_b trivial rfl rfl fa64_0 ?_
  refine RL.load_bfs (i := 2) (f := (fun x => x.Name)) trivial rfl hw rfl rfl fd_Net_0 ty9 ?_
  refine mv v87 rfl rfl ?_
  have hw := hw.sc (γ := Int) 2
  have hw := hw.sc (γ := Str) p2.Name
  have hw := hw.freeze (i := 7) rfl
  refine RL.build (y := (⟨2, p2.Name, x86⟩ : Finding)) trivial rfl hw [(0, (vi 2)), (1, (str p2.Name)), (2, v87)] rfl st96 rfl (fun M hs g => by have h := z_Finding M; exact Fills.cons (f := fun (x : Finding) y => { x with Kind := y }) rfl h fs_Finding_0 (by decide) (g.sat 1 _ rfl).1 fun _ h => Fills.cons (f := fun (x : Finding) y => { x with Net := y }) rfl h fs_Finding_1 (by decide) (g.sat 0 _ rfl).1 fun _ h => Fills.cons (f := fun (x : Finding) y => { x with Pins := y }) rfl h fs_Finding_2 (by decide) (g.sat 7 _ rfl).1 fun _ h => Fills.nil h) fun v107 hw => ?_
  refine RL.bslice (l := ([(⟨2, p2.Name, x86⟩ : Finding)] : (List Finding))) trivial rfl hw [v107] rfl rfl rfl sl39 ze96 (fun M hs g => ⟨(g.sat 0 _ rfl).1, trivial⟩) fun v108 w hw => ?_
  have hw := hw.freeze (i := 0) rfl
  obtain ⟨x109, hx109, hj⟩ := bd hj
  refine RL.app (i := 7) (j := 0) trivial rfl hw rfl rfl rfl rfl el39 hx109 fun v110 w hw => ?_
  refine as_ v110 rfl rfl ?_
  refine RL.nil ?_
  obtain rfl := oi hj
  exact ⟨rfl, v110, ⟨rfl, rfl, rfl, rfl, rfl, trivial⟩, hw.pick 10 [4, 5, 6, 8, 7] (new := [rd v0 p0, bx 26 b31 p1, bx 64 b32 p2, own 28 v42 x41, own 96 v110 x109]) rfl rfl (by decide) (by decide)⟩
 rintro σ w ⟨v106, ha, hw⟩
 obtain ⟨τ, rfl⟩ := ha.ups
 refine thenQ_n ?_
 refine RC.sr ?_
 refine mv v0 rfl rfl ?_
 refine RL.load_bf (i := 1) (f := (fun x => x)) trivial rfl hw rfl rfl Fd.self ty26 fun v111 hw => ?_
 refine RL.load_bf (i := 3) (f := (fun x => x)) trivial rfl hw rfl rfl Fd.self ty64 fun v112 hw => ?_
 have hw := hw.sc (γ := Int) 4
 refine RL.bslice (l := ([4] : (List Int))) trivial rfl hw [(vi 4)] rfl rfl rfl sl138 ze3 (fun M hs g => ⟨(g.sat 0 _ rfl).1, trivial⟩) fun v113 w hw => ?_
 have hw := hw.freeze (i := 0) rfl
 obtain ⟨x114, hx114, hb⟩ := bd hb
 refine RL.call trivial rfl fn112 [v0, v111, v112, v113] rfl (Calls_ret (etchhouseref2_ofKinds_ok N  (i0 := 4) (i1 := 3) (i2 := 2) (i3 := 0) hw rfl rfl rfl rfl hx114) ?_)
 rintro v115 w hw
 refine as_ v115 rfl rfl ?_
 refine RL.nq ?_
 refine RC.seq ?_
 obtain ⟨s117, hj, hb⟩ := bd hb
 refine RC.jn (fun (s117 : Bool) (σ : Nat → Value) (w : World) => agree σ [(0, v0), (4, (vp b31 0)), (5, (vp b32 0)), (7, v106), (11, v115), (83, (vb s117))] ∧ Holds E w ([rd v0 p0, bx 26 b31 p1, bx 64 b32 p2, own 96 v106 s105, own 28 v115 x114] ++ Γ)) s117 ?_ ?_
 ·refine RC.region ?_
  refine mv v115 rfl rfl ?_
  refine RL.len_own (i := 0) (l := x114) trivial rfl hw rfl rfl un33 ?_
  refine ic ((x114.length : Int)) 0 rfl rfl rfl rfl ?_
  refine mv (vb (decide ((x114.length : Int) > 0))) rfl rfl ?_
  rcases Bool.eq_false_or_eq_true (decide ((x114.length : Int) > 0)) with hg118 | hg118
  ·replace hj := cT hg118 hj
   refine RL.move (v := v42) ⟨_, rfl, cb hg118⟩ rfl rfl ?_
   refine RL.len_own (i := 8) (l := x41) ⟨_, rfl, cb hg118⟩ rfl hw rfl rfl un33 ?_
   refine RL.icmp (a := (x41.length : Int)) (b := 0) ⟨_, rfl, cb hg118⟩ rfl rfl rfl rfl ?_
   refine RL.pick (b := (decide ((x114.length : Int) > 0))) (v := (vb ((x41.length : Int) == 0))) trivial rfl rfl (by rw [hg118]; rfl) ?_
   refine RL.nil ?_
   obtain rfl := oi hj
   exact ⟨rfl, ⟨rfl, rfl, rfl, rfl, rfl, rfl, trivial⟩, hw.pick 10 [5, 6, 7, 9, 0] (new := [rd v0 p0, bx 26 b31 p1, bx 64 b32 p2, own 96 v106 s105, own 28 v115 x114]) rfl rfl (by decide) (by decide)⟩
  replace hj := cF hg118 hj
  refine sk rfl (.inl (cb hg118)) rfl ?_
  refine sk rfl (.inl (cb hg118)) rfl ?_
  refine sk rfl (.inl (cb hg118)) rfl ?_
  refine RL.pick (b := (decide ((x114.length : Int) > 0))) (v := (vb false)) trivial rfl rfl (by rw [hg118]; rfl) ?_
  refine RL.nil ?_
  obtain rfl := oi hj
  exact ⟨rfl, ⟨rfl, rfl, rfl, rfl, rfl, rfl, trivial⟩, hw.pick 10 [5, 6, 7, 9, 0] (new := [rd v0 p0, bx 26 b31 p1, bx 64 b32 p2, own 96 v106 s105, own 28 v115 x114]) rfl rfl (by decide) (by decide)⟩
 rintro σ w ⟨ha, hw⟩
 obtain ⟨τ, rfl⟩ := ha.ups
 refine thenQ_n ?_
 obtain ⟨s123, hj, hb⟩ := bd hb
 refine RC.jn (fun (s123 : (List Finding)) (σ : Nat → Value) (w : World) => ∃ v124 : Value, agree σ [(0, v0), (4, (vp b31 0)), (5, (vp b32 0)), (7, v124)] ∧ Holds E w ([rd v0 p0, bx 26 b31 p1, bx 64 b32 p2, own 96 v124 s123] ++ Γ)) s123 ?_ ?_
 ·refine RC.cond (b := s117) rfl (fun hc => ?_) (fun hc => ?_)
  rotate_left
  ·replace hj := cF hc hj
   refine RC.skip ?_
   obtain rfl := oi hj
   exact ⟨rfl, v106, ⟨rfl, rfl, rfl, rfl, trivial⟩, hw.pick 5 [0, 1, 2, 3] (new := [rd v0 p0, bx 26 b31 p1, bx 64 b32 p2, own 96 v106 s105]) rfl rfl (by decide) (by decide)⟩
  replace hj := cT hc hj
  refine RC.region ?_
  refine mv v106 rfl rfl ?_
  refine RL.fa_b trivial rfl rfl fa64_0 ?_
  refine RL.load_bfs (i := 2) (f := (fun x => x.Name)) trivial rfl hw rfl rfl fd_Net_0 ty9 ?_
  refine mv v115 rfl rfl ?_
  have hw := hw.sc (γ := Int) 3
  have hw := hw.sc (γ := Str) p2.Name
  have hw := hw.freeze (i := 6) rfl
  refine RL.build (y := (⟨3, p2.Name, x114⟩ : Finding)) trivial rfl hw [(0, (vi 3)), (1, (str p2.Name)), (2, v115)] rfl st96 rfl (fun M hs g => by have h := z_Finding M; exact Fills.cons (f := fun (x : Finding) y => { x with Kind := y }) rfl h fs_Finding_0 (by decide) (g.sat 1 _ rfl).1 fun _ h => Fills.cons (f := fun (x : Finding) y => { x with Net := y }) rfl h fs_Finding_1 (by decide) (g.sat 0 _ rfl).1 fun _ h => Fills.cons (f := fun (x : Finding) y => { x with Pins := y }) rfl h fs_Finding_2 (by decide) (g.sat 6 _ rfl).1 fun _ h => Fills.nil h) fun v125 hw => ?_
  refine RL.bslice (l := ([(⟨3, p2.Name, x114⟩ : Finding)] : (List Finding))) trivial rfl hw [v125] rfl rfl rfl sl39 ze96 (fun M hs g => ⟨(g.sat 0 _ rfl).1, trivial⟩) fun v126 w hw => ?_
  have hw := hw.freeze (i := 0) rfl
  obtain ⟨x127, hx127, hj⟩ := bd hj
  refine RL.app (i := 7) (j := 0) trivial rfl hw rfl rfl rfl rfl el39 hx127 fun v128 w hw => ?_
  refine as_ v128 rfl rfl ?_
  refine RL.nil ?_
  obtain rfl := oi hj
  exact ⟨rfl, v128, ⟨rfl, rfl, rfl, rfl, trivial⟩, hw.pick 9 [4, 5, 6, 7] (new := [rd v0 p0, bx 26 b31 p1, bx 64 b32 p2, own 96 v128 x127]) rfl rfl (by decide) (by decide)⟩
 rintro σ w ⟨v124, ha, hw⟩
 obtain ⟨τ, rfl⟩ := ha.ups
 refine thenQ_n ?_
 refine RC.sr ?_
 refine mv v0 rfl rfl ?_
 refine RL.load_bf (i := 1) (f := (fun x => x)) trivial rfl hw rfl rfl Fd.self ty26 fun v129 hw => ?_
 refine RL.load_bf (i := 3) (f := (fun x => x)) trivial rfl hw rfl rfl Fd.self ty64 fun v130 hw => ?_
 have hw := hw.sc (γ := Int) 7
 refine RL.bslice (l := ([7] : (List Int))) trivial rfl hw [(vi 7)] rfl rfl rfl sl138 ze3 (fun M hs g => ⟨(g.sat 0 _ rfl).1, trivial⟩) fun v131 w hw => ?_
 have hw := hw.freeze (i := 0) rfl
 obtain ⟨x132, hx132, hb⟩ := bd hb
 refine RL.call trivial rfl fn112 [v0, v129, v130, v131] rfl (Calls_ret (etchhouseref2_ofKinds_ok N  (i0 := 4) (i1 := 3) (i2 := 2) (i3 := 0) hw rfl rfl rfl rfl hx132) ?_)
 rintro v133 w hw
 refine as_ v133 rfl rfl ?_
 refine RL.nq ?_
 refine RC.sr ?_
 refine mv v133 rfl rfl ?_
 refine RL.len_own (i := 0) (l := x132) trivial rfl hw rfl rfl un33 ?_
 refine ic ((x132.length : Int)) 0 rfl rfl rfl rfl ?_
 refine RL.nt ?_
 obtain ⟨s138, hj, hb⟩ := bd hb
 refine RC.jn (fun (s138 : (List Finding) × (List Pin)) (σ : Nat → Value) (w : World) => ∃ v139 v140 : Value, agree σ [(5, (vp b32 0)), (7, v139), (12, v140)] ∧ Holds E w ([bx 64 b32 p2, own 96 v139 s138.1, rd v140 s138.2] ++ Γ)) s138 ?_ ?_
 ·refine RC.cond (b := (decide ((x132.length : Int) > 0))) rfl (fun hc => ?_) (fun hc => ?_)
  rotate_left
  ·replace hj := cF hc hj
   refine RC.skip ?_
   obtain rfl := oi hj
   have hw := hw.freeze (i := 0) rfl
   exact ⟨rfl, v124, v133, ⟨rfl, rfl, rfl, trivial⟩, hw.pick 9 [7, 8, 0] (new := [bx 64 b32 p2, own 96 v124 s123, rd v133 x132]) rfl rfl (by decide) (by decide)⟩
  replace hj := cT hc hj
  refine RC.region ?_
  refine mv v124 rfl rfl ?_
  refine RL.fa_b trivial rfl rfl fa64_0 ?_
  refine RL.load_bfs (i := 7) (f := (fun x => x.Name)) trivial rfl hw rfl rfl fd_Net_0 ty9 ?_
  refine mv v133 rfl rfl ?_
  have hw := hw.sc (γ := Int) 4
  have hw := hw.sc (γ := Str) p2.Name
  have hw := hw.freeze (i := 2) rfl
  refine RL.build (y := (⟨4, p2.Name, x132⟩ : Finding)) trivial rfl hw [(0, (vi 4)), (1, (str p2.Name)), (2, v133)] rfl st96 rfl (fun M hs g => by have h := z_Finding M; exact Fills.cons (f := fun (x : Finding) y => { x with Kind := y }) rfl h fs_Finding_0 (by decide) (g.sat 1 _ rfl).1 fun _ h => Fills.cons (f := fun (x : Finding) y => { x with Net := y }) rfl h fs_Finding_1 (by decide) (g.sat 0 _ rfl).1 fun _ h => Fills.cons (f := fun (x : Finding) y => { x with Pins := y }) rfl h fs_Finding_2 (by decide) (g.sat 2 _ rfl).1 fun _ h => Fills.nil h) fun v141 hw => ?_
  refine RL.bslice (l := ([(⟨4, p2.Name, x132⟩ : Finding)] : (List Finding))) trivial rfl hw [v141] rfl rfl rfl sl39 ze96 (fun M hs g => ⟨(g.sat 0 _ rfl).1, trivial⟩) fun v142 w hw => ?_
  have hw := hw.freeze (i := 0) rfl
  obtain ⟨x143, hx143, hj⟩ := bd hj
  refine RL.app (i := 12) (j := 0) trivial rfl hw rfl rfl rfl rfl el39 hx143 fun v144 w hw => ?_
  refine as_ v144 rfl rfl ?_
  refine RL.nil ?_
  obtain rfl := oi hj
  exact ⟨rfl, v144, v133, ⟨rfl, rfl, rfl, trivial⟩, hw.pick 13 [11, 12, 4] (new := [bx 64 b32 p2, own 96 v144 x143, rd v133 x132]) rfl rfl (by decide) (by decide)⟩
 rintro σ w ⟨v139, v140, ha, hw⟩
 obtain ⟨τ, rfl⟩ := ha.ups
 refine thenQ_n ?_
 refine RC.seq ?_
 refine RC.seq ?_
 obtain ⟨s148, hj, hb⟩ := bd hb
 refine RC.jn (fun (s148 : Bool) (σ : Nat → Value) (w : World) => agree σ [(5, (vp b32 0)), (7, v139), (114, (vb s148))] ∧ Holds E w ([bx 64 b32 p2, own 96 v139 s138.1] ++ Γ)) s148 ?_ ?_
 ·refine RC.region ?_
  refine RL.fa_b trivial rfl rfl fa64_1 ?_
  refine RL.load_bf (i := 0) (f := (fun x => x.Pins)) trivial rfl hw rfl rfl fd_Net_1 ty33 fun v149 hw => ?_
  refine RL.len_rd (i := 0) (l := p2.Pins) trivial rfl hw rfl rfl un33 ?_
  refine ic ((p2.Pins.length : Int)) 1 rfl rfl rfl rfl ?_
  refine mv (vb ((p2.Pins.length : Int) == 1)) rfl rfl ?_
  rcases Bool.eq_false_or_eq_true ((p2.Pins.length : Int) == 1) with hg150 | hg150
  ·replace hj := cT hg150 hj
   refine RL.move (v := v140) ⟨_, rfl, cb hg150⟩ rfl rfl ?_
   refine RL.len_rd (i := 3) (l := s138.2) ⟨_, rfl, cb hg150⟩ rfl hw rfl rfl un33 ?_
   refine RL.icmp (a := (s138.2.length : Int)) (b := 0) ⟨_, rfl, cb hg150⟩ rfl rfl rfl rfl ?_
   refine RL.pick (b := ((p2.Pins.length : Int) == 1)) (v := (vb ((s138.2.length : Int) == 0))) trivial rfl rfl (by rw [hg150]; rfl) ?_
   refine RL.nil ?_
   obtain rfl := oi hj
   exact ⟨rfl, ⟨rfl, rfl, rfl, trivial⟩, hw.pick 4 [1, 2] (new := [bx 64 b32 p2, own 96 v139 s138.1]) rfl rfl (by decide) (by decide)⟩
  replace hj := cF hg150 hj
  refine sk rfl (.inl (cb hg150)) rfl ?_
  refine sk rfl (.inl (cb hg150)) rfl ?_
  refine sk rfl (.inl (cb hg150)) rfl ?_
  refine RL.pick (b := ((p2.Pins.length : Int) == 1)) (v := (vb false)) trivial rfl rfl (by rw [hg150]; rfl) ?_
  refine RL.nil ?_
  obtain rfl := oi hj
  exact ⟨rfl, ⟨rfl, rfl, rfl, trivial⟩, hw.pick 4 [1, 2] (new := [bx 64 b32 p2, own 96 v139 s138.1]) rfl rfl (by decide) (by decide)⟩
 rintro σ w ⟨ha, hw⟩
 obtain ⟨τ, rfl⟩ := ha.ups
 refine thenQ_n ?_
 obtain ⟨s163, hj, hb⟩ := bd hb
 refine RC.jn (fun (s163 : (List Finding)) (σ : Nat → Value) (w : World) => ∃ v164 : Value, agree σ [(7, v164)] ∧ Holds E w ([own 96 v164 s163] ++ Γ)) s163 ?_ ?_
 ·refine RC.cond (b := s148) rfl (fun hc => ?_) (fun hc => ?_)
  rotate_left
  ·replace hj := cF hc hj
   refine RC.skip ?_
   obtain rfl := oi hj
   exact ⟨rfl, v139, ⟨rfl, trivial⟩, hw.pick 2 [1] (new := [own 96 v139 s138.1]) rfl rfl (by decide) (by decide)⟩
  replace hj := cT hc hj
  obtain ⟨x166, hx166, hj⟩ := bd hj
  obtain ⟨x170, hx170, hj⟩ := bd hj
  refine RC.drw mixed rfl (fun (D : Nat → Bool) (σ : Nat → Value) (w : World) => ∃ (v165 : Value) (v167 : Value) (v168 : Value) (v169 : Value) (v171 : Value), doneV D σ [(0, 115, v139), (1, 116, (vp b32 0)), (2, 117, (str p2.Name)), (3, 118, (vp b32 1)), (4, 119, v165), (5, 120, v167), (6, 121, v168), (7, 122, v169), (8, 123, v171), (9, 7, v171)] ∧ agree σ [(5, (vp b32 0))] ∧ oldV D σ [(9, 7, v139)] ∧ Holds E w ([bif D 4 then (rd v165 p2.Pins) else junk, bif D 6 then (rd v167 x166) else (bif D 5 then (own 28 v167 x166) else junk), bif D 6 then (rd v168 (⟨5, p2.Name, x166⟩ : Finding)) else junk, bif D 8 then (rd v169 ([(⟨5, p2.Name, x166⟩ : Finding)] : (List Finding))) else (bif D 7 then (own 96 v169 ([(⟨5, p2.Name, x166⟩ : Finding)] : (List Finding))) else junk), bx 64 b32 p2, bif D 8 then (own 96 v171 x170) else (own 96 v139 s138.1)] ++ Γ)) ?_ ⟨?_, ?_, ?_, ?_, ?_, ?_, ?_, ?_, ?_, ?_, trivial⟩ ?_
  ·have hw := hw.drew
   have hw := hw.junk
   have hw := hw.junk
   have hw := hw.junk
   have hw := hw.junk
   exact ⟨undef, undef, undef, undef, undef, doneV.none, ⟨rfl, trivial⟩, ⟨fun _ => rfl, trivial⟩, hw⟩
  ·rintro D σ w hD hdep hcl ⟨v165, v167, v168, v169, v171, hv, ha, ho, hw⟩
   obtain ⟨τ, rfl⟩ := (ac (ho.at 0 rfl (nf (fun h => ft hD ((hcl 9 _ rfl h).2.2.1 rfl)))) az).ups
   refine mv v139 rfl rfl ?_
   refine RL.nil ?_
   exact ⟨rfl, v165, v167, v168, v169, v171, hv.put 0 rfl rfl, ha.up rfl, ho.up rfl, hw⟩
  ·rintro D σ w hD hdep hcl ⟨v165, v167, v168, v169, v171, hv, ha, ho, hw⟩
   obtain ⟨τ, rfl⟩ := (ac (ha.at 0 rfl) az).ups
   refine RL.fa_b trivial rfl rfl fa64_0 ?_
   refine RL.nil ?_
   exact ⟨rfl, v165, v167, v168, v169, v171, hv.put 1 rfl rfl, ha.up rfl, ho.up rfl, hw⟩
  ·rintro D σ w hD hdep hcl ⟨v165, v167, v168, v169, v171, hv, ha, ho, hw⟩
   obtain ⟨τ, rfl⟩ := (ac (hv.at 1 rfl (hdep.1 rfl)) az).ups
   refine RL.load_bfs (i := 4) (f := (fun x => x.Name)) trivial rfl hw rfl rfl fd_Net_0 ty9 ?_
   refine RL.nil ?_
   exact ⟨rfl, v165, v167, v168, v169, v171, hv.put 2 rfl rfl, ha.up rfl, ho.up rfl, hw⟩
  ·rintro D σ w hD hdep hcl ⟨v165, v167, v168, v169, v171, hv, ha, ho, hw⟩
   obtain ⟨τ, rfl⟩ := (ac (ha.at 0 rfl) az).ups
   refine RL.fa_b trivial rfl rfl fa64_1 ?_
   refine RL.nil ?_
   exact ⟨rfl, v165, v167, v168, v169, v171, hv.put 3 rfl rfl, ha.up rfl, ho.up rfl, hw⟩
  ·rintro D σ w hD hdep hcl ⟨v165, v167, v168, v169, v171, hv, ha, ho, hw⟩
   obtain ⟨τ, rfl⟩ := (ac (hv.at 3 rfl (hdep.1 rfl)) az).ups
   have hw := hw.selF (i := 0) rfl hD
   refine RL.load_bf (i := 4) (f := (fun x => x.Pins)) trivial rfl hw rfl rfl fd_Net_1 ty33 fun v172 hw => ?_
   have hw := hw.pick 7 [0, 2, 3, 4, 5, 6] (new := [rd v172 p2.Pins, bif D 6 then (rd v167 x166) else (bif D 5 then (own 28 v167 x166) else junk), bif D 6 then (rd v168 (⟨5, p2.Name, x166⟩ : Finding)) else junk, bif D 8 then (rd v169 ([(⟨5, p2.Name, x166⟩ : Finding)] : (List Finding))) else (bif D 7 then (own 96 v169 ([(⟨5, p2.Name, x166⟩ : Finding)] : (List Finding))) else junk), bx 64 b32 p2, bif D 8 then (own 96 v171 x170) else (own 96 v139 s138.1)]) rfl rfl (by decide) (by decide)
   have hw := hw.altT (i := 0) (b := true) rfl rfl (junk)
   refine RL.nil ?_
   exact ⟨rfl, v172, v167, v168, v169, v171, hv.put 4 rfl rfl, ha.up rfl, ho.up rfl, hw⟩
  ·rintro D σ w hD hdep hcl ⟨v165, v167, v168, v169, v171, hv, ha, ho, hw⟩
   obtain ⟨τ, rfl⟩ := (ac (hv.at 4 rfl (hdep.1 rfl)) az).ups
   have hw := hw.selT (i := 0) rfl (hdep.1 rfl)
   have hw := hw.selF (i := 1) rfl (nf (fun h => ft hD ((hcl 6 _ rfl h).2.1 rfl)))
   have hw := hw.selF (i := 1) rfl hD
   refine RL.call trivial rfl fn55 [v165] rfl (Calls_ret (slices_Clone_Pin_ok N  (i0 := 0) hw rfl hx166) ?_)
   rintro v173 w hw
   have hw := hw.pick 7 [1, 0, 3, 4, 5, 6] (new := [rd v165 p2.Pins, own 28 v173 x166, bif D 6 then (rd v168 (⟨5, p2.Name, x166⟩ : Finding)) else junk, bif D 8 then (rd v169 ([(⟨5, p2.Name, x166⟩ : Finding)] : (List Finding))) else (bif D 7 then (own 96 v169 ([(⟨5, p2.Name, x166⟩ : Finding)] : (List Finding))) else junk), bx 64 b32 p2, bif D 8 then (own 96 v171 x170) else (own 96 v139 s138.1)]) rfl rfl (by decide) (by decide)
   have hw := hw.altT (i := 0) (b := D 4) rfl (hdep.1 rfl) (junk)
   have hw := hw.altT (i := 1) (b := true) rfl rfl (junk)
   have hw := hw.altF (i := 1) (b := D 6) rfl (nf (fun h => ft hD ((hcl 6 _ rfl h).2.1 rfl))) (rd v173 x166)
   refine RL.nil ?_
   exact ⟨rfl, v165, v173, v168, v169, v171, hv.put 5 rfl rfl, ha.up rfl, ho.up rfl, hw⟩
  ·rintro D σ w hD hdep hcl ⟨v165, v167, v168, v169, v171, hv, ha, ho, hw⟩
   obtain ⟨τ, rfl⟩ := (ac (hv.at 2 rfl (hdep.1 rfl)) (ac (hv.at 5 rfl (hdep.2.1 rfl)) az)).ups
   have hw := hw.selF (i := 1) rfl hD
   have hw := hw.selT (i := 1) rfl (hdep.2.1 rfl)
   have hw := hw.selF (i := 2) rfl hD
   have hw := hw.sc (γ := Int) 5
   have hw := hw.sc (γ := Str) p2.Name
   have hw := hw.freeze (i := 3) rfl
   refine RL.build (y := (⟨5, p2.Name, x166⟩ : Finding)) trivial rfl hw [(0, (vi 5)), (1, (str p2.Name)), (2, v167)] rfl st96 rfl (fun M hs g => by have h := z_Finding M; exact Fills.cons (f := fun (x : Finding) y => { x with Kind := y }) rfl h fs_Finding_0 (by decide) (g.sat 1 _ rfl).1 fun _ h => Fills.cons (f := fun (x : Finding) y => { x with Net := y }) rfl h fs_Finding_1 (by decide) (g.sat 0 _ rfl).1 fun _ h => Fills.cons (f := fun (x : Finding) y => { x with Pins := y }) rfl h fs_Finding_2 (by decide) (g.sat 3 _ rfl).1 fun _ h => Fills.nil h) fun v174 hw => ?_
   have hw := hw.pick 9 [3, 4, 0, 6, 7, 8] (new := [bif D 4 then (rd v165 p2.Pins) else junk, rd v167 x166, rd v174 (⟨5, p2.Name, x166⟩ : Finding), bif D 8 then (rd v169 ([(⟨5, p2.Name, x166⟩ : Finding)] : (List Finding))) else (bif D 7 then (own 96 v169 ([(⟨5, p2.Name, x166⟩ : Finding)] : (List Finding))) else junk), bx 64 b32 p2, bif D 8 then (own 96 v171 x170) else (own 96 v139 s138.1)]) rfl rfl (by decide) (by decide)
   have hw := hw.altT (i := 1) (b := true) rfl rfl (bif D 5 then (own 28 v167 x166) else junk)
   have hw := hw.altT (i := 2) (b := true) rfl rfl (junk)
   refine RL.nil ?_
   exact ⟨rfl, v165, v167, v174, v169, v171, hv.put 6 rfl rfl, ha.up rfl, ho.up rfl, hw⟩
  ·rintro D σ w hD hdep hcl ⟨v165, v167, v168, v169, v171, hv, ha, ho, hw⟩
   obtain ⟨τ, rfl⟩ := (ac (hv.at 6 rfl (hdep.1 rfl)) az).ups
   have hw := hw.selT (i := 2) rfl (hdep.1 rfl)
   have hw := hw.selF (i := 3) rfl (nf (fun h => ft hD ((hcl 8 _ rfl h).2.1 rfl)))
   have hw := hw.selF (i := 3) rfl hD
   refine RL.bslice (l := ([(⟨5, p2.Name, x166⟩ : Finding)] : (List Finding))) trivial rfl hw [v168] rfl rfl rfl sl39 ze96 (fun M hs g => ⟨(g.sat 2 _ rfl).1, trivial⟩) fun v175 w hw => ?_
   have hw := hw.pick 7 [1, 2, 3, 0, 5, 6] (new := [bif D 4 then (rd v165 p2.Pins) else junk, bif D 6 then (rd v167 x166) else (bif D 5 then (own 28 v167 x166) else junk), rd v168 (⟨5, p2.Name, x166⟩ : Finding), own 96 v175 ([(⟨5, p2.Name, x166⟩ : Finding)] : (List Finding)), bx 64 b32 p2, bif D 8 then (own 96 v171 x170) else (own 96 v139 s138.1)]) rfl rfl (by decide) (by decide)
   have hw := hw.altT (i := 2) (b := D 6) rfl (hdep.1 rfl) (junk)
   have hw := hw.altT (i := 3) (b := true) rfl rfl (junk)
   have hw := hw.altF (i := 3) (b := D 8) rfl (nf (fun h => ft hD ((hcl 8 _ rfl h).2.1 rfl))) (rd v175 ([(⟨5, p2.Name, x166⟩ : Finding)] : (List Finding)))
   refine RL.nil ?_
   exact ⟨rfl, v165, v167, v168, v175, v171, hv.put 7 rfl rfl, ha.up rfl, ho.up rfl, hw⟩
  ·rintro D σ w hD hdep hcl ⟨v165, v167, v168, v169, v171, hv, ha, ho, hw⟩
   obtain ⟨τ, rfl⟩ := (ac (hv.at 0 rfl (hdep.1 rfl)) (ac (hv.at 7 rfl (hdep.2.1 rfl)) az)).ups
   have hw := hw.selF (i := 3) rfl hD
   have hw := hw.selT (i := 3) rfl (hdep.2.1 rfl)
   have hw := hw.selF (i := 5) rfl hD
   have hw := hw.freeze (i := 3) rfl
   refine RL.app (i := 5) (j := 3) trivial rfl hw rfl rfl rfl rfl el39 hx170 fun v176 w hw => ?_
   have hw := hw.altT (i := 3) (b := true) rfl rfl (bif D 7 then (own 96 v169 ([(⟨5, p2.Name, x166⟩ : Finding)] : (List Finding))) else junk)
   have hw := hw.altT (i := 5) (b := true) rfl rfl (own 96 v139 s138.1)
   have hv := hv.re 9 rfl (v' := v176) (fun h => ft hD ((hcl 9 _ rfl h).1 rfl))
   refine RL.nil ?_
   exact ⟨rfl, v165, v167, v168, v169, v176, hv.put 8 rfl rfl, ha.up rfl, ho.up rfl, hw⟩
  ·rintro D σ w hD hdep hcl ⟨v165, v167, v168, v169, v171, hv, ha, ho, hw⟩
   obtain ⟨τ, rfl⟩ := (ac (hv.at 8 rfl (hdep.1 rfl)) az).ups
   refine as_ v171 rfl rfl ?_
   refine RL.nil ?_
   exact ⟨rfl, v165, v167, v168, v169, v171, hv.put 9 rfl rfl, ha.up rfl, ho.up rfl, hw⟩
  rintro D σ w hall ⟨v165, v167, v168, v169, v171, hv, ha, _, hw⟩
  rw [hall 4 (by decide), hall 5 (by decide), hall 6 (by decide), hall 7 (by decide), hall 8 (by decide)] at hw
  obtain ⟨τ, rfl⟩ := (ac (hv.at 9 rfl (hall 9 (by decide))) (ac (ha.at 0 rfl) az)).ups
  obtain rfl := oi hj
  exact ⟨rfl, v171, ⟨rfl, trivial⟩, hw.pick 6 [5] (new := [own 96 v171 x170]) rfl rfl (by decide) (by decide)⟩
 rintro σ w ⟨v164, ha, hw⟩
 obtain ⟨τ, rfl⟩ := ha.ups
 refine thenQ_n ?_
 refine RC.sr ?_
 refine mv v164 rfl rfl ?_
 refine as_ v164 rfl rfl ?_
 refine RL.nt ?_
 refine RC.ret ?_
 obtain rfl := oi hb
 exact fin1 rfl rfl (hw.pick 1 [0] (new := [own 96 v164 s163]) rfl rfl (by decide) (by decide))
def etchhouseref2_Findings_R (E : World) (Γ : List HP) (res : (List Finding) × Int) (v : Value) (w : World) : Prop := ∃ u0 : Value, v = .tuple #[u0, (vi res.2)] ∧ Holds E w (own 96 u0 res.1 :: Γ)
def etchhouseref2_Findings_K (E : World) (Γ : List HP) (r : (List Finding) × Int) (σ : Nat → Value) (w : World) : Prop := finQ Tryd.prog 59 Tryd.f20 (etchhouseref2_Findings_R E Γ r) .ret σ w
theorem etchhouseref2_Findings_ok (N : Nat) {E w : World} {Γ : List HP} {i0 : Nat} {v0 : Value} {p0 : (List PartType)} {i1 : Nat} {v1 : Value} {p1 : Netlist} {res : (List Finding) × Int} (hw : Holds E w Γ) (h0 : Γ[i0]? = some (rd v0 p0)) (h1 : Γ[i1]? = some (rd v1 p1)) (hb : etchhouseref2_Findings N p0 p1 = some res) :
    Calls Tryd.prog 20 [v0, v1].toArray w (Ret (etchhouseref2_Findings_R E Γ res)) := by
 unfold etchhouseref2_Findings at hb
 refine enter Tryd.func20 rfl rfl (Nat.le_of_ble_eq_true rfl) ?_
 have hw := hw.dup (i := i0 + 0) h0
 have hw := hw.dup (i := i1 + 1) h1
 refine RC.sr ?_
 refine RL.box_rd (i := 0) (v := v1) trivial rfl hw rfl rfl fun b31 w hw => ?_
 refine as_ (.slice none 0 0) rfl rfl ?_
 refine as_ (vi 0) rfl rfl ?_
 refine RL.nq ?_
 refine RC.sr ?_
 refine mv v0 rfl rfl ?_
 refine RL.load_bf (i := 0) (f := (fun x => x)) trivial rfl hw rfl rfl Fd.self ty26 fun v32 hw => ?_
 obtain ⟨x33, hx33, hb⟩ := bd hb
 refine RL.call trivial rfl fn14 [v0, v32] rfl (Calls_ret (etchhouseref2_CheckList_ok N  (i0 := 3) (i1 := 0) hw rfl rfl hx33) ?_)
 rintro _ w ⟨rfl, hw⟩
 refine as_ (vi x33) rfl rfl ?_
 refine RL.ns ?_
 refine mv (vi x33) rfl rfl ?_
 refine ic x33 0 rfl rfl rfl rfl ?_
 refine RL.nt ?_
 refine RC.cond (b := (x33 != 0)) rfl (fun hc => ?_) (fun hc => ?_)
 ·replace hb := cT hc hb
  refine RC.sr ?_
  refine mv (vi x33) rfl rfl ?_
  refine as_ (.slice none 0 0) rfl rfl ?_
  refine as_ (vi x33) rfl rfl ?_
  refine RL.nt ?_
  refine RC.rt ?_
  obtain rfl := oi hb
  have hw := hw.own_nil Finding 96
  exact fin2 rfl rfl rfl ⟨(.slice none 0 0), rfl, hw.pick 5 [0] (new := [own 96 (.slice none 0 0) ([] : (List Finding))]) rfl rfl (by decide) (by decide)⟩
 replace hb := cF hc hb
 refine RC.sx ?_
 refine as_ (.slice none 0 0) rfl rfl ?_
 refine RL.nq ?_
 refine RC.sr ?_
 refine RL.fa_b trivial rfl rfl fa26_1 ?_
 refine RL.load_bf (i := 1) (f := (fun x => x.Nets)) trivial rfl hw rfl rfl fd_Netlist_1 ty24 fun v34 hw => ?_
 refine RL.len_rd (i := 0) (l := p1.Nets) trivial rfl hw rfl rfl un24 ?_
 refine mv (vi 0) rfl rfl ?_
 refine RL.nt ?_
 obtain ⟨s36, hN, hb⟩ := bd hb
 refine RC.fold (fun (k35 : Nat) (s36 : (List Finding)) (σ : Nat → Value) (w : World) => ∃ v59 : Value, agree σ [(0, v0), (3, (vp b31 0)), (7, v59), (20, v34), (21, (vi (p1.Nets.length : Int))), (22, (vi (k35 : Int)))] ∧ Holds E w ([rd v0 p0, bx 26 b31 p1, rd v34 p1.Nets, own 96 v59 s36] ++ Γ)) (fun (s36 : (List Finding)) (σ : Nat → Value) (w : World) => ∃ v60 : Value, agree σ [(0, v0), (3, (vp b31 0)), (7, v60)] ∧ Holds E w ([rd v0 p0, bx 26 b31 p1, rd v34 p1.Nets, own 96 v60 s36] ++ Γ)) hN ?_ ?_ ?_ ?_
 ·have hw := hw.own_nil Finding 96
  exact ⟨(.slice none 0 0), ⟨rfl, rfl, rfl, rfl, rfl, rfl, trivial⟩, hw.pick 6 [5, 3, 1, 0] (new := [rd v0 p0, bx 26 b31 p1, rd v34 p1.Nets, own 96 (.slice none 0 0) ([] : (List Finding))]) rfl rfl (by decide) (by decide)⟩
 ·intro hm s36 σ w hI
  obtain ⟨v72, ha, hw⟩ := hI
  obtain ⟨τ, rfl⟩ := ha.ups
  refine RC.sr ?_
  refine ic ((p1.Nets.length : Int)) ((p1.Nets.length : Int)) rfl rfl rfl rfl ?_
  refine RL.nq ?_
  refine RC.cond_f dge ?_
  refine RC.ex ?_
  exact ⟨rfl, v72, ⟨rfl, rfl, rfl, trivial⟩, hw.pick 4 [0, 1, 2, 3] (new := [rd v0 p0, bx 26 b31 p1, rd v34 p1.Nets, own 96 v72 s36]) rfl rfl (by decide) (by decide)⟩
 ·intro hm k35 s36 s' σ w hk hI hb
  obtain ⟨v61, ha, hw⟩ := hI
  obtain ⟨τ, rfl⟩ := ha.ups
  refine RC.sr ?_
  refine ic ((k35 : Int)) ((p1.Nets.length : Int)) rfl rfl rfl rfl ?_
  refine RL.nq ?_
  refine RC.cond_t (dlt hk) ?_
  refine RC.ss ?_
  refine RC.bs ?_
  obtain ⟨x62, hx62, hb⟩ := bd hb
  refine RL.ia_rd (i := 2) trivial rfl hw rfl rfl rfl sl24 hx62 fun v63 hw => ?_
  refine RL.load_pt (i := 0) (x := x62) trivial rfl hw rfl rfl ty64 fun v64 hw => ?_
  refine RL.alloc trivial rfl hw ze64.z fun b65 w hw => ?_
  refine RL.store_raw (i := 0) (j := 1) trivial hw rfl rfl rfl rfl ty64 rfl fun w hw => ?_
  refine RL.nt ?_
  refine RC.region ?_
  refine mv v61 rfl rfl ?_
  refine mv v0 rfl rfl ?_
  refine RL.load_bf (i := 4) (f := (fun x => x)) trivial rfl hw rfl rfl Fd.self ty26 fun v66 hw => ?_
  refine RL.load_bf (i := 1) (f := (fun x => x)) trivial rfl hw rfl rfl Fd.self ty64 fun v67 hw => ?_
  obtain ⟨x68, hx68, hb⟩ := bd hb
  refine RL.call trivial rfl fn56 [v0, v66, v67] rfl (Calls_ret (etchhouseref2_netFindings_ok N  (i0 := 5) (i1 := 1) (i2 := 0) hw rfl rfl rfl hx68) ?_)
  rintro v69 w hw
  have hw := hw.freeze (i := 0) rfl
  obtain ⟨x70, hx70, hb⟩ := bd hb
  refine RL.app (i := 9) (j := 0) trivial rfl hw rfl rfl rfl rfl el39 hx70 fun v71 w hw => ?_
  refine as_ v71 rfl rfl ?_
  refine RL.nil ?_
  refine blkQ_n ?_
  refine thenQ_n ?_
  refine RC.region ?_
  refine RL.inc trivial rfl hk hm rfl rfl ?_
  refine mv (vi ((k35 + 1 : Nat) : Int)) rfl rfl ?_
  refine RL.nil ?_
  obtain rfl := oi hb
  exact ⟨rfl, v71, ⟨rfl, rfl, rfl, rfl, rfl, rfl, trivial⟩, hw.pick 10 [6, 7, 8, 9] (new := [rd v0 p0, bx 26 b31 p1, rd v34 p1.Nets, own 96 v71 x70]) rfl rfl (by decide) (by decide)⟩
 intro σ w hJ
 obtain ⟨v60, ha, hw⟩ := hJ
 obtain ⟨τ, rfl⟩ := ha.ups
 refine thenQ_n ?_
 refine RC.seq ?_
 refine RC.sr ?_
 refine mv v0 rfl rfl ?_
 refine RL.load_bf (i := 1) (f := (fun x => x)) trivial rfl hw rfl rfl Fd.self ty26 fun v73 hw => ?_
 obtain ⟨x74, hx74, hb⟩ := bd hb
 refine RL.call trivial rfl fn48 [v0, v73] rfl (Calls_ret (etchhouseref2_loose_ok N  (i0 := 1) (i1 := 0) hw rfl rfl hx74) ?_)
 rintro v75 w hw
 refine RL.len_own (i := 0) (l := x74) trivial rfl hw rfl rfl un33 ?_
 refine mv (vi 0) rfl rfl ?_
 refine RL.nt ?_
 obtain ⟨s77, hN, hb⟩ := bd hb
 refine RC.fold (fun (k76 : Nat) (s77 : (List Finding)) (σ : Nat → Value) (w : World) => ∃ v120 : Value, agree σ [(0, v0), (3, (vp b31 0)), (7, v120), (35, v75), (36, (vi (x74.length : Int))), (37, (vi (k76 : Int)))] ∧ Holds E w ([rd v0 p0, bx 26 b31 p1, own 28 v75 x74, own 96 v120 s77] ++ Γ)) (fun (s77 : (List Finding)) (σ : Nat → Value) (w : World) => ∃ v121 : Value, agree σ [(7, v121)] ∧ Holds E w ([rd v0 p0, bx 26 b31 p1, own 28 v75 x74, own 96 v121 s77] ++ Γ)) hN ?_ ?_ ?_ ?_
 ·exact ⟨v60, ⟨rfl, rfl, rfl, rfl, rfl, rfl, trivial⟩, hw.pick 6 [2, 3, 0, 5] (new := [rd v0 p0, bx 26 b31 p1, own 28 v75 x74, own 96 v60 s36]) rfl rfl (by decide) (by decide)⟩
 ·intro hm s77 σ w hI
  obtain ⟨v143, ha, hw⟩ := hI
  obtain ⟨τ, rfl⟩ := ha.ups
  refine RC.sr ?_
  refine ic ((x74.length : Int)) ((x74.length : Int)) rfl rfl rfl rfl ?_
  refine RL.nq ?_
  refine RC.cond_f dge ?_
  refine RC.ex ?_
  exact ⟨rfl, v143, ⟨rfl, trivial⟩, hw.pick 4 [0, 1, 2, 3] (new := [rd v0 p0, bx 26 b31 p1, own 28 v75 x74, own 96 v143 s77]) rfl rfl (by decide) (by decide)⟩
 ·intro hm k76 s77 s' σ w hk hI hb
  obtain ⟨v122, ha, hw⟩ := hI
  obtain ⟨τ, rfl⟩ := ha.ups
  refine RC.sr ?_
  refine ic ((k76 : Int)) ((x74.length : Int)) rfl rfl rfl rfl ?_
  refine RL.nq ?_
  refine RC.cond_t (dlt hk) ?_
  refine RC.ss ?_
  refine RC.bs ?_
  obtain ⟨x123, hx123, hb⟩ := bd hb
  refine RL.ia_ownA (i := 2) trivial rfl hw rfl rfl rfl sl33 hx123 ?_
  refine RL.load_el (i := 2) (f := (fun x => x)) trivial rfl hw rfl (elp hw (i := 2) rfl hx123 0) rfl (idx_some hx123).2.1 Fd.self ty28 fun v124 hw => ?_
  refine RL.alloc trivial rfl hw ze28.z fun b125 w hw => ?_
  refine RL.store_raw (i := 0) (j := 1) trivial hw rfl rfl rfl rfl ty28 rfl fun w hw => ?_
  refine RL.ns ?_
  refine mv v0 rfl rfl ?_
  refine RL.load_bf (i := 3) (f := (fun x => x)) trivial rfl hw rfl rfl Fd.self ty26 fun v126 hw => ?_
  refine RL.load_bf (i := 1) (f := (fun x => x)) trivial rfl hw rfl rfl Fd.self ty28 fun v127 hw => ?_
  obtain ⟨x128, hx128, hb⟩ := bd hb
  refine RL.call trivial rfl fn57 [v0, v126, v127] rfl (Calls_ret (etchhouseref2_kindOf_ok N  (i0 := 4) (i1 := 1) (i2 := 0) hw rfl rfl rfl hx128) ?_)
  rintro _ w ⟨rfl, hw⟩
  refine as_ (vi x128) rfl rfl ?_
  refine RL.ns ?_
  refine mv (vi x128) rfl rfl ?_
  refine ic x128 7 rfl rfl rfl rfl ?_
  refine mv (vb (x128 != 7)) rfl rfl ?_
  refine RL.gs (c := true) (b := (x128 != 7)) (v := (vi x128)) rfl rfl rfl (gs_move rfl (fun _ => rfl)) ?_
  refine RL.gs (c := true) (b := (x128 != 7)) (v := (vb (x128 != 6))) rfl rfl rfl (gs_icmp (bop := .neq) (K := .i64) (a := x128) (b := 6) rfl (fun h => by exact (cv_t h : cv (true && ((x128 != 7) == true)) (vi x128) = (vi x128))) (fun _ => rfl) rfl) ?_
  refine RL.pick (b := (x128 != 7)) (v := (vb ((x128 != 7) && (x128 != 6)))) trivial rfl rfl (pk_and (c := true) rfl) ?_
  refine RL.nt ?_
  obtain ⟨s135, hj, hb⟩ := bd hb
  refine RC.jn (fun (s135 : (List Finding)) (σ : Nat → Value) (w : World) => ∃ v136 : Value, agree σ [(0, v0), (3, (vp b31 0)), (7, v136), (35, v75), (36, (vi (x74.length : Int))), (37, (vi (k76 : Int)))] ∧ Holds E w ([rd v0 p0, bx 26 b31 p1, own 28 v75 x74, own 96 v136 s135] ++ Γ)) s135 ?_ ?_
  ·refine RC.cond (b := ((x128 != 7) && (x128 != 6))) rfl (fun hc => ?_) (fun hc => ?_)
   rotate_left
   ·replace hj := cF hc hj
    refine RC.skip ?_
    obtain rfl := oi hj
    exact ⟨rfl, v122, ⟨rfl, rfl, rfl, rfl, rfl, rfl, trivial⟩, hw.pick 8 [4, 5, 6, 7] (new := [rd v0 p0, bx 26 b31 p1, own 28 v75 x74, own 96 v122 s77]) rfl rfl (by decide) (by decide)⟩
   replace hj := cT hc hj
   refine RC.region ?_
   refine mv v122 rfl rfl ?_
   refine RL.load_bf (i := 2) (f := (fun x => x)) trivial rfl hw rfl rfl Fd.self ty28 fun v137 hw => ?_
   refine RL.bslice (l := ([x123] : (List Pin))) trivial rfl hw [v137] rfl rfl rfl sl33 ze28 (fun M hs g => ⟨(g.sat 0 _ rfl).1, trivial⟩) fun v138 w hw => ?_
   have hw := hw.sc (γ := Int) 6
   have hw := hw.freeze (i := 1) rfl
   refine RL.build (y := (⟨6, ⟨[]⟩, ([x123] : (List Pin))⟩ : Finding)) trivial rfl hw [(0, (vi 6)), (2, v138)] rfl st96 rfl (fun M hs g => by have h := z_Finding M; exact Fills.cons (f := fun (x : Finding) y => { x with Kind := y }) rfl h fs_Finding_0 (by decide) (g.sat 0 _ rfl).1 fun _ h => Fills.cons (f := fun (x : Finding) y => { x with Pins := y }) rfl h fs_Finding_2 (by decide) (g.sat 1 _ rfl).1 fun _ h => Fills.nil h) fun v139 hw => ?_
   refine RL.bslice (l := ([(⟨6, ⟨[]⟩, ([x123] : (List Pin))⟩ : Finding)] : (List Finding))) trivial rfl hw [v139] rfl rfl rfl sl39 ze96 (fun M hs g => ⟨(g.sat 0 _ rfl).1, trivial⟩) fun v140 w hw => ?_
   have hw := hw.freeze (i := 0) rfl
   obtain ⟨x141, hx141, hj⟩ := bd hj
   refine RL.app (i := 12) (j := 0) trivial rfl hw rfl rfl rfl rfl el39 hx141 fun v142 w hw => ?_
   refine as_ v142 rfl rfl ?_
   refine RL.nil ?_
   obtain rfl := oi hj
   exact ⟨rfl, v142, ⟨rfl, rfl, rfl, rfl, rfl, rfl, trivial⟩, hw.pick 13 [9, 10, 11, 12] (new := [rd v0 p0, bx 26 b31 p1, own 28 v75 x74, own 96 v142 x141]) rfl rfl (by decide) (by decide)⟩
  rintro σ w ⟨v136, ha, hw⟩
  obtain ⟨τ, rfl⟩ := ha.ups
  refine blkQ_n ?_
  refine thenQ_n ?_
  refine RC.region ?_
  refine RL.inc trivial rfl hk hm rfl rfl ?_
  refine mv (vi ((k76 + 1 : Nat) : Int)) rfl rfl ?_
  refine RL.nil ?_
  obtain rfl := oi hb
  exact ⟨rfl, v136, ⟨rfl, rfl, rfl, rfl, rfl, rfl, trivial⟩, hw.pick 4 [0, 1, 2, 3] (new := [rd v0 p0, bx 26 b31 p1, own 28 v75 x74, own 96 v136 s135]) rfl rfl (by decide) (by decide)⟩
 intro σ w hJ
 obtain ⟨v121, ha, hw⟩ := hJ
 obtain ⟨τ, rfl⟩ := ha.ups
 refine thenQ_n ?_
 refine RC.sr ?_
 refine mv v121 rfl rfl ?_
 refine as_ v121 rfl rfl ?_
 refine as_ (vi 0) rfl rfl ?_
 refine RL.nt ?_
 refine RC.ret ?_
 obtain rfl := oi hb
 exact fin2 rfl rfl rfl ⟨v121, rfl, hw.pick 4 [3] (new := [own 96 v121 s77]) rfl rfl (by decide) (by decide)⟩
end Go.Gk
