/-
  Printed by gen.py: Go functions as plain functions, and that they are.
-/
import Derived.Test.YtnjoaggeheokeaaDoorT
import Derived.Test.YtnjoaggeheokeaaDoorF1
import Derived.Test.YtnjoaggeheokeaaDoorF2
set_option linter.unusedVariables false
set_option linter.unusedSimpArgs false
set_option linter.unusedSectionVars false
set_option maxRecDepth 100000
set_option maxHeartbeats 4000000

namespace Go.Gk
open Go Go.Proofs
def netlist_Findings_c1_R (E : World) (Γ : List HP) (res : Int) (v : Value) (w : World) : Prop := v = (vi res) ∧ Holds E w Γ
def netlist_Findings_c1_K (E : World) (Γ : List HP) (r : Int) (σ : Nat → Value) (w : World) : Prop := finQ Tryd.prog 30 Tryd.f49 (netlist_Findings_c1_R E Γ r) .ret σ w
theorem netlist_Findings_c1_ok (N : Nat) {E w : World} {Γ : List HP} {i0 : Nat} {v0 : Value} {p0 : Pin} {i1 : Nat} {v1 : Value} {p1 : (List PartType)} {i2 : Nat} {v2 : Value} {p2 : Netlist} {res : Int} (hw : Holds E w Γ) (h0 : Γ[i0]? = some (rd v0 p0)) (h1 : Γ[i1]? = some (pt v1 p1)) (h2 : Γ[i2]? = some (pt v2 p2)) (hb : netlist_Findings_c1 N p0 p1 p2 = some res) :
    Calls Tryd.prog 49 [v0, v1, v2].toArray w (Ret (netlist_Findings_c1_R E Γ res)) := by
 unfold netlist_Findings_c1 at hb
 refine enter Tryd.func49 rfl rfl (Nat.le_of_ble_eq_true rfl) ?_
 have hw := hw.dup (i := i0 + 0) h0
 have hw := hw.dup_pt (i := i1 + 1) h1
 have hw := hw.dup_pt (i := i2 + 2) h2
 refine RC.sr ?_
 refine RL.box_rd (i := 2) (v := v0) trivial rfl hw rfl rfl fun b31 w hw => ?_
 refine as_ (vi 0) rfl rfl ?_
 refine RL.nq ?_
 obtain ⟨x38, hx38, hb⟩ := bd hb
 obtain ⟨x39, hx39, hb⟩ := bd hb
 obtain ⟨x42, hx42, hb⟩ := bd hb
 obtain ⟨x43, hx43, hb⟩ := bd hb
 refine RC.drw mixed rfl (fun (D : Nat → Bool) (σ : Nat → Value) (w : World) => ∃ (v32 : Value) (v33 : Value) (v34 : Value) (v35 : Value) (v36 : Value) (v37 : Value) (v40 : Value) (v41 : Value) (v44 : Value) (v45 : Value) (b46 : Nat), doneV D σ [(0, 6, v32), (1, 7, v33), (2, 8, v34), (3, 9, v35), (4, 10, v36), (5, 11, v37), (6, 12, (vp b31 0)), (7, 13, (str p0.Part)), (8, 14, (vi x38)), (9, 15, v40), (10, 16, v41), (11, 17, (str x39.Type_)), (12, 18, (vi x42)), (13, 19, v44), (14, 20, v45), (15, 5, (vp b46 0))] ∧ agree σ [(1, v1), (2, v2), (3, (vp b31 0))] ∧ Holds E w ([bif D 0 then (rd v32 p1) else junk, bif D 1 then (rd v33 p1) else junk, bif D 2 then (pt v34 p2.Parts) else junk, bif D 3 then (rd v35 p2.Parts) else junk, bif D 4 then (pt v36 p2.Parts) else junk, bif D 5 then (rd v37 p2.Parts) else junk, bif D 9 then (pt v40 x39) else junk, bif D 10 then (pt v41 x39.Type_) else junk, bif D 13 then (pt v44 x43) else junk, bif D 14 then (rd v45 x43) else junk, bif D 16 then (bx 85 b46 x43) else (bif D 15 then (raw 85 b46 2) else junk), bx 28 b31 p0, pt v2 p2, pt v1 p1, rd v0 p0] ++ Γ)) ?_ ⟨?_, ?_, ?_, ?_, ?_, ?_, ?_, ?_, ?_, ?_, ?_, ?_, ?_, ?_, ?_, ?_, ?_, trivial⟩ ?_
 ·have hw := hw.drew
  have hw := hw.junk
  have hw := hw.junk
  have hw := hw.junk
  have hw := hw.junk
  have hw := hw.junk
  have hw := hw.junk
  have hw := hw.junk
  have hw := hw.junk
  have hw := hw.junk
  have hw := hw.junk
  have hw := hw.junk
  exact ⟨undef, undef, undef, undef, undef, undef, undef, undef, undef, undef, 0, doneV.none, ⟨rfl, rfl, rfl, trivial⟩, hw⟩
 ·rintro D σ w hD hdep hcl ⟨v32, v33, v34, v35, v36, v37, v40, v41, v44, v45, b46, hv, ha, hw⟩
  obtain ⟨τ, rfl⟩ := (ac (ha.at 0 rfl) az).ups
  have hw := hw.selF (i := 0) rfl hD
  refine RL.load_pt (i := 13) (x := p1) trivial rfl hw rfl rfl ty22 fun v47 hw => ?_
  have hw := hw.pick 16 [0, 2, 3, 4, 5, 6, 7, 8, 9, 10, 11, 12, 13, 14, 15] (new := [rd v47 p1, bif D 1 then (rd v33 p1) else junk, bif D 2 then (pt v34 p2.Parts) else junk, bif D 3 then (rd v35 p2.Parts) else junk, bif D 4 then (pt v36 p2.Parts) else junk, bif D 5 then (rd v37 p2.Parts) else junk, bif D 9 then (pt v40 x39) else junk, bif D 10 then (pt v41 x39.Type_) else junk, bif D 13 then (pt v44 x43) else junk, bif D 14 then (rd v45 x43) else junk, bif D 16 then (bx 85 b46 x43) else (bif D 15 then (raw 85 b46 2) else junk), bx 28 b31 p0, pt v2 p2, pt v1 p1, rd v0 p0]) rfl rfl (by decide) (by decide)
  have hw := hw.altT (i := 0) (b := true) rfl rfl (junk)
  refine RL.nil ?_
  exact ⟨rfl, v47, v33, v34, v35, v36, v37, v40, v41, v44, v45, b46, hv.put 0 rfl rfl, ha.up rfl, hw⟩
 ·rintro D σ w hD hdep hcl ⟨v32, v33, v34, v35, v36, v37, v40, v41, v44, v45, b46, hv, ha, hw⟩
  obtain ⟨τ, rfl⟩ := (ac (ha.at 0 rfl) az).ups
  have hw := hw.selF (i := 1) rfl hD
  refine RL.load_pt (i := 13) (x := p1) trivial rfl hw rfl rfl ty22 fun v48 hw => ?_
  have hw := hw.pick 16 [1, 0, 3, 4, 5, 6, 7, 8, 9, 10, 11, 12, 13, 14, 15] (new := [bif D 0 then (rd v32 p1) else junk, rd v48 p1, bif D 2 then (pt v34 p2.Parts) else junk, bif D 3 then (rd v35 p2.Parts) else junk, bif D 4 then (pt v36 p2.Parts) else junk, bif D 5 then (rd v37 p2.Parts) else junk, bif D 9 then (pt v40 x39) else junk, bif D 10 then (pt v41 x39.Type_) else junk, bif D 13 then (pt v44 x43) else junk, bif D 14 then (rd v45 x43) else junk, bif D 16 then (bx 85 b46 x43) else (bif D 15 then (raw 85 b46 2) else junk), bx 28 b31 p0, pt v2 p2, pt v1 p1, rd v0 p0]) rfl rfl (by decide) (by decide)
  have hw := hw.altT (i := 1) (b := true) rfl rfl (junk)
  refine RL.nil ?_
  exact ⟨rfl, v32, v48, v34, v35, v36, v37, v40, v41, v44, v45, b46, hv.put 1 rfl rfl, ha.up rfl, hw⟩
 ·rintro D σ w hD hdep hcl ⟨v32, v33, v34, v35, v36, v37, v40, v41, v44, v45, b46, hv, ha, hw⟩
  obtain ⟨τ, rfl⟩ := (ac (ha.at 1 rfl) az).ups
  have hw := hw.selF (i := 2) rfl hD
  refine RL.fa_pt (i := 12) (f := fun (x : Netlist) => x.Parts) trivial rfl hw rfl rfl fa26_0 fd_Netlist_0 fun v49 hw => ?_
  have hw := hw.pick 16 [1, 2, 0, 4, 5, 6, 7, 8, 9, 10, 11, 12, 13, 14, 15] (new := [bif D 0 then (rd v32 p1) else junk, bif D 1 then (rd v33 p1) else junk, pt v49 p2.Parts, bif D 3 then (rd v35 p2.Parts) else junk, bif D 4 then (pt v36 p2.Parts) else junk, bif D 5 then (rd v37 p2.Parts) else junk, bif D 9 then (pt v40 x39) else junk, bif D 10 then (pt v41 x39.Type_) else junk, bif D 13 then (pt v44 x43) else junk, bif D 14 then (rd v45 x43) else junk, bif D 16 then (bx 85 b46 x43) else (bif D 15 then (raw 85 b46 2) else junk), bx 28 b31 p0, pt v2 p2, pt v1 p1, rd v0 p0]) rfl rfl (by decide) (by decide)
  have hw := hw.altT (i := 2) (b := true) rfl rfl (junk)
  refine RL.nil ?_
  exact ⟨rfl, v32, v33, v49, v35, v36, v37, v40, v41, v44, v45, b46, hv.put 2 rfl rfl, ha.up rfl, hw⟩
 ·rintro D σ w hD hdep hcl ⟨v32, v33, v34, v35, v36, v37, v40, v41, v44, v45, b46, hv, ha, hw⟩
  obtain ⟨τ, rfl⟩ := (ac (hv.at 2 rfl (hdep.1 rfl)) az).ups
  have hw := hw.selT (i := 2) rfl (hdep.1 rfl)
  have hw := hw.selF (i := 3) rfl hD
  refine RL.load_pt (i := 2) (x := p2.Parts) trivial rfl hw rfl rfl ty23 fun v50 hw => ?_
  have hw := hw.pick 16 [1, 2, 3, 0, 5, 6, 7, 8, 9, 10, 11, 12, 13, 14, 15] (new := [bif D 0 then (rd v32 p1) else junk, bif D 1 then (rd v33 p1) else junk, pt v34 p2.Parts, rd v50 p2.Parts, bif D 4 then (pt v36 p2.Parts) else junk, bif D 5 then (rd v37 p2.Parts) else junk, bif D 9 then (pt v40 x39) else junk, bif D 10 then (pt v41 x39.Type_) else junk, bif D 13 then (pt v44 x43) else junk, bif D 14 then (rd v45 x43) else junk, bif D 16 then (bx 85 b46 x43) else (bif D 15 then (raw 85 b46 2) else junk), bx 28 b31 p0, pt v2 p2, pt v1 p1, rd v0 p0]) rfl rfl (by decide) (by decide)
  have hw := hw.altT (i := 2) (b := D 2) rfl (hdep.1 rfl) (junk)
  have hw := hw.altT (i := 3) (b := true) rfl rfl (junk)
  refine RL.nil ?_
  exact ⟨rfl, v32, v33, v34, v50, v36, v37, v40, v41, v44, v45, b46, hv.put 3 rfl rfl, ha.up rfl, hw⟩
 ·rintro D σ w hD hdep hcl ⟨v32, v33, v34, v35, v36, v37, v40, v41, v44, v45, b46, hv, ha, hw⟩
  obtain ⟨τ, rfl⟩ := (ac (ha.at 1 rfl) az).ups
  have hw := hw.selF (i := 4) rfl hD
  refine RL.fa_pt (i := 12) (f := fun (x : Netlist) => x.Parts) trivial rfl hw rfl rfl fa26_0 fd_Netlist_0 fun v51 hw => ?_
  have hw := hw.pick 16 [1, 2, 3, 4, 0, 6, 7, 8, 9, 10, 11, 12, 13, 14, 15] (new := [bif D 0 then (rd v32 p1) else junk, bif D 1 then (rd v33 p1) else junk, bif D 2 then (pt v34 p2.Parts) else junk, bif D 3 then (rd v35 p2.Parts) else junk, pt v51 p2.Parts, bif D 5 then (rd v37 p2.Parts) else junk, bif D 9 then (pt v40 x39) else junk, bif D 10 then (pt v41 x39.Type_) else junk, bif D 13 then (pt v44 x43) else junk, bif D 14 then (rd v45 x43) else junk, bif D 16 then (bx 85 b46 x43) else (bif D 15 then (raw 85 b46 2) else junk), bx 28 b31 p0, pt v2 p2, pt v1 p1, rd v0 p0]) rfl rfl (by decide) (by decide)
  have hw := hw.altT (i := 4) (b := true) rfl rfl (junk)
  refine RL.nil ?_
  exact ⟨rfl, v32, v33, v34, v35, v51, v37, v40, v41, v44, v45, b46, hv.put 4 rfl rfl, ha.up rfl, hw⟩
 ·rintro D σ w hD hdep hcl ⟨v32, v33, v34, v35, v36, v37, v40, v41, v44, v45, b46, hv, ha, hw⟩
  obtain ⟨τ, rfl⟩ := (ac (hv.at 4 rfl (hdep.1 rfl)) az).ups
  have hw := hw.selT (i := 4) rfl (hdep.1 rfl)
  have hw := hw.selF (i := 5) rfl hD
  refine RL.load_pt (i := 4) (x := p2.Parts) trivial rfl hw rfl rfl ty23 fun v52 hw => ?_
  have hw := hw.pick 16 [1, 2, 3, 4, 5, 0, 7, 8, 9, 10, 11, 12, 13, 14, 15] (new := [bif D 0 then (rd v32 p1) else junk, bif D 1 then (rd v33 p1) else junk, bif D 2 then (pt v34 p2.Parts) else junk, bif D 3 then (rd v35 p2.Parts) else junk, pt v36 p2.Parts, rd v52 p2.Parts, bif D 9 then (pt v40 x39) else junk, bif D 10 then (pt v41 x39.Type_) else junk, bif D 13 then (pt v44 x43) else junk, bif D 14 then (rd v45 x43) else junk, bif D 16 then (bx 85 b46 x43) else (bif D 15 then (raw 85 b46 2) else junk), bx 28 b31 p0, pt v2 p2, pt v1 p1, rd v0 p0]) rfl rfl (by decide) (by decide)
  have hw := hw.altT (i := 4) (b := D 4) rfl (hdep.1 rfl) (junk)
  have hw := hw.altT (i := 5) (b := true) rfl rfl (junk)
  refine RL.nil ?_
  exact ⟨rfl, v32, v33, v34, v35, v36, v52, v40, v41, v44, v45, b46, hv.put 5 rfl rfl, ha.up rfl, hw⟩
 ·rintro D σ w hD hdep hcl ⟨v32, v33, v34, v35, v36, v37, v40, v41, v44, v45, b46, hv, ha, hw⟩
  obtain ⟨τ, rfl⟩ := (ac (ha.at 2 rfl) az).ups
  refine RL.fa_b trivial rfl rfl fa28_0 ?_
  refine RL.nil ?_
  exact ⟨rfl, v32, v33, v34, v35, v36, v37, v40, v41, v44, v45, b46, hv.put 6 rfl rfl, ha.up rfl, hw⟩
 ·rintro D σ w hD hdep hcl ⟨v32, v33, v34, v35, v36, v37, v40, v41, v44, v45, b46, hv, ha, hw⟩
  obtain ⟨τ, rfl⟩ := (ac (hv.at 6 rfl (hdep.1 rfl)) az).ups
  refine RL.load_bfs (i := 11) (f := (fun x => x.Part)) trivial rfl hw rfl rfl fd_Pin_0 ty9 ?_
  refine RL.nil ?_
  exact ⟨rfl, v32, v33, v34, v35, v36, v37, v40, v41, v44, v45, b46, hv.put 7 rfl rfl, ha.up rfl, hw⟩
 ·rintro D σ w hD hdep hcl ⟨v32, v33, v34, v35, v36, v37, v40, v41, v44, v45, b46, hv, ha, hw⟩
  obtain ⟨τ, rfl⟩ := (ac (hv.at 5 rfl (hdep.1 rfl)) (ac (hv.at 7 rfl (hdep.2.1 rfl)) az)).ups
  have hw := hw.selT (i := 5) rfl (hdep.1 rfl)
  refine RL.call trivial rfl fn51 [v37, (str p0.Part)] rfl (Calls_ret (netlist_partAt_ok N (p1 := p0.Part) (i0 := 5) hw rfl hx38) ?_)
  rintro _ w ⟨rfl, hw⟩
  have hw := hw.altT (i := 5) (b := D 5) rfl (hdep.1 rfl) (junk)
  refine RL.nil ?_
  exact ⟨rfl, v32, v33, v34, v35, v36, v37, v40, v41, v44, v45, b46, hv.put 8 rfl rfl, ha.up rfl, hw⟩
 ·rintro D σ w hD hdep hcl ⟨v32, v33, v34, v35, v36, v37, v40, v41, v44, v45, b46, hv, ha, hw⟩
  obtain ⟨τ, rfl⟩ := (ac (hv.at 3 rfl (hdep.1 rfl)) (ac (hv.at 8 rfl (hdep.2.1 rfl)) az)).ups
  have hw := hw.selT (i := 3) rfl (hdep.1 rfl)
  have hw := hw.selF (i := 6) rfl hD
  refine RL.ia_rd (i := 3) trivial rfl hw rfl rfl rfl sl23 hx39 fun v53 hw => ?_
  have hw := hw.pick 16 [1, 2, 3, 4, 5, 6, 0, 8, 9, 10, 11, 12, 13, 14, 15] (new := [bif D 0 then (rd v32 p1) else junk, bif D 1 then (rd v33 p1) else junk, bif D 2 then (pt v34 p2.Parts) else junk, rd v35 p2.Parts, bif D 4 then (pt v36 p2.Parts) else junk, bif D 5 then (rd v37 p2.Parts) else junk, pt v53 x39, bif D 10 then (pt v41 x39.Type_) else junk, bif D 13 then (pt v44 x43) else junk, bif D 14 then (rd v45 x43) else junk, bif D 16 then (bx 85 b46 x43) else (bif D 15 then (raw 85 b46 2) else junk), bx 28 b31 p0, pt v2 p2, pt v1 p1, rd v0 p0]) rfl rfl (by decide) (by decide)
  have hw := hw.altT (i := 3) (b := D 3) rfl (hdep.1 rfl) (junk)
  have hw := hw.altT (i := 6) (b := true) rfl rfl (junk)
  refine RL.nil ?_
  exact ⟨rfl, v32, v33, v34, v35, v36, v37, v53, v41, v44, v45, b46, hv.put 9 rfl rfl, ha.up rfl, hw⟩
 ·rintro D σ w hD hdep hcl ⟨v32, v33, v34, v35, v36, v37, v40, v41, v44, v45, b46, hv, ha, hw⟩
  obtain ⟨τ, rfl⟩ := (ac (hv.at 9 rfl (hdep.1 rfl)) az).ups
  have hw := hw.selT (i := 6) rfl (hdep.1 rfl)
  have hw := hw.selF (i := 7) rfl hD
  refine RL.fa_pt (i := 6) (f := fun (x : Part) => x.Type_) trivial rfl hw rfl rfl fa87_1 fd_Part_1 fun v54 hw => ?_
  have hw := hw.pick 16 [1, 2, 3, 4, 5, 6, 7, 0, 9, 10, 11, 12, 13, 14, 15] (new := [bif D 0 then (rd v32 p1) else junk, bif D 1 then (rd v33 p1) else junk, bif D 2 then (pt v34 p2.Parts) else junk, bif D 3 then (rd v35 p2.Parts) else junk, bif D 4 then (pt v36 p2.Parts) else junk, bif D 5 then (rd v37 p2.Parts) else junk, pt v40 x39, pt v54 x39.Type_, bif D 13 then (pt v44 x43) else junk, bif D 14 then (rd v45 x43) else junk, bif D 16 then (bx 85 b46 x43) else (bif D 15 then (raw 85 b46 2) else junk), bx 28 b31 p0, pt v2 p2, pt v1 p1, rd v0 p0]) rfl rfl (by decide) (by decide)
  have hw := hw.altT (i := 6) (b := D 9) rfl (hdep.1 rfl) (junk)
  have hw := hw.altT (i := 7) (b := true) rfl rfl (junk)
  refine RL.nil ?_
  exact ⟨rfl, v32, v33, v34, v35, v36, v37, v40, v54, v44, v45, b46, hv.put 10 rfl rfl, ha.up rfl, hw⟩
 ·rintro D σ w hD hdep hcl ⟨v32, v33, v34, v35, v36, v37, v40, v41, v44, v45, b46, hv, ha, hw⟩
  obtain ⟨τ, rfl⟩ := (ac (hv.at 10 rfl (hdep.1 rfl)) az).ups
  have hw := hw.selT (i := 7) rfl (hdep.1 rfl)
  refine RL.load_pts (i := 7) (y := x39.Type_) trivial rfl hw rfl rfl ty9 ?_
  have hw := hw.altT (i := 7) (b := D 10) rfl (hdep.1 rfl) (junk)
  refine RL.nil ?_
  exact ⟨rfl, v32, v33, v34, v35, v36, v37, v40, v41, v44, v45, b46, hv.put 11 rfl rfl, ha.up rfl, hw⟩
 ·rintro D σ w hD hdep hcl ⟨v32, v33, v34, v35, v36, v37, v40, v41, v44, v45, b46, hv, ha, hw⟩
  obtain ⟨τ, rfl⟩ := (ac (hv.at 1 rfl (hdep.1 rfl)) (ac (hv.at 11 rfl (hdep.2.1 rfl)) az)).ups
  have hw := hw.selT (i := 1) rfl (hdep.1 rfl)
  refine RL.call trivial rfl fn50 [v33, (str x39.Type_)] rfl (Calls_ret (netlist_TypeAt_ok N (p1 := x39.Type_) (i0 := 1) hw rfl hx42) ?_)
  rintro _ w ⟨rfl, hw⟩
  have hw := hw.altT (i := 1) (b := D 1) rfl (hdep.1 rfl) (junk)
  refine RL.nil ?_
  exact ⟨rfl, v32, v33, v34, v35, v36, v37, v40, v41, v44, v45, b46, hv.put 12 rfl rfl, ha.up rfl, hw⟩
 ·rintro D σ w hD hdep hcl ⟨v32, v33, v34, v35, v36, v37, v40, v41, v44, v45, b46, hv, ha, hw⟩
  obtain ⟨τ, rfl⟩ := (ac (hv.at 0 rfl (hdep.1 rfl)) (ac (hv.at 12 rfl (hdep.2.1 rfl)) az)).ups
  have hw := hw.selT (i := 0) rfl (hdep.1 rfl)
  have hw := hw.selF (i := 8) rfl hD
  refine RL.ia_rd (i := 0) trivial rfl hw rfl rfl rfl sl22 hx43 fun v55 hw => ?_
  have hw := hw.pick 16 [1, 2, 3, 4, 5, 6, 7, 8, 0, 10, 11, 12, 13, 14, 15] (new := [rd v32 p1, bif D 1 then (rd v33 p1) else junk, bif D 2 then (pt v34 p2.Parts) else junk, bif D 3 then (rd v35 p2.Parts) else junk, bif D 4 then (pt v36 p2.Parts) else junk, bif D 5 then (rd v37 p2.Parts) else junk, bif D 9 then (pt v40 x39) else junk, bif D 10 then (pt v41 x39.Type_) else junk, pt v55 x43, bif D 14 then (rd v45 x43) else junk, bif D 16 then (bx 85 b46 x43) else (bif D 15 then (raw 85 b46 2) else junk), bx 28 b31 p0, pt v2 p2, pt v1 p1, rd v0 p0]) rfl rfl (by decide) (by decide)
  have hw := hw.altT (i := 0) (b := D 0) rfl (hdep.1 rfl) (junk)
  have hw := hw.altT (i := 8) (b := true) rfl rfl (junk)
  refine RL.nil ?_
  exact ⟨rfl, v32, v33, v34, v35, v36, v37, v40, v41, v55, v45, b46, hv.put 13 rfl rfl, ha.up rfl, hw⟩
 ·rintro D σ w hD hdep hcl ⟨v32, v33, v34, v35, v36, v37, v40, v41, v44, v45, b46, hv, ha, hw⟩
  obtain ⟨τ, rfl⟩ := (ac (hv.at 13 rfl (hdep.1 rfl)) az).ups
  have hw := hw.selT (i := 8) rfl (hdep.1 rfl)
  have hw := hw.selF (i := 9) rfl hD
  refine RL.load_pt (i := 8) (x := x43) trivial rfl hw rfl rfl ty85 fun v56 hw => ?_
  have hw := hw.pick 16 [1, 2, 3, 4, 5, 6, 7, 8, 9, 0, 11, 12, 13, 14, 15] (new := [bif D 0 then (rd v32 p1) else junk, bif D 1 then (rd v33 p1) else junk, bif D 2 then (pt v34 p2.Parts) else junk, bif D 3 then (rd v35 p2.Parts) else junk, bif D 4 then (pt v36 p2.Parts) else junk, bif D 5 then (rd v37 p2.Parts) else junk, bif D 9 then (pt v40 x39) else junk, bif D 10 then (pt v41 x39.Type_) else junk, pt v44 x43, rd v56 x43, bif D 16 then (bx 85 b46 x43) else (bif D 15 then (raw 85 b46 2) else junk), bx 28 b31 p0, pt v2 p2, pt v1 p1, rd v0 p0]) rfl rfl (by decide) (by decide)
  have hw := hw.altT (i := 8) (b := D 13) rfl (hdep.1 rfl) (junk)
  have hw := hw.altT (i := 9) (b := true) rfl rfl (junk)
  refine RL.nil ?_
  exact ⟨rfl, v32, v33, v34, v35, v36, v37, v40, v41, v44, v56, b46, hv.put 14 rfl rfl, ha.up rfl, hw⟩
 ·rintro D σ w hD hdep hcl ⟨v32, v33, v34, v35, v36, v37, v40, v41, v44, v45, b46, hv, ha, hw⟩
  obtain ⟨τ, rfl⟩ := (az (σ := σ)).ups
  have hw := hw.selF (i := 10) rfl (nf (fun h => ft hD ((hcl 16 _ rfl h).1 rfl)))
  have hw := hw.selF (i := 10) rfl hD
  refine RL.alloc trivial rfl hw ze85.z fun b57 w hw => ?_
  have hw := hw.pick 16 [1, 2, 3, 4, 5, 6, 7, 8, 9, 10, 0, 12, 13, 14, 15] (new := [bif D 0 then (rd v32 p1) else junk, bif D 1 then (rd v33 p1) else junk, bif D 2 then (pt v34 p2.Parts) else junk, bif D 3 then (rd v35 p2.Parts) else junk, bif D 4 then (pt v36 p2.Parts) else junk, bif D 5 then (rd v37 p2.Parts) else junk, bif D 9 then (pt v40 x39) else junk, bif D 10 then (pt v41 x39.Type_) else junk, bif D 13 then (pt v44 x43) else junk, bif D 14 then (rd v45 x43) else junk, raw 85 b57 2, bx 28 b31 p0, pt v2 p2, pt v1 p1, rd v0 p0]) rfl rfl (by decide) (by decide)
  have hw := hw.altT (i := 10) (b := true) rfl rfl (junk)
  have hw := hw.altF (i := 10) (b := D 16) rfl (nf (fun h => ft hD ((hcl 16 _ rfl h).1 rfl))) (bx 85 b57 x43)
  refine RL.nil ?_
  exact ⟨rfl, v32, v33, v34, v35, v36, v37, v40, v41, v44, v45, b57, hv.put 15 rfl rfl, ha.up rfl, hw⟩
 ·rintro D σ w hD hdep hcl ⟨v32, v33, v34, v35, v36, v37, v40, v41, v44, v45, b46, hv, ha, hw⟩
  obtain ⟨τ, rfl⟩ := (ac (hv.at 14 rfl (hdep.2.1 rfl)) (ac (hv.at 15 rfl (hdep.1 rfl)) az)).ups
  have hw := hw.selT (i := 9) rfl (hdep.2.1 rfl)
  have hw := hw.selF (i := 10) rfl hD
  have hw := hw.selT (i := 10) rfl (hdep.1 rfl)
  refine RL.store_raw (i := 10) (j := 9) trivial hw rfl rfl rfl rfl ty85 rfl fun w hw => ?_
  have hw := hw.altT (i := 9) (b := D 14) rfl (hdep.2.1 rfl) (junk)
  have hw := hw.altT (i := 10) (b := true) rfl rfl (bif D 15 then (raw 85 b46 2) else junk)
  refine RL.nil ?_
  exact ⟨rfl, v32, v33, v34, v35, v36, v37, v40, v41, v44, v45, b46, hv.no rfl, ha, hw⟩
 rintro D σ w hall ⟨v32, v33, v34, v35, v36, v37, v40, v41, v44, v45, b46, hv, ha, hw⟩
 rw [hall 0 (by decide), hall 1 (by decide), hall 2 (by decide), hall 3 (by decide), hall 4 (by decide), hall 5 (by decide), hall 9 (by decide), hall 10 (by decide), hall 13 (by decide), hall 14 (by decide), hall 15 (by decide), hall 16 (by decide)] at hw
 obtain ⟨τ, rfl⟩ := (ac (hv.at 15 rfl (hall 15 (by decide))) (ac (ha.at 0 rfl) (ac (ha.at 1 rfl) (ac (ha.at 2 rfl) az)))).ups
 refine thenQ_n ?_
 refine RC.seq ?_
 obtain ⟨x60, hx60, hb⟩ := bd hb
 obtain ⟨x61, hx61, hb⟩ := bd hb
 refine RC.drw mixed rfl (fun (D : Nat → Bool) (σ : Nat → Value) (w : World) => ∃ (v58 : Value) (v59 : Value) (v62 : Value) (v63 : Value), doneV D σ [(0, 21, (vp b46 1)), (1, 22, v58), (2, 23, v59), (3, 24, (vp b31 1)), (4, 25, (str p0.Pin)), (5, 26, (vi x60)), (6, 27, v62), (7, 28, v63), (8, 29, (vi x61.Kind)), (9, 4, (vi x61.Kind))] ∧ agree σ [(3, (vp b31 0)), (5, (vp b46 0))] ∧ Holds E w ([bif D 1 then (rd v58 x43.Pins) else junk, bif D 2 then (rd v59 x43) else junk, bif D 6 then (pt v62 x61) else junk, bif D 7 then (pt v63 x61.Kind) else junk, rd v32 p1, rd v33 p1, pt v34 p2.Parts, rd v35 p2.Parts, pt v36 p2.Parts, rd v37 p2.Parts, pt v40 x39, pt v41 x39.Type_, pt v44 x43, rd v45 x43, bx 85 b46 x43, bx 28 b31 p0, pt v2 p2, pt v1 p1, rd v0 p0] ++ Γ)) ?_ ⟨?_, ?_, ?_, ?_, ?_, ?_, ?_, ?_, ?_, ?_, trivial⟩ ?_
 ·have hw := hw.drew
  have hw := hw.junk
  have hw := hw.junk
  have hw := hw.junk
  have hw := hw.junk
  exact ⟨undef, undef, undef, undef, doneV.none, ⟨rfl, rfl, trivial⟩, hw⟩
 ·rintro D σ w hD hdep hcl ⟨v58, v59, v62, v63, hv, ha, hw⟩
  obtain ⟨τ, rfl⟩ := (ac (ha.at 1 rfl) az).ups
  refine RL.fa_b trivial rfl rfl fa85_1 ?_
  refine RL.nil ?_
  exact ⟨rfl, v58, v59, v62, v63, hv.put 0 rfl rfl, ha.up rfl, hw⟩
 ·rintro D σ w hD hdep hcl ⟨v58, v59, v62, v63, hv, ha, hw⟩
  obtain ⟨τ, rfl⟩ := (ac (hv.at 0 rfl (hdep.1 rfl)) az).ups
  have hw := hw.selF (i := 0) rfl hD
  refine RL.load_bf (i := 14) (f := (fun x => x.Pins)) trivial rfl hw rfl rfl fd_PartType_1 ty83 fun v64 hw => ?_
  have hw := hw.pick 20 [0, 2, 3, 4, 5, 6, 7, 8, 9, 10, 11, 12, 13, 14, 15, 16, 17, 18, 19] (new := [rd v64 x43.Pins, bif D 2 then (rd v59 x43) else junk, bif D 6 then (pt v62 x61) else junk, bif D 7 then (pt v63 x61.Kind) else junk, rd v32 p1, rd v33 p1, pt v34 p2.Parts, rd v35 p2.Parts, pt v36 p2.Parts, rd v37 p2.Parts, pt v40 x39, pt v41 x39.Type_, pt v44 x43, rd v45 x43, bx 85 b46 x43, bx 28 b31 p0, pt v2 p2, pt v1 p1, rd v0 p0]) rfl rfl (by decide) (by decide)
  have hw := hw.altT (i := 0) (b := true) rfl rfl (junk)
  refine RL.nil ?_
  exact ⟨rfl, v64, v59, v62, v63, hv.put 1 rfl rfl, ha.up rfl, hw⟩
 ·rintro D σ w hD hdep hcl ⟨v58, v59, v62, v63, hv, ha, hw⟩
  obtain ⟨τ, rfl⟩ := (ac (ha.at 1 rfl) az).ups
  have hw := hw.selF (i := 1) rfl hD
  refine RL.load_bf (i := 14) (f := (fun x => x)) trivial rfl hw rfl rfl Fd.self ty85 fun v65 hw => ?_
  have hw := hw.pick 20 [1, 0, 3, 4, 5, 6, 7, 8, 9, 10, 11, 12, 13, 14, 15, 16, 17, 18, 19] (new := [bif D 1 then (rd v58 x43.Pins) else junk, rd v65 x43, bif D 6 then (pt v62 x61) else junk, bif D 7 then (pt v63 x61.Kind) else junk, rd v32 p1, rd v33 p1, pt v34 p2.Parts, rd v35 p2.Parts, pt v36 p2.Parts, rd v37 p2.Parts, pt v40 x39, pt v41 x39.Type_, pt v44 x43, rd v45 x43, bx 85 b46 x43, bx 28 b31 p0, pt v2 p2, pt v1 p1, rd v0 p0]) rfl rfl (by decide) (by decide)
  have hw := hw.altT (i := 1) (b := true) rfl rfl (junk)
  refine RL.nil ?_
  exact ⟨rfl, v58, v65, v62, v63, hv.put 2 rfl rfl, ha.up rfl, hw⟩
 ·rintro D σ w hD hdep hcl ⟨v58, v59, v62, v63, hv, ha, hw⟩
  obtain ⟨τ, rfl⟩ := (ac (ha.at 0 rfl) az).ups
  refine RL.fa_b trivial rfl rfl fa28_1 ?_
  refine RL.nil ?_
  exact ⟨rfl, v58, v59, v62, v63, hv.put 3 rfl rfl, ha.up rfl, hw⟩
 ·rintro D σ w hD hdep hcl ⟨v58, v59, v62, v63, hv, ha, hw⟩
  obtain ⟨τ, rfl⟩ := (ac (hv.at 3 rfl (hdep.1 rfl)) az).ups
  refine RL.load_bfs (i := 15) (f := (fun x => x.Pin)) trivial rfl hw rfl rfl fd_Pin_1 ty9 ?_
  refine RL.nil ?_
  exact ⟨rfl, v58, v59, v62, v63, hv.put 4 rfl rfl, ha.up rfl, hw⟩
 ·rintro D σ w hD hdep hcl ⟨v58, v59, v62, v63, hv, ha, hw⟩
  obtain ⟨τ, rfl⟩ := (ac (hv.at 2 rfl (hdep.1 rfl)) (ac (hv.at 4 rfl (hdep.2.1 rfl)) az)).ups
  have hw := hw.selT (i := 1) rfl (hdep.1 rfl)
  refine RL.call trivial rfl fn52 [v59, (str p0.Pin)] rfl (Calls_ret (netlist_PinAt_ok N (p1 := p0.Pin) (i0 := 1) hw rfl hx60) ?_)
  rintro _ w ⟨rfl, hw⟩
  have hw := hw.altT (i := 1) (b := D 2) rfl (hdep.1 rfl) (junk)
  refine RL.nil ?_
  exact ⟨rfl, v58, v59, v62, v63, hv.put 5 rfl rfl, ha.up rfl, hw⟩
 ·rintro D σ w hD hdep hcl ⟨v58, v59, v62, v63, hv, ha, hw⟩
  obtain ⟨τ, rfl⟩ := (ac (hv.at 1 rfl (hdep.1 rfl)) (ac (hv.at 5 rfl (hdep.2.1 rfl)) az)).ups
  have hw := hw.selT (i := 0) rfl (hdep.1 rfl)
  have hw := hw.selF (i := 2) rfl hD
  refine RL.ia_rd (i := 0) trivial rfl hw rfl rfl rfl sl83 hx61 fun v66 hw => ?_
  have hw := hw.pick 20 [1, 2, 0, 4, 5, 6, 7, 8, 9, 10, 11, 12, 13, 14, 15, 16, 17, 18, 19] (new := [rd v58 x43.Pins, bif D 2 then (rd v59 x43) else junk, pt v66 x61, bif D 7 then (pt v63 x61.Kind) else junk, rd v32 p1, rd v33 p1, pt v34 p2.Parts, rd v35 p2.Parts, pt v36 p2.Parts, rd v37 p2.Parts, pt v40 x39, pt v41 x39.Type_, pt v44 x43, rd v45 x43, bx 85 b46 x43, bx 28 b31 p0, pt v2 p2, pt v1 p1, rd v0 p0]) rfl rfl (by decide) (by decide)
  have hw := hw.altT (i := 0) (b := D 1) rfl (hdep.1 rfl) (junk)
  have hw := hw.altT (i := 2) (b := true) rfl rfl (junk)
  refine RL.nil ?_
  exact ⟨rfl, v58, v59, v66, v63, hv.put 6 rfl rfl, ha.up rfl, hw⟩
 ·rintro D σ w hD hdep hcl ⟨v58, v59, v62, v63, hv, ha, hw⟩
  obtain ⟨τ, rfl⟩ := (ac (hv.at 6 rfl (hdep.1 rfl)) az).ups
  have hw := hw.selT (i := 2) rfl (hdep.1 rfl)
  have hw := hw.selF (i := 3) rfl hD
  refine RL.fa_pt (i := 2) (f := fun (x : PinType) => x.Kind) trivial rfl hw rfl rfl fa82_1 fd_PinType_1 fun v67 hw => ?_
  have hw := hw.pick 20 [1, 2, 3, 0, 5, 6, 7, 8, 9, 10, 11, 12, 13, 14, 15, 16, 17, 18, 19] (new := [bif D 1 then (rd v58 x43.Pins) else junk, bif D 2 then (rd v59 x43) else junk, pt v62 x61, pt v67 x61.Kind, rd v32 p1, rd v33 p1, pt v34 p2.Parts, rd v35 p2.Parts, pt v36 p2.Parts, rd v37 p2.Parts, pt v40 x39, pt v41 x39.Type_, pt v44 x43, rd v45 x43, bx 85 b46 x43, bx 28 b31 p0, pt v2 p2, pt v1 p1, rd v0 p0]) rfl rfl (by decide) (by decide)
  have hw := hw.altT (i := 2) (b := D 6) rfl (hdep.1 rfl) (junk)
  have hw := hw.altT (i := 3) (b := true) rfl rfl (junk)
  refine RL.nil ?_
  exact ⟨rfl, v58, v59, v62, v67, hv.put 7 rfl rfl, ha.up rfl, hw⟩
 ·rintro D σ w hD hdep hcl ⟨v58, v59, v62, v63, hv, ha, hw⟩
  obtain ⟨τ, rfl⟩ := (ac (hv.at 7 rfl (hdep.1 rfl)) az).ups
  have hw := hw.selT (i := 3) rfl (hdep.1 rfl)
  refine RL.load_pts (i := 3) (y := x61.Kind) trivial rfl hw rfl rfl ty3 ?_
  have hw := hw.altT (i := 3) (b := D 7) rfl (hdep.1 rfl) (junk)
  refine RL.nil ?_
  exact ⟨rfl, v58, v59, v62, v63, hv.put 8 rfl rfl, ha.up rfl, hw⟩
 ·rintro D σ w hD hdep hcl ⟨v58, v59, v62, v63, hv, ha, hw⟩
  obtain ⟨τ, rfl⟩ := (ac (hv.at 8 rfl (hdep.1 rfl)) az).ups
  refine as_ (vi x61.Kind) rfl rfl ?_
  refine RL.nil ?_
  exact ⟨rfl, v58, v59, v62, v63, hv.put 9 rfl rfl, ha.up rfl, hw⟩
 rintro D σ w hall ⟨v58, v59, v62, v63, hv, ha, hw⟩
 rw [hall 1 (by decide), hall 2 (by decide), hall 6 (by decide), hall 7 (by decide)] at hw
 obtain ⟨τ, rfl⟩ := (ac (hv.at 9 rfl (hall 9 (by decide))) (ac (ha.at 0 rfl) (ac (ha.at 1 rfl) az))).ups
 refine thenQ_n ?_
 refine RC.ret ?_
 obtain rfl := oi hb
 exact fin1 rfl rfl ⟨rfl, hw.drop 19 rfl⟩
def slices_Clone_Pin_R (E : World) (Γ : List HP) (res : (List Pin)) (v : Value) (w : World) : Prop := Holds E w (own 28 v res :: Γ)
def slices_Clone_Pin_K (E : World) (Γ : List HP) (r : (List Pin)) (σ : Nat → Value) (w : World) : Prop := finQ Tryd.prog 8 Tryd.f55 (slices_Clone_Pin_R E Γ r) .ret σ w
theorem slices_Clone_Pin_ok (N : Nat) {E w : World} {Γ : List HP} {i0 : Nat} {v0 : Value} {p0 : (List Pin)} {res : (List Pin)} (hw : Holds E w Γ) (h0 : Γ[i0]? = some (rd v0 p0)) (hb : slices_Clone_Pin N p0 = some res) :
    Calls Tryd.prog 55 [v0].toArray w (Ret (slices_Clone_Pin_R E Γ res)) := by
 unfold slices_Clone_Pin at hb
 refine enter Tryd.func55 rfl rfl (Nat.le_of_ble_eq_true rfl) ?_
 have hw := hw.dup (i := i0 + 0) h0
 refine RC.sr ?_
 refine as_ (.slice none 0 0) rfl rfl ?_
 refine RL.nq ?_
 refine RC.sr ?_
 refine mv v0 rfl rfl ?_
 refine RL.eqnil (i := 0) trivial rfl hw rfl rfl rfl un33 ?_
 refine RL.nt ?_
 refine RC.cond (b := (nilV v0)) rfl (fun hc => ?_) (fun hc => ?_)
 ·have hx := hw.nilx (i := 0) rfl hc
  rw [hx] at hb
  replace hb : some ([] : (List Pin)) = _ := hb
  refine RC.sr ?_
  refine as_ (.slice none 0 0) rfl rfl ?_
  refine RL.nt ?_
  refine RC.rt ?_
  obtain rfl := oi hb
  have hw := hw.own_nil Pin 28
  exact fin1 rfl rfl (hw.pick 2 [0] (new := [own 28 (.slice none 0 0) ([] : (List Pin))]) rfl rfl (by decide) (by decide))
 refine RC.sx ?_
 refine RL.bslice (l := ([] : (List Pin))) trivial rfl hw [] rfl rfl rfl sl33 ze28 (fun M hs g => trivial) fun v31 w hw => ?_
 refine mv v0 rfl rfl ?_
 obtain ⟨x32, hx32, hb⟩ := bd hb
 refine RL.app (i := 0) (j := 1) trivial rfl hw rfl rfl rfl rfl el33 hx32 fun v33 w hw => ?_
 refine as_ v33 rfl rfl ?_
 refine RL.nt ?_
 refine RC.ret ?_
 obtain rfl := oi hb
 exact fin1 rfl rfl (hw.pick 2 [0] (new := [own 28 v33 x32]) rfl rfl (by decide) (by decide))
def netlist_Findings_c3_R (E : World) (Γ : List HP) (b3 : Nat) (res : (List Finding)) (v : Value) (w : World) : Prop := ∃ u3_0 : Value, v = .tuple #[] ∧ Holds E w (bc 39 b3 [u3_0] :: own 96 u3_0 res :: Γ)
def netlist_Findings_c3_K (E : World) (Γ : List HP) (b3 : Nat) (r : (List Finding)) (σ : Nat → Value) (w : World) : Prop := finQ Tryd.prog 18 Tryd.f54 (netlist_Findings_c3_R E Γ b3 r) .ret σ w
theorem netlist_Findings_c3_ok (N : Nat) {E w : World} {Γ : List HP} {p0 : Bool} {p1 : Int} {i2 : Nat} {v2 : Value} {p2 : (List Pin)} {b3 : Nat} {v3_0 : Value} {p3_0 : (List Finding)} {i4 : Nat} {v4 : Value} {p4 : Net} {res : (List Finding)} (hw : Holds E w (bc 39 b3 [v3_0] :: own 96 v3_0 p3_0 :: Γ)) (h2 : Γ[i2]? = some (rd v2 p2)) (h4 : Γ[i4]? = some (pt v4 p4)) (hb : netlist_Findings_c3 N p0 p1 p2 p3_0 p4 = some res) :
    Calls Tryd.prog 54 [(vb p0), (vi p1), v2, (vp b3 0), v4].toArray w (Ret (netlist_Findings_c3_R E Γ b3 res)) := by
 unfold netlist_Findings_c3 at hb
 refine enter Tryd.func54 rfl rfl (Nat.le_of_ble_eq_true rfl) ?_
 have hw := hw.dup (i := i2 + 2) h2
 have hw := hw.dup_pt (i := i4 + 3) h4
 refine RC.sr ?_
 refine mv (vb p0) rfl rfl ?_
 refine RL.nt ?_
 obtain ⟨s43, hj, hb⟩ := bd hb
 refine RC.jn (fun (s43 : (List Finding)) (σ : Nat → Value) (w : World) => ∃ v44 : Value, agree σ [(3, (vp b3 0))] ∧ Holds E w ([bc 39 b3 [v44], own 96 v44 s43] ++ Γ)) s43 ?_ ?_
 ·refine RC.cond (b := p0) rfl (fun hc => ?_) (fun hc => ?_)
  rotate_left
  ·replace hj := cF hc hj
   refine RC.skip ?_
   obtain rfl := oi hj
   exact ⟨rfl, v3_0, ⟨rfl, trivial⟩, hw.pick 4 [2, 3] (new := [bc 39 b3 [v3_0], own 96 v3_0 p3_0]) rfl rfl (by decide) (by decide)⟩
  replace hj := cT hc hj
  obtain ⟨x46, hx46, hj⟩ := bd hj
  obtain ⟨x50, hx50, hj⟩ := bd hj
  refine RC.drw mixed rfl (fun (D : Nat → Bool) (σ : Nat → Value) (w : World) => ∃ (v45 : Value) (v47 : Value) (v48 : Value) (v49 : Value) (v51 : Value), doneV D σ [(0, 9, v3_0), (1, 10, (vi p1)), (2, 11, v45), (3, 12, (str p4.Name)), (4, 13, v2), (5, 14, v47), (6, 15, v48), (7, 16, v49), (8, 17, v51)] ∧ agree σ [(1, (vi p1)), (2, v2), (3, (vp b3 0)), (4, v4)] ∧ Holds E w ([bif D 2 then (pt v45 p4.Name) else junk, bif D 6 then (rd v47 x46) else (bif D 5 then (own 28 v47 x46) else junk), bif D 6 then (rd v48 (⟨p1, p4.Name, x46⟩ : Finding)) else junk, bif D 8 then (rd v49 ([(⟨p1, p4.Name, x46⟩ : Finding)] : (List Finding))) else (bif D 7 then (own 96 v49 ([(⟨p1, p4.Name, x46⟩ : Finding)] : (List Finding))) else junk), pt v4 p4, rd v2 p2, bif D 9 then (bc 39 b3 [v51]) else (bc 39 b3 [v3_0]), bif D 8 then (own 96 v51 x50) else (own 96 v3_0 p3_0)] ++ Γ)) ?_ ⟨?_, ?_, ?_, ?_, ?_, ?_, ?_, ?_, ?_, ?_, trivial⟩ ?_
  ·have hw := hw.drew
   have hw := hw.junk
   have hw := hw.junk
   have hw := hw.junk
   have hw := hw.junk
   exact ⟨undef, undef, undef, undef, undef, doneV.none, ⟨rfl, rfl, rfl, rfl, trivial⟩, hw⟩
  ·rintro D σ w hD hdep hcl ⟨v45, v47, v48, v49, v51, hv, ha, hw⟩
   obtain ⟨τ, rfl⟩ := (ac (ha.at 2 rfl) az).ups
   have hw := hw.selF (i := 6) rfl (nf (fun h => ft hD ((hcl 9 _ rfl h).2.2.1 rfl)))
   refine RL.load_bc (i := 6) (v := v3_0) trivial rfl hw rfl rfl rfl ty39 ?_
   have hw := hw.altF (i := 6) (b := D 9) rfl (nf (fun h => ft hD ((hcl 9 _ rfl h).2.2.1 rfl))) (bc 39 b3 [v51])
   refine RL.nil ?_
   exact ⟨rfl, v45, v47, v48, v49, v51, hv.put 0 rfl rfl, ha.up rfl, hw⟩
  ·rintro D σ w hD hdep hcl ⟨v45, v47, v48, v49, v51, hv, ha, hw⟩
   obtain ⟨τ, rfl⟩ := (ac (ha.at 0 rfl) az).ups
   refine mv (vi p1) rfl rfl ?_
   refine RL.nil ?_
   exact ⟨rfl, v45, v47, v48, v49, v51, hv.put 1 rfl rfl, ha.up rfl, hw⟩
  ·rintro D σ w hD hdep hcl ⟨v45, v47, v48, v49, v51, hv, ha, hw⟩
   obtain ⟨τ, rfl⟩ := (ac (ha.at 3 rfl) az).ups
   have hw := hw.selF (i := 0) rfl hD
   refine RL.fa_pt (i := 4) (f := fun (x : Net) => x.Name) trivial rfl hw rfl rfl fa64_0 fd_Net_0 fun v52 hw => ?_
   have hw := hw.pick 9 [0, 2, 3, 4, 5, 6, 7, 8] (new := [pt v52 p4.Name, bif D 6 then (rd v47 x46) else (bif D 5 then (own 28 v47 x46) else junk), bif D 6 then (rd v48 (⟨p1, p4.Name, x46⟩ : Finding)) else junk, bif D 8 then (rd v49 ([(⟨p1, p4.Name, x46⟩ : Finding)] : (List Finding))) else (bif D 7 then (own 96 v49 ([(⟨p1, p4.Name, x46⟩ : Finding)] : (List Finding))) else junk), pt v4 p4, rd v2 p2, bif D 9 then (bc 39 b3 [v51]) else (bc 39 b3 [v3_0]), bif D 8 then (own 96 v51 x50) else (own 96 v3_0 p3_0)]) rfl rfl (by decide) (by decide)
   have hw := hw.altT (i := 0) (b := true) rfl rfl (junk)
   refine RL.nil ?_
   exact ⟨rfl, v52, v47, v48, v49, v51, hv.put 2 rfl rfl, ha.up rfl, hw⟩
  ·rintro D σ w hD hdep hcl ⟨v45, v47, v48, v49, v51, hv, ha, hw⟩
   obtain ⟨τ, rfl⟩ := (ac (hv.at 2 rfl (hdep.1 rfl)) az).ups
   have hw := hw.selT (i := 0) rfl (hdep.1 rfl)
   refine RL.load_pts (i := 0) (y := p4.Name) trivial rfl hw rfl rfl ty9 ?_
   have hw := hw.altT (i := 0) (b := D 2) rfl (hdep.1 rfl) (junk)
   refine RL.nil ?_
   exact ⟨rfl, v45, v47, v48, v49, v51, hv.put 3 rfl rfl, ha.up rfl, hw⟩
  ·rintro D σ w hD hdep hcl ⟨v45, v47, v48, v49, v51, hv, ha, hw⟩
   obtain ⟨τ, rfl⟩ := (ac (ha.at 1 rfl) az).ups
   refine mv v2 rfl rfl ?_
   refine RL.nil ?_
   exact ⟨rfl, v45, v47, v48, v49, v51, hv.put 4 rfl rfl, ha.up rfl, hw⟩
  ·rintro D σ w hD hdep hcl ⟨v45, v47, v48, v49, v51, hv, ha, hw⟩
   obtain ⟨τ, rfl⟩ := (ac (hv.at 4 rfl (hdep.1 rfl)) az).ups
   have hw := hw.selF (i := 1) rfl (nf (fun h => ft hD ((hcl 6 _ rfl h).2.2.1 rfl)))
   have hw := hw.selF (i := 1) rfl hD
   refine RL.call trivial rfl fn55 [v2] rfl (Calls_ret (slices_Clone_Pin_ok N  (i0 := 5) hw rfl hx46) ?_)
   rintro v53 w hw
   have hw := hw.pick 9 [1, 0, 3, 4, 5, 6, 7, 8] (new := [bif D 2 then (pt v45 p4.Name) else junk, own 28 v53 x46, bif D 6 then (rd v48 (⟨p1, p4.Name, x46⟩ : Finding)) else junk, bif D 8 then (rd v49 ([(⟨p1, p4.Name, x46⟩ : Finding)] : (List Finding))) else (bif D 7 then (own 96 v49 ([(⟨p1, p4.Name, x46⟩ : Finding)] : (List Finding))) else junk), pt v4 p4, rd v2 p2, bif D 9 then (bc 39 b3 [v51]) else (bc 39 b3 [v3_0]), bif D 8 then (own 96 v51 x50) else (own 96 v3_0 p3_0)]) rfl rfl (by decide) (by decide)
   have hw := hw.altT (i := 1) (b := true) rfl rfl (junk)
   have hw := hw.altF (i := 1) (b := D 6) rfl (nf (fun h => ft hD ((hcl 6 _ rfl h).2.2.1 rfl))) (rd v53 x46)
   refine RL.nil ?_
   exact ⟨rfl, v45, v53, v48, v49, v51, hv.put 5 rfl rfl, ha.up rfl, hw⟩
  ·rintro D σ w hD hdep hcl ⟨v45, v47, v48, v49, v51, hv, ha, hw⟩
   obtain ⟨τ, rfl⟩ := (ac (hv.at 1 rfl (hdep.1 rfl)) (ac (hv.at 3 rfl (hdep.2.1 rfl)) (ac (hv.at 5 rfl (hdep.2.2.1 rfl)) az))).ups
   have hw := hw.selF (i := 1) rfl hD
   have hw := hw.selT (i := 1) rfl (hdep.2.2.1 rfl)
   have hw := hw.selF (i := 2) rfl hD
   have hw := hw.sc (γ := Int) p1
   have hw := hw.sc (γ := Str) p4.Name
   have hw := hw.freeze (i := 3) rfl
   refine RL.build (y := (⟨p1, p4.Name, x46⟩ : Finding)) trivial rfl hw [(0, (vi p1)), (1, (str p4.Name)), (2, v47)] rfl st96 rfl (fun M hs g => by have h := z_Finding M; exact Fills.cons (f := fun (x : Finding) y => { x with Kind := y }) rfl h fs_Finding_0 (by decide) (g.sat 1 _ rfl).1 fun _ h => Fills.cons (f := fun (x : Finding) y => { x with Net := y }) rfl h fs_Finding_1 (by decide) (g.sat 0 _ rfl).1 fun _ h => Fills.cons (f := fun (x : Finding) y => { x with Pins := y }) rfl h fs_Finding_2 (by decide) (g.sat 3 _ rfl).1 fun _ h => Fills.nil h) fun v54 hw => ?_
   have hw := hw.pick 11 [3, 4, 0, 6, 7, 8, 9, 10] (new := [bif D 2 then (pt v45 p4.Name) else junk, rd v47 x46, rd v54 (⟨p1, p4.Name, x46⟩ : Finding), bif D 8 then (rd v49 ([(⟨p1, p4.Name, x46⟩ : Finding)] : (List Finding))) else (bif D 7 then (own 96 v49 ([(⟨p1, p4.Name, x46⟩ : Finding)] : (List Finding))) else junk), pt v4 p4, rd v2 p2, bif D 9 then (bc 39 b3 [v51]) else (bc 39 b3 [v3_0]), bif D 8 then (own 96 v51 x50) else (own 96 v3_0 p3_0)]) rfl rfl (by decide) (by decide)
   have hw := hw.altT (i := 1) (b := true) rfl rfl (bif D 5 then (own 28 v47 x46) else junk)
   have hw := hw.altT (i := 2) (b := true) rfl rfl (junk)
   refine RL.nil ?_
   exact ⟨rfl, v45, v47, v54, v49, v51, hv.put 6 rfl rfl, ha.up rfl, hw⟩
  ·rintro D σ w hD hdep hcl ⟨v45, v47, v48, v49, v51, hv, ha, hw⟩
   obtain ⟨τ, rfl⟩ := (ac (hv.at 6 rfl (hdep.1 rfl)) az).ups
   have hw := hw.selT (i := 2) rfl (hdep.1 rfl)
   have hw := hw.selF (i := 3) rfl (nf (fun h => ft hD ((hcl 8 _ rfl h).2.1 rfl)))
   have hw := hw.selF (i := 3) rfl hD
   refine RL.bslice (l := ([(⟨p1, p4.Name, x46⟩ : Finding)] : (List Finding))) trivial rfl hw [v48] rfl rfl rfl sl39 ze96 (fun M hs g => ⟨(g.sat 2 _ rfl).1, trivial⟩) fun v55 w hw => ?_
   have hw := hw.pick 9 [1, 2, 3, 0, 5, 6, 7, 8] (new := [bif D 2 then (pt v45 p4.Name) else junk, bif D 6 then (rd v47 x46) else (bif D 5 then (own 28 v47 x46) else junk), rd v48 (⟨p1, p4.Name, x46⟩ : Finding), own 96 v55 ([(⟨p1, p4.Name, x46⟩ : Finding)] : (List Finding)), pt v4 p4, rd v2 p2, bif D 9 then (bc 39 b3 [v51]) else (bc 39 b3 [v3_0]), bif D 8 then (own 96 v51 x50) else (own 96 v3_0 p3_0)]) rfl rfl (by decide) (by decide)
   have hw := hw.altT (i := 2) (b := D 6) rfl (hdep.1 rfl) (junk)
   have hw := hw.altT (i := 3) (b := true) rfl rfl (junk)
   have hw := hw.altF (i := 3) (b := D 8) rfl (nf (fun h => ft hD ((hcl 8 _ rfl h).2.1 rfl))) (rd v55 ([(⟨p1, p4.Name, x46⟩ : Finding)] : (List Finding)))
   refine RL.nil ?_
   exact ⟨rfl, v45, v47, v48, v55, v51, hv.put 7 rfl rfl, ha.up rfl, hw⟩
  ·rintro D σ w hD hdep hcl ⟨v45, v47, v48, v49, v51, hv, ha, hw⟩
   obtain ⟨τ, rfl⟩ := (ac (hv.at 0 rfl (hdep.1 rfl)) (ac (hv.at 7 rfl (hdep.2.1 rfl)) az)).ups
   have hw := hw.selF (i := 3) rfl hD
   have hw := hw.selT (i := 3) rfl (hdep.2.1 rfl)
   have hw := hw.selF (i := 6) rfl (nf (fun h => ft hD ((hcl 9 _ rfl h).1 rfl)))
   have hw := hw.selF (i := 7) rfl hD
   have hw := hw.freeze (i := 3) rfl
   refine RL.app (i := 7) (j := 3) trivial rfl hw rfl rfl rfl rfl el39 hx50 fun v56 w hw => ?_
   have hw := hw.altT (i := 3) (b := true) rfl rfl (bif D 7 then (own 96 v49 ([(⟨p1, p4.Name, x46⟩ : Finding)] : (List Finding))) else junk)
   have hw := hw.altF (i := 6) (b := D 9) rfl (nf (fun h => ft hD ((hcl 9 _ rfl h).1 rfl))) (bc 39 b3 [v56])
   have hw := hw.altT (i := 7) (b := true) rfl rfl (own 96 v3_0 p3_0)
   refine RL.nil ?_
   exact ⟨rfl, v45, v47, v48, v49, v56, hv.put 8 rfl rfl, ha.up rfl, hw⟩
  ·rintro D σ w hD hdep hcl ⟨v45, v47, v48, v49, v51, hv, ha, hw⟩
   obtain ⟨τ, rfl⟩ := (ac (hv.at 8 rfl (hdep.1 rfl)) (ac (ha.at 2 rfl) az)).ups
   have hw := hw.selF (i := 6) rfl hD
   have hw := hw.selT (i := 7) rfl (hdep.1 rfl)
   refine RL.store_bc (i := 6) (v := v51) trivial hw rfl rfl rfl rfl (one_own hw (i := 7) rfl) ty39 fun w hw => ?_
   have hw := hw.altT (i := 6) (b := true) rfl rfl (bc 39 b3 [v3_0])
   have hw := hw.altT (i := 7) (b := D 8) rfl (hdep.1 rfl) (own 96 v3_0 p3_0)
   refine RL.nil ?_
   exact ⟨rfl, v45, v47, v48, v49, v51, hv.no rfl, ha, hw⟩
  rintro D σ w hall ⟨v45, v47, v48, v49, v51, hv, ha, hw⟩
  rw [hall 2 (by decide), hall 5 (by decide), hall 6 (by decide), hall 7 (by decide), hall 8 (by decide), hall 9 (by decide)] at hw
  obtain ⟨τ, rfl⟩ := (ac (ha.at 0 rfl) (ac (ha.at 1 rfl) (ac (ha.at 2 rfl) (ac (ha.at 3 rfl) az)))).ups
  obtain rfl := oi hj
  exact ⟨rfl, v51, ⟨rfl, trivial⟩, hw.pick 8 [6, 7] (new := [bc 39 b3 [v51], own 96 v51 x50]) rfl rfl (by decide) (by decide)⟩
 rintro σ w ⟨v44, ha, hw⟩
 obtain ⟨τ, rfl⟩ := ha.ups
 obtain rfl := oi hb
 refine fin_n ?_
 exact fin0 rfl ⟨v44, rfl, hw.pick 2 [0, 1] (new := [bc 39 b3 [v44], own 96 v44 s43]) rfl rfl (by decide) (by decide)⟩
def netlist_Findings_c2_R (E : World) (Γ : List HP) (b1 : Nat) (v1_0 : Value) (p1_0 : (List (Int × (List Pin)))) (res : Int) (v : Value) (w : World) : Prop := v = (vi res) ∧ Holds E w (bc 92 b1 [v1_0] :: mp v1_0 p1_0 :: Γ)
def netlist_Findings_c2_K (E : World) (Γ : List HP) (b1 : Nat) (v1_0 : Value) (p1_0 : (List (Int × (List Pin)))) (r : Int) (σ : Nat → Value) (w : World) : Prop := finQ Tryd.prog 8 Tryd.f53 (netlist_Findings_c2_R E Γ b1 v1_0 p1_0 r) .ret σ w
theorem netlist_Findings_c2_ok (N : Nat) {E w : World} {Γ : List HP} {p0 : Int} {b1 : Nat} {v1_0 : Value} {p1_0 : (List (Int × (List Pin)))} {res : Int} (hw : Holds E w (bc 92 b1 [v1_0] :: mp v1_0 p1_0 :: Γ))  (hb : netlist_Findings_c2 N p0 p1_0 = some res) :
    Calls Tryd.prog 53 [(vi p0), (vp b1 0)].toArray w (Ret (netlist_Findings_c2_R E Γ b1 v1_0 p1_0 res)) := by
 unfold netlist_Findings_c2 at hb
 refine enter Tryd.func53 rfl rfl (Nat.le_of_ble_eq_true rfl) ?_
 refine RC.sr ?_
 refine as_ (vi 0) rfl rfl ?_
 refine RL.ns ?_
 refine RL.load_bc (i := 0) (v := v1_0) trivial rfl hw rfl rfl rfl ty92 ?_
 refine mv (vi p0) rfl rfl ?_
 refine RL.lookup1 (i := 1) (k := p0) trivial rfl hw rfl rfl rfl mt92 fun v31 hw => ?_
 refine RL.len_rd (i := 0) (l := (mget p1_0 p0 ([] : (List Pin)))) trivial rfl hw rfl rfl un33 ?_
 refine as_ (vi (((mget p1_0 p0 ([] : (List Pin))).length : Nat) : Int)) rfl rfl ?_
 refine RL.nt ?_
 refine RC.ret ?_
 obtain rfl := oi hb
 exact fin1 rfl rfl ⟨rfl, hw.pick 3 [1, 2] (new := [bc 92 b1 [v1_0], mp v1_0 p1_0]) rfl rfl (by decide) (by decide)⟩
end Go.Gk
