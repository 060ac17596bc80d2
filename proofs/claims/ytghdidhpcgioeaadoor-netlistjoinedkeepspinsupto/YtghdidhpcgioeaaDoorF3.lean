/-
  Printed by gen.py: Go functions as plain functions, and that they are.
-/
import Derived.Test.YtghdidhpcgioeaaDoorT
import Derived.Test.YtghdidhpcgioeaaDoorS
import Derived.Test.YtghdidhpcgioeaaDoorF1
import Derived.Test.YtghdidhpcgioeaaDoorF2
set_option linter.unusedVariables false
set_option linter.unusedSimpArgs false
set_option linter.unusedSectionVars false
set_option maxRecDepth 100000
set_option maxHeartbeats 4000000

namespace Go.Gk
open Go Go.Proofs
def netlist_Own_R (E : World) (Γ : List HP) (res : ((List Part) × (List Net))) (v : Value) (w : World) : Prop := ∃ (u0_0 : Value) (u0_1 : Value) (uw0_1 : List Net_r1), v = (.agg ([u0_0, u0_1] : List Value).toArray) ∧ Holds E w (own 36 u0_0 res.1 :: own 39 u0_1 uw0_1 :: bag XF_Net_r1 uw0_1 res.2 none :: Γ)
def netlist_Own_K (E : World) (Γ : List HP) (r : ((List Part) × (List Net))) (σ : Nat → Value) (w : World) : Prop := finQ Tryd.prog 37 Tryd.f27 (netlist_Own_R E Γ r) .ret σ w
theorem netlist_Own_ok (N : Nat) {E w : World} {Γ : List HP} {i0 : Nat} {v0 : Value} {p0 : Netlist} {res : ((List Part) × (List Net))} (hw : Holds E w Γ) (h0 : Γ[i0]? = some (rd v0 p0)) (hb : netlist_Own N p0 = some res) :
    Calls Tryd.prog 27 [v0].toArray w (Ret (netlist_Own_R E Γ res)) := by
 unfold netlist_Own at hb
 refine enter Tryd.func27 rfl rfl (Nat.le_of_ble_eq_true rfl) ?_
 have hw := hw.dup (i := i0 + 0) h0
 refine RC.sr ?_
 refine RL.box_rd (i := 0) (v := v0) trivial rfl hw rfl rfl fun b31 w hw => ?_
 refine RL.alloc_bc trivial rfl hw zc26 rfl fun b32 w hw => ?_
 refine RL.nq ?_
 obtain ⟨x34, hx34, hb⟩ := bd hb
 obtain ⟨x37, hx37, hb⟩ := bd hb
 refine RC.drw mixed rfl (fun (D : Nat → Bool) (σ : Nat → Value) (w : World) => ∃ (v33 : Value) (v35 : Value) (v36 : Value) (v38 : Value) (v40 : Value), doneV D σ [(0, 4, (vp b31 0)), (1, 5, v33), (2, 6, v35), (3, 7, (vp b31 1)), (4, 8, v36), (5, 9, v38), (6, 10, (vp b31 0)), (8, 11, (vp b31 1))] ∧ agree σ [(1, (vp b31 0)), (2, (vp b32 0))] ∧ Holds E w ([bif D 1 then (rd v33 p0.Parts) else junk, bif D 2 then (own 36 v35 x34) else junk, bif D 4 then (rd v36 p0.Nets) else junk, bif D 5 then (own 39 v38 x37) else junk, bif D 7 then (rd v40 p0.Nets) else junk, bc 26 b32 [(.slice none 0 0), (.slice none 0 0)], bif D 9 then (bc 26 b31 [v35, v38]) else (bif D 7 then (bc 26 b31 [v35, v40]) else (bx 26 b31 p0)), rd v0 p0] ++ Γ)) ?_ ⟨?_, ?_, ?_, ?_, ?_, ?_, ?_, ?_, ?_, ?_, trivial⟩ ?_
 ·have hw := hw.drew
  have hw := hw.junk
  have hw := hw.junk
  have hw := hw.junk
  have hw := hw.junk
  have hw := hw.junk
  exact ⟨undef, undef, undef, undef, undef, doneV.none, ⟨rfl, rfl, trivial⟩, hw⟩
 ·rintro D σ w hD hdep hcl ⟨v33, v35, v36, v38, v40, hv, ha, hw⟩
  obtain ⟨τ, rfl⟩ := (ac (ha.at 0 rfl) az).ups
  refine RL.fa_b trivial rfl rfl fa26_0 ?_
  refine RL.nil ?_
  exact ⟨rfl, v33, v35, v36, v38, v40, hv.put 0 rfl rfl, ha.up rfl, hw⟩
 ·rintro D σ w hD hdep hcl ⟨v33, v35, v36, v38, v40, hv, ha, hw⟩
  obtain ⟨τ, rfl⟩ := (ac (hv.at 0 rfl (hdep.1 rfl)) az).ups
  have hw := hw.selF (i := 0) rfl hD
  have hw := hw.selF (i := 6) rfl (nf (fun h => ft hD ((hcl 9 _ rfl h).2.2.2.2.1 rfl)))
  have hw := hw.selF (i := 6) rfl (nf (fun h => ft hD ((hcl 7 _ rfl h).2.2.2.2.1 rfl)))
  refine RL.load_bf (i := 6) (f := (fun x => x.Parts)) trivial rfl hw rfl rfl fd_Netlist_0 ty23 fun v41 hw => ?_
  have hw := hw.pick 9 [0, 2, 3, 4, 5, 6, 7, 8] (new := [rd v41 p0.Parts, bif D 2 then (own 36 v35 x34) else junk, bif D 4 then (rd v36 p0.Nets) else junk, bif D 5 then (own 39 v38 x37) else junk, bif D 7 then (rd v40 p0.Nets) else junk, bc 26 b32 [(.slice none 0 0), (.slice none 0 0)], bx 26 b31 p0, rd v0 p0]) rfl rfl (by decide) (by decide)
  have hw := hw.altT (i := 0) (b := true) rfl rfl (junk)
  have hw := hw.altF (i := 6) (b := D 7) rfl (nf (fun h => ft hD ((hcl 7 _ rfl h).2.2.2.2.1 rfl))) (bc 26 b31 [v35, v40])
  have hw := hw.altF (i := 6) (b := D 9) rfl (nf (fun h => ft hD ((hcl 9 _ rfl h).2.2.2.2.1 rfl))) (bc 26 b31 [v35, v38])
  refine RL.nil ?_
  exact ⟨rfl, v41, v35, v36, v38, v40, hv.put 1 rfl rfl, ha.up rfl, hw⟩
 ·rintro D σ w hD hdep hcl ⟨v33, v35, v36, v38, v40, hv, ha, hw⟩
  obtain ⟨τ, rfl⟩ := (ac (hv.at 1 rfl (hdep.1 rfl)) az).ups
  have hw := hw.selT (i := 0) rfl (hdep.1 rfl)
  have hw := hw.selF (i := 1) rfl hD
  have hw := hw.selF (i := 6) rfl (nf (fun h => ft hD ((hcl 9 _ rfl h).2.2.2.2.2.1 rfl)))
  have hw := hw.selF (i := 6) rfl (nf (fun h => ft hD ((hcl 7 _ rfl h).2.1 rfl)))
  refine RL.call trivial rfl fn58 [v33] rfl (Calls_ret (slices_Clone_Part_ok N  (i0 := 0) hw rfl hx34) ?_)
  rintro v42 w hw
  have hw := hw.pick 9 [1, 0, 3, 4, 5, 6, 7, 8] (new := [rd v33 p0.Parts, own 36 v42 x34, bif D 4 then (rd v36 p0.Nets) else junk, bif D 5 then (own 39 v38 x37) else junk, bif D 7 then (rd v40 p0.Nets) else junk, bc 26 b32 [(.slice none 0 0), (.slice none 0 0)], bx 26 b31 p0, rd v0 p0]) rfl rfl (by decide) (by decide)
  have hw := hw.altT (i := 0) (b := D 1) rfl (hdep.1 rfl) (junk)
  have hw := hw.altT (i := 1) (b := true) rfl rfl (junk)
  have hw := hw.altF (i := 6) (b := D 7) rfl (nf (fun h => ft hD ((hcl 7 _ rfl h).2.1 rfl))) (bc 26 b31 [v42, v40])
  have hw := hw.altF (i := 6) (b := D 9) rfl (nf (fun h => ft hD ((hcl 9 _ rfl h).2.2.2.2.2.1 rfl))) (bc 26 b31 [v42, v38])
  refine RL.nil ?_
  exact ⟨rfl, v33, v42, v36, v38, v40, hv.put 2 rfl rfl, ha.up rfl, hw⟩
 ·rintro D σ w hD hdep hcl ⟨v33, v35, v36, v38, v40, hv, ha, hw⟩
  obtain ⟨τ, rfl⟩ := (ac (ha.at 0 rfl) az).ups
  refine RL.fa_b trivial rfl rfl fa26_1 ?_
  refine RL.nil ?_
  exact ⟨rfl, v33, v35, v36, v38, v40, hv.put 3 rfl rfl, ha.up rfl, hw⟩
 ·rintro D σ w hD hdep hcl ⟨v33, v35, v36, v38, v40, hv, ha, hw⟩
  obtain ⟨τ, rfl⟩ := (ac (hv.at 3 rfl (hdep.1 rfl)) az).ups
  have hw := hw.selF (i := 2) rfl hD
  have hw := hw.selF (i := 6) rfl (nf (fun h => ft hD ((hcl 9 _ rfl h).2.2.2.2.2.2.2.1 rfl)))
  have hw := hw.selF (i := 6) rfl (nf (fun h => ft hD ((hcl 7 _ rfl h).2.2.2.2.2.2.2.1 rfl)))
  refine RL.load_bf (i := 6) (f := (fun x => x.Nets)) trivial rfl hw rfl rfl fd_Netlist_1 ty24 fun v43 hw => ?_
  have hw := hw.pick 9 [1, 2, 0, 4, 5, 6, 7, 8] (new := [bif D 1 then (rd v33 p0.Parts) else junk, bif D 2 then (own 36 v35 x34) else junk, rd v43 p0.Nets, bif D 5 then (own 39 v38 x37) else junk, bif D 7 then (rd v40 p0.Nets) else junk, bc 26 b32 [(.slice none 0 0), (.slice none 0 0)], bx 26 b31 p0, rd v0 p0]) rfl rfl (by decide) (by decide)
  have hw := hw.altT (i := 2) (b := true) rfl rfl (junk)
  have hw := hw.altF (i := 6) (b := D 7) rfl (nf (fun h => ft hD ((hcl 7 _ rfl h).2.2.2.2.2.2.2.1 rfl))) (bc 26 b31 [v35, v40])
  have hw := hw.altF (i := 6) (b := D 9) rfl (nf (fun h => ft hD ((hcl 9 _ rfl h).2.2.2.2.2.2.2.1 rfl))) (bc 26 b31 [v35, v38])
  refine RL.nil ?_
  exact ⟨rfl, v33, v35, v43, v38, v40, hv.put 4 rfl rfl, ha.up rfl, hw⟩
 ·rintro D σ w hD hdep hcl ⟨v33, v35, v36, v38, v40, hv, ha, hw⟩
  obtain ⟨τ, rfl⟩ := (ac (hv.at 4 rfl (hdep.1 rfl)) az).ups
  have hw := hw.selT (i := 2) rfl (hdep.1 rfl)
  have hw := hw.selF (i := 3) rfl hD
  have hw := hw.selF (i := 6) rfl (nf (fun h => ft hD ((hcl 9 _ rfl h).2.1 rfl)))
  have hw := hw.selF (i := 6) rfl (nf (fun h => ft hD ((hcl 7 _ rfl h).2.2.1 rfl)))
  refine RL.call trivial rfl fn59 [v36] rfl (Calls_ret (slices_Clone_Net_ok N  (i0 := 2) hw rfl hx37) ?_)
  rintro v44 w hw
  have hw := hw.pick 9 [1, 2, 3, 0, 5, 6, 7, 8] (new := [bif D 1 then (rd v33 p0.Parts) else junk, bif D 2 then (own 36 v35 x34) else junk, rd v36 p0.Nets, own 39 v44 x37, bif D 7 then (rd v40 p0.Nets) else junk, bc 26 b32 [(.slice none 0 0), (.slice none 0 0)], bx 26 b31 p0, rd v0 p0]) rfl rfl (by decide) (by decide)
  have hw := hw.altT (i := 2) (b := D 4) rfl (hdep.1 rfl) (junk)
  have hw := hw.altT (i := 3) (b := true) rfl rfl (junk)
  have hw := hw.altF (i := 6) (b := D 7) rfl (nf (fun h => ft hD ((hcl 7 _ rfl h).2.2.1 rfl))) (bc 26 b31 [v35, v40])
  have hw := hw.altF (i := 6) (b := D 9) rfl (nf (fun h => ft hD ((hcl 9 _ rfl h).2.1 rfl))) (bc 26 b31 [v35, v44])
  refine RL.nil ?_
  exact ⟨rfl, v33, v35, v36, v44, v40, hv.put 5 rfl rfl, ha.up rfl, hw⟩
 ·rintro D σ w hD hdep hcl ⟨v33, v35, v36, v38, v40, hv, ha, hw⟩
  obtain ⟨τ, rfl⟩ := (ac (ha.at 0 rfl) az).ups
  refine RL.fa_b trivial rfl rfl fa26_0 ?_
  refine RL.nil ?_
  exact ⟨rfl, v33, v35, v36, v38, v40, hv.put 6 rfl rfl, ha.up rfl, hw⟩
 ·rintro D σ w hD hdep hcl ⟨v33, v35, v36, v38, v40, hv, ha, hw⟩
  obtain ⟨τ, rfl⟩ := (ac (hv.at 2 rfl (hdep.2.1 rfl)) (ac (hv.at 6 rfl (hdep.1 rfl)) az)).ups
  have hw := hw.selT (i := 1) rfl (hdep.2.1 rfl)
  have hw := hw.selF (i := 4) rfl hD
  have hw := hw.selF (i := 6) rfl (nf (fun h => ft hD ((hcl 9 _ rfl h).2.2.1 rfl)))
  have hw := hw.selF (i := 6) rfl hD
  obtain ⟨cs, hcs, hw⟩ := hw.open_bx (i := 6) rfl
  obtain ⟨v45, v46, rfl⟩ := len2 hcs
  have hw := hw.fld (i := 0) (k := 0) (f := fun x => x.Parts) rfl fd_Netlist_0 rfl rfl rfl
  have hw := hw.fld (i := 1) (k := 1) (f := fun x => x.Nets) rfl fd_Netlist_1 rfl rfl rfl
  refine RL.store_bc (i := 9) (v := v35) trivial hw rfl rfl rfl rfl (one_own hw (i := 4) rfl) ty23 fun w hw => ?_
  have hw := hw.pick 11 [3, 4, 5, 6, 0, 8, 9, 10] (new := [bif D 1 then (rd v33 p0.Parts) else junk, own 36 v35 x34, bif D 4 then (rd v36 p0.Nets) else junk, bif D 5 then (own 39 v38 x37) else junk, rd v46 p0.Nets, bc 26 b32 [(.slice none 0 0), (.slice none 0 0)], bc 26 b31 [v35, v46], rd v0 p0]) rfl rfl (by decide) (by decide)
  have hw := hw.altT (i := 1) (b := D 2) rfl (hdep.2.1 rfl) (junk)
  have hw := hw.altT (i := 4) (b := true) rfl rfl (junk)
  have hw := hw.altT (i := 6) (b := true) rfl rfl (bx 26 b31 p0)
  have hw := hw.altF (i := 6) (b := D 9) rfl (nf (fun h => ft hD ((hcl 9 _ rfl h).2.2.1 rfl))) (bc 26 b31 [v35, v38])
  refine RL.nil ?_
  exact ⟨rfl, v33, v35, v36, v38, v46, hv.no rfl, ha, hw⟩
 ·rintro D σ w hD hdep hcl ⟨v33, v35, v36, v38, v40, hv, ha, hw⟩
  obtain ⟨τ, rfl⟩ := (ac (ha.at 0 rfl) az).ups
  refine RL.fa_b trivial rfl rfl fa26_1 ?_
  refine RL.nil ?_
  exact ⟨rfl, v33, v35, v36, v38, v40, hv.put 7 rfl rfl, ha.up rfl, hw⟩
 ·rintro D σ w hD hdep hcl ⟨v33, v35, v36, v38, v40, hv, ha, hw⟩
  obtain ⟨τ, rfl⟩ := (ac (hv.at 5 rfl (hdep.2.1 rfl)) (ac (hv.at 7 rfl (hdep.1 rfl)) az)).ups
  have hw := hw.selT (i := 3) rfl (hdep.2.1 rfl)
  have hw := hw.selF (i := 6) rfl hD
  have hw := hw.selT (i := 6) rfl (hdep.2.2.1 rfl)
  refine RL.store_bc (i := 6) (v := v38) trivial hw rfl rfl rfl rfl (one_own hw (i := 3) rfl) ty24 fun w hw => ?_
  have hw := hw.altT (i := 3) (b := D 5) rfl (hdep.2.1 rfl) (junk)
  have hw := hw.altT (i := 6) (b := true) rfl rfl (bif D 7 then (bc 26 b31 [v35, v40]) else (bx 26 b31 p0))
  refine RL.nil ?_
  exact ⟨rfl, v33, v35, v36, v38, v40, hv.no rfl, ha, hw⟩
 rintro D σ w hall ⟨v33, v35, v36, v38, v40, hv, ha, hw⟩
 rw [hall 1 (by decide), hall 2 (by decide), hall 4 (by decide), hall 5 (by decide), hall 7 (by decide), hall 9 (by decide)] at hw
 obtain ⟨τ, rfl⟩ := (ac (ha.at 0 rfl) (ac (ha.at 1 rfl) az)).ups
 refine thenQ_n ?_
 refine RC.seq ?_
 refine RC.sr ?_
 refine RL.fa_b trivial rfl rfl fa26_1 ?_
 refine RL.load_bc (i := 6) (v := v38) trivial rfl hw rfl rfl rfl ty24 ?_
 refine RL.len_own (i := 3) (l := x37) trivial rfl hw rfl rfl un24 ?_
 refine mv (vi 0) rfl rfl ?_
 refine RL.nt ?_
 obtain ⟨us47, hw⟩ := Holds.to_flags (X := XF_Net_r1) (f := fun u => u.Pins) (gg := fun x => x.Pins) (j := 3) rfl xraw_Net_r1 hw rfl
 obtain ⟨s49, hN, hb⟩ := bd hb
 refine RC.fold (fun (k48 : Nat) (s49 : (List (Bool × Net))) (σ : Nat → Value) (w : World) => ∃ (us138 : List Net_r1), agree σ [(1, (vp b31 0)), (2, (vp b32 0)), (14, (vi (x37.length : Int))), (15, (vi (k48 : Int)))] ∧ Holds E w ([bc 26 b31 [v35, v38], own 36 v35 x34, own 39 v38 us138, bag (XB XF_Net_r1 (fun u => u.Pins) (fun x => x.Pins)) us138 s49 none, bc 26 b32 [(.slice none 0 0), (.slice none 0 0)]] ++ Γ)) (fun (s49 : (List (Bool × Net))) (σ : Nat → Value) (w : World) => ∃ (us139 : List Net_r1), agree σ [(1, (vp b31 0)), (2, (vp b32 0))] ∧ Holds E w ([bc 26 b31 [v35, v38], own 36 v35 x34, own 39 v38 us139, bag (XB XF_Net_r1 (fun u => u.Pins) (fun x => x.Pins)) us139 s49 none, bc 26 b32 [(.slice none 0 0), (.slice none 0 0)]] ++ Γ)) hN ?_ ?_ ?_ ?_
 ·exact ⟨us47, ⟨rfl, rfl, rfl, rfl, trivial⟩, hw.pick 9 [7, 2, 4, 0, 6] (new := [bc 26 b31 [v35, v38], own 36 v35 x34, own 39 v38 us47, bag (XB XF_Net_r1 (fun u => u.Pins) (fun x => x.Pins)) us47 (x37.map fun x => (false, x)) none, bc 26 b32 [(.slice none 0 0), (.slice none 0 0)]]) rfl rfl (by decide) (by decide)⟩
 ·intro hm s49 σ w hI
  obtain ⟨us184, ha, hw⟩ := hI
  obtain ⟨τ, rfl⟩ := ha.ups
  refine RC.sr ?_
  refine ic ((x37.length : Int)) ((x37.length : Int)) rfl rfl rfl rfl ?_
  refine RL.nq ?_
  refine RC.cond_f dge ?_
  refine RC.ex ?_
  exact ⟨rfl, us184, ⟨rfl, rfl, trivial⟩, hw.pick 5 [0, 1, 2, 3, 4] (new := [bc 26 b31 [v35, v38], own 36 v35 x34, own 39 v38 us184, bag (XB XF_Net_r1 (fun u => u.Pins) (fun x => x.Pins)) us184 s49 none, bc 26 b32 [(.slice none 0 0), (.slice none 0 0)]]) rfl rfl (by decide) (by decide)⟩
 ·intro hm k48 s49 s' σ w hk hI hb
  obtain ⟨us140, ha, hw⟩ := hI
  obtain ⟨τ, rfl⟩ := ha.ups
  refine RC.sr ?_
  refine ic ((k48 : Int)) ((x37.length : Int)) rfl rfl rfl rfl ?_
  refine RL.nq ?_
  refine RC.cond_t (dlt hk) ?_
  refine RC.ss ?_
  refine RC.bs ?_
  refine mv (vi (k48 : Int)) rfl rfl ?_
  refine as_ (vi (k48 : Int)) rfl rfl ?_
  refine RL.nt ?_
  obtain ⟨x141, hx141, hb⟩ := bd hb
  obtain ⟨x148, hx148, hb⟩ := bd hb
  obtain ⟨x149, hx149, hb⟩ := bd hb
  obtain ⟨x151, hx151, hb⟩ := bd hb
  obtain ⟨x158, hx158, hb⟩ := bd hb
  refine RC.drw mixed rfl (fun (D : Nat → Bool) (σ : Nat → Value) (w : World) => ∃ (v150 : Value), doneV D σ [(0, 18, (vp b31 1)), (1, 19, v38), (2, 20, (vi (k48 : Int))), (3, 21, (vp b31 1)), (4, 22, v38), (5, 23, (vi (k48 : Int))), (6, 24, (vp b31 1)), (7, 25, v38), (8, 26, (vi (k48 : Int))), (9, 27, (elA v38 (Int.toNat (k48 : Int)) 3 0)), (10, 28, (elA v38 (Int.toNat (k48 : Int)) 3 1)), (11, 29, (us140.getD (Int.toNat (k48 : Int)) (default : Net_r1)).Pins.v), (12, 30, v150), (13, 31, (elA v38 (Int.toNat (k48 : Int)) 3 0)), (14, 32, (elA v38 (Int.toNat (k48 : Int)) 3 1)), (16, 33, (elA v38 (Int.toNat (k48 : Int)) 3 0)), (17, 34, (elA v38 (Int.toNat (k48 : Int)) 3 2))] ∧ agree σ [(1, (vp b31 0)), (2, (vp b32 0)), (3, (vi (k48 : Int))), (14, (vi (x37.length : Int))), (15, (vi (k48 : Int)))] ∧ Holds E w ([bif D 11 then (rd (us140.getD (Int.toNat (k48 : Int)) (default : Net_r1)).Pins.v x148.Pins) else junk, bif D 15 then (junk) else (bif D 12 then (own 45 v150 x149) else junk), bc 26 b31 [v35, v38], own 36 v35 x34, bif D 18 then (own 39 v38 ((us140.set (Int.toNat (k48 : Int)) { (us140.getD (Int.toNat (k48 : Int)) (default : Net_r1)) with Pins := rv v150 }).set (Int.toNat (k48 : Int)) { ((us140.set (Int.toNat (k48 : Int)) { (us140.getD (Int.toNat (k48 : Int)) (default : Net_r1)) with Pins := rv v150 }).getD (Int.toNat (k48 : Int)) (default : Net_r1)) with Ports := ([] : (List Str)) })) else (bif D 15 then (own 39 v38 (us140.set (Int.toNat (k48 : Int)) { (us140.getD (Int.toNat (k48 : Int)) (default : Net_r1)) with Pins := rv v150 })) else (own 39 v38 us140)), bif D 18 then (bag (XB XF_Net_r1 (fun u => u.Pins) (fun x => x.Pins)) ((us140.set (Int.toNat (k48 : Int)) { (us140.getD (Int.toNat (k48 : Int)) (default : Net_r1)) with Pins := rv v150 }).set (Int.toNat (k48 : Int)) { ((us140.set (Int.toNat (k48 : Int)) { (us140.getD (Int.toNat (k48 : Int)) (default : Net_r1)) with Pins := rv v150 }).getD (Int.toNat (k48 : Int)) (default : Net_r1)) with Ports := ([] : (List Str)) }) ((s49.set (Int.toNat (k48 : Int)) (true, { x151.2 with Pins := x149 })).set (Int.toNat (k48 : Int)) (x158.1, { x158.2 with Ports := ([] : (List Str)) })) none) else (bif D 15 then (bag (XB XF_Net_r1 (fun u => u.Pins) (fun x => x.Pins)) (us140.set (Int.toNat (k48 : Int)) { (us140.getD (Int.toNat (k48 : Int)) (default : Net_r1)) with Pins := rv v150 }) (s49.set (Int.toNat (k48 : Int)) (true, { x151.2 with Pins := x149 })) none) else (bag (XB XF_Net_r1 (fun u => u.Pins) (fun x => x.Pins)) us140 s49 none)), bc 26 b32 [(.slice none 0 0), (.slice none 0 0)]] ++ Γ)) ?_ ⟨?_, ?_, ?_, ?_, ?_, ?_, ?_, ?_, ?_, ?_, ?_, ?_, ?_, ?_, ?_, ?_, ?_, ?_, ?_, trivial⟩ ?_
  ·have hw := hw.drew
   have hw := hw.junk
   have hw := hw.junk
   exact ⟨undef, doneV.none, ⟨rfl, rfl, rfl, rfl, rfl, trivial⟩, hw⟩
  ·rintro D σ w hD hdep hcl ⟨v150, hv, ha, hw⟩
   obtain ⟨τ, rfl⟩ := (ac (ha.at 0 rfl) az).ups
   refine RL.fa_b trivial rfl rfl fa26_1 ?_
   refine RL.nil ?_
   exact ⟨rfl, v150, hv.put 0 rfl rfl, ha.up rfl, hw⟩
  ·rintro D σ w hD hdep hcl ⟨v150, hv, ha, hw⟩
   obtain ⟨τ, rfl⟩ := (ac (hv.at 0 rfl (hdep.1 rfl)) az).ups
   refine RL.load_bc (i := 2) (v := v38) trivial rfl hw rfl rfl rfl ty24 ?_
   refine RL.nil ?_
   exact ⟨rfl, v150, hv.put 1 rfl rfl, ha.up rfl, hw⟩
  ·rintro D σ w hD hdep hcl ⟨v150, hv, ha, hw⟩
   obtain ⟨τ, rfl⟩ := (ac (ha.at 2 rfl) az).ups
   refine mv (vi (k48 : Int)) rfl rfl ?_
   refine RL.nil ?_
   exact ⟨rfl, v150, hv.put 2 rfl rfl, ha.up rfl, hw⟩
  ·rintro D σ w hD hdep hcl ⟨v150, hv, ha, hw⟩
   obtain ⟨τ, rfl⟩ := (ac (ha.at 0 rfl) az).ups
   refine RL.fa_b trivial rfl rfl fa26_1 ?_
   refine RL.nil ?_
   exact ⟨rfl, v150, hv.put 3 rfl rfl, ha.up rfl, hw⟩
  ·rintro D σ w hD hdep hcl ⟨v150, hv, ha, hw⟩
   obtain ⟨τ, rfl⟩ := (ac (hv.at 3 rfl (hdep.1 rfl)) az).ups
   refine RL.load_bc (i := 2) (v := v38) trivial rfl hw rfl rfl rfl ty24 ?_
   refine RL.nil ?_
   exact ⟨rfl, v150, hv.put 4 rfl rfl, ha.up rfl, hw⟩
  ·rintro D σ w hD hdep hcl ⟨v150, hv, ha, hw⟩
   obtain ⟨τ, rfl⟩ := (ac (ha.at 2 rfl) az).ups
   refine mv (vi (k48 : Int)) rfl rfl ?_
   refine RL.nil ?_
   exact ⟨rfl, v150, hv.put 5 rfl rfl, ha.up rfl, hw⟩
  ·rintro D σ w hD hdep hcl ⟨v150, hv, ha, hw⟩
   obtain ⟨τ, rfl⟩ := (ac (ha.at 0 rfl) az).ups
   refine RL.fa_b trivial rfl rfl fa26_1 ?_
   refine RL.nil ?_
   exact ⟨rfl, v150, hv.put 6 rfl rfl, ha.up rfl, hw⟩
  ·rintro D σ w hD hdep hcl ⟨v150, hv, ha, hw⟩
   obtain ⟨τ, rfl⟩ := (ac (hv.at 6 rfl (hdep.1 rfl)) az).ups
   refine RL.load_bc (i := 2) (v := v38) trivial rfl hw rfl rfl rfl ty24 ?_
   refine RL.nil ?_
   exact ⟨rfl, v150, hv.put 7 rfl rfl, ha.up rfl, hw⟩
  ·rintro D σ w hD hdep hcl ⟨v150, hv, ha, hw⟩
   obtain ⟨τ, rfl⟩ := (ac (ha.at 2 rfl) az).ups
   refine mv (vi (k48 : Int)) rfl rfl ?_
   refine RL.nil ?_
   exact ⟨rfl, v150, hv.put 8 rfl rfl, ha.up rfl, hw⟩
  ·rintro D σ w hD hdep hcl ⟨v150, hv, ha, hw⟩
   obtain ⟨τ, rfl⟩ := (ac (hv.at 7 rfl (hdep.1 rfl)) (ac (hv.at 8 rfl (hdep.2.1 rfl)) az)).ups
   have hw := hw.selF (i := 4) rfl (nf (fun h => ft hD ((hcl 18 _ rfl h).2.2.2.2.2.2.2.2.2.2.2.1 rfl)))
   have hw := hw.selF (i := 4) rfl (nf (fun h => ft hD ((hcl 15 _ rfl h).2.2.2.2.2.2.2.2.2.2.2.2.1 rfl)))
   have hw := hw.selF (i := 5) rfl (nf (fun h => ft hD ((hcl 18 _ rfl h).2.2.2.2.2.2.2.2.2.2.2.1 rfl)))
   have hw := hw.selF (i := 5) rfl (nf (fun h => ft hD ((hcl 15 _ rfl h).2.2.2.2.2.2.2.2.2.2.2.2.1 rfl)))
   have hl165 := hw.bag_len (j := 5) rfl
   have hr166 := idx_raw (default : Net_r1) hl165 hx141
   refine RL.ia_ownA (i := 4) trivial rfl hw rfl rfl rfl sl24 hr166 ?_
   have hw := hw.altF (i := 4) (b := D 15) rfl (nf (fun h => ft hD ((hcl 15 _ rfl h).2.2.2.2.2.2.2.2.2.2.2.2.1 rfl))) (own 39 v38 (us140.set (Int.toNat (k48 : Int)) { (us140.getD (Int.toNat (k48 : Int)) (default : Net_r1)) with Pins := rv v150 }))
   have hw := hw.altF (i := 4) (b := D 18) rfl (nf (fun h => ft hD ((hcl 18 _ rfl h).2.2.2.2.2.2.2.2.2.2.2.1 rfl))) (own 39 v38 ((us140.set (Int.toNat (k48 : Int)) { (us140.getD (Int.toNat (k48 : Int)) (default : Net_r1)) with Pins := rv v150 }).set (Int.toNat (k48 : Int)) { ((us140.set (Int.toNat (k48 : Int)) { (us140.getD (Int.toNat (k48 : Int)) (default : Net_r1)) with Pins := rv v150 }).getD (Int.toNat (k48 : Int)) (default : Net_r1)) with Ports := ([] : (List Str)) }))
   have hw := hw.altF (i := 5) (b := D 15) rfl (nf (fun h => ft hD ((hcl 15 _ rfl h).2.2.2.2.2.2.2.2.2.2.2.2.1 rfl))) (bag (XB XF_Net_r1 (fun u => u.Pins) (fun x => x.Pins)) (us140.set (Int.toNat (k48 : Int)) { (us140.getD (Int.toNat (k48 : Int)) (default : Net_r1)) with Pins := rv v150 }) (s49.set (Int.toNat (k48 : Int)) (true, { x151.2 with Pins := x149 })) none)
   have hw := hw.altF (i := 5) (b := D 18) rfl (nf (fun h => ft hD ((hcl 18 _ rfl h).2.2.2.2.2.2.2.2.2.2.2.1 rfl))) (bag (XB XF_Net_r1 (fun u => u.Pins) (fun x => x.Pins)) ((us140.set (Int.toNat (k48 : Int)) { (us140.getD (Int.toNat (k48 : Int)) (default : Net_r1)) with Pins := rv v150 }).set (Int.toNat (k48 : Int)) { ((us140.set (Int.toNat (k48 : Int)) { (us140.getD (Int.toNat (k48 : Int)) (default : Net_r1)) with Pins := rv v150 }).getD (Int.toNat (k48 : Int)) (default : Net_r1)) with Ports := ([] : (List Str)) }) ((s49.set (Int.toNat (k48 : Int)) (true, { x151.2 with Pins := x149 })).set (Int.toNat (k48 : Int)) (x158.1, { x158.2 with Ports := ([] : (List Str)) })) none)
   refine RL.nil ?_
   exact ⟨rfl, v150, hv.put 9 rfl rfl, ha.up rfl, hw⟩
  ·rintro D σ w hD hdep hcl ⟨v150, hv, ha, hw⟩
   obtain ⟨τ, rfl⟩ := (ac (hv.at 9 rfl (hdep.1 rfl)) az).ups
   have hw := hw.selF (i := 4) rfl (nf (fun h => ft hD ((hcl 18 _ rfl h).2.2.2.2.2.2.2.2.2.2.2.2.1 rfl)))
   have hw := hw.selF (i := 4) rfl (nf (fun h => ft hD ((hcl 15 _ rfl h).2.2.2.2.2.2.2.2.2.2.2.2.2.1 rfl)))
   have hw := hw.selF (i := 5) rfl (nf (fun h => ft hD ((hcl 18 _ rfl h).2.2.2.2.2.2.2.2.2.2.2.2.1 rfl)))
   have hw := hw.selF (i := 5) rfl (nf (fun h => ft hD ((hcl 15 _ rfl h).2.2.2.2.2.2.2.2.2.2.2.2.2.1 rfl)))
   have hl167 := hw.bag_len (j := 5) rfl
   have hr168 := idx_raw (default : Net_r1) hl167 hx141
   refine RL.fa_elA (α := Net_r1) trivial rfl rfl (elp hw (i := 4) rfl hr168 0) fa39_1 ?_
   have hw := hw.altF (i := 4) (b := D 15) rfl (nf (fun h => ft hD ((hcl 15 _ rfl h).2.2.2.2.2.2.2.2.2.2.2.2.2.1 rfl))) (own 39 v38 (us140.set (Int.toNat (k48 : Int)) { (us140.getD (Int.toNat (k48 : Int)) (default : Net_r1)) with Pins := rv v150 }))
   have hw := hw.altF (i := 4) (b := D 18) rfl (nf (fun h => ft hD ((hcl 18 _ rfl h).2.2.2.2.2.2.2.2.2.2.2.2.1 rfl))) (own 39 v38 ((us140.set (Int.toNat (k48 : Int)) { (us140.getD (Int.toNat (k48 : Int)) (default : Net_r1)) with Pins := rv v150 }).set (Int.toNat (k48 : Int)) { ((us140.set (Int.toNat (k48 : Int)) { (us140.getD (Int.toNat (k48 : Int)) (default : Net_r1)) with Pins := rv v150 }).getD (Int.toNat (k48 : Int)) (default : Net_r1)) with Ports := ([] : (List Str)) }))
   have hw := hw.altF (i := 5) (b := D 15) rfl (nf (fun h => ft hD ((hcl 15 _ rfl h).2.2.2.2.2.2.2.2.2.2.2.2.2.1 rfl))) (bag (XB XF_Net_r1 (fun u => u.Pins) (fun x => x.Pins)) (us140.set (Int.toNat (k48 : Int)) { (us140.getD (Int.toNat (k48 : Int)) (default : Net_r1)) with Pins := rv v150 }) (s49.set (Int.toNat (k48 : Int)) (true, { x151.2 with Pins := x149 })) none)
   have hw := hw.altF (i := 5) (b := D 18) rfl (nf (fun h => ft hD ((hcl 18 _ rfl h).2.2.2.2.2.2.2.2.2.2.2.2.1 rfl))) (bag (XB XF_Net_r1 (fun u => u.Pins) (fun x => x.Pins)) ((us140.set (Int.toNat (k48 : Int)) { (us140.getD (Int.toNat (k48 : Int)) (default : Net_r1)) with Pins := rv v150 }).set (Int.toNat (k48 : Int)) { ((us140.set (Int.toNat (k48 : Int)) { (us140.getD (Int.toNat (k48 : Int)) (default : Net_r1)) with Pins := rv v150 }).getD (Int.toNat (k48 : Int)) (default : Net_r1)) with Ports := ([] : (List Str)) }) ((s49.set (Int.toNat (k48 : Int)) (true, { x151.2 with Pins := x149 })).set (Int.toNat (k48 : Int)) (x158.1, { x158.2 with Ports := ([] : (List Str)) })) none)
   refine RL.nil ?_
   exact ⟨rfl, v150, hv.put 10 rfl rfl, ha.up rfl, hw⟩
  ·rintro D σ w hD hdep hcl ⟨v150, hv, ha, hw⟩
   obtain ⟨τ, rfl⟩ := (ac (hv.at 10 rfl (hdep.1 rfl)) az).ups
   have hw := hw.selF (i := 0) rfl hD
   have hw := hw.selF (i := 4) rfl (nf (fun h => ft hD ((hcl 18 _ rfl h).2.2.2.2.2.2.2.2.2.2.2.2.2.1 rfl)))
   have hw := hw.selF (i := 4) rfl (nf (fun h => ft hD ((hcl 15 _ rfl h).2.2.2.2.2.2.2.2.2.2.2.2.2.2.1 rfl)))
   have hw := hw.selF (i := 5) rfl (nf (fun h => ft hD ((hcl 18 _ rfl h).2.2.2.2.2.2.2.2.2.2.2.2.2.1 rfl)))
   have hw := hw.selF (i := 5) rfl (nf (fun h => ft hD ((hcl 15 _ rfl h).2.2.2.2.2.2.2.2.2.2.2.2.2.2.1 rfl)))
   have hl169 := hw.bag_len (j := 5) rfl
   have hr170 := idx_raw (default : Net_r1) hl169 hx141
   refine RL.load_flag (i := 4) (b := 5) (jj := (k48 : Int)) fd_Net_r1_1 (default : Net_r1) trivial rfl hw rfl (elp hw (i := 4) rfl hr170 1) rfl rfl hx141 hx148 ty37 fun hw => ?_
   have hw := hw.pick 8 [0, 2, 3, 4, 5, 6, 7] (new := [rd (us140.getD (Int.toNat (k48 : Int)) (default : Net_r1)).Pins.v x148.Pins, bif D 15 then (junk) else (bif D 12 then (own 45 v150 x149) else junk), bc 26 b31 [v35, v38], own 36 v35 x34, own 39 v38 us140, bag (XB XF_Net_r1 (fun u => u.Pins) (fun x => x.Pins)) us140 s49 none, bc 26 b32 [(.slice none 0 0), (.slice none 0 0)]]) rfl rfl (by decide) (by decide)
   have hw := hw.altT (i := 0) (b := true) rfl rfl (junk)
   have hw := hw.altF (i := 4) (b := D 15) rfl (nf (fun h => ft hD ((hcl 15 _ rfl h).2.2.2.2.2.2.2.2.2.2.2.2.2.2.1 rfl))) (own 39 v38 (us140.set (Int.toNat (k48 : Int)) { (us140.getD (Int.toNat (k48 : Int)) (default : Net_r1)) with Pins := rv v150 }))
   have hw := hw.altF (i := 4) (b := D 18) rfl (nf (fun h => ft hD ((hcl 18 _ rfl h).2.2.2.2.2.2.2.2.2.2.2.2.2.1 rfl))) (own 39 v38 ((us140.set (Int.toNat (k48 : Int)) { (us140.getD (Int.toNat (k48 : Int)) (default : Net_r1)) with Pins := rv v150 }).set (Int.toNat (k48 : Int)) { ((us140.set (Int.toNat (k48 : Int)) { (us140.getD (Int.toNat (k48 : Int)) (default : Net_r1)) with Pins := rv v150 }).getD (Int.toNat (k48 : Int)) (default : Net_r1)) with Ports := ([] : (List Str)) }))
   have hw := hw.altF (i := 5) (b := D 15) rfl (nf (fun h => ft hD ((hcl 15 _ rfl h).2.2.2.2.2.2.2.2.2.2.2.2.2.2.1 rfl))) (bag (XB XF_Net_r1 (fun u => u.Pins) (fun x => x.Pins)) (us140.set (Int.toNat (k48 : Int)) { (us140.getD (Int.toNat (k48 : Int)) (default : Net_r1)) with Pins := rv v150 }) (s49.set (Int.toNat (k48 : Int)) (true, { x151.2 with Pins := x149 })) none)
   have hw := hw.altF (i := 5) (b := D 18) rfl (nf (fun h => ft hD ((hcl 18 _ rfl h).2.2.2.2.2.2.2.2.2.2.2.2.2.1 rfl))) (bag (XB XF_Net_r1 (fun u => u.Pins) (fun x => x.Pins)) ((us140.set (Int.toNat (k48 : Int)) { (us140.getD (Int.toNat (k48 : Int)) (default : Net_r1)) with Pins := rv v150 }).set (Int.toNat (k48 : Int)) { ((us140.set (Int.toNat (k48 : Int)) { (us140.getD (Int.toNat (k48 : Int)) (default : Net_r1)) with Pins := rv v150 }).getD (Int.toNat (k48 : Int)) (default : Net_r1)) with Ports := ([] : (List Str)) }) ((s49.set (Int.toNat (k48 : Int)) (true, { x151.2 with Pins := x149 })).set (Int.toNat (k48 : Int)) (x158.1, { x158.2 with Ports := ([] : (List Str)) })) none)
   refine RL.nil ?_
   exact ⟨rfl, v150, hv.put 11 rfl rfl, ha.up rfl, hw⟩
  ·rintro D σ w hD hdep hcl ⟨v150, hv, ha, hw⟩
   obtain ⟨τ, rfl⟩ := (ac (hv.at 11 rfl (hdep.1 rfl)) az).ups
   have hw := hw.selT (i := 0) rfl (hdep.1 rfl)
   have hw := hw.selF (i := 1) rfl (nf (fun h => ft hD ((hcl 15 _ rfl h).2.1 rfl)))
   have hw := hw.selF (i := 1) rfl hD
   have hw := hw.selF (i := 4) rfl (nf (fun h => ft hD ((hcl 18 _ rfl h).2.2.2.2.2.2.2.2.2.2.2.2.2.2.1 rfl)))
   have hw := hw.selF (i := 4) rfl (nf (fun h => ft hD ((hcl 15 _ rfl h).2.1 rfl)))
   have hw := hw.selF (i := 5) rfl (nf (fun h => ft hD ((hcl 18 _ rfl h).2.2.2.2.2.2.2.2.2.2.2.2.2.2.1 rfl)))
   have hw := hw.selF (i := 5) rfl (nf (fun h => ft hD ((hcl 15 _ rfl h).2.1 rfl)))
   refine RL.call trivial rfl fn60 [(us140.getD (Int.toNat (k48 : Int)) (default : Net_r1)).Pins.v] rfl (Calls_ret (slices_Clone_Pin_ok N  (i0 := 0) hw rfl hx149) ?_)
   rintro v171 w hw
   have hw := hw.pick 8 [1, 0, 3, 4, 5, 6, 7] (new := [rd (us140.getD (Int.toNat (k48 : Int)) (default : Net_r1)).Pins.v x148.Pins, own 45 v171 x149, bc 26 b31 [v35, v38], own 36 v35 x34, own 39 v38 us140, bag (XB XF_Net_r1 (fun u => u.Pins) (fun x => x.Pins)) us140 s49 none, bc 26 b32 [(.slice none 0 0), (.slice none 0 0)]]) rfl rfl (by decide) (by decide)
   have hw := hw.altT (i := 0) (b := D 11) rfl (hdep.1 rfl) (junk)
   have hw := hw.altT (i := 1) (b := true) rfl rfl (junk)
   have hw := hw.altF (i := 1) (b := D 15) rfl (nf (fun h => ft hD ((hcl 15 _ rfl h).2.1 rfl))) (junk)
   have hw := hw.altF (i := 4) (b := D 15) rfl (nf (fun h => ft hD ((hcl 15 _ rfl h).2.1 rfl))) (own 39 v38 (us140.set (Int.toNat (k48 : Int)) { (us140.getD (Int.toNat (k48 : Int)) (default : Net_r1)) with Pins := rv v171 }))
   have hw := hw.altF (i := 4) (b := D 18) rfl (nf (fun h => ft hD ((hcl 18 _ rfl h).2.2.2.2.2.2.2.2.2.2.2.2.2.2.1 rfl))) (own 39 v38 ((us140.set (Int.toNat (k48 : Int)) { (us140.getD (Int.toNat (k48 : Int)) (default : Net_r1)) with Pins := rv v171 }).set (Int.toNat (k48 : Int)) { ((us140.set (Int.toNat (k48 : Int)) { (us140.getD (Int.toNat (k48 : Int)) (default : Net_r1)) with Pins := rv v171 }).getD (Int.toNat (k48 : Int)) (default : Net_r1)) with Ports := ([] : (List Str)) }))
   have hw := hw.altF (i := 5) (b := D 15) rfl (nf (fun h => ft hD ((hcl 15 _ rfl h).2.1 rfl))) (bag (XB XF_Net_r1 (fun u => u.Pins) (fun x => x.Pins)) (us140.set (Int.toNat (k48 : Int)) { (us140.getD (Int.toNat (k48 : Int)) (default : Net_r1)) with Pins := rv v171 }) (s49.set (Int.toNat (k48 : Int)) (true, { x151.2 with Pins := x149 })) none)
   have hw := hw.altF (i := 5) (b := D 18) rfl (nf (fun h => ft hD ((hcl 18 _ rfl h).2.2.2.2.2.2.2.2.2.2.2.2.2.2.1 rfl))) (bag (XB XF_Net_r1 (fun u => u.Pins) (fun x => x.Pins)) ((us140.set (Int.toNat (k48 : Int)) { (us140.getD (Int.toNat (k48 : Int)) (default : Net_r1)) with Pins := rv v171 }).set (Int.toNat (k48 : Int)) { ((us140.set (Int.toNat (k48 : Int)) { (us140.getD (Int.toNat (k48 : Int)) (default : Net_r1)) with Pins := rv v171 }).getD (Int.toNat (k48 : Int)) (default : Net_r1)) with Ports := ([] : (List Str)) }) ((s49.set (Int.toNat (k48 : Int)) (true, { x151.2 with Pins := x149 })).set (Int.toNat (k48 : Int)) (x158.1, { x158.2 with Ports := ([] : (List Str)) })) none)
   refine RL.nil ?_
   exact ⟨rfl, v171, hv.put 12 rfl rfl, ha.up rfl, hw⟩
  ·rintro D σ w hD hdep hcl ⟨v150, hv, ha, hw⟩
   obtain ⟨τ, rfl⟩ := (ac (hv.at 1 rfl (hdep.1 rfl)) (ac (hv.at 2 rfl (hdep.2.1 rfl)) az)).ups
   have hw := hw.selF (i := 4) rfl (nf (fun h => ft hD ((hcl 18 _ rfl h).2.2.2.2.2.2.2.2.2.2.2.2.2.2.2.1 rfl)))
   have hw := hw.selF (i := 4) rfl (nf (fun h => ft hD ((hcl 14 _ rfl ((hcl 15 _ rfl h).1 rfl)).1 rfl)))
   have hw := hw.selF (i := 5) rfl (nf (fun h => ft hD ((hcl 18 _ rfl h).2.2.2.2.2.2.2.2.2.2.2.2.2.2.2.1 rfl)))
   have hw := hw.selF (i := 5) rfl (nf (fun h => ft hD ((hcl 14 _ rfl ((hcl 15 _ rfl h).1 rfl)).1 rfl)))
   have hl172 := hw.bag_len (j := 5) rfl
   have hr173 := idx_raw (default : Net_r1) hl172 hx151
   refine RL.ia_ownA (i := 4) trivial rfl hw rfl rfl rfl sl24 hr173 ?_
   have hw := hw.altF (i := 4) (b := D 15) rfl (nf (fun h => ft hD ((hcl 14 _ rfl ((hcl 15 _ rfl h).1 rfl)).1 rfl))) (own 39 v38 (us140.set (Int.toNat (k48 : Int)) { (us140.getD (Int.toNat (k48 : Int)) (default : Net_r1)) with Pins := rv v150 }))
   have hw := hw.altF (i := 4) (b := D 18) rfl (nf (fun h => ft hD ((hcl 18 _ rfl h).2.2.2.2.2.2.2.2.2.2.2.2.2.2.2.1 rfl))) (own 39 v38 ((us140.set (Int.toNat (k48 : Int)) { (us140.getD (Int.toNat (k48 : Int)) (default : Net_r1)) with Pins := rv v150 }).set (Int.toNat (k48 : Int)) { ((us140.set (Int.toNat (k48 : Int)) { (us140.getD (Int.toNat (k48 : Int)) (default : Net_r1)) with Pins := rv v150 }).getD (Int.toNat (k48 : Int)) (default : Net_r1)) with Ports := ([] : (List Str)) }))
   have hw := hw.altF (i := 5) (b := D 15) rfl (nf (fun h => ft hD ((hcl 14 _ rfl ((hcl 15 _ rfl h).1 rfl)).1 rfl))) (bag (XB XF_Net_r1 (fun u => u.Pins) (fun x => x.Pins)) (us140.set (Int.toNat (k48 : Int)) { (us140.getD (Int.toNat (k48 : Int)) (default : Net_r1)) with Pins := rv v150 }) (s49.set (Int.toNat (k48 : Int)) (true, { x151.2 with Pins := x149 })) none)
   have hw := hw.altF (i := 5) (b := D 18) rfl (nf (fun h => ft hD ((hcl 18 _ rfl h).2.2.2.2.2.2.2.2.2.2.2.2.2.2.2.1 rfl))) (bag (XB XF_Net_r1 (fun u => u.Pins) (fun x => x.Pins)) ((us140.set (Int.toNat (k48 : Int)) { (us140.getD (Int.toNat (k48 : Int)) (default : Net_r1)) with Pins := rv v150 }).set (Int.toNat (k48 : Int)) { ((us140.set (Int.toNat (k48 : Int)) { (us140.getD (Int.toNat (k48 : Int)) (default : Net_r1)) with Pins := rv v150 }).getD (Int.toNat (k48 : Int)) (default : Net_r1)) with Ports := ([] : (List Str)) }) ((s49.set (Int.toNat (k48 : Int)) (true, { x151.2 with Pins := x149 })).set (Int.toNat (k48 : Int)) (x158.1, { x158.2 with Ports := ([] : (List Str)) })) none)
   refine RL.nil ?_
   exact ⟨rfl, v150, hv.put 13 rfl rfl, ha.up rfl, hw⟩
  ·rintro D σ w hD hdep hcl ⟨v150, hv, ha, hw⟩
   obtain ⟨τ, rfl⟩ := (ac (hv.at 13 rfl (hdep.1 rfl)) az).ups
   have hw := hw.selF (i := 4) rfl (nf (fun h => ft hD ((hcl 18 _ rfl h).2.2.2.2.2.2.2.2.2.2.2.2.2.2.2.2.1 rfl)))
   have hw := hw.selF (i := 4) rfl (nf (fun h => ft hD ((hcl 15 _ rfl h).1 rfl)))
   have hw := hw.selF (i := 5) rfl (nf (fun h => ft hD ((hcl 18 _ rfl h).2.2.2.2.2.2.2.2.2.2.2.2.2.2.2.2.1 rfl)))
   have hw := hw.selF (i := 5) rfl (nf (fun h => ft hD ((hcl 15 _ rfl h).1 rfl)))
   have hl174 := hw.bag_len (j := 5) rfl
   have hr175 := idx_raw (default : Net_r1) hl174 hx151
   refine RL.fa_elA (α := Net_r1) trivial rfl rfl (elp hw (i := 4) rfl hr175 0) fa39_1 ?_
   have hw := hw.altF (i := 4) (b := D 15) rfl (nf (fun h => ft hD ((hcl 15 _ rfl h).1 rfl))) (own 39 v38 (us140.set (Int.toNat (k48 : Int)) { (us140.getD (Int.toNat (k48 : Int)) (default : Net_r1)) with Pins := rv v150 }))
   have hw := hw.altF (i := 4) (b := D 18) rfl (nf (fun h => ft hD ((hcl 18 _ rfl h).2.2.2.2.2.2.2.2.2.2.2.2.2.2.2.2.1 rfl))) (own 39 v38 ((us140.set (Int.toNat (k48 : Int)) { (us140.getD (Int.toNat (k48 : Int)) (default : Net_r1)) with Pins := rv v150 }).set (Int.toNat (k48 : Int)) { ((us140.set (Int.toNat (k48 : Int)) { (us140.getD (Int.toNat (k48 : Int)) (default : Net_r1)) with Pins := rv v150 }).getD (Int.toNat (k48 : Int)) (default : Net_r1)) with Ports := ([] : (List Str)) }))
   have hw := hw.altF (i := 5) (b := D 15) rfl (nf (fun h => ft hD ((hcl 15 _ rfl h).1 rfl))) (bag (XB XF_Net_r1 (fun u => u.Pins) (fun x => x.Pins)) (us140.set (Int.toNat (k48 : Int)) { (us140.getD (Int.toNat (k48 : Int)) (default : Net_r1)) with Pins := rv v150 }) (s49.set (Int.toNat (k48 : Int)) (true, { x151.2 with Pins := x149 })) none)
   have hw := hw.altF (i := 5) (b := D 18) rfl (nf (fun h => ft hD ((hcl 18 _ rfl h).2.2.2.2.2.2.2.2.2.2.2.2.2.2.2.2.1 rfl))) (bag (XB XF_Net_r1 (fun u => u.Pins) (fun x => x.Pins)) ((us140.set (Int.toNat (k48 : Int)) { (us140.getD (Int.toNat (k48 : Int)) (default : Net_r1)) with Pins := rv v150 }).set (Int.toNat (k48 : Int)) { ((us140.set (Int.toNat (k48 : Int)) { (us140.getD (Int.toNat (k48 : Int)) (default : Net_r1)) with Pins := rv v150 }).getD (Int.toNat (k48 : Int)) (default : Net_r1)) with Ports := ([] : (List Str)) }) ((s49.set (Int.toNat (k48 : Int)) (true, { x151.2 with Pins := x149 })).set (Int.toNat (k48 : Int)) (x158.1, { x158.2 with Ports := ([] : (List Str)) })) none)
   refine RL.nil ?_
   exact ⟨rfl, v150, hv.put 14 rfl rfl, ha.up rfl, hw⟩
  ·rintro D σ w hD hdep hcl ⟨v150, hv, ha, hw⟩
   obtain ⟨τ, rfl⟩ := (ac (hv.at 12 rfl (hdep.2.1 rfl)) (ac (hv.at 14 rfl (hdep.1 rfl)) az)).ups
   have hw := hw.selF (i := 1) rfl hD
   have hw := hw.selT (i := 1) rfl (hdep.2.1 rfl)
   have hw := hw.selF (i := 4) rfl (nf (fun h => ft hD ((hcl 18 _ rfl h).2.1 rfl)))
   have hw := hw.selF (i := 4) rfl hD
   have hw := hw.selF (i := 5) rfl (nf (fun h => ft hD ((hcl 18 _ rfl h).2.1 rfl)))
   have hw := hw.selF (i := 5) rfl hD
   have hl176 := hw.bag_len (j := 5) rfl
   have hr177 := idx_raw (default : Net_r1) hl176 hx151
   refine RL.store_nestP (i := 4) (b := 5) (o := 1) (jj := (k48 : Int)) (XB_xp xp_Net_r1) (default : Net_r1) trivial hw rfl rfl (elp hw (i := 4) rfl hr177 1) rfl rfl rfl hx151 (by decide) (by decide) (by decide) ty37 fun w hw => ?_
   have hw := hw.altT (i := 1) (b := true) rfl rfl (bif D 12 then (own 45 v150 x149) else junk)
   have hw := hw.altT (i := 4) (b := true) rfl rfl (own 39 v38 us140)
   have hw := hw.altF (i := 4) (b := D 18) rfl (nf (fun h => ft hD ((hcl 18 _ rfl h).2.1 rfl))) (own 39 v38 ((us140.set (Int.toNat (k48 : Int)) { (us140.getD (Int.toNat (k48 : Int)) (default : Net_r1)) with Pins := rv v150 }).set (Int.toNat (k48 : Int)) { ((us140.set (Int.toNat (k48 : Int)) { (us140.getD (Int.toNat (k48 : Int)) (default : Net_r1)) with Pins := rv v150 }).getD (Int.toNat (k48 : Int)) (default : Net_r1)) with Ports := ([] : (List Str)) }))
   have hw := hw.altT (i := 5) (b := true) rfl rfl (bag (XB XF_Net_r1 (fun u => u.Pins) (fun x => x.Pins)) us140 s49 none)
   have hw := hw.altF (i := 5) (b := D 18) rfl (nf (fun h => ft hD ((hcl 18 _ rfl h).2.1 rfl))) (bag (XB XF_Net_r1 (fun u => u.Pins) (fun x => x.Pins)) ((us140.set (Int.toNat (k48 : Int)) { (us140.getD (Int.toNat (k48 : Int)) (default : Net_r1)) with Pins := rv v150 }).set (Int.toNat (k48 : Int)) { ((us140.set (Int.toNat (k48 : Int)) { (us140.getD (Int.toNat (k48 : Int)) (default : Net_r1)) with Pins := rv v150 }).getD (Int.toNat (k48 : Int)) (default : Net_r1)) with Ports := ([] : (List Str)) }) ((s49.set (Int.toNat (k48 : Int)) (true, { x151.2 with Pins := x149 })).set (Int.toNat (k48 : Int)) (x158.1, { x158.2 with Ports := ([] : (List Str)) })) none)
   refine RL.nil ?_
   exact ⟨rfl, v150, hv.no rfl, ha, hw⟩
  ·rintro D σ w hD hdep hcl ⟨v150, hv, ha, hw⟩
   obtain ⟨τ, rfl⟩ := (ac (hv.at 4 rfl (hdep.1 rfl)) (ac (hv.at 5 rfl (hdep.2.1 rfl)) az)).ups
   have hw := hw.selF (i := 4) rfl (nf (fun h => ft hD ((hcl 17 _ rfl ((hcl 18 _ rfl h).1 rfl)).1 rfl)))
   have hw := hw.selT (i := 4) rfl (hdep.2.2.2.2.2.2.2.2.2.2.2.2.2.2.2.2.2.1 rfl)
   have hw := hw.selF (i := 5) rfl (nf (fun h => ft hD ((hcl 17 _ rfl ((hcl 18 _ rfl h).1 rfl)).1 rfl)))
   have hw := hw.selT (i := 5) rfl (hdep.2.2.2.2.2.2.2.2.2.2.2.2.2.2.2.2.2.1 rfl)
   have hl178 := hw.bag_len (j := 5) rfl
   have hr179 := idx_raw (default : Net_r1) hl178 hx158
   refine RL.ia_ownA (i := 4) trivial rfl hw rfl rfl rfl sl24 hr179 ?_
   have hw := hw.altT (i := 4) (b := D 15) rfl (hdep.2.2.2.2.2.2.2.2.2.2.2.2.2.2.2.2.2.1 rfl) (own 39 v38 us140)
   have hw := hw.altF (i := 4) (b := D 18) rfl (nf (fun h => ft hD ((hcl 17 _ rfl ((hcl 18 _ rfl h).1 rfl)).1 rfl))) (own 39 v38 ((us140.set (Int.toNat (k48 : Int)) { (us140.getD (Int.toNat (k48 : Int)) (default : Net_r1)) with Pins := rv v150 }).set (Int.toNat (k48 : Int)) { ((us140.set (Int.toNat (k48 : Int)) { (us140.getD (Int.toNat (k48 : Int)) (default : Net_r1)) with Pins := rv v150 }).getD (Int.toNat (k48 : Int)) (default : Net_r1)) with Ports := ([] : (List Str)) }))
   have hw := hw.altT (i := 5) (b := D 15) rfl (hdep.2.2.2.2.2.2.2.2.2.2.2.2.2.2.2.2.2.1 rfl) (bag (XB XF_Net_r1 (fun u => u.Pins) (fun x => x.Pins)) us140 s49 none)
   have hw := hw.altF (i := 5) (b := D 18) rfl (nf (fun h => ft hD ((hcl 17 _ rfl ((hcl 18 _ rfl h).1 rfl)).1 rfl))) (bag (XB XF_Net_r1 (fun u => u.Pins) (fun x => x.Pins)) ((us140.set (Int.toNat (k48 : Int)) { (us140.getD (Int.toNat (k48 : Int)) (default : Net_r1)) with Pins := rv v150 }).set (Int.toNat (k48 : Int)) { ((us140.set (Int.toNat (k48 : Int)) { (us140.getD (Int.toNat (k48 : Int)) (default : Net_r1)) with Pins := rv v150 }).getD (Int.toNat (k48 : Int)) (default : Net_r1)) with Ports := ([] : (List Str)) }) ((s49.set (Int.toNat (k48 : Int)) (true, { x151.2 with Pins := x149 })).set (Int.toNat (k48 : Int)) (x158.1, { x158.2 with Ports := ([] : (List Str)) })) none)
   refine RL.nil ?_
   exact ⟨rfl, v150, hv.put 15 rfl rfl, ha.up rfl, hw⟩
  ·rintro D σ w hD hdep hcl ⟨v150, hv, ha, hw⟩
   obtain ⟨τ, rfl⟩ := (ac (hv.at 15 rfl (hdep.1 rfl)) az).ups
   have hw := hw.selF (i := 4) rfl (nf (fun h => ft hD ((hcl 18 _ rfl h).1 rfl)))
   have hw := hw.selT (i := 4) rfl (hdep.2.2.2.2.2.2.2.2.2.2.2.2.2.2.2.2.1 rfl)
   have hw := hw.selF (i := 5) rfl (nf (fun h => ft hD ((hcl 18 _ rfl h).1 rfl)))
   have hw := hw.selT (i := 5) rfl (hdep.2.2.2.2.2.2.2.2.2.2.2.2.2.2.2.2.1 rfl)
   have hl180 := hw.bag_len (j := 5) rfl
   have hr181 := idx_raw (default : Net_r1) hl180 hx158
   refine RL.fa_elA (α := Net_r1) trivial rfl rfl (elp hw (i := 4) rfl hr181 0) fa39_2 ?_
   have hw := hw.altT (i := 4) (b := D 15) rfl (hdep.2.2.2.2.2.2.2.2.2.2.2.2.2.2.2.2.1 rfl) (own 39 v38 us140)
   have hw := hw.altF (i := 4) (b := D 18) rfl (nf (fun h => ft hD ((hcl 18 _ rfl h).1 rfl))) (own 39 v38 ((us140.set (Int.toNat (k48 : Int)) { (us140.getD (Int.toNat (k48 : Int)) (default : Net_r1)) with Pins := rv v150 }).set (Int.toNat (k48 : Int)) { ((us140.set (Int.toNat (k48 : Int)) { (us140.getD (Int.toNat (k48 : Int)) (default : Net_r1)) with Pins := rv v150 }).getD (Int.toNat (k48 : Int)) (default : Net_r1)) with Ports := ([] : (List Str)) }))
   have hw := hw.altT (i := 5) (b := D 15) rfl (hdep.2.2.2.2.2.2.2.2.2.2.2.2.2.2.2.2.1 rfl) (bag (XB XF_Net_r1 (fun u => u.Pins) (fun x => x.Pins)) us140 s49 none)
   have hw := hw.altF (i := 5) (b := D 18) rfl (nf (fun h => ft hD ((hcl 18 _ rfl h).1 rfl))) (bag (XB XF_Net_r1 (fun u => u.Pins) (fun x => x.Pins)) ((us140.set (Int.toNat (k48 : Int)) { (us140.getD (Int.toNat (k48 : Int)) (default : Net_r1)) with Pins := rv v150 }).set (Int.toNat (k48 : Int)) { ((us140.set (Int.toNat (k48 : Int)) { (us140.getD (Int.toNat (k48 : Int)) (default : Net_r1)) with Pins := rv v150 }).getD (Int.toNat (k48 : Int)) (default : Net_r1)) with Ports := ([] : (List Str)) }) ((s49.set (Int.toNat (k48 : Int)) (true, { x151.2 with Pins := x149 })).set (Int.toNat (k48 : Int)) (x158.1, { x158.2 with Ports := ([] : (List Str)) })) none)
   refine RL.nil ?_
   exact ⟨rfl, v150, hv.put 16 rfl rfl, ha.up rfl, hw⟩
  ·rintro D σ w hD hdep hcl ⟨v150, hv, ha, hw⟩
   obtain ⟨τ, rfl⟩ := (ac (hv.at 16 rfl (hdep.1 rfl)) az).ups
   have hw := hw.selF (i := 4) rfl hD
   have hw := hw.selT (i := 4) rfl (hdep.2.1 rfl)
   have hw := hw.selF (i := 5) rfl hD
   have hw := hw.selT (i := 5) rfl (hdep.2.1 rfl)
   have hl182 := hw.bag_len (j := 5) rfl
   have hr183 := idx_raw (default : Net_r1) hl182 hx158
   have hw := hw.rd_nil Str
   refine RL.store_oth (i := 5) (b := 6) (j := 0) (jj := (k48 : Int)) fs_Net_r1_2 (by decide) (XB_oth xoth_Net_r1_2 xrest_Net_r1_2 (fun _ _ => rfl) (fun _ _ => rfl)) (default : Net_r1) trivial hw rfl rfl (elp hw (i := 5) rfl hr183 2) rfl rfl rfl hx158 (by decide) ty27 fun w hw => ?_
   have hw := hw.pick 8 [1, 2, 3, 4, 5, 6, 7] (new := [bif D 11 then (rd (us140.getD (Int.toNat (k48 : Int)) (default : Net_r1)).Pins.v x148.Pins) else junk, bif D 15 then (junk) else (bif D 12 then (own 45 v150 x149) else junk), bc 26 b31 [v35, v38], own 36 v35 x34, own 39 v38 ((us140.set (Int.toNat (k48 : Int)) { (us140.getD (Int.toNat (k48 : Int)) (default : Net_r1)) with Pins := rv v150 }).set (Int.toNat (k48 : Int)) { ((us140.set (Int.toNat (k48 : Int)) { (us140.getD (Int.toNat (k48 : Int)) (default : Net_r1)) with Pins := rv v150 }).getD (Int.toNat (k48 : Int)) (default : Net_r1)) with Ports := ([] : (List Str)) }), bag (XB XF_Net_r1 (fun u => u.Pins) (fun x => x.Pins)) ((us140.set (Int.toNat (k48 : Int)) { (us140.getD (Int.toNat (k48 : Int)) (default : Net_r1)) with Pins := rv v150 }).set (Int.toNat (k48 : Int)) { ((us140.set (Int.toNat (k48 : Int)) { (us140.getD (Int.toNat (k48 : Int)) (default : Net_r1)) with Pins := rv v150 }).getD (Int.toNat (k48 : Int)) (default : Net_r1)) with Ports := ([] : (List Str)) }) ((s49.set (Int.toNat (k48 : Int)) (true, { x151.2 with Pins := x149 })).set (Int.toNat (k48 : Int)) (x158.1, { x158.2 with Ports := ([] : (List Str)) })) none, bc 26 b32 [(.slice none 0 0), (.slice none 0 0)]]) rfl rfl (by decide) (by decide)
   have hw := hw.altT (i := 4) (b := true) rfl rfl (bif D 15 then (own 39 v38 (us140.set (Int.toNat (k48 : Int)) { (us140.getD (Int.toNat (k48 : Int)) (default : Net_r1)) with Pins := rv v150 })) else (own 39 v38 us140))
   have hw := hw.altT (i := 5) (b := true) rfl rfl (bif D 15 then (bag (XB XF_Net_r1 (fun u => u.Pins) (fun x => x.Pins)) (us140.set (Int.toNat (k48 : Int)) { (us140.getD (Int.toNat (k48 : Int)) (default : Net_r1)) with Pins := rv v150 }) (s49.set (Int.toNat (k48 : Int)) (true, { x151.2 with Pins := x149 })) none) else (bag (XB XF_Net_r1 (fun u => u.Pins) (fun x => x.Pins)) us140 s49 none))
   refine RL.nil ?_
   exact ⟨rfl, v150, hv.no rfl, ha, hw⟩
  rintro D σ w hall ⟨v150, hv, ha, hw⟩
  rw [hall 11 (by decide), hall 12 (by decide), hall 15 (by decide), hall 18 (by decide)] at hw
  obtain ⟨τ, rfl⟩ := (ac (ha.at 0 rfl) (ac (ha.at 1 rfl) (ac (ha.at 2 rfl) (ac (ha.at 3 rfl) (ac (ha.at 4 rfl) az))))).ups
  refine blkQ_n ?_
  refine thenQ_n ?_
  refine RC.region ?_
  refine RL.inc trivial rfl hk hm rfl rfl ?_
  refine mv (vi ((k48 + 1 : Nat) : Int)) rfl rfl ?_
  refine RL.nil ?_
  obtain rfl := oi hb
  exact ⟨rfl, ((us140.set (Int.toNat (k48 : Int)) { (us140.getD (Int.toNat (k48 : Int)) (default : Net_r1)) with Pins := rv v150 }).set (Int.toNat (k48 : Int)) { ((us140.set (Int.toNat (k48 : Int)) { (us140.getD (Int.toNat (k48 : Int)) (default : Net_r1)) with Pins := rv v150 }).getD (Int.toNat (k48 : Int)) (default : Net_r1)) with Ports := ([] : (List Str)) }), ⟨rfl, rfl, rfl, rfl, trivial⟩, hw.pick 7 [2, 3, 4, 5, 6] (new := [bc 26 b31 [v35, v38], own 36 v35 x34, own 39 v38 ((us140.set (Int.toNat (k48 : Int)) { (us140.getD (Int.toNat (k48 : Int)) (default : Net_r1)) with Pins := rv v150 }).set (Int.toNat (k48 : Int)) { ((us140.set (Int.toNat (k48 : Int)) { (us140.getD (Int.toNat (k48 : Int)) (default : Net_r1)) with Pins := rv v150 }).getD (Int.toNat (k48 : Int)) (default : Net_r1)) with Ports := ([] : (List Str)) }), bag (XB XF_Net_r1 (fun u => u.Pins) (fun x => x.Pins)) ((us140.set (Int.toNat (k48 : Int)) { (us140.getD (Int.toNat (k48 : Int)) (default : Net_r1)) with Pins := rv v150 }).set (Int.toNat (k48 : Int)) { ((us140.set (Int.toNat (k48 : Int)) { (us140.getD (Int.toNat (k48 : Int)) (default : Net_r1)) with Pins := rv v150 }).getD (Int.toNat (k48 : Int)) (default : Net_r1)) with Ports := ([] : (List Str)) }) ((s49.set (Int.toNat (k48 : Int)) (true, { x151.2 with Pins := x149 })).set (Int.toNat (k48 : Int)) (x158.1, { x158.2 with Ports := ([] : (List Str)) })) none, bc 26 b32 [(.slice none 0 0), (.slice none 0 0)]]) rfl rfl (by decide) (by decide)⟩
 intro σ w hJ
 obtain ⟨us139, ha, hw⟩ := hJ
 obtain ⟨τ, rfl⟩ := ha.ups
 obtain ⟨y185, hy185, hb⟩ := bd hb
 have hw := hw.all_flags (j := 3) rfl hy185
 refine thenQ_n ?_
 refine RC.sr ?_
 refine RL.load_bca (i := 0) (cs := [v35, v38]) trivial rfl hw rfl rfl ty26 rfl ?_
 refine RL.store_bca (i := 4) (cs := [v35, v38]) trivial hw rfl rfl rfl (oneL.all (⟨(one_own hw (i := 1) rfl), (one_own hw (i := 2) rfl), trivial⟩ : oneL [v35, v38])) ty26 rfl rfl fun w hw => ?_
 refine RL.nt ?_
 refine RC.ret ?_
 obtain rfl := oi hb
 exact finCa (i := 4) (cs := [v35, v38]) rfl hw rfl rfl ty26 rfl ⟨v35, v38, us139, rfl, hw.pick 5 [1, 2, 3] (new := [own 36 v35 x34, own 39 v38 us139, bag XF_Net_r1 us139 y185 none]) rfl rfl (by decide) (by decide)⟩
def netlist_Joined_R (E : World) (Γ : List HP) (res : Netlist × Int) (v : Value) (w : World) : Prop := ∃ u0 : Value, v = .tuple #[u0, (vi res.2)] ∧ Holds E w (rd u0 res.1 :: Γ)
def netlist_Joined_K (E : World) (Γ : List HP) (r : Netlist × Int) (σ : Nat → Value) (w : World) : Prop := finQ Tryd.prog 98 Tryd.f9 (netlist_Joined_R E Γ r) .ret σ w
theorem netlist_Joined_ok (N : Nat) {E w : World} {Γ : List HP} {i0 : Nat} {v0 : Value} {p0 : (List PartType)} {i1 : Nat} {v1 : Value} {p1 : Netlist} {p2 : Str} {p3 : Str} {res : Netlist × Int} (hw : Holds E w Γ) (h0 : Γ[i0]? = some (rd v0 p0)) (h1 : Γ[i1]? = some (rd v1 p1)) (hb : netlist_Joined N p0 p1 p2 p3 = some res) :
    Calls Tryd.prog 9 [v0, v1, (str p2), (str p3)].toArray w (Ret (netlist_Joined_R E Γ res)) := by
 unfold netlist_Joined at hb
 refine enter Tryd.func9 rfl rfl (Nat.le_of_ble_eq_true rfl) ?_
 have hw := hw.dup (i := i0 + 0) h0
 have hw := hw.dup (i := i1 + 1) h1
 refine RC.sr ?_
 refine RL.box_rd (i := 0) (v := v1) trivial rfl hw rfl rfl fun b31 w hw => ?_
 refine RL.alloc trivial rfl hw ze26.z fun b32 w hw => ?_
 refine as_ (vi 0) rfl rfl ?_
 refine RL.nq ?_
 refine RC.sr ?_
 refine mv v0 rfl rfl ?_
 refine RL.load_bf (i := 1) (f := (fun x => x)) trivial rfl hw rfl rfl Fd.self ty26 fun v33 hw => ?_
 obtain ⟨x34, hx34, hb⟩ := bd hb
 refine RL.call trivial rfl fn14 [v0, v33] rfl (Calls_ret (netlist_CheckList_ok N  (i0 := 4) (i1 := 0) hw rfl rfl hx34) ?_)
 rintro _ w ⟨rfl, hw⟩
 refine as_ (vi x34) rfl rfl ?_
 refine RL.ns ?_
 refine mv (vi x34) rfl rfl ?_
 refine ic x34 0 rfl rfl rfl rfl ?_
 refine RL.nt ?_
 refine RC.cond (b := (x34 != 0)) rfl (fun hc => ?_) (fun hc => ?_)
 ·replace hb := cT hc hb
  refine RC.sr ?_
  refine RL.buildc (zs := [(.slice none 0 0), (.slice none 0 0)]) (cs := [(.slice none 0 0), (.slice none 0 0)]) trivial rfl [] rfl st26 trivial rfl ?_
  refine mv (vi x34) rfl rfl ?_
  have hw := hw.rd_nil Part
  have hw := hw.rd_nil Net
  have hw := hw.rd_agg (cs := [(.slice none 0 0), (.slice none 0 0)]) (x := (⟨([] : (List Part)), ([] : (List Net))⟩ : Netlist)) (fun M hs g => ⟨[(.slice none 0 0)], [(.slice none 0 0)], rfl, (rd_one rfl (g.sat 1 _ rfl).1), (rd_one rfl (g.sat 0 _ rfl).1)⟩) rfl
  refine RL.store_raw (i := 4) (j := 0) trivial hw rfl rfl rfl rfl ty26 rfl fun w hw => ?_
  refine as_ (vi x34) rfl rfl ?_
  refine RL.nt ?_
  refine RC.rt ?_
  obtain rfl := oi hb
  exact finC2 (i := 4) rfl hw rfl rfl ty26 rfl fun v35 hw => ⟨v35, rfl, hw.pick 9 [0] (new := [rd v35 (⟨([] : (List Part)), ([] : (List Net))⟩ : Netlist)]) rfl rfl (by decide) (by decide)⟩
 replace hb := cF hc hb
 refine RC.ss ?_
 obtain ⟨x37, hx37, hb⟩ := bd hb
 obtain ⟨x39, hx39, hb⟩ := bd hb
 refine RC.drw mixed rfl (fun (D : Nat → Bool) (σ : Nat → Value) (w : World) => ∃ (v36 : Value) (v38 : Value), doneV D σ [(0, 22, v36), (1, 23, (str p2)), (2, 24, (vi x37)), (3, 25, v38), (4, 26, (str p3)), (5, 27, (vi x39)), (6, 11, (vi x37)), (7, 12, (vi x39))] ∧ agree σ [(2, (str p2)), (3, (str p3)), (5, (vp b31 0)), (8, (vp b32 0))] ∧ Holds E w ([bif D 0 then (rd v36 p1) else junk, bif D 3 then (rd v38 p1) else junk, rd v33 p1, raw 26 b32 2, bx 26 b31 p1, rd v1 p1, rd v0 p0] ++ Γ)) ?_ ⟨?_, ?_, ?_, ?_, ?_, ?_, ?_, ?_, trivial⟩ ?_
 ·have hw := hw.drew
  have hw := hw.junk
  have hw := hw.junk
  exact ⟨undef, undef, doneV.none, ⟨rfl, rfl, rfl, rfl, trivial⟩, hw⟩
 ·rintro D σ w hD hdep hcl ⟨v36, v38, hv, ha, hw⟩
  obtain ⟨τ, rfl⟩ := (ac (ha.at 2 rfl) az).ups
  have hw := hw.selF (i := 0) rfl hD
  refine RL.load_bf (i := 4) (f := (fun x => x)) trivial rfl hw rfl rfl Fd.self ty26 fun v40 hw => ?_
  have hw := hw.pick 8 [0, 2, 3, 4, 5, 6, 7] (new := [rd v40 p1, bif D 3 then (rd v38 p1) else junk, rd v33 p1, raw 26 b32 2, bx 26 b31 p1, rd v1 p1, rd v0 p0]) rfl rfl (by decide) (by decide)
  have hw := hw.altT (i := 0) (b := true) rfl rfl (junk)
  refine RL.nil ?_
  exact ⟨rfl, v40, v38, hv.put 0 rfl rfl, ha.up rfl, hw⟩
 ·rintro D σ w hD hdep hcl ⟨v36, v38, hv, ha, hw⟩
  obtain ⟨τ, rfl⟩ := (ac (ha.at 0 rfl) az).ups
  refine mv (str p2) rfl rfl ?_
  refine RL.nil ?_
  exact ⟨rfl, v36, v38, hv.put 1 rfl rfl, ha.up rfl, hw⟩
 ·rintro D σ w hD hdep hcl ⟨v36, v38, hv, ha, hw⟩
  obtain ⟨τ, rfl⟩ := (ac (hv.at 0 rfl (hdep.1 rfl)) (ac (hv.at 1 rfl (hdep.2.1 rfl)) az)).ups
  have hw := hw.selT (i := 0) rfl (hdep.1 rfl)
  refine RL.call trivial rfl fn17 [v36, (str p2)] rfl (Calls_ret (netlist_NetAt_ok N (p1 := p2) (i0 := 0) hw rfl hx37) ?_)
  rintro _ w ⟨rfl, hw⟩
  have hw := hw.altT (i := 0) (b := D 0) rfl (hdep.1 rfl) (junk)
  refine RL.nil ?_
  exact ⟨rfl, v36, v38, hv.put 2 rfl rfl, ha.up rfl, hw⟩
 ·rintro D σ w hD hdep hcl ⟨v36, v38, hv, ha, hw⟩
  obtain ⟨τ, rfl⟩ := (ac (ha.at 2 rfl) az).ups
  have hw := hw.selF (i := 1) rfl hD
  refine RL.load_bf (i := 4) (f := (fun x => x)) trivial rfl hw rfl rfl Fd.self ty26 fun v41 hw => ?_
  have hw := hw.pick 8 [1, 0, 3, 4, 5, 6, 7] (new := [bif D 0 then (rd v36 p1) else junk, rd v41 p1, rd v33 p1, raw 26 b32 2, bx 26 b31 p1, rd v1 p1, rd v0 p0]) rfl rfl (by decide) (by decide)
  have hw := hw.altT (i := 1) (b := true) rfl rfl (junk)
  refine RL.nil ?_
  exact ⟨rfl, v36, v41, hv.put 3 rfl rfl, ha.up rfl, hw⟩
 ·rintro D σ w hD hdep hcl ⟨v36, v38, hv, ha, hw⟩
  obtain ⟨τ, rfl⟩ := (ac (ha.at 1 rfl) az).ups
  refine mv (str p3) rfl rfl ?_
  refine RL.nil ?_
  exact ⟨rfl, v36, v38, hv.put 4 rfl rfl, ha.up rfl, hw⟩
 ·rintro D σ w hD hdep hcl ⟨v36, v38, hv, ha, hw⟩
  obtain ⟨τ, rfl⟩ := (ac (hv.at 3 rfl (hdep.1 rfl)) (ac (hv.at 4 rfl (hdep.2.1 rfl)) az)).ups
  have hw := hw.selT (i := 1) rfl (hdep.1 rfl)
  refine RL.call trivial rfl fn17 [v38, (str p3)] rfl (Calls_ret (netlist_NetAt_ok N (p1 := p3) (i0 := 1) hw rfl hx39) ?_)
  rintro _ w ⟨rfl, hw⟩
  have hw := hw.altT (i := 1) (b := D 3) rfl (hdep.1 rfl) (junk)
  refine RL.nil ?_
  exact ⟨rfl, v36, v38, hv.put 5 rfl rfl, ha.up rfl, hw⟩
 ·rintro D σ w hD hdep hcl ⟨v36, v38, hv, ha, hw⟩
  obtain ⟨τ, rfl⟩ := (ac (hv.at 2 rfl (hdep.1 rfl)) az).ups
  refine as_ (vi x37) rfl rfl ?_
  refine RL.nil ?_
  exact ⟨rfl, v36, v38, hv.put 6 rfl rfl, ha.up rfl, hw⟩
 ·rintro D σ w hD hdep hcl ⟨v36, v38, hv, ha, hw⟩
  obtain ⟨τ, rfl⟩ := (ac (hv.at 5 rfl (hdep.1 rfl)) az).ups
  refine as_ (vi x39) rfl rfl ?_
  refine RL.nil ?_
  exact ⟨rfl, v36, v38, hv.put 7 rfl rfl, ha.up rfl, hw⟩
 rintro D σ w hall ⟨v36, v38, hv, ha, hw⟩
 rw [hall 0 (by decide), hall 3 (by decide)] at hw
 obtain ⟨τ, rfl⟩ := (ac (hv.at 6 rfl (hall 6 (by decide))) (ac (hv.at 7 rfl (hall 7 (by decide))) (ac (ha.at 0 rfl) (ac (ha.at 1 rfl) (ac (ha.at 2 rfl) (ac (ha.at 3 rfl) az)))))).ups
 refine thenQ_n ?_
 refine RC.seq ?_
 refine RC.bs ?_
 refine mv (vi x37) rfl rfl ?_
 refine ic x37 0 rfl rfl rfl rfl ?_
 refine mv (vb (decide (x37 < 0))) rfl rfl ?_
 refine RL.gs (c := true) (b := (decide (x37 < 0))) (v := (vi x39)) rfl rfl rfl (gs_move rfl (fun _ => rfl)) ?_
 refine RL.gs (c := true) (b := (decide (x37 < 0))) (v := (vb (decide (x39 < 0)))) rfl rfl rfl (gs_icmp (bop := .lss) (K := .i64) (a := x39) (b := 0) rfl (fun h => by exact (cv_t h : cv (true && ((decide (x37 < 0)) == false)) (vi x39) = (vi x39))) (fun _ => rfl) rfl) ?_
 refine RL.pick (b := (decide (x37 < 0))) (v := (vb ((decide (x37 < 0)) || (decide (x39 < 0))))) trivial rfl rfl (pk_or (c := true) rfl) ?_
 refine as_ (vb ((decide (x37 < 0)) || (decide (x39 < 0)))) rfl rfl ?_
 refine RL.nt ?_
 refine RC.cond (b := ((decide (x37 < 0)) || (decide (x39 < 0)))) rfl (fun hc => ?_) (fun hc => ?_)
 ·replace hb := cT hc hb
  refine RC.sr ?_
  refine RL.buildc (zs := [(.slice none 0 0), (.slice none 0 0)]) (cs := [(.slice none 0 0), (.slice none 0 0)]) trivial rfl [] rfl st26 trivial rfl ?_
  have hw := hw.rd_nil Part
  have hw := hw.rd_nil Net
  have hw := hw.rd_agg (cs := [(.slice none 0 0), (.slice none 0 0)]) (x := (⟨([] : (List Part)), ([] : (List Net))⟩ : Netlist)) (fun M hs g => ⟨[(.slice none 0 0)], [(.slice none 0 0)], rfl, (rd_one rfl (g.sat 1 _ rfl).1), (rd_one rfl (g.sat 0 _ rfl).1)⟩) rfl
  refine RL.store_raw (i := 6) (j := 0) trivial hw rfl rfl rfl rfl ty26 rfl fun w hw => ?_
  refine as_ (vi 9) rfl rfl ?_
  refine RL.nt ?_
  refine RC.rb ?_
  refine thenQ_r ?_
  obtain rfl := oi hb
  exact finC2 (i := 6) rfl hw rfl rfl ty26 rfl fun v78 hw => ⟨v78, rfl, hw.pick 11 [0] (new := [rd v78 (⟨([] : (List Part)), ([] : (List Net))⟩ : Netlist)]) rfl rfl (by decide) (by decide)⟩
 replace hb := cF hc hb
 refine RC.sr ?_
 refine mv (vi x37) rfl rfl ?_
 refine mv (vi x39) rfl rfl ?_
 refine ic x37 x39 rfl rfl rfl rfl ?_
 refine as_ (vb (x37 == x39)) rfl rfl ?_
 refine RL.nt ?_
 refine RC.cond (b := (x37 == x39)) rfl (fun hc => ?_) (fun hc => ?_)
 ·replace hb := cT hc hb
  refine RC.sr ?_
  refine RL.buildc (zs := [(.slice none 0 0), (.slice none 0 0)]) (cs := [(.slice none 0 0), (.slice none 0 0)]) trivial rfl [] rfl st26 trivial rfl ?_
  have hw := hw.rd_nil Part
  have hw := hw.rd_nil Net
  have hw := hw.rd_agg (cs := [(.slice none 0 0), (.slice none 0 0)]) (x := (⟨([] : (List Part)), ([] : (List Net))⟩ : Netlist)) (fun M hs g => ⟨[(.slice none 0 0)], [(.slice none 0 0)], rfl, (rd_one rfl (g.sat 1 _ rfl).1), (rd_one rfl (g.sat 0 _ rfl).1)⟩) rfl
  refine RL.store_raw (i := 6) (j := 0) trivial hw rfl rfl rfl rfl ty26 rfl fun w hw => ?_
  refine as_ (vi 12) rfl rfl ?_
  refine RL.nt ?_
  refine RC.rb ?_
  refine thenQ_r ?_
  obtain rfl := oi hb
  exact finC2 (i := 6) rfl hw rfl rfl ty26 rfl fun v97 hw => ⟨v97, rfl, hw.pick 11 [0] (new := [rd v97 (⟨([] : (List Part)), ([] : (List Net))⟩ : Netlist)]) rfl rfl (by decide) (by decide)⟩
 replace hb := cF hc hb
 refine RC.seq ?_
 obtain ⟨x99, hx99, hb⟩ := bd hb
 obtain ⟨x104, hx104, hb⟩ := bd hb
 refine RC.drw mixed rfl (fun (D : Nat → Bool) (σ : Nat → Value) (w : World) => ∃ (v98 : Value) (v100 : Value) (v101 : Value) (v102 : Value) (v103 : Value) (v105 : Value) (v106 : Value) (v107 : Value), doneV D σ [(0, 42, (vp b31 1)), (1, 43, v98), (2, 44, (vi x37)), (3, 45, v100), (4, 46, v101), (5, 47, v102), (6, 48, (vi (x99.Pins.length : Int))), (7, 49, (vp b31 1)), (8, 50, v103), (9, 51, (vi x39)), (10, 52, v105), (11, 53, v106), (12, 54, v107), (13, 55, (vi (x104.Pins.length : Int))), (14, 56, (vi (IntKind.wrap .i64 ((x99.Pins.length : Int) + (x104.Pins.length : Int))))), (15, 57, (vb (decide ((IntKind.wrap .i64 ((x99.Pins.length : Int) + (x104.Pins.length : Int))) > 500)))), (16, 41, (vb (decide ((IntKind.wrap .i64 ((x99.Pins.length : Int) + (x104.Pins.length : Int))) > 500))))] ∧ agree σ [(5, (vp b31 0)), (8, (vp b32 0)), (11, (vi x37)), (12, (vi x39))] ∧ Holds E w ([bif D 1 then (rd v98 p1.Nets) else junk, bif D 3 then (pt v100 x99) else junk, bif D 4 then (pt v101 x99.Pins) else junk, bif D 5 then (rd v102 x99.Pins) else junk, bif D 8 then (rd v103 p1.Nets) else junk, bif D 10 then (pt v105 x104) else junk, bif D 11 then (pt v106 x104.Pins) else junk, bif D 12 then (rd v107 x104.Pins) else junk, rd v36 p1, rd v38 p1, rd v33 p1, raw 26 b32 2, bx 26 b31 p1, rd v1 p1, rd v0 p0] ++ Γ)) ?_ ⟨?_, ?_, ?_, ?_, ?_, ?_, ?_, ?_, ?_, ?_, ?_, ?_, ?_, ?_, ?_, ?_, ?_, trivial⟩ ?_
 ·have hw := hw.drew
  have hw := hw.junk
  have hw := hw.junk
  have hw := hw.junk
  have hw := hw.junk
  have hw := hw.junk
  have hw := hw.junk
  have hw := hw.junk
  have hw := hw.junk
  exact ⟨undef, undef, undef, undef, undef, undef, undef, undef, doneV.none, ⟨rfl, rfl, rfl, rfl, trivial⟩, hw⟩
 ·rintro D σ w hD hdep hcl ⟨v98, v100, v101, v102, v103, v105, v106, v107, hv, ha, hw⟩
  obtain ⟨τ, rfl⟩ := (ac (ha.at 0 rfl) az).ups
  refine RL.fa_b trivial rfl rfl fa26_1 ?_
  refine RL.nil ?_
  exact ⟨rfl, v98, v100, v101, v102, v103, v105, v106, v107, hv.put 0 rfl rfl, ha.up rfl, hw⟩
 ·rintro D σ w hD hdep hcl ⟨v98, v100, v101, v102, v103, v105, v106, v107, hv, ha, hw⟩
  obtain ⟨τ, rfl⟩ := (ac (hv.at 0 rfl (hdep.1 rfl)) az).ups
  have hw := hw.selF (i := 0) rfl hD
  refine RL.load_bf (i := 12) (f := (fun x => x.Nets)) trivial rfl hw rfl rfl fd_Netlist_1 ty24 fun v108 hw => ?_
  have hw := hw.pick 16 [0, 2, 3, 4, 5, 6, 7, 8, 9, 10, 11, 12, 13, 14, 15] (new := [rd v108 p1.Nets, bif D 3 then (pt v100 x99) else junk, bif D 4 then (pt v101 x99.Pins) else junk, bif D 5 then (rd v102 x99.Pins) else junk, bif D 8 then (rd v103 p1.Nets) else junk, bif D 10 then (pt v105 x104) else junk, bif D 11 then (pt v106 x104.Pins) else junk, bif D 12 then (rd v107 x104.Pins) else junk, rd v36 p1, rd v38 p1, rd v33 p1, raw 26 b32 2, bx 26 b31 p1, rd v1 p1, rd v0 p0]) rfl rfl (by decide) (by decide)
  have hw := hw.altT (i := 0) (b := true) rfl rfl (junk)
  refine RL.nil ?_
  exact ⟨rfl, v108, v100, v101, v102, v103, v105, v106, v107, hv.put 1 rfl rfl, ha.up rfl, hw⟩
 ·rintro D σ w hD hdep hcl ⟨v98, v100, v101, v102, v103, v105, v106, v107, hv, ha, hw⟩
  obtain ⟨τ, rfl⟩ := (ac (ha.at 2 rfl) az).ups
  refine mv (vi x37) rfl rfl ?_
  refine RL.nil ?_
  exact ⟨rfl, v98, v100, v101, v102, v103, v105, v106, v107, hv.put 2 rfl rfl, ha.up rfl, hw⟩
 ·rintro D σ w hD hdep hcl ⟨v98, v100, v101, v102, v103, v105, v106, v107, hv, ha, hw⟩
  obtain ⟨τ, rfl⟩ := (ac (hv.at 1 rfl (hdep.1 rfl)) (ac (hv.at 2 rfl (hdep.2.1 rfl)) az)).ups
  have hw := hw.selT (i := 0) rfl (hdep.1 rfl)
  have hw := hw.selF (i := 1) rfl hD
  refine RL.ia_rd (i := 0) trivial rfl hw rfl rfl rfl sl24 hx99 fun v109 hw => ?_
  have hw := hw.pick 16 [1, 0, 3, 4, 5, 6, 7, 8, 9, 10, 11, 12, 13, 14, 15] (new := [rd v98 p1.Nets, pt v109 x99, bif D 4 then (pt v101 x99.Pins) else junk, bif D 5 then (rd v102 x99.Pins) else junk, bif D 8 then (rd v103 p1.Nets) else junk, bif D 10 then (pt v105 x104) else junk, bif D 11 then (pt v106 x104.Pins) else junk, bif D 12 then (rd v107 x104.Pins) else junk, rd v36 p1, rd v38 p1, rd v33 p1, raw 26 b32 2, bx 26 b31 p1, rd v1 p1, rd v0 p0]) rfl rfl (by decide) (by decide)
  have hw := hw.altT (i := 0) (b := D 1) rfl (hdep.1 rfl) (junk)
  have hw := hw.altT (i := 1) (b := true) rfl rfl (junk)
  refine RL.nil ?_
  exact ⟨rfl, v98, v109, v101, v102, v103, v105, v106, v107, hv.put 3 rfl rfl, ha.up rfl, hw⟩
 ·rintro D σ w hD hdep hcl ⟨v98, v100, v101, v102, v103, v105, v106, v107, hv, ha, hw⟩
  obtain ⟨τ, rfl⟩ := (ac (hv.at 3 rfl (hdep.1 rfl)) az).ups
  have hw := hw.selT (i := 1) rfl (hdep.1 rfl)
  have hw := hw.selF (i := 2) rfl hD
  refine RL.fa_pt (i := 1) (f := fun (x : Net) => x.Pins) trivial rfl hw rfl rfl fa39_1 fd_Net_1 fun v110 hw => ?_
  have hw := hw.pick 16 [1, 2, 0, 4, 5, 6, 7, 8, 9, 10, 11, 12, 13, 14, 15] (new := [bif D 1 then (rd v98 p1.Nets) else junk, pt v100 x99, pt v110 x99.Pins, bif D 5 then (rd v102 x99.Pins) else junk, bif D 8 then (rd v103 p1.Nets) else junk, bif D 10 then (pt v105 x104) else junk, bif D 11 then (pt v106 x104.Pins) else junk, bif D 12 then (rd v107 x104.Pins) else junk, rd v36 p1, rd v38 p1, rd v33 p1, raw 26 b32 2, bx 26 b31 p1, rd v1 p1, rd v0 p0]) rfl rfl (by decide) (by decide)
  have hw := hw.altT (i := 1) (b := D 3) rfl (hdep.1 rfl) (junk)
  have hw := hw.altT (i := 2) (b := true) rfl rfl (junk)
  refine RL.nil ?_
  exact ⟨rfl, v98, v100, v110, v102, v103, v105, v106, v107, hv.put 4 rfl rfl, ha.up rfl, hw⟩
 ·rintro D σ w hD hdep hcl ⟨v98, v100, v101, v102, v103, v105, v106, v107, hv, ha, hw⟩
  obtain ⟨τ, rfl⟩ := (ac (hv.at 4 rfl (hdep.1 rfl)) az).ups
  have hw := hw.selT (i := 2) rfl (hdep.1 rfl)
  have hw := hw.selF (i := 3) rfl hD
  refine RL.load_pt (i := 2) (x := x99.Pins) trivial rfl hw rfl rfl ty37 fun v111 hw => ?_
  have hw := hw.pick 16 [1, 2, 3, 0, 5, 6, 7, 8, 9, 10, 11, 12, 13, 14, 15] (new := [bif D 1 then (rd v98 p1.Nets) else junk, bif D 3 then (pt v100 x99) else junk, pt v101 x99.Pins, rd v111 x99.Pins, bif D 8 then (rd v103 p1.Nets) else junk, bif D 10 then (pt v105 x104) else junk, bif D 11 then (pt v106 x104.Pins) else junk, bif D 12 then (rd v107 x104.Pins) else junk, rd v36 p1, rd v38 p1, rd v33 p1, raw 26 b32 2, bx 26 b31 p1, rd v1 p1, rd v0 p0]) rfl rfl (by decide) (by decide)
  have hw := hw.altT (i := 2) (b := D 4) rfl (hdep.1 rfl) (junk)
  have hw := hw.altT (i := 3) (b := true) rfl rfl (junk)
  refine RL.nil ?_
  exact ⟨rfl, v98, v100, v101, v111, v103, v105, v106, v107, hv.put 5 rfl rfl, ha.up rfl, hw⟩
 ·rintro D σ w hD hdep hcl ⟨v98, v100, v101, v102, v103, v105, v106, v107, hv, ha, hw⟩
  obtain ⟨τ, rfl⟩ := (ac (hv.at 5 rfl (hdep.1 rfl)) az).ups
  have hw := hw.selT (i := 3) rfl (hdep.1 rfl)
  refine RL.len_rd (i := 3) (l := x99.Pins) trivial rfl hw rfl rfl un37 ?_
  have hw := hw.altT (i := 3) (b := D 5) rfl (hdep.1 rfl) (junk)
  refine RL.nil ?_
  exact ⟨rfl, v98, v100, v101, v102, v103, v105, v106, v107, hv.put 6 rfl rfl, ha.up rfl, hw⟩
 ·rintro D σ w hD hdep hcl ⟨v98, v100, v101, v102, v103, v105, v106, v107, hv, ha, hw⟩
  obtain ⟨τ, rfl⟩ := (ac (ha.at 0 rfl) az).ups
  refine RL.fa_b trivial rfl rfl fa26_1 ?_
  refine RL.nil ?_
  exact ⟨rfl, v98, v100, v101, v102, v103, v105, v106, v107, hv.put 7 rfl rfl, ha.up rfl, hw⟩
 ·rintro D σ w hD hdep hcl ⟨v98, v100, v101, v102, v103, v105, v106, v107, hv, ha, hw⟩
  obtain ⟨τ, rfl⟩ := (ac (hv.at 7 rfl (hdep.1 rfl)) az).ups
  have hw := hw.selF (i := 4) rfl hD
  refine RL.load_bf (i := 12) (f := (fun x => x.Nets)) trivial rfl hw rfl rfl fd_Netlist_1 ty24 fun v112 hw => ?_
  have hw := hw.pick 16 [1, 2, 3, 4, 0, 6, 7, 8, 9, 10, 11, 12, 13, 14, 15] (new := [bif D 1 then (rd v98 p1.Nets) else junk, bif D 3 then (pt v100 x99) else junk, bif D 4 then (pt v101 x99.Pins) else junk, bif D 5 then (rd v102 x99.Pins) else junk, rd v112 p1.Nets, bif D 10 then (pt v105 x104) else junk, bif D 11 then (pt v106 x104.Pins) else junk, bif D 12 then (rd v107 x104.Pins) else junk, rd v36 p1, rd v38 p1, rd v33 p1, raw 26 b32 2, bx 26 b31 p1, rd v1 p1, rd v0 p0]) rfl rfl (by decide) (by decide)
  have hw := hw.altT (i := 4) (b := true) rfl rfl (junk)
  refine RL.nil ?_
  exact ⟨rfl, v98, v100, v101, v102, v112, v105, v106, v107, hv.put 8 rfl rfl, ha.up rfl, hw⟩
 ·rintro D σ w hD hdep hcl ⟨v98, v100, v101, v102, v103, v105, v106, v107, hv, ha, hw⟩
  obtain ⟨τ, rfl⟩ := (ac (ha.at 3 rfl) az).ups
  refine mv (vi x39) rfl rfl ?_
  refine RL.nil ?_
  exact ⟨rfl, v98, v100, v101, v102, v103, v105, v106, v107, hv.put 9 rfl rfl, ha.up rfl, hw⟩
 ·rintro D σ w hD hdep hcl ⟨v98, v100, v101, v102, v103, v105, v106, v107, hv, ha, hw⟩
  obtain ⟨τ, rfl⟩ := (ac (hv.at 8 rfl (hdep.1 rfl)) (ac (hv.at 9 rfl (hdep.2.1 rfl)) az)).ups
  have hw := hw.selT (i := 4) rfl (hdep.1 rfl)
  have hw := hw.selF (i := 5) rfl hD
  refine RL.ia_rd (i := 4) trivial rfl hw rfl rfl rfl sl24 hx104 fun v113 hw => ?_
  have hw := hw.pick 16 [1, 2, 3, 4, 5, 0, 7, 8, 9, 10, 11, 12, 13, 14, 15] (new := [bif D 1 then (rd v98 p1.Nets) else junk, bif D 3 then (pt v100 x99) else junk, bif D 4 then (pt v101 x99.Pins) else junk, bif D 5 then (rd v102 x99.Pins) else junk, rd v103 p1.Nets, pt v113 x104, bif D 11 then (pt v106 x104.Pins) else junk, bif D 12 then (rd v107 x104.Pins) else junk, rd v36 p1, rd v38 p1, rd v33 p1, raw 26 b32 2, bx 26 b31 p1, rd v1 p1, rd v0 p0]) rfl rfl (by decide) (by decide)
  have hw := hw.altT (i := 4) (b := D 8) rfl (hdep.1 rfl) (junk)
  have hw := hw.altT (i := 5) (b := true) rfl rfl (junk)
  refine RL.nil ?_
  exact ⟨rfl, v98, v100, v101, v102, v103, v113, v106, v107, hv.put 10 rfl rfl, ha.up rfl, hw⟩
 ·rintro D σ w hD hdep hcl ⟨v98, v100, v101, v102, v103, v105, v106, v107, hv, ha, hw⟩
  obtain ⟨τ, rfl⟩ := (ac (hv.at 10 rfl (hdep.1 rfl)) az).ups
  have hw := hw.selT (i := 5) rfl (hdep.1 rfl)
  have hw := hw.selF (i := 6) rfl hD
  refine RL.fa_pt (i := 5) (f := fun (x : Net) => x.Pins) trivial rfl hw rfl rfl fa39_1 fd_Net_1 fun v114 hw => ?_
  have hw := hw.pick 16 [1, 2, 3, 4, 5, 6, 0, 8, 9, 10, 11, 12, 13, 14, 15] (new := [bif D 1 then (rd v98 p1.Nets) else junk, bif D 3 then (pt v100 x99) else junk, bif D 4 then (pt v101 x99.Pins) else junk, bif D 5 then (rd v102 x99.Pins) else junk, bif D 8 then (rd v103 p1.Nets) else junk, pt v105 x104, pt v114 x104.Pins, bif D 12 then (rd v107 x104.Pins) else junk, rd v36 p1, rd v38 p1, rd v33 p1, raw 26 b32 2, bx 26 b31 p1, rd v1 p1, rd v0 p0]) rfl rfl (by decide) (by decide)
  have hw := hw.altT (i := 5) (b := D 10) rfl (hdep.1 rfl) (junk)
  have hw := hw.altT (i := 6) (b := true) rfl rfl (junk)
  refine RL.nil ?_
  exact ⟨rfl, v98, v100, v101, v102, v103, v105, v114, v107, hv.put 11 rfl rfl, ha.up rfl, hw⟩
 ·rintro D σ w hD hdep hcl ⟨v98, v100, v101, v102, v103, v105, v106, v107, hv, ha, hw⟩
  obtain ⟨τ, rfl⟩ := (ac (hv.at 11 rfl (hdep.1 rfl)) az).ups
  have hw := hw.selT (i := 6) rfl (hdep.1 rfl)
  have hw := hw.selF (i := 7) rfl hD
  refine RL.load_pt (i := 6) (x := x104.Pins) trivial rfl hw rfl rfl ty37 fun v115 hw => ?_
  have hw := hw.pick 16 [1, 2, 3, 4, 5, 6, 7, 0, 9, 10, 11, 12, 13, 14, 15] (new := [bif D 1 then (rd v98 p1.Nets) else junk, bif D 3 then (pt v100 x99) else junk, bif D 4 then (pt v101 x99.Pins) else junk, bif D 5 then (rd v102 x99.Pins) else junk, bif D 8 then (rd v103 p1.Nets) else junk, bif D 10 then (pt v105 x104) else junk, pt v106 x104.Pins, rd v115 x104.Pins, rd v36 p1, rd v38 p1, rd v33 p1, raw 26 b32 2, bx 26 b31 p1, rd v1 p1, rd v0 p0]) rfl rfl (by decide) (by decide)
  have hw := hw.altT (i := 6) (b := D 11) rfl (hdep.1 rfl) (junk)
  have hw := hw.altT (i := 7) (b := true) rfl rfl (junk)
  refine RL.nil ?_
  exact ⟨rfl, v98, v100, v101, v102, v103, v105, v106, v115, hv.put 12 rfl rfl, ha.up rfl, hw⟩
 ·rintro D σ w hD hdep hcl ⟨v98, v100, v101, v102, v103, v105, v106, v107, hv, ha, hw⟩
  obtain ⟨τ, rfl⟩ := (ac (hv.at 12 rfl (hdep.1 rfl)) az).ups
  have hw := hw.selT (i := 7) rfl (hdep.1 rfl)
  refine RL.len_rd (i := 7) (l := x104.Pins) trivial rfl hw rfl rfl un37 ?_
  have hw := hw.altT (i := 7) (b := D 12) rfl (hdep.1 rfl) (junk)
  refine RL.nil ?_
  exact ⟨rfl, v98, v100, v101, v102, v103, v105, v106, v107, hv.put 13 rfl rfl, ha.up rfl, hw⟩
 ·rintro D σ w hD hdep hcl ⟨v98, v100, v101, v102, v103, v105, v106, v107, hv, ha, hw⟩
  obtain ⟨τ, rfl⟩ := (ac (hv.at 6 rfl (hdep.1 rfl)) (ac (hv.at 13 rfl (hdep.2.1 rfl)) az)).ups
  refine RL.iar (a := (x99.Pins.length : Int)) (b := (x104.Pins.length : Int)) trivial rfl rfl rfl rfl ?_
  refine RL.nil ?_
  exact ⟨rfl, v98, v100, v101, v102, v103, v105, v106, v107, hv.put 14 rfl rfl, ha.up rfl, hw⟩
 ·rintro D σ w hD hdep hcl ⟨v98, v100, v101, v102, v103, v105, v106, v107, hv, ha, hw⟩
  obtain ⟨τ, rfl⟩ := (ac (hv.at 14 rfl (hdep.1 rfl)) az).ups
  refine ic ((IntKind.wrap .i64 ((x99.Pins.length : Int) + (x104.Pins.length : Int)))) 500 rfl rfl rfl rfl ?_
  refine RL.nil ?_
  exact ⟨rfl, v98, v100, v101, v102, v103, v105, v106, v107, hv.put 15 rfl rfl, ha.up rfl, hw⟩
 ·rintro D σ w hD hdep hcl ⟨v98, v100, v101, v102, v103, v105, v106, v107, hv, ha, hw⟩
  obtain ⟨τ, rfl⟩ := (ac (hv.at 15 rfl (hdep.1 rfl)) az).ups
  refine as_ (vb (decide ((IntKind.wrap .i64 ((x99.Pins.length : Int) + (x104.Pins.length : Int))) > 500))) rfl rfl ?_
  refine RL.nil ?_
  exact ⟨rfl, v98, v100, v101, v102, v103, v105, v106, v107, hv.put 16 rfl rfl, ha.up rfl, hw⟩
 rintro D σ w hall ⟨v98, v100, v101, v102, v103, v105, v106, v107, hv, ha, hw⟩
 rw [hall 1 (by decide), hall 3 (by decide), hall 4 (by decide), hall 5 (by decide), hall 8 (by decide), hall 10 (by decide), hall 11 (by decide), hall 12 (by decide)] at hw
 obtain ⟨τ, rfl⟩ := (ac (hv.at 16 rfl (hall 16 (by decide))) (ac (ha.at 0 rfl) (ac (ha.at 1 rfl) (ac (ha.at 2 rfl) (ac (ha.at 3 rfl) az))))).ups
 refine thenQ_n ?_
 refine RC.cond (b := (decide ((IntKind.wrap .i64 ((x99.Pins.length : Int) + (x104.Pins.length : Int))) > 500))) rfl (fun hc => ?_) (fun hc => ?_)
 ·replace hb := cT hc hb
  refine RC.sr ?_
  refine RL.buildc (zs := [(.slice none 0 0), (.slice none 0 0)]) (cs := [(.slice none 0 0), (.slice none 0 0)]) trivial rfl [] rfl st26 trivial rfl ?_
  have hw := hw.rd_nil Part
  have hw := hw.rd_nil Net
  have hw := hw.rd_agg (cs := [(.slice none 0 0), (.slice none 0 0)]) (x := (⟨([] : (List Part)), ([] : (List Net))⟩ : Netlist)) (fun M hs g => ⟨[(.slice none 0 0)], [(.slice none 0 0)], rfl, (rd_one rfl (g.sat 1 _ rfl).1), (rd_one rfl (g.sat 0 _ rfl).1)⟩) rfl
  refine RL.store_raw (i := 14) (j := 0) trivial hw rfl rfl rfl rfl ty26 rfl fun w hw => ?_
  refine as_ (vi 2) rfl rfl ?_
  refine RL.nt ?_
  refine RC.rb ?_
  refine thenQ_r ?_
  obtain rfl := oi hb
  exact finC2 (i := 14) rfl hw rfl rfl ty26 rfl fun v116 hw => ⟨v116, rfl, hw.pick 19 [0] (new := [rd v116 (⟨([] : (List Part)), ([] : (List Net))⟩ : Netlist)]) rfl rfl (by decide) (by decide)⟩
 replace hb := cF hc hb
 refine RC.skip ?_
 refine blkQ_n ?_
 refine thenQ_n ?_
 refine RC.sr ?_
 refine mv (vi x37) rfl rfl ?_
 refine mv (vi x39) rfl rfl ?_
 refine RL.min (a := x37) (b := x39) trivial rfl rfl rfl ?_
 refine mv (vi x37) rfl rfl ?_
 refine mv (vi x39) rfl rfl ?_
 refine RL.max (a := x37) (b := x39) trivial rfl rfl rfl ?_
 refine as_ (vi (if x39 < x37 then x39 else x37)) rfl rfl ?_
 refine as_ (vi (if x37 < x39 then x39 else x37)) rfl rfl ?_
 refine RL.ns ?_
 refine RL.load_bf (i := 12) (f := (fun x => x)) trivial rfl hw rfl rfl Fd.self ty26 fun v117 hw => ?_
 obtain ⟨x118, hx118, hb⟩ := bd hb
 refine RL.call trivial rfl fn27 [v117] rfl (Calls_ret (netlist_Own_ok N  (i0 := 0) hw rfl hx118) ?_)
 rintro _ w ⟨v119, v120, us121, rfl, hw⟩
 refine RL.alloc_bc trivial rfl hw zc26 rfl fun b122 w hw => ?_
 refine RL.store_bca (i := 0) (cs := [v119, v120]) trivial hw rfl rfl rfl (oneL.all (⟨(one_own hw (i := 1) rfl), (one_own hw (i := 2) rfl), trivial⟩ : oneL [v119, v120])) ty26 rfl rfl fun w hw => ?_
 refine RL.ns ?_
 refine RL.fa_b trivial rfl rfl fa26_1 ?_
 refine RL.load_bc (i := 0) (v := v120) trivial rfl hw rfl rfl rfl ty24 ?_
 refine mv (vi (if x39 < x37 then x39 else x37)) rfl rfl ?_
 obtain ⟨x123, hx123, hb⟩ := bd hb
 have hl124 := hw.bag_len (j := 3) rfl
 have hr125 := idx_raw (default : Net_r1) hl124 hx123
 have hq126 := elp hw (i := 2) rfl hr125 0
 refine RL.ia_ownA (i := 2) trivial rfl hw rfl rfl rfl sl24 hr125 ?_
 refine as_ (elA v120 (Int.toNat (if x39 < x37 then x39 else x37)) 3 0) rfl rfl ?_
 refine RL.nq ?_
 obtain ⟨x131, hx131, hb⟩ := bd hb
 obtain ⟨x138, hx138, hb⟩ := bd hb
 obtain ⟨x139, hx139, hb⟩ := bd hb
 refine RC.drw mixed rfl (fun (D : Nat → Bool) (σ : Nat → Value) (w : World) => ∃ (v140 : Value), doneV D σ [(0, 71, (elA v120 (Int.toNat (if x39 < x37 then x39 else x37)) 3 0)), (1, 72, (elA v120 (Int.toNat (if x39 < x37 then x39 else x37)) 3 0)), (2, 73, (elA v120 (Int.toNat (if x39 < x37 then x39 else x37)) 3 0)), (3, 74, (elA v120 (Int.toNat (if x39 < x37 then x39 else x37)) 3 1)), (4, 75, (us121.getD (Int.toNat (if x39 < x37 then x39 else x37)) (default : Net_r1)).Pins.v), (5, 76, (vp b122 1)), (6, 77, v120), (7, 78, (vi (if x37 < x39 then x39 else x37))), (8, 79, (elA v120 (Int.toNat (if x37 < x39 then x39 else x37)) 3 0)), (9, 80, (elA v120 (Int.toNat (if x37 < x39 then x39 else x37)) 3 1)), (10, 81, (us121.getD (Int.toNat (if x37 < x39 then x39 else x37)) (default : Net_r1)).Pins.v), (11, 82, v140), (12, 83, (elA v120 (Int.toNat (if x39 < x37 then x39 else x37)) 3 0)), (13, 84, (elA v120 (Int.toNat (if x39 < x37 then x39 else x37)) 3 1))] ∧ agree σ [(8, (vp b32 0)), (12, (vi (if x37 < x39 then x39 else x37))), (13, (vp b122 0)), (14, (elA v120 (Int.toNat (if x39 < x37 then x39 else x37)) 3 0))] ∧ Holds E w ([bif D 14 then (junk) else (bif D 11 then (own 45 v140 x139) else junk), bc 26 b122 [v119, v120], own 36 v119 x118.1, bif D 14 then (own 39 v120 (us121.set (Int.toNat (if x39 < x37 then x39 else x37)) { (us121.getD (Int.toNat (if x39 < x37 then x39 else x37)) (default : Net_r1)) with Pins := rv v140 })) else (own 39 v120 us121), bif D 14 then (bag XF_Net_r1 (us121.set (Int.toNat (if x39 < x37 then x39 else x37)) { (us121.getD (Int.toNat (if x39 < x37 then x39 else x37)) (default : Net_r1)) with Pins := rv v140 }) (x118.2.set (Int.toNat (if x39 < x37 then x39 else x37)) { x123 with Pins := x139 }) none) else (bif D 11 then (bag XF_Net_r1 us121 x118.2 (some (Int.toNat (if x39 < x37 then x39 else x37)))) else (bag XF_Net_r1 us121 x118.2 none)), rd v117 p1, rd v98 p1.Nets, pt v100 x99, pt v101 x99.Pins, rd v102 x99.Pins, rd v103 p1.Nets, pt v105 x104, pt v106 x104.Pins, rd v107 x104.Pins, rd v36 p1, rd v38 p1, rd v33 p1, raw 26 b32 2, bx 26 b31 p1, rd v1 p1, rd v0 p0] ++ Γ)) ?_ ⟨?_, ?_, ?_, ?_, ?_, ?_, ?_, ?_, ?_, ?_, ?_, ?_, ?_, ?_, ?_, trivial⟩ ?_
 ·have hw := hw.drew
  have hw := hw.junk
  exact ⟨undef, doneV.none, ⟨rfl, rfl, rfl, rfl, trivial⟩, hw⟩
 ·rintro D σ w hD hdep hcl ⟨v140, hv, ha, hw⟩
  obtain ⟨τ, rfl⟩ := (ac (ha.at 3 rfl) az).ups
  refine mv (elA v120 (Int.toNat (if x39 < x37 then x39 else x37)) 3 0) rfl rfl ?_
  refine RL.nil ?_
  exact ⟨rfl, v140, hv.put 0 rfl rfl, ha.up rfl, hw⟩
 ·rintro D σ w hD hdep hcl ⟨v140, hv, ha, hw⟩
  obtain ⟨τ, rfl⟩ := (ac (ha.at 3 rfl) az).ups
  refine mv (elA v120 (Int.toNat (if x39 < x37 then x39 else x37)) 3 0) rfl rfl ?_
  refine RL.nil ?_
  exact ⟨rfl, v140, hv.put 1 rfl rfl, ha.up rfl, hw⟩
 ·rintro D σ w hD hdep hcl ⟨v140, hv, ha, hw⟩
  obtain ⟨τ, rfl⟩ := (ac (hv.at 1 rfl (hdep.1 rfl)) az).ups
  refine RL.nilCheck_el trivial rfl rfl hq126 ?_
  refine RL.nil ?_
  exact ⟨rfl, v140, hv.put 2 rfl rfl, ha.up rfl, hw⟩
 ·rintro D σ w hD hdep hcl ⟨v140, hv, ha, hw⟩
  obtain ⟨τ, rfl⟩ := (ac (hv.at 2 rfl (hdep.1 rfl)) az).ups
  have hw := hw.selF (i := 3) rfl (nf (fun h => ft hD ((hcl 14 _ rfl h).2.2.2.2.2.2.1 rfl)))
  have hw := hw.selF (i := 4) rfl (nf (fun h => ft hD ((hcl 14 _ rfl h).2.2.2.2.2.2.1 rfl)))
  have hw := hw.selF (i := 4) rfl (nf (fun h => ft hD ((hcl 4 _ rfl ((hcl 11 _ rfl h).1 rfl)).1 rfl)))
  have hl145 := hw.bag_len (j := 4) rfl
  have hr146 := idx_raw (default : Net_r1) hl145 hx123
  refine RL.fa_elA (α := Net_r1) trivial rfl rfl (elp hw (i := 3) rfl hr146 0) fa39_1 ?_
  have hw := hw.altF (i := 3) (b := D 14) rfl (nf (fun h => ft hD ((hcl 14 _ rfl h).2.2.2.2.2.2.1 rfl))) (own 39 v120 (us121.set (Int.toNat (if x39 < x37 then x39 else x37)) { (us121.getD (Int.toNat (if x39 < x37 then x39 else x37)) (default : Net_r1)) with Pins := rv v140 }))
  have hw := hw.altF (i := 4) (b := D 11) rfl (nf (fun h => ft hD ((hcl 4 _ rfl ((hcl 11 _ rfl h).1 rfl)).1 rfl))) (bag XF_Net_r1 us121 x118.2 (some (Int.toNat (if x39 < x37 then x39 else x37))))
  have hw := hw.altF (i := 4) (b := D 14) rfl (nf (fun h => ft hD ((hcl 14 _ rfl h).2.2.2.2.2.2.1 rfl))) (bag XF_Net_r1 (us121.set (Int.toNat (if x39 < x37 then x39 else x37)) { (us121.getD (Int.toNat (if x39 < x37 then x39 else x37)) (default : Net_r1)) with Pins := rv v140 }) (x118.2.set (Int.toNat (if x39 < x37 then x39 else x37)) { x123 with Pins := x139 }) none)
  refine RL.nil ?_
  exact ⟨rfl, v140, hv.put 3 rfl rfl, ha.up rfl, hw⟩
 ·rintro D σ w hD hdep hcl ⟨v140, hv, ha, hw⟩
  obtain ⟨τ, rfl⟩ := (ac (hv.at 3 rfl (hdep.1 rfl)) az).ups
  have hw := hw.selF (i := 3) rfl (nf (fun h => ft hD ((hcl 14 _ rfl h).2.2.2.2.2.2.2.1 rfl)))
  have hw := hw.selF (i := 4) rfl (nf (fun h => ft hD ((hcl 14 _ rfl h).2.2.2.2.2.2.2.1 rfl)))
  have hw := hw.selF (i := 4) rfl (nf (fun h => ft hD ((hcl 11 _ rfl h).1 rfl)))
  have hl147 := hw.bag_len (j := 4) rfl
  have hr148 := idx_raw (default : Net_r1) hl147 hx123
  refine RL.load_peek (i := 3) (b := 4) (jj := (if x39 < x37 then x39 else x37)) xo_Net_r1 (default : Net_r1) trivial rfl hw rfl (elp hw (i := 3) rfl hr148 1) rfl rfl hx123 ty37 ?_
  have hw := hw.altF (i := 3) (b := D 14) rfl (nf (fun h => ft hD ((hcl 14 _ rfl h).2.2.2.2.2.2.2.1 rfl))) (own 39 v120 (us121.set (Int.toNat (if x39 < x37 then x39 else x37)) { (us121.getD (Int.toNat (if x39 < x37 then x39 else x37)) (default : Net_r1)) with Pins := rv v140 }))
  have hw := hw.altF (i := 4) (b := D 11) rfl (nf (fun h => ft hD ((hcl 11 _ rfl h).1 rfl))) (bag XF_Net_r1 us121 x118.2 (some (Int.toNat (if x39 < x37 then x39 else x37))))
  have hw := hw.altF (i := 4) (b := D 14) rfl (nf (fun h => ft hD ((hcl 14 _ rfl h).2.2.2.2.2.2.2.1 rfl))) (bag XF_Net_r1 (us121.set (Int.toNat (if x39 < x37 then x39 else x37)) { (us121.getD (Int.toNat (if x39 < x37 then x39 else x37)) (default : Net_r1)) with Pins := rv v140 }) (x118.2.set (Int.toNat (if x39 < x37 then x39 else x37)) { x123 with Pins := x139 }) none)
  refine RL.nil ?_
  exact ⟨rfl, v140, hv.put 4 rfl rfl, ha.up rfl, hw⟩
 ·rintro D σ w hD hdep hcl ⟨v140, hv, ha, hw⟩
  obtain ⟨τ, rfl⟩ := (ac (ha.at 2 rfl) az).ups
  refine RL.fa_b trivial rfl rfl fa26_1 ?_
  refine RL.nil ?_
  exact ⟨rfl, v140, hv.put 5 rfl rfl, ha.up rfl, hw⟩
 ·rintro D σ w hD hdep hcl ⟨v140, hv, ha, hw⟩
  obtain ⟨τ, rfl⟩ := (ac (hv.at 5 rfl (hdep.1 rfl)) az).ups
  refine RL.load_bc (i := 1) (v := v120) trivial rfl hw rfl rfl rfl ty24 ?_
  refine RL.nil ?_
  exact ⟨rfl, v140, hv.put 6 rfl rfl, ha.up rfl, hw⟩
 ·rintro D σ w hD hdep hcl ⟨v140, hv, ha, hw⟩
  obtain ⟨τ, rfl⟩ := (ac (ha.at 1 rfl) az).ups
  refine mv (vi (if x37 < x39 then x39 else x37)) rfl rfl ?_
  refine RL.nil ?_
  exact ⟨rfl, v140, hv.put 7 rfl rfl, ha.up rfl, hw⟩
 ·rintro D σ w hD hdep hcl ⟨v140, hv, ha, hw⟩
  obtain ⟨τ, rfl⟩ := (ac (hv.at 6 rfl (hdep.1 rfl)) (ac (hv.at 7 rfl (hdep.2.1 rfl)) az)).ups
  have hw := hw.selF (i := 3) rfl (nf (fun h => ft hD ((hcl 14 _ rfl h).2.2.2.2.2.2.2.2.2.2.2.1 rfl)))
  have hw := hw.selF (i := 4) rfl (nf (fun h => ft hD ((hcl 14 _ rfl h).2.2.2.2.2.2.2.2.2.2.2.1 rfl)))
  have hw := hw.selF (i := 4) rfl (nf (fun h => ft hD ((hcl 9 _ rfl ((hcl 10 _ rfl ((hcl 11 _ rfl h).2.1 rfl)).1 rfl)).1 rfl)))
  have hl149 := hw.bag_len (j := 4) rfl
  have hr150 := idx_raw (default : Net_r1) hl149 hx131
  refine RL.ia_ownA (i := 3) trivial rfl hw rfl rfl rfl sl24 hr150 ?_
  have hw := hw.altF (i := 3) (b := D 14) rfl (nf (fun h => ft hD ((hcl 14 _ rfl h).2.2.2.2.2.2.2.2.2.2.2.1 rfl))) (own 39 v120 (us121.set (Int.toNat (if x39 < x37 then x39 else x37)) { (us121.getD (Int.toNat (if x39 < x37 then x39 else x37)) (default : Net_r1)) with Pins := rv v140 }))
  have hw := hw.altF (i := 4) (b := D 11) rfl (nf (fun h => ft hD ((hcl 9 _ rfl ((hcl 10 _ rfl ((hcl 11 _ rfl h).2.1 rfl)).1 rfl)).1 rfl))) (bag XF_Net_r1 us121 x118.2 (some (Int.toNat (if x39 < x37 then x39 else x37))))
  have hw := hw.altF (i := 4) (b := D 14) rfl (nf (fun h => ft hD ((hcl 14 _ rfl h).2.2.2.2.2.2.2.2.2.2.2.1 rfl))) (bag XF_Net_r1 (us121.set (Int.toNat (if x39 < x37 then x39 else x37)) { (us121.getD (Int.toNat (if x39 < x37 then x39 else x37)) (default : Net_r1)) with Pins := rv v140 }) (x118.2.set (Int.toNat (if x39 < x37 then x39 else x37)) { x123 with Pins := x139 }) none)
  refine RL.nil ?_
  exact ⟨rfl, v140, hv.put 8 rfl rfl, ha.up rfl, hw⟩
 ·rintro D σ w hD hdep hcl ⟨v140, hv, ha, hw⟩
  obtain ⟨τ, rfl⟩ := (ac (hv.at 8 rfl (hdep.1 rfl)) az).ups
  have hw := hw.selF (i := 3) rfl (nf (fun h => ft hD ((hcl 14 _ rfl h).2.2.2.2.2.2.2.2.2.2.2.2.1 rfl)))
  have hw := hw.selF (i := 4) rfl (nf (fun h => ft hD ((hcl 14 _ rfl h).2.2.2.2.2.2.2.2.2.2.2.2.1 rfl)))
  have hw := hw.selF (i := 4) rfl (nf (fun h => ft hD ((hcl 10 _ rfl ((hcl 11 _ rfl h).2.1 rfl)).1 rfl)))
  have hl151 := hw.bag_len (j := 4) rfl
  have hr152 := idx_raw (default : Net_r1) hl151 hx131
  refine RL.fa_elA (α := Net_r1) trivial rfl rfl (elp hw (i := 3) rfl hr152 0) fa39_1 ?_
  have hw := hw.altF (i := 3) (b := D 14) rfl (nf (fun h => ft hD ((hcl 14 _ rfl h).2.2.2.2.2.2.2.2.2.2.2.2.1 rfl))) (own 39 v120 (us121.set (Int.toNat (if x39 < x37 then x39 else x37)) { (us121.getD (Int.toNat (if x39 < x37 then x39 else x37)) (default : Net_r1)) with Pins := rv v140 }))
  have hw := hw.altF (i := 4) (b := D 11) rfl (nf (fun h => ft hD ((hcl 10 _ rfl ((hcl 11 _ rfl h).2.1 rfl)).1 rfl))) (bag XF_Net_r1 us121 x118.2 (some (Int.toNat (if x39 < x37 then x39 else x37))))
  have hw := hw.altF (i := 4) (b := D 14) rfl (nf (fun h => ft hD ((hcl 14 _ rfl h).2.2.2.2.2.2.2.2.2.2.2.2.1 rfl))) (bag XF_Net_r1 (us121.set (Int.toNat (if x39 < x37 then x39 else x37)) { (us121.getD (Int.toNat (if x39 < x37 then x39 else x37)) (default : Net_r1)) with Pins := rv v140 }) (x118.2.set (Int.toNat (if x39 < x37 then x39 else x37)) { x123 with Pins := x139 }) none)
  refine RL.nil ?_
  exact ⟨rfl, v140, hv.put 9 rfl rfl, ha.up rfl, hw⟩
 ·rintro D σ w hD hdep hcl ⟨v140, hv, ha, hw⟩
  obtain ⟨τ, rfl⟩ := (ac (hv.at 9 rfl (hdep.1 rfl)) az).ups
  have hw := hw.selF (i := 3) rfl (nf (fun h => ft hD ((hcl 14 _ rfl h).2.2.2.2.2.2.2.2.2.2.2.2.2.1 rfl)))
  have hw := hw.selF (i := 4) rfl (nf (fun h => ft hD ((hcl 14 _ rfl h).2.2.2.2.2.2.2.2.2.2.2.2.2.1 rfl)))
  have hw := hw.selF (i := 4) rfl (nf (fun h => ft hD ((hcl 11 _ rfl h).2.1 rfl)))
  have hl153 := hw.bag_len (j := 4) rfl
  have hr154 := idx_raw (default : Net_r1) hl153 hx131
  refine RL.load_peek (i := 3) (b := 4) (jj := (if x37 < x39 then x39 else x37)) xo_Net_r1 (default : Net_r1) trivial rfl hw rfl (elp hw (i := 3) rfl hr154 1) rfl rfl hx131 ty37 ?_
  have hw := hw.altF (i := 3) (b := D 14) rfl (nf (fun h => ft hD ((hcl 14 _ rfl h).2.2.2.2.2.2.2.2.2.2.2.2.2.1 rfl))) (own 39 v120 (us121.set (Int.toNat (if x39 < x37 then x39 else x37)) { (us121.getD (Int.toNat (if x39 < x37 then x39 else x37)) (default : Net_r1)) with Pins := rv v140 }))
  have hw := hw.altF (i := 4) (b := D 11) rfl (nf (fun h => ft hD ((hcl 11 _ rfl h).2.1 rfl))) (bag XF_Net_r1 us121 x118.2 (some (Int.toNat (if x39 < x37 then x39 else x37))))
  have hw := hw.altF (i := 4) (b := D 14) rfl (nf (fun h => ft hD ((hcl 14 _ rfl h).2.2.2.2.2.2.2.2.2.2.2.2.2.1 rfl))) (bag XF_Net_r1 (us121.set (Int.toNat (if x39 < x37 then x39 else x37)) { (us121.getD (Int.toNat (if x39 < x37 then x39 else x37)) (default : Net_r1)) with Pins := rv v140 }) (x118.2.set (Int.toNat (if x39 < x37 then x39 else x37)) { x123 with Pins := x139 }) none)
  refine RL.nil ?_
  exact ⟨rfl, v140, hv.put 10 rfl rfl, ha.up rfl, hw⟩
 ·rintro D σ w hD hdep hcl ⟨v140, hv, ha, hw⟩
  obtain ⟨τ, rfl⟩ := (ac (hv.at 4 rfl (hdep.1 rfl)) (ac (hv.at 10 rfl (hdep.2.1 rfl)) az)).ups
  have hw := hw.selF (i := 0) rfl (nf (fun h => ft hD ((hcl 14 _ rfl h).2.1 rfl)))
  have hw := hw.selF (i := 0) rfl hD
  have hw := hw.selF (i := 3) rfl (nf (fun h => ft hD ((hcl 14 _ rfl h).2.1 rfl)))
  have hw := hw.selF (i := 4) rfl (nf (fun h => ft hD ((hcl 14 _ rfl h).2.1 rfl)))
  have hw := hw.selF (i := 4) rfl hD
  have hw := hw.focusX (j := 4) (jj := (if x39 < x37 then x39 else x37)) xo_Net_r1 (default : Net_r1) rfl hx123
  refine RL.app_peek (i := 0) (b := 5) (jj := (if x37 < x39 then x39 else x37)) xo_Net_r1 (default : Net_r1) trivial rfl hw rfl rfl rfl rfl hx131 (ne?_some hx138) el37 hx139 fun v155 w hw => ?_
  have hw := hw.pick 22 [0, 2, 3, 4, 5, 6, 7, 8, 9, 10, 11, 12, 13, 14, 15, 16, 17, 18, 19, 20, 21] (new := [own 45 v155 x139, bc 26 b122 [v119, v120], own 36 v119 x118.1, own 39 v120 us121, bag XF_Net_r1 us121 x118.2 (some (Int.toNat (if x39 < x37 then x39 else x37))), rd v117 p1, rd v98 p1.Nets, pt v100 x99, pt v101 x99.Pins, rd v102 x99.Pins, rd v103 p1.Nets, pt v105 x104, pt v106 x104.Pins, rd v107 x104.Pins, rd v36 p1, rd v38 p1, rd v33 p1, raw 26 b32 2, bx 26 b31 p1, rd v1 p1, rd v0 p0]) rfl rfl (by decide) (by decide)
  have hw := hw.altT (i := 0) (b := true) rfl rfl (junk)
  have hw := hw.altF (i := 0) (b := D 14) rfl (nf (fun h => ft hD ((hcl 14 _ rfl h).2.1 rfl))) (junk)
  have hw := hw.altF (i := 3) (b := D 14) rfl (nf (fun h => ft hD ((hcl 14 _ rfl h).2.1 rfl))) (own 39 v120 (us121.set (Int.toNat (if x39 < x37 then x39 else x37)) { (us121.getD (Int.toNat (if x39 < x37 then x39 else x37)) (default : Net_r1)) with Pins := rv v155 }))
  have hw := hw.altT (i := 4) (b := true) rfl rfl (bag XF_Net_r1 us121 x118.2 none)
  have hw := hw.altF (i := 4) (b := D 14) rfl (nf (fun h => ft hD ((hcl 14 _ rfl h).2.1 rfl))) (bag XF_Net_r1 (us121.set (Int.toNat (if x39 < x37 then x39 else x37)) { (us121.getD (Int.toNat (if x39 < x37 then x39 else x37)) (default : Net_r1)) with Pins := rv v155 }) (x118.2.set (Int.toNat (if x39 < x37 then x39 else x37)) { x123 with Pins := x139 }) none)
  refine RL.nil ?_
  exact ⟨rfl, v155, hv.put 11 rfl rfl, ha.up rfl, hw⟩
 ·rintro D σ w hD hdep hcl ⟨v140, hv, ha, hw⟩
  obtain ⟨τ, rfl⟩ := (ac (hv.at 0 rfl (hdep.1 rfl)) az).ups
  refine RL.nilCheck_el trivial rfl rfl hq126 ?_
  refine RL.nil ?_
  exact ⟨rfl, v140, hv.put 12 rfl rfl, ha.up rfl, hw⟩
 ·rintro D σ w hD hdep hcl ⟨v140, hv, ha, hw⟩
  obtain ⟨τ, rfl⟩ := (ac (hv.at 12 rfl (hdep.1 rfl)) az).ups
  have hw := hw.selF (i := 3) rfl (nf (fun h => ft hD ((hcl 14 _ rfl h).1 rfl)))
  have hw := hw.selF (i := 4) rfl (nf (fun h => ft hD ((hcl 14 _ rfl h).1 rfl)))
  have hw := hw.selT (i := 4) rfl (hdep.2.2.2.2.2.2.2.2.2.2.2.2.1 rfl)
  have hl156 := hw.bag_len (j := 4) rfl
  have hr157 := idx_raw (default : Net_r1) hl156 hx123
  refine RL.fa_elA (α := Net_r1) trivial rfl rfl (elp hw (i := 3) rfl hr157 0) fa39_1 ?_
  have hw := hw.altF (i := 3) (b := D 14) rfl (nf (fun h => ft hD ((hcl 14 _ rfl h).1 rfl))) (own 39 v120 (us121.set (Int.toNat (if x39 < x37 then x39 else x37)) { (us121.getD (Int.toNat (if x39 < x37 then x39 else x37)) (default : Net_r1)) with Pins := rv v140 }))
  have hw := hw.altT (i := 4) (b := D 11) rfl (hdep.2.2.2.2.2.2.2.2.2.2.2.2.1 rfl) (bag XF_Net_r1 us121 x118.2 none)
  have hw := hw.altF (i := 4) (b := D 14) rfl (nf (fun h => ft hD ((hcl 14 _ rfl h).1 rfl))) (bag XF_Net_r1 (us121.set (Int.toNat (if x39 < x37 then x39 else x37)) { (us121.getD (Int.toNat (if x39 < x37 then x39 else x37)) (default : Net_r1)) with Pins := rv v140 }) (x118.2.set (Int.toNat (if x39 < x37 then x39 else x37)) { x123 with Pins := x139 }) none)
  refine RL.nil ?_
  exact ⟨rfl, v140, hv.put 13 rfl rfl, ha.up rfl, hw⟩
 ·rintro D σ w hD hdep hcl ⟨v140, hv, ha, hw⟩
  obtain ⟨τ, rfl⟩ := (ac (hv.at 11 rfl (hdep.2.1 rfl)) (ac (hv.at 13 rfl (hdep.1 rfl)) az)).ups
  have hw := hw.selF (i := 0) rfl hD
  have hw := hw.selT (i := 0) rfl (hdep.2.1 rfl)
  have hw := hw.selF (i := 3) rfl hD
  have hw := hw.selF (i := 4) rfl hD
  have hw := hw.selT (i := 4) rfl (hdep.2.1 rfl)
  have hl158 := hw.bag_len (j := 4) rfl
  have hr159 := idx_raw (default : Net_r1) hl158 hx123
  refine RL.store_nest (i := 3) (b := 4) (o := 0) (jj := (if x39 < x37 then x39 else x37)) xo_Net_r1 (default : Net_r1) trivial hw rfl rfl (elp hw (i := 3) rfl hr159 1) rfl rfl (.inr rfl) rfl hx123 (by decide) (by decide) (by decide) ty37 fun w hw => ?_
  have hw := hw.altT (i := 0) (b := true) rfl rfl (bif D 11 then (own 45 v140 x139) else junk)
  have hw := hw.altT (i := 3) (b := true) rfl rfl (own 39 v120 us121)
  have hw := hw.altT (i := 4) (b := true) rfl rfl (bif D 11 then (bag XF_Net_r1 us121 x118.2 (some (Int.toNat (if x39 < x37 then x39 else x37)))) else (bag XF_Net_r1 us121 x118.2 none))
  refine RL.nil ?_
  exact ⟨rfl, v140, hv.no rfl, ha, hw⟩
 rintro D σ w hall ⟨v140, hv, ha, hw⟩
 rw [hall 11 (by decide), hall 14 (by decide)] at hw
 obtain ⟨τ, rfl⟩ := (ac (ha.at 0 rfl) (ac (ha.at 1 rfl) (ac (ha.at 2 rfl) (ac (ha.at 3 rfl) az)))).ups
 refine thenQ_n ?_
 refine RC.sr ?_
 refine mv (elA v120 (Int.toNat (if x39 < x37 then x39 else x37)) 3 0) rfl rfl ?_
 refine RL.nilCheck_el trivial rfl rfl hq126 ?_
 obtain ⟨x160, hx160, hb⟩ := bd hb
 have hl161 := hw.bag_len (j := 4) rfl
 have hr162 := idx_raw (default : Net_r1) hl161 hx160
 refine RL.fa_elA (α := Net_r1) trivial rfl rfl (elp hw (i := 3) rfl hr162 0) fa39_1 ?_
 have hl163 := hw.bag_len (j := 4) rfl
 have hr164 := idx_raw (default : Net_r1) hl163 hx160
 refine RL.load_nest (i := 3) (b := 4) (jj := (if x39 < x37 then x39 else x37)) xo_Net_r1 (default : Net_r1) trivial rfl hw rfl (elp hw (i := 3) rfl hr164 1) rfl rfl hx160 ty37 fun hw => ?_
 obtain ⟨x165, hx165, hb⟩ := bd hb
 have hw := hw.pull (i := 0) rfl
 refine RL.call trivial rfl fn28 [((us121.set (Int.toNat (if x39 < x37 then x39 else x37)) { (us121.getD (Int.toNat (if x39 < x37 then x39 else x37)) (default : Net_r1)) with Pins := rv v140 }).getD (Int.toNat (if x39 < x37 then x39 else x37)) (default : Net_r1)).Pins.v, (.func (.func 29) #[] #[])] rfl (Calls_ret (sort_ok (α := Pin) Tryd.lay28 rfl ty45.isA ty45.sz fn29 (fun hw hi hj hr => netlist_ComparePins_ok N hw hi hj hr) hw hx165) ?_)
 rintro _ w ⟨rfl, hw⟩
 have hw := hw.pull (i := 0) rfl
 have hw := hw.unfocusS (j := 6) (jj := (if x39 < x37 then x39 else x37)) xo_Net_r1 (default : Net_r1) (fun _ => rfl) rfl hx160
 refine RL.ns ?_
 refine RL.fa_b trivial rfl rfl fa26_1 ?_
 refine RL.load_bc (i := 3) (v := v120) trivial rfl hw rfl rfl rfl ty24 ?_
 refine mv (vi (if x37 < x39 then x39 else x37)) rfl rfl ?_
 refine mv (vi (if x37 < x39 then x39 else x37)) rfl rfl ?_
 refine RL.iar (a := (if x37 < x39 then x39 else x37)) (b := 1) trivial rfl rfl rfl rfl ?_
 have hw := hw.nest_fz (X := XF_Net_r1) (b := 6) (j := 5) rfl (fun M h u x cs => xrd_Net_r1 M h u x cs) rfl rfl (by decide)
 obtain ⟨x166, hx166, hb⟩ := bd hb
 have hw := hw.pull (i := 5) rfl
 refine RL.call trivial rfl fn30 [v120, (vi (if x37 < x39 then x39 else x37)), (vi (IntKind.wrap .i64 ((if x37 < x39 then x39 else x37) + 1)))] rfl (Calls_ret (del30_ok sl24 el24 zd39 hw hx166) ?_)
 rintro v167 w hw
 refine RL.fa_b trivial rfl rfl fa26_1 ?_
 refine RL.store_bc (i := 4) (v := v167) trivial hw rfl rfl rfl rfl (one_own hw (i := 0) rfl) ty24 fun w hw => ?_
 refine RL.ns ?_
 have hw := hw.freeze (i := 5) rfl
 have hw := hw.freeze (i := 0) rfl
 have hw := hw.close_bc (i := 4) (x := (⟨x118.1, x166⟩ : Netlist)) rfl (fun M hs g => ⟨[v119], [v167], rfl, (rd_one rfl (g.sat 5 _ rfl).1), (rd_one rfl (g.sat 0 _ rfl).1)⟩)
 refine RL.load_bf (i := 4) (f := (fun x => x)) trivial rfl hw rfl rfl Fd.self ty26 fun v168 hw => ?_
 refine RL.store_raw (i := 21) (j := 0) trivial hw rfl rfl rfl rfl ty26 rfl fun w hw => ?_
 refine as_ (vi 0) rfl rfl ?_
 refine RL.nt ?_
 refine RC.ret ?_
 obtain rfl := oi hb
 exact finC2 (i := 21) rfl hw rfl rfl ty26 rfl fun v169 hw => ⟨v169, rfl, hw.pick 26 [0] (new := [rd v169 (⟨x118.1, x166⟩ : Netlist)]) rfl rfl (by decide) (by decide)⟩
def netlist_Nets_R (E : World) (Γ : List HP) (res : (List (Pin × Int))) (v : Value) (w : World) : Prop := Holds E w (mp v res :: Γ)
def netlist_Nets_K (E : World) (Γ : List HP) (r : (List (Pin × Int))) (σ : Nat → Value) (w : World) : Prop := finQ Tryd.prog 30 Tryd.f74 (netlist_Nets_R E Γ r) .ret σ w
theorem netlist_Nets_ok (N : Nat) {E w : World} {Γ : List HP} {i0 : Nat} {v0 : Value} {p0 : Netlist} {res : (List (Pin × Int))} (hw : Holds E w Γ) (h0 : Γ[i0]? = some (rd v0 p0)) (hb : netlist_Nets N p0 = some res) :
    Calls Tryd.prog 74 [v0].toArray w (Ret (netlist_Nets_R E Γ res)) := by
 unfold netlist_Nets at hb
 refine enter Tryd.func74 rfl rfl (Nat.le_of_ble_eq_true rfl) ?_
 have hw := hw.dup (i := i0 + 0) h0
 refine RC.sr ?_
 refine RL.box_rd (i := 0) (v := v0) trivial rfl hw rfl rfl fun b31 w hw => ?_
 refine as_ (.map none) rfl rfl ?_
 refine RL.ns ?_
 refine RL.makeMap (κ := Pin) (ν := Int) trivial rfl hw fun v32 w hw => ?_
 refine as_ v32 rfl rfl ?_
 refine RL.nq ?_
 refine RC.sr ?_
 refine RL.fa_b trivial rfl rfl fa26_1 ?_
 refine RL.load_bf (i := 1) (f := (fun x => x.Nets)) trivial rfl hw rfl rfl fd_Netlist_1 ty24 fun v33 hw => ?_
 refine RL.len_rd (i := 0) (l := p0.Nets) trivial rfl hw rfl rfl un24 ?_
 refine mv (vi 0) rfl rfl ?_
 refine RL.nt ?_
 obtain ⟨s35, hN, hb⟩ := bd hb
 refine RC.fold (fun (k34 : Nat) (s35 : (List (Pin × Int))) (σ : Nat → Value) (w : World) => agree σ [(3, v32), (10, v33), (11, (vi (p0.Nets.length : Int))), (12, (vi (k34 : Int)))] ∧ Holds E w ([mp v32 s35, rd v33 p0.Nets] ++ Γ)) (fun (s35 : (List (Pin × Int))) (σ : Nat → Value) (w : World) => agree σ [(3, v32)] ∧ Holds E w ([mp v32 s35, rd v33 p0.Nets] ++ Γ)) hN ?_ ?_ ?_ ?_
 ·exact ⟨⟨rfl, rfl, rfl, rfl, trivial⟩, hw.pick 4 [1, 0] (new := [mp v32 ([] : (List (Pin × Int))), rd v33 p0.Nets]) rfl rfl (by decide) (by decide)⟩
 ·intro hm s35 σ w hI
  obtain ⟨ha, hw⟩ := hI
  obtain ⟨τ, rfl⟩ := ha.ups
  refine RC.sr ?_
  refine ic ((p0.Nets.length : Int)) ((p0.Nets.length : Int)) rfl rfl rfl rfl ?_
  refine RL.nq ?_
  refine RC.cond_f dge ?_
  refine RC.ex ?_
  exact ⟨rfl, ⟨rfl, trivial⟩, hw.pick 2 [0, 1] (new := [mp v32 s35, rd v33 p0.Nets]) rfl rfl (by decide) (by decide)⟩
 ·intro hm k34 s35 s' σ w hk hI hb
  obtain ⟨ha, hw⟩ := hI
  obtain ⟨τ, rfl⟩ := ha.ups
  refine RC.sr ?_
  refine ic ((k34 : Int)) ((p0.Nets.length : Int)) rfl rfl rfl rfl ?_
  refine RL.nq ?_
  refine RC.cond_t (dlt hk) ?_
  refine RC.ss ?_
  refine RC.bs ?_
  refine mv (vi (k34 : Int)) rfl rfl ?_
  obtain ⟨x82, hx82, hb⟩ := bd hb
  refine RL.ia_rd (i := 1) trivial rfl hw rfl rfl rfl sl24 hx82 fun v83 hw => ?_
  refine RL.load_pt (i := 0) (x := x82) trivial rfl hw rfl rfl ty39 fun v84 hw => ?_
  refine RL.alloc trivial rfl hw ze39.z fun b85 w hw => ?_
  refine as_ (vi (k34 : Int)) rfl rfl ?_
  refine RL.store_raw (i := 0) (j := 1) trivial hw rfl rfl rfl rfl ty39 rfl fun w hw => ?_
  refine RL.ns ?_
  refine RL.fa_b trivial rfl rfl fa39_1 ?_
  refine RL.load_bf (i := 0) (f := (fun x => x.Pins)) trivial rfl hw rfl rfl fd_Net_1 ty37 fun v86 hw => ?_
  refine RL.len_rd (i := 0) (l := x82.Pins) trivial rfl hw rfl rfl un37 ?_
  refine mv (vi 0) rfl rfl ?_
  refine RL.nt ?_
  obtain ⟨s88, hN, hb⟩ := bd hb
  refine RC.fold (fun (k87 : Nat) (s88 : (List (Pin × Int))) (σ : Nat → Value) (w : World) => agree σ [(3, v32), (4, (vi (k34 : Int))), (10, v33), (11, (vi (p0.Nets.length : Int))), (12, (vi (k34 : Int))), (18, v86), (19, (vi (x82.Pins.length : Int))), (20, (vi (k87 : Int)))] ∧ Holds E w ([mp v32 s88, rd v33 p0.Nets, rd v86 x82.Pins] ++ Γ)) (fun (s88 : (List (Pin × Int))) (σ : Nat → Value) (w : World) => agree σ [(3, v32), (10, v33), (11, (vi (p0.Nets.length : Int))), (12, (vi (k34 : Int)))] ∧ Holds E w ([mp v32 s88, rd v33 p0.Nets, rd v86 x82.Pins] ++ Γ)) hN ?_ ?_ ?_ ?_
  ·exact ⟨⟨rfl, rfl, rfl, rfl, rfl, rfl, rfl, rfl, trivial⟩, hw.pick 6 [4, 5, 0] (new := [mp v32 s35, rd v33 p0.Nets, rd v86 x82.Pins]) rfl rfl (by decide) (by decide)⟩
  ·intro hm s88 σ w hI
   obtain ⟨ha, hw⟩ := hI
   obtain ⟨τ, rfl⟩ := ha.ups
   refine RC.sr ?_
   refine ic ((x82.Pins.length : Int)) ((x82.Pins.length : Int)) rfl rfl rfl rfl ?_
   refine RL.nq ?_
   refine RC.cond_f dge ?_
   refine RC.ex ?_
   exact ⟨rfl, ⟨rfl, rfl, rfl, rfl, trivial⟩, hw.pick 3 [0, 1, 2] (new := [mp v32 s88, rd v33 p0.Nets, rd v86 x82.Pins]) rfl rfl (by decide) (by decide)⟩
  ·intro hm k87 s88 s' σ w hk hI hb
   obtain ⟨ha, hw⟩ := hI
   obtain ⟨τ, rfl⟩ := ha.ups
   refine RC.sr ?_
   refine ic ((k87 : Int)) ((x82.Pins.length : Int)) rfl rfl rfl rfl ?_
   refine RL.nq ?_
   refine RC.cond_t (dlt hk) ?_
   refine RC.ss ?_
   refine RC.bs ?_
   obtain ⟨x99, hx99, hb⟩ := bd hb
   refine RL.ia_rd (i := 2) trivial rfl hw rfl rfl rfl sl37 hx99 fun v100 hw => ?_
   refine RL.load_pt (i := 0) (x := x99) trivial rfl hw rfl rfl ty45 fun v101 hw => ?_
   refine RL.alloc trivial rfl hw ze45.z fun b102 w hw => ?_
   refine RL.store_raw (i := 0) (j := 1) trivial hw rfl rfl rfl rfl ty45 rfl fun w hw => ?_
   refine RL.nt ?_
   refine RC.region ?_
   refine mv v32 rfl rfl ?_
   refine RL.load_bf (i := 0) (f := (fun x => x)) trivial rfl hw rfl rfl Fd.self ty45 fun v103 hw => ?_
   refine mv (vi (k34 : Int)) rfl rfl ?_
   have hw := hw.sc (γ := Int) (k34 : Int)
   refine RL.mapUpdate (i := 5) (j := 0) (k := x99) trivial hw rfl (key_rd hw (j := 1) rfl) rfl rfl rfl mt121 fun w hw => ?_
   refine RL.nil ?_
   refine blkQ_n ?_
   refine thenQ_n ?_
   refine RC.region ?_
   refine RL.inc trivial rfl hk hm rfl rfl ?_
   refine mv (vi ((k87 + 1 : Nat) : Int)) rfl rfl ?_
   refine RL.nil ?_
   obtain rfl := oi hb
   exact ⟨rfl, ⟨rfl, rfl, rfl, rfl, rfl, rfl, rfl, rfl, trivial⟩, hw.pick 8 [5, 6, 7] (new := [mp v32 (mput s88 x99 (k34 : Int)), rd v33 p0.Nets, rd v86 x82.Pins]) rfl rfl (by decide) (by decide)⟩
  intro σ w hJ
  obtain ⟨ha, hw⟩ := hJ
  obtain ⟨τ, rfl⟩ := ha.ups
  refine blkQ_n ?_
  refine thenQ_n ?_
  refine RC.region ?_
  refine RL.inc trivial rfl hk hm rfl rfl ?_
  refine mv (vi ((k34 + 1 : Nat) : Int)) rfl rfl ?_
  refine RL.nil ?_
  obtain rfl := oi hb
  exact ⟨rfl, ⟨rfl, rfl, rfl, rfl, trivial⟩, hw.pick 3 [0, 1] (new := [mp v32 s88, rd v33 p0.Nets]) rfl rfl (by decide) (by decide)⟩
 intro σ w hJ
 obtain ⟨ha, hw⟩ := hJ
 obtain ⟨τ, rfl⟩ := ha.ups
 refine thenQ_n ?_
 refine RC.sr ?_
 refine mv v32 rfl rfl ?_
 refine as_ v32 rfl rfl ?_
 refine RL.nt ?_
 refine RC.ret ?_
 obtain rfl := oi hb
 exact fin1 rfl rfl (hw.pick 2 [0] (new := [mp v32 s35]) rfl rfl (by decide) (by decide))
def netlist_pinsOf_R (E : World) (Γ : List HP) (res : (List Pin)) (v : Value) (w : World) : Prop := Holds E w (own 45 v res :: Γ)
def netlist_pinsOf_K (E : World) (Γ : List HP) (r : (List Pin)) (σ : Nat → Value) (w : World) : Prop := finQ Tryd.prog 31 Tryd.f75 (netlist_pinsOf_R E Γ r) .ret σ w
theorem netlist_pinsOf_ok (N : Nat) {E w : World} {Γ : List HP} {i0 : Nat} {v0 : Value} {p0 : (List PartType)} {i1 : Nat} {v1 : Value} {p1 : Part} {res : (List Pin)} (hw : Holds E w Γ) (h0 : Γ[i0]? = some (rd v0 p0)) (h1 : Γ[i1]? = some (rd v1 p1)) (hb : netlist_pinsOf N p0 p1 = some res) :
    Calls Tryd.prog 75 [v0, v1].toArray w (Ret (netlist_pinsOf_R E Γ res)) := by
 unfold netlist_pinsOf at hb
 refine enter Tryd.func75 rfl rfl (Nat.le_of_ble_eq_true rfl) ?_
 have hw := hw.dup (i := i0 + 0) h0
 have hw := hw.dup (i := i1 + 1) h1
 refine RC.sr ?_
 refine RL.box_rd (i := 0) (v := v1) trivial rfl hw rfl rfl fun b31 w hw => ?_
 refine as_ (.slice none 0 0) rfl rfl ?_
 refine RL.ns ?_
 refine as_ (.slice none 0 0) rfl rfl ?_
 refine RL.nq ?_
 refine RC.sr ?_
 refine mv v0 rfl rfl ?_
 refine mv v0 rfl rfl ?_
 refine RL.fa_b trivial rfl rfl fa36_1 ?_
 refine RL.load_bfs (i := 0) (f := (fun x => x.Type_)) trivial rfl hw rfl rfl fd_Part_1 ty9 ?_
 obtain ⟨x32, hx32, hb⟩ := bd hb
 refine RL.call trivial rfl fn67 [v0, (str p1.Type_)] rfl (Calls_ret (netlist_TypeAt_ok N (p1 := p1.Type_) (i0 := 2) hw rfl hx32) ?_)
 rintro _ w ⟨rfl, hw⟩
 obtain ⟨x33, hx33, hb⟩ := bd hb
 refine RL.ia_rd (i := 2) trivial rfl hw rfl rfl rfl sl22 hx33 fun v34 hw => ?_
 refine RL.fa_pt (i := 0) (f := fun (x : PartType) => x.Pins) trivial rfl hw rfl rfl fa66_1 fd_PartType_1 fun v35 hw => ?_
 refine RL.load_pt (i := 0) (x := x33.Pins) trivial rfl hw rfl rfl ty64 fun v36 hw => ?_
 refine RL.len_rd (i := 0) (l := x33.Pins) trivial rfl hw rfl rfl un64 ?_
 refine mv (vi 0) rfl rfl ?_
 refine RL.nt ?_
 obtain ⟨s38, hN, hb⟩ := bd hb
 refine RC.fold (fun (k37 : Nat) (s38 : (List Pin)) (σ : Nat → Value) (w : World) => ∃ v57 : Value, agree σ [(3, (vp b31 0)), (5, v57), (15, v36), (16, (vi (x33.Pins.length : Int))), (17, (vi (k37 : Int)))] ∧ Holds E w ([bx 36 b31 p1, rd v36 x33.Pins, own 45 v57 s38] ++ Γ)) (fun (s38 : (List Pin)) (σ : Nat → Value) (w : World) => ∃ v58 : Value, agree σ [(5, v58)] ∧ Holds E w ([bx 36 b31 p1, rd v36 x33.Pins, own 45 v58 s38] ++ Γ)) hN ?_ ?_ ?_ ?_
 ·have hw := hw.own_nil Pin 45
  exact ⟨(.slice none 0 0), ⟨rfl, rfl, rfl, rfl, rfl, trivial⟩, hw.pick 7 [4, 1, 0] (new := [bx 36 b31 p1, rd v36 x33.Pins, own 45 (.slice none 0 0) ([] : (List Pin))]) rfl rfl (by decide) (by decide)⟩
 ·intro hm s38 σ w hI
  obtain ⟨v68, ha, hw⟩ := hI
  obtain ⟨τ, rfl⟩ := ha.ups
  refine RC.sr ?_
  refine ic ((x33.Pins.length : Int)) ((x33.Pins.length : Int)) rfl rfl rfl rfl ?_
  refine RL.nq ?_
  refine RC.cond_f dge ?_
  refine RC.ex ?_
  exact ⟨rfl, v68, ⟨rfl, trivial⟩, hw.pick 3 [0, 1, 2] (new := [bx 36 b31 p1, rd v36 x33.Pins, own 45 v68 s38]) rfl rfl (by decide) (by decide)⟩
 ·intro hm k37 s38 s' σ w hk hI hb
  obtain ⟨v59, ha, hw⟩ := hI
  obtain ⟨τ, rfl⟩ := ha.ups
  refine RC.sr ?_
  refine ic ((k37 : Int)) ((x33.Pins.length : Int)) rfl rfl rfl rfl ?_
  refine RL.nq ?_
  refine RC.cond_t (dlt hk) ?_
  refine RC.ss ?_
  refine RC.bs ?_
  obtain ⟨x60, hx60, hb⟩ := bd hb
  refine RL.ia_rd (i := 1) trivial rfl hw rfl rfl rfl sl64 hx60 fun v61 hw => ?_
  refine RL.load_pt (i := 0) (x := x60) trivial rfl hw rfl rfl ty63 fun v62 hw => ?_
  refine RL.alloc trivial rfl hw ze63.z fun b63 w hw => ?_
  refine RL.store_raw (i := 0) (j := 1) trivial hw rfl rfl rfl rfl ty63 rfl fun w hw => ?_
  refine RL.nt ?_
  refine RC.region ?_
  refine mv v59 rfl rfl ?_
  refine RL.fa_b trivial rfl rfl fa36_0 ?_
  refine RL.load_bfs (i := 3) (f := (fun x => x.Name)) trivial rfl hw rfl rfl fd_Part_0 ty9 ?_
  refine RL.fa_b trivial rfl rfl fa63_0 ?_
  refine RL.load_bfs (i := 0) (f := (fun x => x.Name)) trivial rfl hw rfl rfl fd_PinType_0 ty9 ?_
  have hw := hw.sc (γ := Str) p1.Name
  have hw := hw.sc (γ := Str) x60.Name
  refine RL.build (y := (⟨p1.Name, x60.Name⟩ : Pin)) trivial rfl hw [(0, (str p1.Name)), (1, (str x60.Name))] rfl st45 rfl (fun M hs g => by have h := z_Pin M; exact Fills.cons (f := fun (x : Pin) y => { x with Part := y }) rfl h fs_Pin_0 (by decide) (g.sat 1 _ rfl).1 fun _ h => Fills.cons (f := fun (x : Pin) y => { x with Pin := y }) rfl h fs_Pin_1 (by decide) (g.sat 0 _ rfl).1 fun _ h => Fills.nil h) fun v64 hw => ?_
  refine RL.bslice (l := ([(⟨p1.Name, x60.Name⟩ : Pin)] : (List Pin))) trivial rfl hw [v64] rfl rfl rfl sl37 ze45 (fun M hs g => ⟨(g.sat 0 _ rfl).1, trivial⟩) fun v65 w hw => ?_
  have hw := hw.freeze (i := 0) rfl
  obtain ⟨x66, hx66, hb⟩ := bd hb
  refine RL.app (i := 9) (j := 0) trivial rfl hw rfl rfl rfl rfl el37 hx66 fun v67 w hw => ?_
  refine as_ v67 rfl rfl ?_
  refine RL.nil ?_
  refine blkQ_n ?_
  refine thenQ_n ?_
  refine RC.region ?_
  refine RL.inc trivial rfl hk hm rfl rfl ?_
  refine mv (vi ((k37 + 1 : Nat) : Int)) rfl rfl ?_
  refine RL.nil ?_
  obtain rfl := oi hb
  exact ⟨rfl, v67, ⟨rfl, rfl, rfl, rfl, rfl, trivial⟩, hw.pick 10 [7, 8, 9] (new := [bx 36 b31 p1, rd v36 x33.Pins, own 45 v67 x66]) rfl rfl (by decide) (by decide)⟩
 intro σ w hJ
 obtain ⟨v58, ha, hw⟩ := hJ
 obtain ⟨τ, rfl⟩ := ha.ups
 refine thenQ_n ?_
 refine RC.sr ?_
 refine mv v58 rfl rfl ?_
 refine as_ v58 rfl rfl ?_
 refine RL.nt ?_
 refine RC.ret ?_
 obtain rfl := oi hb
 exact fin1 rfl rfl (hw.pick 3 [2] (new := [own 45 v58 s38]) rfl rfl (by decide) (by decide))
def netlist_LooseOf_R (E : World) (Γ : List HP) (res : (List Pin)) (v : Value) (w : World) : Prop := Holds E w (own 45 v res :: Γ)
def netlist_LooseOf_K (E : World) (Γ : List HP) (r : (List Pin)) (σ : Nat → Value) (w : World) : Prop := finQ Tryd.prog 45 Tryd.f46 (netlist_LooseOf_R E Γ r) .ret σ w
theorem netlist_LooseOf_ok (N : Nat) {E w : World} {Γ : List HP} {i0 : Nat} {v0 : Value} {p0 : (List PartType)} {i1 : Nat} {v1 : Value} {p1 : Netlist} {res : (List Pin)} (hw : Holds E w Γ) (h0 : Γ[i0]? = some (rd v0 p0)) (h1 : Γ[i1]? = some (rd v1 p1)) (hb : netlist_LooseOf N p0 p1 = some res) :
    Calls Tryd.prog 46 [v0, v1].toArray w (Ret (netlist_LooseOf_R E Γ res)) := by
 unfold netlist_LooseOf at hb
 refine enter Tryd.func46 rfl rfl (Nat.le_of_ble_eq_true rfl) ?_
 have hw := hw.dup (i := i0 + 0) h0
 have hw := hw.dup (i := i1 + 1) h1
 refine RC.sr ?_
 refine RL.box_rd (i := 0) (v := v1) trivial rfl hw rfl rfl fun b31 w hw => ?_
 refine as_ (.slice none 0 0) rfl rfl ?_
 refine RL.ns ?_
 refine RL.load_bf (i := 0) (f := (fun x => x)) trivial rfl hw rfl rfl Fd.self ty26 fun v32 hw => ?_
 obtain ⟨x33, hx33, hb⟩ := bd hb
 refine RL.call trivial rfl fn74 [v32] rfl (Calls_ret (netlist_Nets_ok N  (i0 := 0) hw rfl hx33) ?_)
 rintro v34 w hw
 refine as_ v34 rfl rfl ?_
 refine RL.ns ?_
 refine as_ (.slice none 0 0) rfl rfl ?_
 refine RL.nq ?_
 refine RC.sr ?_
 refine RL.fa_b trivial rfl rfl fa26_0 ?_
 refine RL.load_bf (i := 2) (f := (fun x => x.Parts)) trivial rfl hw rfl rfl fd_Netlist_0 ty23 fun v35 hw => ?_
 refine RL.len_rd (i := 0) (l := p1.Parts) trivial rfl hw rfl rfl un23 ?_
 refine mv (vi 0) rfl rfl ?_
 refine RL.nt ?_
 obtain ⟨s37, hN, hb⟩ := bd hb
 refine RC.fold (fun (k36 : Nat) (s37 : (List Pin)) (σ : Nat → Value) (w : World) => ∃ v156 : Value, agree σ [(0, v0), (5, v34), (6, v156), (16, v35), (17, (vi (p1.Parts.length : Int))), (18, (vi (k36 : Int)))] ∧ Holds E w ([rd v0 p0, mp v34 x33, rd v35 p1.Parts, own 45 v156 s37] ++ Γ)) (fun (s37 : (List Pin)) (σ : Nat → Value) (w : World) => ∃ v157 : Value, agree σ [(6, v157)] ∧ Holds E w ([rd v0 p0, mp v34 x33, rd v35 p1.Parts, own 45 v157 s37] ++ Γ)) hN ?_ ?_ ?_ ?_
 ·have hw := hw.own_nil Pin 45
  exact ⟨(.slice none 0 0), ⟨rfl, rfl, rfl, rfl, rfl, rfl, trivial⟩, hw.pick 7 [6, 2, 1, 0] (new := [rd v0 p0, mp v34 x33, rd v35 p1.Parts, own 45 (.slice none 0 0) ([] : (List Pin))]) rfl rfl (by decide) (by decide)⟩
 ·intro hm s37 σ w hI
  obtain ⟨v217, ha, hw⟩ := hI
  obtain ⟨τ, rfl⟩ := ha.ups
  refine RC.sr ?_
  refine ic ((p1.Parts.length : Int)) ((p1.Parts.length : Int)) rfl rfl rfl rfl ?_
  refine RL.nq ?_
  refine RC.cond_f dge ?_
  refine RC.ex ?_
  exact ⟨rfl, v217, ⟨rfl, trivial⟩, hw.pick 4 [0, 1, 2, 3] (new := [rd v0 p0, mp v34 x33, rd v35 p1.Parts, own 45 v217 s37]) rfl rfl (by decide) (by decide)⟩
 ·intro hm k36 s37 s' σ w hk hI hb
  obtain ⟨v158, ha, hw⟩ := hI
  obtain ⟨τ, rfl⟩ := ha.ups
  refine RC.sr ?_
  refine ic ((k36 : Int)) ((p1.Parts.length : Int)) rfl rfl rfl rfl ?_
  refine RL.nq ?_
  refine RC.cond_t (dlt hk) ?_
  refine RC.ss ?_
  refine RC.bs ?_
  obtain ⟨x159, hx159, hb⟩ := bd hb
  refine RL.ia_rd (i := 2) trivial rfl hw rfl rfl rfl sl23 hx159 fun v160 hw => ?_
  refine RL.load_pt (i := 0) (x := x159) trivial rfl hw rfl rfl ty36 fun v161 hw => ?_
  refine RL.alloc trivial rfl hw ze36.z fun b162 w hw => ?_
  refine RL.store_raw (i := 0) (j := 1) trivial hw rfl rfl rfl rfl ty36 rfl fun w hw => ?_
  refine RL.ns ?_
  refine mv v0 rfl rfl ?_
  refine RL.load_bf (i := 0) (f := (fun x => x)) trivial rfl hw rfl rfl Fd.self ty36 fun v163 hw => ?_
  obtain ⟨x164, hx164, hb⟩ := bd hb
  refine RL.call trivial rfl fn75 [v0, v163] rfl (Calls_ret (netlist_pinsOf_ok N  (i0 := 4) (i1 := 0) hw rfl rfl hx164) ?_)
  rintro v165 w hw
  refine RL.len_own (i := 0) (l := x164) trivial rfl hw rfl rfl un37 ?_
  refine mv (vi 0) rfl rfl ?_
  refine RL.nt ?_
  obtain ⟨s167, hN, hb⟩ := bd hb
  refine RC.fold (fun (k166 : Nat) (s167 : (List Pin)) (σ : Nat → Value) (w : World) => ∃ v198 : Value, agree σ [(0, v0), (5, v34), (6, v198), (16, v35), (17, (vi (p1.Parts.length : Int))), (18, (vi (k36 : Int))), (24, v165), (25, (vi (x164.length : Int))), (26, (vi (k166 : Int)))] ∧ Holds E w ([rd v0 p0, mp v34 x33, rd v35 p1.Parts, own 45 v165 x164, own 45 v198 s167] ++ Γ)) (fun (s167 : (List Pin)) (σ : Nat → Value) (w : World) => ∃ v199 : Value, agree σ [(0, v0), (5, v34), (6, v199), (16, v35), (17, (vi (p1.Parts.length : Int))), (18, (vi (k36 : Int)))] ∧ Holds E w ([rd v0 p0, mp v34 x33, rd v35 p1.Parts, own 45 v165 x164, own 45 v199 s167] ++ Γ)) hN ?_ ?_ ?_ ?_
  ·exact ⟨v158, ⟨rfl, rfl, rfl, rfl, rfl, rfl, rfl, rfl, rfl, trivial⟩, hw.pick 9 [5, 6, 7, 0, 8] (new := [rd v0 p0, mp v34 x33, rd v35 p1.Parts, own 45 v165 x164, own 45 v158 s37]) rfl rfl (by decide) (by decide)⟩
  ·intro hm s167 σ w hI
   obtain ⟨v215, ha, hw⟩ := hI
   obtain ⟨τ, rfl⟩ := ha.ups
   refine RC.sr ?_
   refine ic ((x164.length : Int)) ((x164.length : Int)) rfl rfl rfl rfl ?_
   refine RL.nq ?_
   refine RC.cond_f dge ?_
   refine RC.ex ?_
   exact ⟨rfl, v215, ⟨rfl, rfl, rfl, rfl, rfl, rfl, trivial⟩, hw.pick 5 [0, 1, 2, 3, 4] (new := [rd v0 p0, mp v34 x33, rd v35 p1.Parts, own 45 v165 x164, own 45 v215 s167]) rfl rfl (by decide) (by decide)⟩
  ·intro hm k166 s167 s' σ w hk hI hb
   obtain ⟨v200, ha, hw⟩ := hI
   obtain ⟨τ, rfl⟩ := ha.ups
   refine RC.sr ?_
   refine ic ((k166 : Int)) ((x164.length : Int)) rfl rfl rfl rfl ?_
   refine RL.nq ?_
   refine RC.cond_t (dlt hk) ?_
   refine RC.ss ?_
   refine RC.bs ?_
   obtain ⟨x201, hx201, hb⟩ := bd hb
   refine RL.ia_ownA (i := 3) trivial rfl hw rfl rfl rfl sl37 hx201 ?_
   refine RL.load_el (i := 3) (f := (fun x => x)) trivial rfl hw rfl (elp hw (i := 3) rfl hx201 0) rfl (idx_some hx201).2.1 Fd.self ty45 fun v202 hw => ?_
   refine RL.alloc trivial rfl hw ze45.z fun b203 w hw => ?_
   refine RL.store_raw (i := 0) (j := 1) trivial hw rfl rfl rfl rfl ty45 rfl fun w hw => ?_
   refine RL.ns ?_
   refine mv v34 rfl rfl ?_
   refine RL.load_bf (i := 0) (f := (fun x => x)) trivial rfl hw rfl rfl Fd.self ty45 fun v204 hw => ?_
   refine RL.lookup2s (i := 4) (k := x201) trivial rfl hw rfl (key_rd hw (j := 0) rfl) rfl mt121 ?_
   refine mv (.tuple #[(vi (mget x33 x201 (0 : Int))), (vb (mhas x33 x201))]) rfl rfl ?_
   refine RL.extract (v := (vi (mget x33 x201 (0 : Int)))) trivial rfl rfl rfl ?_
   refine RL.extract (v := (vb (mhas x33 x201))) trivial rfl rfl rfl ?_
   refine as_ (vi (mget x33 x201 (0 : Int))) rfl rfl ?_
   refine as_ (vb (mhas x33 x201)) rfl rfl ?_
   refine RL.ns ?_
   refine mv (vb (mhas x33 x201)) rfl rfl ?_
   refine RL.not (b := (mhas x33 x201)) trivial rfl rfl ?_
   refine RL.nt ?_
   obtain ⟨s209, hj, hb⟩ := bd hb
   refine RC.jn (fun (s209 : (List Pin)) (σ : Nat → Value) (w : World) => ∃ v210 : Value, agree σ [(0, v0), (5, v34), (6, v210), (16, v35), (17, (vi (p1.Parts.length : Int))), (18, (vi (k36 : Int))), (24, v165), (25, (vi (x164.length : Int))), (26, (vi (k166 : Int)))] ∧ Holds E w ([rd v0 p0, mp v34 x33, rd v35 p1.Parts, own 45 v165 x164, own 45 v210 s209] ++ Γ)) s209 ?_ ?_
   ·refine RC.cond (b := (!(mhas x33 x201))) rfl (fun hc => ?_) (fun hc => ?_)
    rotate_left
    ·replace hj := cF hc hj
     refine RC.skip ?_
     obtain rfl := oi hj
     exact ⟨rfl, v200, ⟨rfl, rfl, rfl, rfl, rfl, rfl, rfl, rfl, rfl, trivial⟩, hw.pick 8 [3, 4, 5, 6, 7] (new := [rd v0 p0, mp v34 x33, rd v35 p1.Parts, own 45 v165 x164, own 45 v200 s167]) rfl rfl (by decide) (by decide)⟩
    replace hj := cT hc hj
    refine RC.region ?_
    refine mv v200 rfl rfl ?_
    refine RL.load_bf (i := 1) (f := (fun x => x)) trivial rfl hw rfl rfl Fd.self ty45 fun v211 hw => ?_
    refine RL.bslice (l := ([x201] : (List Pin))) trivial rfl hw [v211] rfl rfl rfl sl37 ze45 (fun M hs g => ⟨(g.sat 0 _ rfl).1, trivial⟩) fun v212 w hw => ?_
    have hw := hw.freeze (i := 0) rfl
    obtain ⟨x213, hx213, hj⟩ := bd hj
    refine RL.app (i := 9) (j := 0) trivial rfl hw rfl rfl rfl rfl el37 hx213 fun v214 w hw => ?_
    refine as_ v214 rfl rfl ?_
    refine RL.nil ?_
    obtain rfl := oi hj
    exact ⟨rfl, v214, ⟨rfl, rfl, rfl, rfl, rfl, rfl, rfl, rfl, rfl, trivial⟩, hw.pick 10 [5, 6, 7, 8, 9] (new := [rd v0 p0, mp v34 x33, rd v35 p1.Parts, own 45 v165 x164, own 45 v214 x213]) rfl rfl (by decide) (by decide)⟩
   rintro σ w ⟨v210, ha, hw⟩
   obtain ⟨τ, rfl⟩ := ha.ups
   refine blkQ_n ?_
   refine thenQ_n ?_
   refine RC.region ?_
   refine RL.inc trivial rfl hk hm rfl rfl ?_
   refine mv (vi ((k166 + 1 : Nat) : Int)) rfl rfl ?_
   refine RL.nil ?_
   obtain rfl := oi hb
   exact ⟨rfl, v210, ⟨rfl, rfl, rfl, rfl, rfl, rfl, rfl, rfl, rfl, trivial⟩, hw.pick 5 [0, 1, 2, 3, 4] (new := [rd v0 p0, mp v34 x33, rd v35 p1.Parts, own 45 v165 x164, own 45 v210 s209]) rfl rfl (by decide) (by decide)⟩
  intro σ w hJ
  obtain ⟨v199, ha, hw⟩ := hJ
  obtain ⟨τ, rfl⟩ := ha.ups
  refine blkQ_n ?_
  refine thenQ_n ?_
  refine RC.region ?_
  refine RL.inc trivial rfl hk hm rfl rfl ?_
  refine mv (vi ((k36 + 1 : Nat) : Int)) rfl rfl ?_
  refine RL.nil ?_
  obtain rfl := oi hb
  exact ⟨rfl, v199, ⟨rfl, rfl, rfl, rfl, rfl, rfl, trivial⟩, hw.pick 5 [0, 1, 2, 4] (new := [rd v0 p0, mp v34 x33, rd v35 p1.Parts, own 45 v199 s167]) rfl rfl (by decide) (by decide)⟩
 intro σ w hJ
 obtain ⟨v157, ha, hw⟩ := hJ
 obtain ⟨τ, rfl⟩ := ha.ups
 refine thenQ_n ?_
 refine RC.sr ?_
 refine mv v157 rfl rfl ?_
 refine as_ v157 rfl rfl ?_
 refine RL.nt ?_
 refine RC.ret ?_
 obtain rfl := oi hb
 exact fin1 rfl rfl (hw.pick 4 [3] (new := [own 45 v157 s37]) rfl rfl (by decide) (by decide))
def netlist_Loose_R (E : World) (Γ : List HP) (res : (List Pin) × Int) (v : Value) (w : World) : Prop := ∃ u0 : Value, v = .tuple #[u0, (vi res.2)] ∧ Holds E w (own 45 u0 res.1 :: Γ)
def netlist_Loose_K (E : World) (Γ : List HP) (r : (List Pin) × Int) (σ : Nat → Value) (w : World) : Prop := finQ Tryd.prog 16 Tryd.f23 (netlist_Loose_R E Γ r) .ret σ w
theorem netlist_Loose_ok (N : Nat) {E w : World} {Γ : List HP} {i0 : Nat} {v0 : Value} {p0 : (List PartType)} {i1 : Nat} {v1 : Value} {p1 : Netlist} {res : (List Pin) × Int} (hw : Holds E w Γ) (h0 : Γ[i0]? = some (rd v0 p0)) (h1 : Γ[i1]? = some (rd v1 p1)) (hb : netlist_Loose N p0 p1 = some res) :
    Calls Tryd.prog 23 [v0, v1].toArray w (Ret (netlist_Loose_R E Γ res)) := by
 unfold netlist_Loose at hb
 refine enter Tryd.func23 rfl rfl (Nat.le_of_ble_eq_true rfl) ?_
 have hw := hw.dup (i := i0 + 0) h0
 have hw := hw.dup (i := i1 + 1) h1
 refine RC.sr ?_
 refine RL.box_rd (i := 0) (v := v1) trivial rfl hw rfl rfl fun b31 w hw => ?_
 refine as_ (.slice none 0 0) rfl rfl ?_
 refine as_ (vi 0) rfl rfl ?_
 refine RL.nq ?_
 refine RC.sr ?_
 refine mv v0 rfl rfl ?_
 refine RL.load_bf (i := 0) (f := (fun x => x)) trivial rfl hw rfl rfl Fd.self ty26 fun v32 hw => ?_
 obtain ⟨x33, hx33, hb⟩ := bd hb
 refine RL.call trivial rfl fn14 [v0, v32] rfl (Calls_ret (netlist_CheckList_ok N  (i0 := 3) (i1 := 0) hw rfl rfl hx33) ?_)
 rintro _ w ⟨rfl, hw⟩
 refine as_ (vi x33) rfl rfl ?_
 refine RL.ns ?_
 refine mv (vi x33) rfl rfl ?_
 refine ic x33 0 rfl rfl rfl rfl ?_
 refine RL.nt ?_
 refine RC.cond (b := (x33 != 0)) rfl (fun hc => ?_) (fun hc => ?_)
 ·replace hb := cT hc hb
  refine RC.sr ?_
  refine mv (vi x33) rfl rfl ?_
  refine as_ (.slice none 0 0) rfl rfl ?_
  refine as_ (vi x33) rfl rfl ?_
  refine RL.nt ?_
  refine RC.rt ?_
  obtain rfl := oi hb
  have hw := hw.own_nil Pin 45
  exact fin2 rfl rfl rfl ⟨(.slice none 0 0), rfl, hw.pick 5 [0] (new := [own 45 (.slice none 0 0) ([] : (List Pin))]) rfl rfl (by decide) (by decide)⟩
 replace hb := cF hc hb
 refine RC.sx ?_
 refine mv v0 rfl rfl ?_
 refine RL.load_bf (i := 1) (f := (fun x => x)) trivial rfl hw rfl rfl Fd.self ty26 fun v34 hw => ?_
 obtain ⟨x35, hx35, hb⟩ := bd hb
 refine RL.call trivial rfl fn46 [v0, v34] rfl (Calls_ret (netlist_LooseOf_ok N  (i0 := 4) (i1 := 0) hw rfl rfl hx35) ?_)
 rintro v36 w hw
 refine as_ v36 rfl rfl ?_
 refine as_ (vi 0) rfl rfl ?_
 refine RL.nt ?_
 refine RC.ret ?_
 obtain rfl := oi hb
 exact fin2 rfl rfl rfl ⟨v36, rfl, hw.pick 6 [0] (new := [own 45 v36 x35]) rfl rfl (by decide) (by decide)⟩
end Go.Gk
