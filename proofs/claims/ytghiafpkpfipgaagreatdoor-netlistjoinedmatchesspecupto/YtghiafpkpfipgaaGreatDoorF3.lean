/-
  Printed by gen.py: Go functions as plain functions, and that they are.
-/
import Derived.Test.YtghiafpkpfipgaaGreatDoorT
import Derived.Test.YtghiafpkpfipgaaGreatDoorS
import Derived.Test.YtghiafpkpfipgaaGreatDoorF1
import Derived.Test.YtghiafpkpfipgaaGreatDoorF2
set_option linter.unusedVariables false
set_option linter.unusedSimpArgs false
set_option linter.unusedSectionVars false
set_option maxRecDepth 100000
set_option maxHeartbeats 4000000

namespace Go.Gk
open Go Go.Proofs
def netlist_Own_R (E : World) (Γ : List HP) (res : ((List Part) × (List Net))) (v : Value) (w : World) : Prop := ∃ (u0_0 : Value) (u0_1 : Value) (uw0_1 : List Net_r1), v = (.agg ([u0_0, u0_1] : List Value).toArray) ∧ Holds E w (own 48 u0_0 res.1 :: own 38 u0_1 uw0_1 :: bag XF_Net_r1 uw0_1 res.2 none :: Γ)
theorem netlist_Own_ok (N : Nat) {E w : World} {Γ : List HP} {i0 : Nat} {v0 : Value} {p0 : Netlist} {res : ((List Part) × (List Net))} (hw : Holds E w Γ) (h0 : Γ[i0]? = some (rd v0 p0)) (hb : netlist_Own N p0 = some res) :
    Calls Tryz.prog 10 [v0].toArray w (Ret (netlist_Own_R E Γ res)) := by
 unfold netlist_Own at hb
 refine enter Tryz.func10 rfl rfl (Nat.le_of_ble_eq_true rfl) ?_
 have hw := hw.dup (i := i0 + 0) h0
 refine RC.sr ?_
 refine RL.box_rd (i := 0) (v := v0) trivial rfl hw rfl rfl fun b31 w hw => ?_
 refine RL.alloc_bc trivial rfl hw zc26 rfl fun b32 w hw => ?_
 refine RL.nq ?_
 obtain ⟨x34, hx34, hb⟩ := bd hb
 obtain ⟨x37, hx37, hb⟩ := bd hb
 refine RC.drw mixed rfl (fun (D : Nat → Bool) (σ : Nat → Value) (w : World) => ∃ (v33 : Value) (v35 : Value) (v36 : Value) (v38 : Value) (v40 : Value), doneV D σ [(0, 4, (vp b31 0)), (1, 5, v33), (2, 6, v35), (3, 7, (vp b31 1)), (4, 8, v36), (5, 9, v38), (6, 10, (vp b31 0)), (8, 11, (vp b31 1))] ∧ agree σ [(1, (vp b31 0)), (2, (vp b32 0))] ∧ Holds E w ([bif D 1 then (rd v33 p0.Parts) else junk, bif D 2 then (own 48 v35 x34) else junk, bif D 4 then (rd v36 p0.Nets) else junk, bif D 5 then (own 38 v38 x37) else junk, bif D 7 then (rd v40 p0.Nets) else junk, bc 26 b32 [(.slice none 0 0), (.slice none 0 0)], bif D 9 then (bc 26 b31 [v35, v38]) else (bif D 7 then (bc 26 b31 [v35, v40]) else (bx 26 b31 p0)), rd v0 p0] ++ Γ)) ?_ ⟨?_, ?_, ?_, ?_, ?_, ?_, ?_, ?_, ?_, ?_, trivial⟩ ?_
 ·have hw := hw.drew
  have hw := hw.junk
  have hw := hw.junk
  have hw := hw.junk
  have hw := hw.junk
  have hw := hw.junk
  exact ⟨undef, undef, undef, undef, undef, doneV.none, ⟨rfl, rfl, trivial⟩, hw⟩
 ·rintro D σ w hD hdep hcl ⟨v33, v35, v36, v38, v40, hv, ha, hw⟩
  obtain ⟨τ, rfl⟩ := (ac (ha.at 0 rfl) az).ups
  refine RL.fa_b trivial rfl rfl fa26_0 ?_
  refine RL.nil ?_
  exact ⟨rfl, v33, v35, v36, v38, v40, hv.put 0 rfl rfl, ha.up rfl, hw⟩
 ·rintro D σ w hD hdep hcl ⟨v33, v35, v36, v38, v40, hv, ha, hw⟩
  obtain ⟨τ, rfl⟩ := (ac (hv.at 0 rfl (hdep.1 rfl)) az).ups
  have hw := hw.selF (i := 0) rfl hD
  have hw := hw.selF (i := 6) rfl (nf (fun h => ft hD ((hcl 9 _ rfl h).2.2.2.2.1 rfl)))
  have hw := hw.selF (i := 6) rfl (nf (fun h => ft hD ((hcl 7 _ rfl h).2.2.2.2.1 rfl)))
  refine RL.load_bf (i := 6) (f := (fun x => x.Parts)) trivial rfl hw rfl rfl fd_Netlist_0 ty23 fun v41 hw => ?_
  have hw := hw.pick 9 [0, 2, 3, 4, 5, 6, 7, 8] (new := [rd v41 p0.Parts, bif D 2 then (own 48 v35 x34) else junk, bif D 4 then (rd v36 p0.Nets) else junk, bif D 5 then (own 38 v38 x37) else junk, bif D 7 then (rd v40 p0.Nets) else junk, bc 26 b32 [(.slice none 0 0), (.slice none 0 0)], bx 26 b31 p0, rd v0 p0]) rfl rfl (by decide) (by decide)
  have hw := hw.altT (i := 0) (b := true) rfl rfl (junk)
  have hw := hw.altF (i := 6) (b := D 7) rfl (nf (fun h => ft hD ((hcl 7 _ rfl h).2.2.2.2.1 rfl))) (bc 26 b31 [v35, v40])
  have hw := hw.altF (i := 6) (b := D 9) rfl (nf (fun h => ft hD ((hcl 9 _ rfl h).2.2.2.2.1 rfl))) (bc 26 b31 [v35, v38])
  refine RL.nil ?_
  exact ⟨rfl, v41, v35, v36, v38, v40, hv.put 1 rfl rfl, ha.up rfl, hw⟩
 ·rintro D σ w hD hdep hcl ⟨v33, v35, v36, v38, v40, hv, ha, hw⟩
  obtain ⟨τ, rfl⟩ := (ac (hv.at 1 rfl (hdep.1 rfl)) az).ups
  have hw := hw.selT (i := 0) rfl (hdep.1 rfl)
  have hw := hw.selF (i := 1) rfl hD
  have hw := hw.selF (i := 6) rfl (nf (fun h => ft hD ((hcl 9 _ rfl h).2.2.2.2.2.1 rfl)))
  have hw := hw.selF (i := 6) rfl (nf (fun h => ft hD ((hcl 7 _ rfl h).2.1 rfl)))
  refine RL.call trivial rfl fn16 [v33] rfl (Calls_ret (slices_Clone_Part_ok N  (i0 := 0) hw rfl hx34) ?_)
  rintro v42 w hw
  have hw := hw.pick 9 [1, 0, 3, 4, 5, 6, 7, 8] (new := [rd v33 p0.Parts, own 48 v42 x34, bif D 4 then (rd v36 p0.Nets) else junk, bif D 5 then (own 38 v38 x37) else junk, bif D 7 then (rd v40 p0.Nets) else junk, bc 26 b32 [(.slice none 0 0), (.slice none 0 0)], bx 26 b31 p0, rd v0 p0]) rfl rfl (by decide) (by decide)
  have hw := hw.altT (i := 0) (b := D 1) rfl (hdep.1 rfl) (junk)
  have hw := hw.altT (i := 1) (b := true) rfl rfl (junk)
  have hw := hw.altF (i := 6) (b := D 7) rfl (nf (fun h => ft hD ((hcl 7 _ rfl h).2.1 rfl))) (bc 26 b31 [v42, v40])
  have hw := hw.altF (i := 6) (b := D 9) rfl (nf (fun h => ft hD ((hcl 9 _ rfl h).2.2.2.2.2.1 rfl))) (bc 26 b31 [v42, v38])
  refine RL.nil ?_
  exact ⟨rfl, v33, v42, v36, v38, v40, hv.put 2 rfl rfl, ha.up rfl, hw⟩
 ·rintro D σ w hD hdep hcl ⟨v33, v35, v36, v38, v40, hv, ha, hw⟩
  obtain ⟨τ, rfl⟩ := (ac (ha.at 0 rfl) az).ups
  refine RL.fa_b trivial rfl rfl fa26_1 ?_
  refine RL.nil ?_
  exact ⟨rfl, v33, v35, v36, v38, v40, hv.put 3 rfl rfl, ha.up rfl, hw⟩
 ·rintro D σ w hD hdep hcl ⟨v33, v35, v36, v38, v40, hv, ha, hw⟩
  obtain ⟨τ, rfl⟩ := (ac (hv.at 3 rfl (hdep.1 rfl)) az).ups
  have hw := hw.selF (i := 2) rfl hD
  have hw := hw.selF (i := 6) rfl (nf (fun h => ft hD ((hcl 9 _ rfl h).2.2.2.2.2.2.2.1 rfl)))
  have hw := hw.selF (i := 6) rfl (nf (fun h => ft hD ((hcl 7 _ rfl h).2.2.2.2.2.2.2.1 rfl)))
  refine RL.load_bf (i := 6) (f := (fun x => x.Nets)) trivial rfl hw rfl rfl fd_Netlist_1 ty24 fun v43 hw => ?_
  have hw := hw.pick 9 [1, 2, 0, 4, 5, 6, 7, 8] (new := [bif D 1 then (rd v33 p0.Parts) else junk, bif D 2 then (own 48 v35 x34) else junk, rd v43 p0.Nets, bif D 5 then (own 38 v38 x37) else junk, bif D 7 then (rd v40 p0.Nets) else junk, bc 26 b32 [(.slice none 0 0), (.slice none 0 0)], bx 26 b31 p0, rd v0 p0]) rfl rfl (by decide) (by decide)
  have hw := hw.altT (i := 2) (b := true) rfl rfl (junk)
  have hw := hw.altF (i := 6) (b := D 7) rfl (nf (fun h => ft hD ((hcl 7 _ rfl h).2.2.2.2.2.2.2.1 rfl))) (bc 26 b31 [v35, v40])
  have hw := hw.altF (i := 6) (b := D 9) rfl (nf (fun h => ft hD ((hcl 9 _ rfl h).2.2.2.2.2.2.2.1 rfl))) (bc 26 b31 [v35, v38])
  refine RL.nil ?_
  exact ⟨rfl, v33, v35, v43, v38, v40, hv.put 4 rfl rfl, ha.up rfl, hw⟩
 ·rintro D σ w hD hdep hcl ⟨v33, v35, v36, v38, v40, hv, ha, hw⟩
  obtain ⟨τ, rfl⟩ := (ac (hv.at 4 rfl (hdep.1 rfl)) az).ups
  have hw := hw.selT (i := 2) rfl (hdep.1 rfl)
  have hw := hw.selF (i := 3) rfl hD
  have hw := hw.selF (i := 6) rfl (nf (fun h => ft hD ((hcl 9 _ rfl h).2.1 rfl)))
  have hw := hw.selF (i := 6) rfl (nf (fun h => ft hD ((hcl 7 _ rfl h).2.2.1 rfl)))
  refine RL.call trivial rfl fn33 [v36] rfl (Calls_ret (slices_Clone_Net_ok N  (i0 := 2) hw rfl hx37) ?_)
  rintro v44 w hw
  have hw := hw.pick 9 [1, 2, 3, 0, 5, 6, 7, 8] (new := [bif D 1 then (rd v33 p0.Parts) else junk, bif D 2 then (own 48 v35 x34) else junk, rd v36 p0.Nets, own 38 v44 x37, bif D 7 then (rd v40 p0.Nets) else junk, bc 26 b32 [(.slice none 0 0), (.slice none 0 0)], bx 26 b31 p0, rd v0 p0]) rfl rfl (by decide) (by decide)
  have hw := hw.altT (i := 2) (b := D 4) rfl (hdep.1 rfl) (junk)
  have hw := hw.altT (i := 3) (b := true) rfl rfl (junk)
  have hw := hw.altF (i := 6) (b := D 7) rfl (nf (fun h => ft hD ((hcl 7 _ rfl h).2.2.1 rfl))) (bc 26 b31 [v35, v40])
  have hw := hw.altF (i := 6) (b := D 9) rfl (nf (fun h => ft hD ((hcl 9 _ rfl h).2.1 rfl))) (bc 26 b31 [v35, v44])
  refine RL.nil ?_
  exact ⟨rfl, v33, v35, v36, v44, v40, hv.put 5 rfl rfl, ha.up rfl, hw⟩
 ·rintro D σ w hD hdep hcl ⟨v33, v35, v36, v38, v40, hv, ha, hw⟩
  obtain ⟨τ, rfl⟩ := (ac (ha.at 0 rfl) az).ups
  refine RL.fa_b trivial rfl rfl fa26_0 ?_
  refine RL.nil ?_
  exact ⟨rfl, v33, v35, v36, v38, v40, hv.put 6 rfl rfl, ha.up rfl, hw⟩
 ·rintro D σ w hD hdep hcl ⟨v33, v35, v36, v38, v40, hv, ha, hw⟩
  obtain ⟨τ, rfl⟩ := (ac (hv.at 2 rfl (hdep.2.1 rfl)) (ac (hv.at 6 rfl (hdep.1 rfl)) az)).ups
  have hw := hw.selT (i := 1) rfl (hdep.2.1 rfl)
  have hw := hw.selF (i := 4) rfl hD
  have hw := hw.selF (i := 6) rfl (nf (fun h => ft hD ((hcl 9 _ rfl h).2.2.1 rfl)))
  have hw := hw.selF (i := 6) rfl hD
  obtain ⟨cs, hcs, hw⟩ := hw.open_bx (i := 6) rfl
  obtain ⟨v45, v46, rfl⟩ := len2 hcs
  have hw := hw.fld (i := 0) (k := 0) (f := fun x => x.Parts) rfl fd_Netlist_0 rfl rfl rfl
  have hw := hw.fld (i := 1) (k := 1) (f := fun x => x.Nets) rfl fd_Netlist_1 rfl rfl rfl
  refine RL.store_bc (i := 9) (v := v35) trivial hw rfl rfl rfl rfl (one_own hw (i := 4) rfl) ty23 fun w hw => ?_
  have hw := hw.pick 11 [3, 4, 5, 6, 0, 8, 9, 10] (new := [bif D 1 then (rd v33 p0.Parts) else junk, own 48 v35 x34, bif D 4 then (rd v36 p0.Nets) else junk, bif D 5 then (own 38 v38 x37) else junk, rd v46 p0.Nets, bc 26 b32 [(.slice none 0 0), (.slice none 0 0)], bc 26 b31 [v35, v46], rd v0 p0]) rfl rfl (by decide) (by decide)
  have hw := hw.altT (i := 1) (b := D 2) rfl (hdep.2.1 rfl) (junk)
  have hw := hw.altT (i := 4) (b := true) rfl rfl (junk)
  have hw := hw.altT (i := 6) (b := true) rfl rfl (bx 26 b31 p0)
  have hw := hw.altF (i := 6) (b := D 9) rfl (nf (fun h => ft hD ((hcl 9 _ rfl h).2.2.1 rfl))) (bc 26 b31 [v35, v38])
  refine RL.nil ?_
  exact ⟨rfl, v33, v35, v36, v38, v46, hv.no rfl, ha, hw⟩
 ·rintro D σ w hD hdep hcl ⟨v33, v35, v36, v38, v40, hv, ha, hw⟩
  obtain ⟨τ, rfl⟩ := (ac (ha.at 0 rfl) az).ups
  refine RL.fa_b trivial rfl rfl fa26_1 ?_
  refine RL.nil ?_
  exact ⟨rfl, v33, v35, v36, v38, v40, hv.put 7 rfl rfl, ha.up rfl, hw⟩
 ·rintro D σ w hD hdep hcl ⟨v33, v35, v36, v38, v40, hv, ha, hw⟩
  obtain ⟨τ, rfl⟩ := (ac (hv.at 5 rfl (hdep.2.1 rfl)) (ac (hv.at 7 rfl (hdep.1 rfl)) az)).ups
  have hw := hw.selT (i := 3) rfl (hdep.2.1 rfl)
  have hw := hw.selF (i := 6) rfl hD
  have hw := hw.selT (i := 6) rfl (hdep.2.2.1 rfl)
  refine RL.store_bc (i := 6) (v := v38) trivial hw rfl rfl rfl rfl (one_own hw (i := 3) rfl) ty24 fun w hw => ?_
  have hw := hw.altT (i := 3) (b := D 5) rfl (hdep.2.1 rfl) (junk)
  have hw := hw.altT (i := 6) (b := true) rfl rfl (bif D 7 then (bc 26 b31 [v35, v40]) else (bx 26 b31 p0))
  refine RL.nil ?_
  exact ⟨rfl, v33, v35, v36, v38, v40, hv.no rfl, ha, hw⟩
 rintro D σ w hall ⟨v33, v35, v36, v38, v40, hv, ha, hw⟩
 rw [hall 1 (by decide), hall 2 (by decide), hall 4 (by decide), hall 5 (by decide), hall 7 (by decide), hall 9 (by decide)] at hw
 obtain ⟨τ, rfl⟩ := (ac (ha.at 0 rfl) (ac (ha.at 1 rfl) az)).ups
 refine thenQ_n ?_
 refine RC.seq ?_
 refine RC.sr ?_
 refine RL.fa_b trivial rfl rfl fa26_1 ?_
 refine RL.load_bc (i := 6) (v := v38) trivial rfl hw rfl rfl rfl ty24 ?_
 refine RL.len_own (i := 3) (l := x37) trivial rfl hw rfl rfl un24 ?_
 refine mv (vi 0) rfl rfl ?_
 refine RL.nt ?_
 obtain ⟨us47, hw⟩ := Holds.to_flags (X := XF_Net_r1) (f := fun u => u.Pins) (gg := fun x => x.Pins) (j := 3) rfl xraw_Net_r1 hw rfl
 obtain ⟨s49, hN, hb⟩ := bd hb
 refine RC.fold (fun (k48 : Nat) (s49 : (List (Bool × Net))) (σ : Nat → Value) (w : World) => ∃ (us138 : List Net_r1), agree σ [(1, (vp b31 0)), (2, (vp b32 0)), (14, (vi (x37.length : Int))), (15, (vi (k48 : Int)))] ∧ Holds E w ([bc 26 b31 [v35, v38], own 48 v35 x34, own 38 v38 us138, bag (XB XF_Net_r1 (fun u => u.Pins) (fun x => x.Pins)) us138 s49 none, bc 26 b32 [(.slice none 0 0), (.slice none 0 0)]] ++ Γ)) (fun (s49 : (List (Bool × Net))) (σ : Nat → Value) (w : World) => ∃ (us139 : List Net_r1), agree σ [(1, (vp b31 0)), (2, (vp b32 0))] ∧ Holds E w ([bc 26 b31 [v35, v38], own 48 v35 x34, own 38 v38 us139, bag (XB XF_Net_r1 (fun u => u.Pins) (fun x => x.Pins)) us139 s49 none, bc 26 b32 [(.slice none 0 0), (.slice none 0 0)]] ++ Γ)) hN ?_ ?_ ?_ ?_
 ·exact ⟨us47, ⟨rfl, rfl, rfl, rfl, trivial⟩, hw.pick 9 [7, 2, 4, 0, 6] (new := [bc 26 b31 [v35, v38], own 48 v35 x34, own 38 v38 us47, bag (XB XF_Net_r1 (fun u => u.Pins) (fun x => x.Pins)) us47 (x37.map fun x => (false, x)) none, bc 26 b32 [(.slice none 0 0), (.slice none 0 0)]]) rfl rfl (by decide) (by decide)⟩
 ·intro hm s49 σ w hI
  obtain ⟨us184, ha, hw⟩ := hI
  obtain ⟨τ, rfl⟩ := ha.ups
  refine RC.sr ?_
  refine ic ((x37.length : Int)) ((x37.length : Int)) rfl rfl rfl rfl ?_
  refine RL.nq ?_
  refine RC.cond_f dge ?_
  refine RC.ex ?_
  exact ⟨rfl, us184, ⟨rfl, rfl, trivial⟩, hw.pick 5 [0, 1, 2, 3, 4] (new := [bc 26 b31 [v35, v38], own 48 v35 x34, own 38 v38 us184, bag (XB XF_Net_r1 (fun u => u.Pins) (fun x => x.Pins)) us184 s49 none, bc 26 b32 [(.slice none 0 0), (.slice none 0 0)]]) rfl rfl (by decide) (by decide)⟩
 ·intro hm k48 s49 s' σ w hk hI hb
  obtain ⟨us140, ha, hw⟩ := hI
  obtain ⟨τ, rfl⟩ := ha.ups
  refine RC.sr ?_
  refine ic ((k48 : Int)) ((x37.length : Int)) rfl rfl rfl rfl ?_
  refine RL.nq ?_
  refine RC.cond_t (dlt hk) ?_
  refine RC.ss ?_
  refine RC.bs ?_
  refine mv (vi (k48 : Int)) rfl rfl ?_
  refine as_ (vi (k48 : Int)) rfl rfl ?_
  refine RL.nt ?_
  obtain ⟨x141, hx141, hb⟩ := bd hb
  obtain ⟨x148, hx148, hb⟩ := bd hb
  obtain ⟨x149, hx149, hb⟩ := bd hb
  obtain ⟨x151, hx151, hb⟩ := bd hb
  obtain ⟨x158, hx158, hb⟩ := bd hb
  refine RC.drw mixed rfl (fun (D : Nat → Bool) (σ : Nat → Value) (w : World) => ∃ (v150 : Value), doneV D σ [(0, 18, (vp b31 1)), (1, 19, v38), (2, 20, (vi (k48 : Int))), (3, 21, (vp b31 1)), (4, 22, v38), (5, 23, (vi (k48 : Int))), (6, 24, (vp b31 1)), (7, 25, v38), (8, 26, (vi (k48 : Int))), (9, 27, (elA v38 (Int.toNat (k48 : Int)) 3 0)), (10, 28, (elA v38 (Int.toNat (k48 : Int)) 3 1)), (11, 29, (us140.getD (Int.toNat (k48 : Int)) (default : Net_r1)).Pins.v), (12, 30, v150), (13, 31, (elA v38 (Int.toNat (k48 : Int)) 3 0)), (14, 32, (elA v38 (Int.toNat (k48 : Int)) 3 1)), (16, 33, (elA v38 (Int.toNat (k48 : Int)) 3 0)), (17, 34, (elA v38 (Int.toNat (k48 : Int)) 3 2))] ∧ agree σ [(1, (vp b31 0)), (2, (vp b32 0)), (3, (vi (k48 : Int))), (14, (vi (x37.length : Int))), (15, (vi (k48 : Int)))] ∧ Holds E w ([bif D 11 then (rd (us140.getD (Int.toNat (k48 : Int)) (default : Net_r1)).Pins.v x148.Pins) else junk, bif D 15 then (junk) else (bif D 12 then (own 43 v150 x149) else junk), bc 26 b31 [v35, v38], own 48 v35 x34, bif D 18 then (own 38 v38 ((us140.set (Int.toNat (k48 : Int)) { (us140.getD (Int.toNat (k48 : Int)) (default : Net_r1)) with Pins := rv v150 }).set (Int.toNat (k48 : Int)) { ((us140.set (Int.toNat (k48 : Int)) { (us140.getD (Int.toNat (k48 : Int)) (default : Net_r1)) with Pins := rv v150 }).getD (Int.toNat (k48 : Int)) (default : Net_r1)) with Ports := ([] : (List Str)) })) else (bif D 15 then (own 38 v38 (us140.set (Int.toNat (k48 : Int)) { (us140.getD (Int.toNat (k48 : Int)) (default : Net_r1)) with Pins := rv v150 })) else (own 38 v38 us140)), bif D 18 then (bag (XB XF_Net_r1 (fun u => u.Pins) (fun x => x.Pins)) ((us140.set (Int.toNat (k48 : Int)) { (us140.getD (Int.toNat (k48 : Int)) (default : Net_r1)) with Pins := rv v150 }).set (Int.toNat (k48 : Int)) { ((us140.set (Int.toNat (k48 : Int)) { (us140.getD (Int.toNat (k48 : Int)) (default : Net_r1)) with Pins := rv v150 }).getD (Int.toNat (k48 : Int)) (default : Net_r1)) with Ports := ([] : (List Str)) }) ((s49.set (Int.toNat (k48 : Int)) (true, { x151.2 with Pins := x149 })).set (Int.toNat (k48 : Int)) (x158.1, { x158.2 with Ports := ([] : (List Str)) })) none) else (bif D 15 then (bag (XB XF_Net_r1 (fun u => u.Pins) (fun x => x.Pins)) (us140.set (Int.toNat (k48 : Int)) { (us140.getD (Int.toNat (k48 : Int)) (default : Net_r1)) with Pins := rv v150 }) (s49.set (Int.toNat (k48 : Int)) (true, { x151.2 with Pins := x149 })) none) else (bag (XB XF_Net_r1 (fun u => u.Pins) (fun x => x.Pins)) us140 s49 none)), bc 26 b32 [(.slice none 0 0), (.slice none 0 0)]] ++ Γ)) ?_ ⟨?_, ?_, ?_, ?_, ?_, ?_, ?_, ?_, ?_, ?_, ?_, ?_, ?_, ?_, ?_, ?_, ?_, ?_, ?_, trivial⟩ ?_
  ·have hw := hw.drew
   have hw := hw.junk
   have hw := hw.junk
   exact ⟨undef, doneV.none, ⟨rfl, rfl, rfl, rfl, rfl, trivial⟩, hw⟩
  ·rintro D σ w hD hdep hcl ⟨v150, hv, ha, hw⟩
   obtain ⟨τ, rfl⟩ := (ac (ha.at 0 rfl) az).ups
   refine RL.fa_b trivial rfl rfl fa26_1 ?_
   refine RL.nil ?_
   exact ⟨rfl, v150, hv.put 0 rfl rfl, ha.up rfl, hw⟩
  ·rintro D σ w hD hdep hcl ⟨v150, hv, ha, hw⟩
   obtain ⟨τ, rfl⟩ := (ac (hv.at 0 rfl (hdep.1 rfl)) az).ups
   refine RL.load_bc (i := 2) (v := v38) trivial rfl hw rfl rfl rfl ty24 ?_
   refine RL.nil ?_
   exact ⟨rfl, v150, hv.put 1 rfl rfl, ha.up rfl, hw⟩
  ·rintro D σ w hD hdep hcl ⟨v150, hv, ha, hw⟩
   obtain ⟨τ, rfl⟩ := (ac (ha.at 2 rfl) az).ups
   refine mv (vi (k48 : Int)) rfl rfl ?_
   refine RL.nil ?_
   exact ⟨rfl, v150, hv.put 2 rfl rfl, ha.up rfl, hw⟩
  ·rintro D σ w hD hdep hcl ⟨v150, hv, ha, hw⟩
   obtain ⟨τ, rfl⟩ := (ac (ha.at 0 rfl) az).ups
   refine RL.fa_b trivial rfl rfl fa26_1 ?_
   refine RL.nil ?_
   exact ⟨rfl, v150, hv.put 3 rfl rfl, ha.up rfl, hw⟩
  ·rintro D σ w hD hdep hcl ⟨v150, hv, ha, hw⟩
   obtain ⟨τ, rfl⟩ := (ac (hv.at 3 rfl (hdep.1 rfl)) az).ups
   refine RL.load_bc (i := 2) (v := v38) trivial rfl hw rfl rfl rfl ty24 ?_
   refine RL.nil ?_
   exact ⟨rfl, v150, hv.put 4 rfl rfl, ha.up rfl, hw⟩
  ·rintro D σ w hD hdep hcl ⟨v150, hv, ha, hw⟩
   obtain ⟨τ, rfl⟩ := (ac (ha.at 2 rfl) az).ups
   refine mv (vi (k48 : Int)) rfl rfl ?_
   refine RL.nil ?_
   exact ⟨rfl, v150, hv.put 5 rfl rfl, ha.up rfl, hw⟩
  ·rintro D σ w hD hdep hcl ⟨v150, hv, ha, hw⟩
   obtain ⟨τ, rfl⟩ := (ac (ha.at 0 rfl) az).ups
   refine RL.fa_b trivial rfl rfl fa26_1 ?_
   refine RL.nil ?_
   exact ⟨rfl, v150, hv.put 6 rfl rfl, ha.up rfl, hw⟩
  ·rintro D σ w hD hdep hcl ⟨v150, hv, ha, hw⟩
   obtain ⟨τ, rfl⟩ := (ac (hv.at 6 rfl (hdep.1 rfl)) az).ups
   refine RL.load_bc (i := 2) (v := v38) trivial rfl hw rfl rfl rfl ty24 ?_
   refine RL.nil ?_
   exact ⟨rfl, v150, hv.put 7 rfl rfl, ha.up rfl, hw⟩
  ·rintro D σ w hD hdep hcl ⟨v150, hv, ha, hw⟩
   obtain ⟨τ, rfl⟩ := (ac (ha.at 2 rfl) az).ups
   refine mv (vi (k48 : Int)) rfl rfl ?_
   refine RL.nil ?_
   exact ⟨rfl, v150, hv.put 8 rfl rfl, ha.up rfl, hw⟩
  ·rintro D σ w hD hdep hcl ⟨v150, hv, ha, hw⟩
   obtain ⟨τ, rfl⟩ := (ac (hv.at 7 rfl (hdep.1 rfl)) (ac (hv.at 8 rfl (hdep.2.1 rfl)) az)).ups
   have hw := hw.selF (i := 4) rfl (nf (fun h => ft hD ((hcl 18 _ rfl h).2.2.2.2.2.2.2.2.2.2.2.1 rfl)))
   have hw := hw.selF (i := 4) rfl (nf (fun h => ft hD ((hcl 15 _ rfl h).2.2.2.2.2.2.2.2.2.2.2.2.1 rfl)))
   have hw := hw.selF (i := 5) rfl (nf (fun h => ft hD ((hcl 18 _ rfl h).2.2.2.2.2.2.2.2.2.2.2.1 rfl)))
   have hw := hw.selF (i := 5) rfl (nf (fun h => ft hD ((hcl 15 _ rfl h).2.2.2.2.2.2.2.2.2.2.2.2.1 rfl)))
   have hl165 := hw.bag_len (j := 5) rfl
   have hr166 := idx_raw (default : Net_r1) hl165 hx141
   refine RL.ia_ownA (i := 4) trivial rfl hw rfl rfl rfl sl24 hr166 ?_
   have hw := hw.altF (i := 4) (b := D 15) rfl (nf (fun h => ft hD ((hcl 15 _ rfl h).2.2.2.2.2.2.2.2.2.2.2.2.1 rfl))) (own 38 v38 (us140.set (Int.toNat (k48 : Int)) { (us140.getD (Int.toNat (k48 : Int)) (default : Net_r1)) with Pins := rv v150 }))
   have hw := hw.altF (i := 4) (b := D 18) rfl (nf (fun h => ft hD ((hcl 18 _ rfl h).2.2.2.2.2.2.2.2.2.2.2.1 rfl))) (own 38 v38 ((us140.set (Int.toNat (k48 : Int)) { (us140.getD (Int.toNat (k48 : Int)) (default : Net_r1)) with Pins := rv v150 }).set (Int.toNat (k48 : Int)) { ((us140.set (Int.toNat (k48 : Int)) { (us140.getD (Int.toNat (k48 : Int)) (default : Net_r1)) with Pins := rv v150 }).getD (Int.toNat (k48 : Int)) (default : Net_r1)) with Ports := ([] : (List Str)) }))
   have hw := hw.altF (i := 5) (b := D 15) rfl (nf (fun h => ft hD ((hcl 15 _ rfl h).2.2.2.2.2.2.2.2.2.2.2.2.1 rfl))) (bag (XB XF_Net_r1 (fun u => u.Pins) (fun x => x.Pins)) (us140.set (Int.toNat (k48 : Int)) { (us140.getD (Int.toNat (k48 : Int)) (default : Net_r1)) with Pins := rv v150 }) (s49.set (Int.toNat (k48 : Int)) (true, { x151.2 with Pins := x149 })) none)
   have hw := hw.altF (i := 5) (b := D 18) rfl (nf (fun h => ft hD ((hcl 18 _ rfl h).2.2.2.2.2.2.2.2.2.2.2.1 rfl))) (bag (XB XF_Net_r1 (fun u => u.Pins) (fun x => x.Pins)) ((us140.set (Int.toNat (k48 : Int)) { (us140.getD (Int.toNat (k48 : Int)) (default : Net_r1)) with Pins := rv v150 }).set (Int.toNat (k48 : Int)) { ((us140.set (Int.toNat (k48 : Int)) { (us140.getD (Int.toNat (k48 : Int)) (default : Net_r1)) with Pins := rv v150 }).getD (Int.toNat (k48 : Int)) (default : Net_r1)) with Ports := ([] : (List Str)) }) ((s49.set (Int.toNat (k48 : Int)) (true, { x151.2 with Pins := x149 })).set (Int.toNat (k48 : Int)) (x158.1, { x158.2 with Ports := ([] : (List Str)) })) none)
   refine RL.nil ?_
   exact ⟨rfl, v150, hv.put 9 rfl rfl, ha.up rfl, hw⟩
  ·rintro D σ w hD hdep hcl ⟨v150, hv, ha, hw⟩
   obtain ⟨τ, rfl⟩ := (ac (hv.at 9 rfl (hdep.1 rfl)) az).ups
   have hw := hw.selF (i := 4) rfl (nf (fun h => ft hD ((hcl 18 _ rfl h).2.2.2.2.2.2.2.2.2.2.2.2.1 rfl)))
   have hw := hw.selF (i := 4) rfl (nf (fun h => ft hD ((hcl 15 _ rfl h).2.2.2.2.2.2.2.2.2.2.2.2.2.1 rfl)))
   have hw := hw.selF (i := 5) rfl (nf (fun h => ft hD ((hcl 18 _ rfl h).2.2.2.2.2.2.2.2.2.2.2.2.1 rfl)))
   have hw := hw.selF (i := 5) rfl (nf (fun h => ft hD ((hcl 15 _ rfl h).2.2.2.2.2.2.2.2.2.2.2.2.2.1 rfl)))
   have hl167 := hw.bag_len (j := 5) rfl
   have hr168 := idx_raw (default : Net_r1) hl167 hx141
   refine RL.fa_elA (α := Net_r1) trivial rfl rfl (elp hw (i := 4) rfl hr168 0) fa38_1 ?_
   have hw := hw.altF (i := 4) (b := D 15) rfl (nf (fun h => ft hD ((hcl 15 _ rfl h).2.2.2.2.2.2.2.2.2.2.2.2.2.1 rfl))) (own 38 v38 (us140.set (Int.toNat (k48 : Int)) { (us140.getD (Int.toNat (k48 : Int)) (default : Net_r1)) with Pins := rv v150 }))
   have hw := hw.altF (i := 4) (b := D 18) rfl (nf (fun h => ft hD ((hcl 18 _ rfl h).2.2.2.2.2.2.2.2.2.2.2.2.1 rfl))) (own 38 v38 ((us140.set (Int.toNat (k48 : Int)) { (us140.getD (Int.toNat (k48 : Int)) (default : Net_r1)) with Pins := rv v150 }).set (Int.toNat (k48 : Int)) { ((us140.set (Int.toNat (k48 : Int)) { (us140.getD (Int.toNat (k48 : Int)) (default : Net_r1)) with Pins := rv v150 }).getD (Int.toNat (k48 : Int)) (default : Net_r1)) with Ports := ([] : (List Str)) }))
   have hw := hw.altF (i := 5) (b := D 15) rfl (nf (fun h => ft hD ((hcl 15 _ rfl h).2.2.2.2.2.2.2.2.2.2.2.2.2.1 rfl))) (bag (XB XF_Net_r1 (fun u => u.Pins) (fun x => x.Pins)) (us140.set (Int.toNat (k48 : Int)) { (us140.getD (Int.toNat (k48 : Int)) (default : Net_r1)) with Pins := rv v150 }) (s49.set (Int.toNat (k48 : Int)) (true, { x151.2 with Pins := x149 })) none)
   have hw := hw.altF (i := 5) (b := D 18) rfl (nf (fun h => ft hD ((hcl 18 _ rfl h).2.2.2.2.2.2.2.2.2.2.2.2.1 rfl))) (bag (XB XF_Net_r1 (fun u => u.Pins) (fun x => x.Pins)) ((us140.set (Int.toNat (k48 : Int)) { (us140.getD (Int.toNat (k48 : Int)) (default : Net_r1)) with Pins := rv v150 }).set (Int.toNat (k48 : Int)) { ((us140.set (Int.toNat (k48 : Int)) { (us140.getD (Int.toNat (k48 : Int)) (default : Net_r1)) with Pins := rv v150 }).getD (Int.toNat (k48 : Int)) (default : Net_r1)) with Ports := ([] : (List Str)) }) ((s49.set (Int.toNat (k48 : Int)) (true, { x151.2 with Pins := x149 })).set (Int.toNat (k48 : Int)) (x158.1, { x158.2 with Ports := ([] : (List Str)) })) none)
   refine RL.nil ?_
   exact ⟨rfl, v150, hv.put 10 rfl rfl, ha.up rfl, hw⟩
  ·rintro D σ w hD hdep hcl ⟨v150, hv, ha, hw⟩
   obtain ⟨τ, rfl⟩ := (ac (hv.at 10 rfl (hdep.1 rfl)) az).ups
   have hw := hw.selF (i := 0) rfl hD
   have hw := hw.selF (i := 4) rfl (nf (fun h => ft hD ((hcl 18 _ rfl h).2.2.2.2.2.2.2.2.2.2.2.2.2.1 rfl)))
   have hw := hw.selF (i := 4) rfl (nf (fun h => ft hD ((hcl 15 _ rfl h).2.2.2.2.2.2.2.2.2.2.2.2.2.2.1 rfl)))
   have hw := hw.selF (i := 5) rfl (nf (fun h => ft hD ((hcl 18 _ rfl h).2.2.2.2.2.2.2.2.2.2.2.2.2.1 rfl)))
   have hw := hw.selF (i := 5) rfl (nf (fun h => ft hD ((hcl 15 _ rfl h).2.2.2.2.2.2.2.2.2.2.2.2.2.2.1 rfl)))
   have hl169 := hw.bag_len (j := 5) rfl
   have hr170 := idx_raw (default : Net_r1) hl169 hx141
   refine RL.load_flag (i := 4) (b := 5) (jj := (k48 : Int)) fd_Net_r1_1 (default : Net_r1) trivial rfl hw rfl (elp hw (i := 4) rfl hr170 1) rfl rfl hx141 hx148 ty35 fun hw => ?_
   have hw := hw.pick 8 [0, 2, 3, 4, 5, 6, 7] (new := [rd (us140.getD (Int.toNat (k48 : Int)) (default : Net_r1)).Pins.v x148.Pins, bif D 15 then (junk) else (bif D 12 then (own 43 v150 x149) else junk), bc 26 b31 [v35, v38], own 48 v35 x34, own 38 v38 us140, bag (XB XF_Net_r1 (fun u => u.Pins) (fun x => x.Pins)) us140 s49 none, bc 26 b32 [(.slice none 0 0), (.slice none 0 0)]]) rfl rfl (by decide) (by decide)
   have hw := hw.altT (i := 0) (b := true) rfl rfl (junk)
   have hw := hw.altF (i := 4) (b := D 15) rfl (nf (fun h => ft hD ((hcl 15 _ rfl h).2.2.2.2.2.2.2.2.2.2.2.2.2.2.1 rfl))) (own 38 v38 (us140.set (Int.toNat (k48 : Int)) { (us140.getD (Int.toNat (k48 : Int)) (default : Net_r1)) with Pins := rv v150 }))
   have hw := hw.altF (i := 4) (b := D 18) rfl (nf (fun h => ft hD ((hcl 18 _ rfl h).2.2.2.2.2.2.2.2.2.2.2.2.2.1 rfl))) (own 38 v38 ((us140.set (Int.toNat (k48 : Int)) { (us140.getD (Int.toNat (k48 : Int)) (default : Net_r1)) with Pins := rv v150 }).set (Int.toNat (k48 : Int)) { ((us140.set (Int.toNat (k48 : Int)) { (us140.getD (Int.toNat (k48 : Int)) (default : Net_r1)) with Pins := rv v150 }).getD (Int.toNat (k48 : Int)) (default : Net_r1)) with Ports := ([] : (List Str)) }))
   have hw := hw.altF (i := 5) (b := D 15) rfl (nf (fun h => ft hD ((hcl 15 _ rfl h).2.2.2.2.2.2.2.2.2.2.2.2.2.2.1 rfl))) (bag (XB XF_Net_r1 (fun u => u.Pins) (fun x => x.Pins)) (us140.set (Int.toNat (k48 : Int)) { (us140.getD (Int.toNat (k48 : Int)) (default : Net_r1)) with Pins := rv v150 }) (s49.set (Int.toNat (k48 : Int)) (true, { x151.2 with Pins := x149 })) none)
   have hw := hw.altF (i := 5) (b := D 18) rfl (nf (fun h => ft hD ((hcl 18 _ rfl h).2.2.2.2.2.2.2.2.2.2.2.2.2.1 rfl))) (bag (XB XF_Net_r1 (fun u => u.Pins) (fun x => x.Pins)) ((us140.set (Int.toNat (k48 : Int)) { (us140.getD (Int.toNat (k48 : Int)) (default : Net_r1)) with Pins := rv v150 }).set (Int.toNat (k48 : Int)) { ((us140.set (Int.toNat (k48 : Int)) { (us140.getD (Int.toNat (k48 : Int)) (default : Net_r1)) with Pins := rv v150 }).getD (Int.toNat (k48 : Int)) (default : Net_r1)) with Ports := ([] : (List Str)) }) ((s49.set (Int.toNat (k48 : Int)) (true, { x151.2 with Pins := x149 })).set (Int.toNat (k48 : Int)) (x158.1, { x158.2 with Ports := ([] : (List Str)) })) none)
   refine RL.nil ?_
   exact ⟨rfl, v150, hv.put 11 rfl rfl, ha.up rfl, hw⟩
  ·rintro D σ w hD hdep hcl ⟨v150, hv, ha, hw⟩
   obtain ⟨τ, rfl⟩ := (ac (hv.at 11 rfl (hdep.1 rfl)) az).ups
   have hw := hw.selT (i := 0) rfl (hdep.1 rfl)
   have hw := hw.selF (i := 1) rfl (nf (fun h => ft hD ((hcl 15 _ rfl h).2.1 rfl)))
   have hw := hw.selF (i := 1) rfl hD
   have hw := hw.selF (i := 4) rfl (nf (fun h => ft hD ((hcl 18 _ rfl h).2.2.2.2.2.2.2.2.2.2.2.2.2.2.1 rfl)))
   have hw := hw.selF (i := 4) rfl (nf (fun h => ft hD ((hcl 15 _ rfl h).2.1 rfl)))
   have hw := hw.selF (i := 5) rfl (nf (fun h => ft hD ((hcl 18 _ rfl h).2.2.2.2.2.2.2.2.2.2.2.2.2.2.1 rfl)))
   have hw := hw.selF (i := 5) rfl (nf (fun h => ft hD ((hcl 15 _ rfl h).2.1 rfl)))
   refine RL.call trivial rfl fn19 [(us140.getD (Int.toNat (k48 : Int)) (default : Net_r1)).Pins.v] rfl (Calls_ret (slices_Clone_Pin_ok N  (i0 := 0) hw rfl hx149) ?_)
   rintro v171 w hw
   have hw := hw.pick 8 [1, 0, 3, 4, 5, 6, 7] (new := [rd (us140.getD (Int.toNat (k48 : Int)) (default : Net_r1)).Pins.v x148.Pins, own 43 v171 x149, bc 26 b31 [v35, v38], own 48 v35 x34, own 38 v38 us140, bag (XB XF_Net_r1 (fun u => u.Pins) (fun x => x.Pins)) us140 s49 none, bc 26 b32 [(.slice none 0 0), (.slice none 0 0)]]) rfl rfl (by decide) (by decide)
   have hw := hw.altT (i := 0) (b := D 11) rfl (hdep.1 rfl) (junk)
   have hw := hw.altT (i := 1) (b := true) rfl rfl (junk)
   have hw := hw.altF (i := 1) (b := D 15) rfl (nf (fun h => ft hD ((hcl 15 _ rfl h).2.1 rfl))) (junk)
   have hw := hw.altF (i := 4) (b := D 15) rfl (nf (fun h => ft hD ((hcl 15 _ rfl h).2.1 rfl))) (own 38 v38 (us140.set (Int.toNat (k48 : Int)) { (us140.getD (Int.toNat (k48 : Int)) (default : Net_r1)) with Pins := rv v171 }))
   have hw := hw.altF (i := 4) (b := D 18) rfl (nf (fun h => ft hD ((hcl 18 _ rfl h).2.2.2.2.2.2.2.2.2.2.2.2.2.2.1 rfl))) (own 38 v38 ((us140.set (Int.toNat (k48 : Int)) { (us140.getD (Int.toNat (k48 : Int)) (default : Net_r1)) with Pins := rv v171 }).set (Int.toNat (k48 : Int)) { ((us140.set (Int.toNat (k48 : Int)) { (us140.getD (Int.toNat (k48 : Int)) (default : Net_r1)) with Pins := rv v171 }).getD (Int.toNat (k48 : Int)) (default : Net_r1)) with Ports := ([] : (List Str)) }))
   have hw := hw.altF (i := 5) (b := D 15) rfl (nf (fun h => ft hD ((hcl 15 _ rfl h).2.1 rfl))) (bag (XB XF_Net_r1 (fun u => u.Pins) (fun x => x.Pins)) (us140.set (Int.toNat (k48 : Int)) { (us140.getD (Int.toNat (k48 : Int)) (default : Net_r1)) with Pins := rv v171 }) (s49.set (Int.toNat (k48 : Int)) (true, { x151.2 with Pins := x149 })) none)
   have hw := hw.altF (i := 5) (b := D 18) rfl (nf (fun h => ft hD ((hcl 18 _ rfl h).2.2.2.2.2.2.2.2.2.2.2.2.2.2.1 rfl))) (bag (XB XF_Net_r1 (fun u => u.Pins) (fun x => x.Pins)) ((us140.set (Int.toNat (k48 : Int)) { (us140.getD (Int.toNat (k48 : Int)) (default : Net_r1)) with Pins := rv v171 }).set (Int.toNat (k48 : Int)) { ((us140.set (Int.toNat (k48 : Int)) { (us140.getD (Int.toNat (k48 : Int)) (default : Net_r1)) with Pins := rv v171 }).getD (Int.toNat (k48 : Int)) (default : Net_r1)) with Ports := ([] : (List Str)) }) ((s49.set (Int.toNat (k48 : Int)) (true, { x151.2 with Pins := x149 })).set (Int.toNat (k48 : Int)) (x158.1, { x158.2 with Ports := ([] : (List Str)) })) none)
   refine RL.nil ?_
   exact ⟨rfl, v171, hv.put 12 rfl rfl, ha.up rfl, hw⟩
  ·rintro D σ w hD hdep hcl ⟨v150, hv, ha, hw⟩
   obtain ⟨τ, rfl⟩ := (ac (hv.at 1 rfl (hdep.1 rfl)) (ac (hv.at 2 rfl (hdep.2.1 rfl)) az)).ups
   have hw := hw.selF (i := 4) rfl (nf (fun h => ft hD ((hcl 18 _ rfl h).2.2.2.2.2.2.2.2.2.2.2.2.2.2.2.1 rfl)))
   have hw := hw.selF (i := 4) rfl (nf (fun h => ft hD ((hcl 14 _ rfl ((hcl 15 _ rfl h).1 rfl)).1 rfl)))
   have hw := hw.selF (i := 5) rfl (nf (fun h => ft hD ((hcl 18 _ rfl h).2.2.2.2.2.2.2.2.2.2.2.2.2.2.2.1 rfl)))
   have hw := hw.selF (i := 5) rfl (nf (fun h => ft hD ((hcl 14 _ rfl ((hcl 15 _ rfl h).1 rfl)).1 rfl)))
   have hl172 := hw.bag_len (j := 5) rfl
   have hr173 := idx_raw (default : Net_r1) hl172 hx151
   refine RL.ia_ownA (i := 4) trivial rfl hw rfl rfl rfl sl24 hr173 ?_
   have hw := hw.altF (i := 4) (b := D 15) rfl (nf (fun h => ft hD ((hcl 14 _ rfl ((hcl 15 _ rfl h).1 rfl)).1 rfl))) (own 38 v38 (us140.set (Int.toNat (k48 : Int)) { (us140.getD (Int.toNat (k48 : Int)) (default : Net_r1)) with Pins := rv v150 }))
   have hw := hw.altF (i := 4) (b := D 18) rfl (nf (fun h => ft hD ((hcl 18 _ rfl h).2.2.2.2.2.2.2.2.2.2.2.2.2.2.2.1 rfl))) (own 38 v38 ((us140.set (Int.toNat (k48 : Int)) { (us140.getD (Int.toNat (k48 : Int)) (default : Net_r1)) with Pins := rv v150 }).set (Int.toNat (k48 : Int)) { ((us140.set (Int.toNat (k48 : Int)) { (us140.getD (Int.toNat (k48 : Int)) (default : Net_r1)) with Pins := rv v150 }).getD (Int.toNat (k48 : Int)) (default : Net_r1)) with Ports := ([] : (List Str)) }))
   have hw := hw.altF (i := 5) (b := D 15) rfl (nf (fun h => ft hD ((hcl 14 _ rfl ((hcl 15 _ rfl h).1 rfl)).1 rfl))) (bag (XB XF_Net_r1 (fun u => u.Pins) (fun x => x.Pins)) (us140.set (Int.toNat (k48 : Int)) { (us140.getD (Int.toNat (k48 : Int)) (default : Net_r1)) with Pins := rv v150 }) (s49.set (Int.toNat (k48 : Int)) (true, { x151.2 with Pins := x149 })) none)
   have hw := hw.altF (i := 5) (b := D 18) rfl (nf (fun h => ft hD ((hcl 18 _ rfl h).2.2.2.2.2.2.2.2.2.2.2.2.2.2.2.1 rfl))) (bag (XB XF_Net_r1 (fun u => u.Pins) (fun x => x.Pins)) ((us140.set (Int.toNat (k48 : Int)) { (us140.getD (Int.toNat (k48 : Int)) (default : Net_r1)) with Pins := rv v150 }).set (Int.toNat (k48 : Int)) { ((us140.set (Int.toNat (k48 : Int)) { (us140.getD (Int.toNat (k48 : Int)) (default : Net_r1)) with Pins := rv v150 }).getD (Int.toNat (k48 : Int)) (default : Net_r1)) with Ports := ([] : (List Str)) }) ((s49.set (Int.toNat (k48 : Int)) (true, { x151.2 with Pins := x149 })).set (Int.toNat (k48 : Int)) (x158.1, { x158.2 with Ports := ([] : (List Str)) })) none)
   refine RL.nil ?_
   exact ⟨rfl, v150, hv.put 13 rfl rfl, ha.up rfl, hw⟩
  ·rintro D σ w hD hdep hcl ⟨v150, hv, ha, hw⟩
   obtain ⟨τ, rfl⟩ := (ac (hv.at 13 rfl (hdep.1 rfl)) az).ups
   have hw := hw.selF (i := 4) rfl (nf (fun h => ft hD ((hcl 18 _ rfl h).2.2.2.2.2.2.2.2.2.2.2.2.2.2.2.2.1 rfl)))
   have hw := hw.selF (i := 4) rfl (nf (fun h => ft hD ((hcl 15 _ rfl h).1 rfl)))
   have hw := hw.selF (i := 5) rfl (nf (fun h => ft hD ((hcl 18 _ rfl h).2.2.2.2.2.2.2.2.2.2.2.2.2.2.2.2.1 rfl)))
   have hw := hw.selF (i := 5) rfl (nf (fun h => ft hD ((hcl 15 _ rfl h).1 rfl)))
   have hl174 := hw.bag_len (j := 5) rfl
   have hr175 := idx_raw (default : Net_r1) hl174 hx151
   refine RL.fa_elA (α := Net_r1) trivial rfl rfl (elp hw (i := 4) rfl hr175 0) fa38_1 ?_
   have hw := hw.altF (i := 4) (b := D 15) rfl (nf (fun h => ft hD ((hcl 15 _ rfl h).1 rfl))) (own 38 v38 (us140.set (Int.toNat (k48 : Int)) { (us140.getD (Int.toNat (k48 : Int)) (default : Net_r1)) with Pins := rv v150 }))
   have hw := hw.altF (i := 4) (b := D 18) rfl (nf (fun h => ft hD ((hcl 18 _ rfl h).2.2.2.2.2.2.2.2.2.2.2.2.2.2.2.2.1 rfl))) (own 38 v38 ((us140.set (Int.toNat (k48 : Int)) { (us140.getD (Int.toNat (k48 : Int)) (default : Net_r1)) with Pins := rv v150 }).set (Int.toNat (k48 : Int)) { ((us140.set (Int.toNat (k48 : Int)) { (us140.getD (Int.toNat (k48 : Int)) (default : Net_r1)) with Pins := rv v150 }).getD (Int.toNat (k48 : Int)) (default : Net_r1)) with Ports := ([] : (List Str)) }))
   have hw := hw.altF (i := 5) (b := D 15) rfl (nf (fun h => ft hD ((hcl 15 _ rfl h).1 rfl))) (bag (XB XF_Net_r1 (fun u => u.Pins) (fun x => x.Pins)) (us140.set (Int.toNat (k48 : Int)) { (us140.getD (Int.toNat (k48 : Int)) (default : Net_r1)) with Pins := rv v150 }) (s49.set (Int.toNat (k48 : Int)) (true, { x151.2 with Pins := x149 })) none)
   have hw := hw.altF (i := 5) (b := D 18) rfl (nf (fun h => ft hD ((hcl 18 _ rfl h).2.2.2.2.2.2.2.2.2.2.2.2.2.2.2.2.1 rfl))) (bag (XB XF_Net_r1 (fun u => u.Pins) (fun x => x.Pins)) ((us140.set (Int.toNat (k48 : Int)) { (us140.getD (Int.toNat (k48 : Int)) (default : Net_r1)) with Pins := rv v150 }).set (Int.toNat (k48 : Int)) { ((us140.set (Int.toNat (k48 : Int)) { (us140.getD (Int.toNat (k48 : Int)) (default : Net_r1)) with Pins := rv v150 }).getD (Int.toNat (k48 : Int)) (default : Net_r1)) with Ports := ([] : (List Str)) }) ((s49.set (Int.toNat (k48 : Int)) (true, { x151.2 with Pins := x149 })).set (Int.toNat (k48 : Int)) (x158.1, { x158.2 with Ports := ([] : (List Str)) })) none)
   refine RL.nil ?_
   exact ⟨rfl, v150, hv.put 14 rfl rfl, ha.up rfl, hw⟩
  ·rintro D σ w hD hdep hcl ⟨v150, hv, ha, hw⟩
   obtain ⟨τ, rfl⟩ := (ac (hv.at 12 rfl (hdep.2.1 rfl)) (ac (hv.at 14 rfl (hdep.1 rfl)) az)).ups
   have hw := hw.selF (i := 1) rfl hD
   have hw := hw.selT (i := 1) rfl (hdep.2.1 rfl)
   have hw := hw.selF (i := 4) rfl (nf (fun h => ft hD ((hcl 18 _ rfl h).2.1 rfl)))
   have hw := hw.selF (i := 4) rfl hD
   have hw := hw.selF (i := 5) rfl (nf (fun h => ft hD ((hcl 18 _ rfl h).2.1 rfl)))
   have hw := hw.selF (i := 5) rfl hD
   have hl176 := hw.bag_len (j := 5) rfl
   have hr177 := idx_raw (default : Net_r1) hl176 hx151
   refine RL.store_nestP (i := 4) (b := 5) (o := 1) (jj := (k48 : Int)) (XB_xp xp_Net_r1) (default : Net_r1) trivial hw rfl rfl (elp hw (i := 4) rfl hr177 1) rfl rfl rfl hx151 (by decide) (by decide) (by decide) ty35 fun w hw => ?_
   have hw := hw.altT (i := 1) (b := true) rfl rfl (bif D 12 then (own 43 v150 x149) else junk)
   have hw := hw.altT (i := 4) (b := true) rfl rfl (own 38 v38 us140)
   have hw := hw.altF (i := 4) (b := D 18) rfl (nf (fun h => ft hD ((hcl 18 _ rfl h).2.1 rfl))) (own 38 v38 ((us140.set (Int.toNat (k48 : Int)) { (us140.getD (Int.toNat (k48 : Int)) (default : Net_r1)) with Pins := rv v150 }).set (Int.toNat (k48 : Int)) { ((us140.set (Int.toNat (k48 : Int)) { (us140.getD (Int.toNat (k48 : Int)) (default : Net_r1)) with Pins := rv v150 }).getD (Int.toNat (k48 : Int)) (default : Net_r1)) with Ports := ([] : (List Str)) }))
   have hw := hw.altT (i := 5) (b := true) rfl rfl (bag (XB XF_Net_r1 (fun u => u.Pins) (fun x => x.Pins)) us140 s49 none)
   have hw := hw.altF (i := 5) (b := D 18) rfl (nf (fun h => ft hD ((hcl 18 _ rfl h).2.1 rfl))) (bag (XB XF_Net_r1 (fun u => u.Pins) (fun x => x.Pins)) ((us140.set (Int.toNat (k48 : Int)) { (us140.getD (Int.toNat (k48 : Int)) (default : Net_r1)) with Pins := rv v150 }).set (Int.toNat (k48 : Int)) { ((us140.set (Int.toNat (k48 : Int)) { (us140.getD (Int.toNat (k48 : Int)) (default : Net_r1)) with Pins := rv v150 }).getD (Int.toNat (k48 : Int)) (default : Net_r1)) with Ports := ([] : (List Str)) }) ((s49.set (Int.toNat (k48 : Int)) (true, { x151.2 with Pins := x149 })).set (Int.toNat (k48 : Int)) (x158.1, { x158.2 with Ports := ([] : (List Str)) })) none)
   refine RL.nil ?_
   exact ⟨rfl, v150, hv.no rfl, ha, hw⟩
  ·rintro D σ w hD hdep hcl ⟨v150, hv, ha, hw⟩
   obtain ⟨τ, rfl⟩ := (ac (hv.at 4 rfl (hdep.1 rfl)) (ac (hv.at 5 rfl (hdep.2.1 rfl)) az)).ups
   have hw := hw.selF (i := 4) rfl (nf (fun h => ft hD ((hcl 17 _ rfl ((hcl 18 _ rfl h).1 rfl)).1 rfl)))
   have hw := hw.selT (i := 4) rfl (hdep.2.2.2.2.2.2.2.2.2.2.2.2.2.2.2.2.2.1 rfl)
   have hw := hw.selF (i := 5) rfl (nf (fun h => ft hD ((hcl 17 _ rfl ((hcl 18 _ rfl h).1 rfl)).1 rfl)))
   have hw := hw.selT (i := 5) rfl (hdep.2.2.2.2.2.2.2.2.2.2.2.2.2.2.2.2.2.1 rfl)
   have hl178 := hw.bag_len (j := 5) rfl
   have hr179 := idx_raw (default : Net_r1) hl178 hx158
   refine RL.ia_ownA (i := 4) trivial rfl hw rfl rfl rfl sl24 hr179 ?_
   have hw := hw.altT (i := 4) (b := D 15) rfl (hdep.2.2.2.2.2.2.2.2.2.2.2.2.2.2.2.2.2.1 rfl) (own 38 v38 us140)
   have hw := hw.altF (i := 4) (b := D 18) rfl (nf (fun h => ft hD ((hcl 17 _ rfl ((hcl 18 _ rfl h).1 rfl)).1 rfl))) (own 38 v38 ((us140.set (Int.toNat (k48 : Int)) { (us140.getD (Int.toNat (k48 : Int)) (default : Net_r1)) with Pins := rv v150 }).set (Int.toNat (k48 : Int)) { ((us140.set (Int.toNat (k48 : Int)) { (us140.getD (Int.toNat (k48 : Int)) (default : Net_r1)) with Pins := rv v150 }).getD (Int.toNat (k48 : Int)) (default : Net_r1)) with Ports := ([] : (List Str)) }))
   have hw := hw.altT (i := 5) (b := D 15) rfl (hdep.2.2.2.2.2.2.2.2.2.2.2.2.2.2.2.2.2.1 rfl) (bag (XB XF_Net_r1 (fun u => u.Pins) (fun x => x.Pins)) us140 s49 none)
   have hw := hw.altF (i := 5) (b := D 18) rfl (nf (fun h => ft hD ((hcl 17 _ rfl ((hcl 18 _ rfl h).1 rfl)).1 rfl))) (bag (XB XF_Net_r1 (fun u => u.Pins) (fun x => x.Pins)) ((us140.set (Int.toNat (k48 : Int)) { (us140.getD (Int.toNat (k48 : Int)) (default : Net_r1)) with Pins := rv v150 }).set (Int.toNat (k48 : Int)) { ((us140.set (Int.toNat (k48 : Int)) { (us140.getD (Int.toNat (k48 : Int)) (default : Net_r1)) with Pins := rv v150 }).getD (Int.toNat (k48 : Int)) (default : Net_r1)) with Ports := ([] : (List Str)) }) ((s49.set (Int.toNat (k48 : Int)) (true, { x151.2 with Pins := x149 })).set (Int.toNat (k48 : Int)) (x158.1, { x158.2 with Ports := ([] : (List Str)) })) none)
   refine RL.nil ?_
   exact ⟨rfl, v150, hv.put 15 rfl rfl, ha.up rfl, hw⟩
  ·rintro D σ w hD hdep hcl ⟨v150, hv, ha, hw⟩
   obtain ⟨τ, rfl⟩ := (ac (hv.at 15 rfl (hdep.1 rfl)) az).ups
   have hw := hw.selF (i := 4) rfl (nf (fun h => ft hD ((hcl 18 _ rfl h).1 rfl)))
   have hw := hw.selT (i := 4) rfl (hdep.2.2.2.2.2.2.2.2.2.2.2.2.2.2.2.2.1 rfl)
   have hw := hw.selF (i := 5) rfl (nf (fun h => ft hD ((hcl 18 _ rfl h).1 rfl)))
   have hw := hw.selT (i := 5) rfl (hdep.2.2.2.2.2.2.2.2.2.2.2.2.2.2.2.2.1 rfl)
   have hl180 := hw.bag_len (j := 5) rfl
   have hr181 := idx_raw (default : Net_r1) hl180 hx158
   refine RL.fa_elA (α := Net_r1) trivial rfl rfl (elp hw (i := 4) rfl hr181 0) fa38_2 ?_
   have hw := hw.altT (i := 4) (b := D 15) rfl (hdep.2.2.2.2.2.2.2.2.2.2.2.2.2.2.2.2.1 rfl) (own 38 v38 us140)
   have hw := hw.altF (i := 4) (b := D 18) rfl (nf (fun h => ft hD ((hcl 18 _ rfl h).1 rfl))) (own 38 v38 ((us140.set (Int.toNat (k48 : Int)) { (us140.getD (Int.toNat (k48 : Int)) (default : Net_r1)) with Pins := rv v150 }).set (Int.toNat (k48 : Int)) { ((us140.set (Int.toNat (k48 : Int)) { (us140.getD (Int.toNat (k48 : Int)) (default : Net_r1)) with Pins := rv v150 }).getD (Int.toNat (k48 : Int)) (default : Net_r1)) with Ports := ([] : (List Str)) }))
   have hw := hw.altT (i := 5) (b := D 15) rfl (hdep.2.2.2.2.2.2.2.2.2.2.2.2.2.2.2.2.1 rfl) (bag (XB XF_Net_r1 (fun u => u.Pins) (fun x => x.Pins)) us140 s49 none)
   have hw := hw.altF (i := 5) (b := D 18) rfl (nf (fun h => ft hD ((hcl 18 _ rfl h).1 rfl))) (bag (XB XF_Net_r1 (fun u => u.Pins) (fun x => x.Pins)) ((us140.set (Int.toNat (k48 : Int)) { (us140.getD (Int.toNat (k48 : Int)) (default : Net_r1)) with Pins := rv v150 }).set (Int.toNat (k48 : Int)) { ((us140.set (Int.toNat (k48 : Int)) { (us140.getD (Int.toNat (k48 : Int)) (default : Net_r1)) with Pins := rv v150 }).getD (Int.toNat (k48 : Int)) (default : Net_r1)) with Ports := ([] : (List Str)) }) ((s49.set (Int.toNat (k48 : Int)) (true, { x151.2 with Pins := x149 })).set (Int.toNat (k48 : Int)) (x158.1, { x158.2 with Ports := ([] : (List Str)) })) none)
   refine RL.nil ?_
   exact ⟨rfl, v150, hv.put 16 rfl rfl, ha.up rfl, hw⟩
  ·rintro D σ w hD hdep hcl ⟨v150, hv, ha, hw⟩
   obtain ⟨τ, rfl⟩ := (ac (hv.at 16 rfl (hdep.1 rfl)) az).ups
   have hw := hw.selF (i := 4) rfl hD
   have hw := hw.selT (i := 4) rfl (hdep.2.1 rfl)
   have hw := hw.selF (i := 5) rfl hD
   have hw := hw.selT (i := 5) rfl (hdep.2.1 rfl)
   have hl182 := hw.bag_len (j := 5) rfl
   have hr183 := idx_raw (default : Net_r1) hl182 hx158
   have hw := hw.rd_nil Str
   refine RL.store_oth (i := 5) (b := 6) (j := 0) (jj := (k48 : Int)) fs_Net_r1_2 (by decide) (XB_oth xoth_Net_r1_2 xrest_Net_r1_2 (fun _ _ => rfl) (fun _ _ => rfl)) (default : Net_r1) trivial hw rfl rfl (elp hw (i := 5) rfl hr183 2) rfl rfl rfl hx158 (by decide) ty36 fun w hw => ?_
   have hw := hw.pick 8 [1, 2, 3, 4, 5, 6, 7] (new := [bif D 11 then (rd (us140.getD (Int.toNat (k48 : Int)) (default : Net_r1)).Pins.v x148.Pins) else junk, bif D 15 then (junk) else (bif D 12 then (own 43 v150 x149) else junk), bc 26 b31 [v35, v38], own 48 v35 x34, own 38 v38 ((us140.set (Int.toNat (k48 : Int)) { (us140.getD (Int.toNat (k48 : Int)) (default : Net_r1)) with Pins := rv v150 }).set (Int.toNat (k48 : Int)) { ((us140.set (Int.toNat (k48 : Int)) { (us140.getD (Int.toNat (k48 : Int)) (default : Net_r1)) with Pins := rv v150 }).getD (Int.toNat (k48 : Int)) (default : Net_r1)) with Ports := ([] : (List Str)) }), bag (XB XF_Net_r1 (fun u => u.Pins) (fun x => x.Pins)) ((us140.set (Int.toNat (k48 : Int)) { (us140.getD (Int.toNat (k48 : Int)) (default : Net_r1)) with Pins := rv v150 }).set (Int.toNat (k48 : Int)) { ((us140.set (Int.toNat (k48 : Int)) { (us140.getD (Int.toNat (k48 : Int)) (default : Net_r1)) with Pins := rv v150 }).getD (Int.toNat (k48 : Int)) (default : Net_r1)) with Ports := ([] : (List Str)) }) ((s49.set (Int.toNat (k48 : Int)) (true, { x151.2 with Pins := x149 })).set (Int.toNat (k48 : Int)) (x158.1, { x158.2 with Ports := ([] : (List Str)) })) none, bc 26 b32 [(.slice none 0 0), (.slice none 0 0)]]) rfl rfl (by decide) (by decide)
   have hw := hw.altT (i := 4) (b := true) rfl rfl (bif D 15 then (own 38 v38 (us140.set (Int.toNat (k48 : Int)) { (us140.getD (Int.toNat (k48 : Int)) (default : Net_r1)) with Pins := rv v150 })) else (own 38 v38 us140))
   have hw := hw.altT (i := 5) (b := true) rfl rfl (bif D 15 then (bag (XB XF_Net_r1 (fun u => u.Pins) (fun x => x.Pins)) (us140.set (Int.toNat (k48 : Int)) { (us140.getD (Int.toNat (k48 : Int)) (default : Net_r1)) with Pins := rv v150 }) (s49.set (Int.toNat (k48 : Int)) (true, { x151.2 with Pins := x149 })) none) else (bag (XB XF_Net_r1 (fun u => u.Pins) (fun x => x.Pins)) us140 s49 none))
   refine RL.nil ?_
   exact ⟨rfl, v150, hv.no rfl, ha, hw⟩
  rintro D σ w hall ⟨v150, hv, ha, hw⟩
  rw [hall 11 (by decide), hall 12 (by decide), hall 15 (by decide), hall 18 (by decide)] at hw
  obtain ⟨τ, rfl⟩ := (ac (ha.at 0 rfl) (ac (ha.at 1 rfl) (ac (ha.at 2 rfl) (ac (ha.at 3 rfl) (ac (ha.at 4 rfl) az))))).ups
  refine blkQ_n ?_
  refine thenQ_n ?_
  refine RC.region ?_
  refine RL.inc trivial rfl hk hm rfl rfl ?_
  refine mv (vi ((k48 + 1 : Nat) : Int)) rfl rfl ?_
  refine RL.nil ?_
  obtain rfl := oi hb
  exact ⟨rfl, ((us140.set (Int.toNat (k48 : Int)) { (us140.getD (Int.toNat (k48 : Int)) (default : Net_r1)) with Pins := rv v150 }).set (Int.toNat (k48 : Int)) { ((us140.set (Int.toNat (k48 : Int)) { (us140.getD (Int.toNat (k48 : Int)) (default : Net_r1)) with Pins := rv v150 }).getD (Int.toNat (k48 : Int)) (default : Net_r1)) with Ports := ([] : (List Str)) }), ⟨rfl, rfl, rfl, rfl, trivial⟩, hw.pick 7 [2, 3, 4, 5, 6] (new := [bc 26 b31 [v35, v38], own 48 v35 x34, own 38 v38 ((us140.set (Int.toNat (k48 : Int)) { (us140.getD (Int.toNat (k48 : Int)) (default : Net_r1)) with Pins := rv v150 }).set (Int.toNat (k48 : Int)) { ((us140.set (Int.toNat (k48 : Int)) { (us140.getD (Int.toNat (k48 : Int)) (default : Net_r1)) with Pins := rv v150 }).getD (Int.toNat (k48 : Int)) (default : Net_r1)) with Ports := ([] : (List Str)) }), bag (XB XF_Net_r1 (fun u => u.Pins) (fun x => x.Pins)) ((us140.set (Int.toNat (k48 : Int)) { (us140.getD (Int.toNat (k48 : Int)) (default : Net_r1)) with Pins := rv v150 }).set (Int.toNat (k48 : Int)) { ((us140.set (Int.toNat (k48 : Int)) { (us140.getD (Int.toNat (k48 : Int)) (default : Net_r1)) with Pins := rv v150 }).getD (Int.toNat (k48 : Int)) (default : Net_r1)) with Ports := ([] : (List Str)) }) ((s49.set (Int.toNat (k48 : Int)) (true, { x151.2 with Pins := x149 })).set (Int.toNat (k48 : Int)) (x158.1, { x158.2 with Ports := ([] : (List Str)) })) none, bc 26 b32 [(.slice none 0 0), (.slice none 0 0)]]) rfl rfl (by decide) (by decide)⟩
 intro σ w hJ
 obtain ⟨us139, ha, hw⟩ := hJ
 obtain ⟨τ, rfl⟩ := ha.ups
 obtain ⟨y185, hy185, hb⟩ := bd hb
 have hw := hw.all_flags (j := 3) rfl hy185
 refine thenQ_n ?_
 refine RC.sr ?_
 refine RL.load_bca (i := 0) (cs := [v35, v38]) trivial rfl hw rfl rfl ty26 rfl ?_
 refine RL.store_bca (i := 4) (cs := [v35, v38]) trivial hw rfl rfl rfl (oneL.all (⟨(one_own hw (i := 1) rfl), (one_own hw (i := 2) rfl), trivial⟩ : oneL [v35, v38])) ty26 rfl rfl fun w hw => ?_
 refine RL.nt ?_
 refine RC.ret ?_
 obtain rfl := oi hb
 exact finCa (i := 4) (cs := [v35, v38]) rfl hw rfl rfl ty26 rfl ⟨v35, v38, us139, rfl, hw.pick 5 [1, 2, 3] (new := [own 48 v35 x34, own 38 v38 us139, bag XF_Net_r1 us139 y185 none]) rfl rfl (by decide) (by decide)⟩
def netlist_Joined_R (E : World) (Γ : List HP) (res : Netlist × Int) (v : Value) (w : World) : Prop := ∃ u0 : Value, v = .tuple #[u0, (vi res.2)] ∧ Holds E w (rd u0 res.1 :: Γ)
theorem netlist_Joined_ok (N : Nat) {E w : World} {Γ : List HP} {i0 : Nat} {v0 : Value} {p0 : (List PartType)} {i1 : Nat} {v1 : Value} {p1 : Netlist} {p2 : Str} {p3 : Str} {res : Netlist × Int} (hw : Holds E w Γ) (h0 : Γ[i0]? = some (rd v0 p0)) (h1 : Γ[i1]? = some (rd v1 p1)) (hb : netlist_Joined N p0 p1 p2 p3 = some res) :
    Calls Tryz.prog 4 [v0, v1, (str p2), (str p3)].toArray w (Ret (netlist_Joined_R E Γ res)) := by
 unfold netlist_Joined at hb
 refine enter Tryz.func4 rfl rfl (Nat.le_of_ble_eq_true rfl) ?_
 have hw := hw.dup (i := i0 + 0) h0
 have hw := hw.dup (i := i1 + 1) h1
 refine RC.sr ?_
 refine RL.box_rd (i := 0) (v := v1) trivial rfl hw rfl rfl fun b31 w hw => ?_
 refine RL.alloc trivial rfl hw ze26.z fun b32 w hw => ?_
 refine as_ (vi 0) rfl rfl ?_
 refine RL.nq ?_
 refine RC.sr ?_
 refine mv v0 rfl rfl ?_
 refine RL.load_bf (i := 1) (f := (fun x => x)) trivial rfl hw rfl rfl Fd.self ty26 fun v33 hw => ?_
 obtain ⟨x34, hx34, hb⟩ := bd hb
 refine RL.call trivial rfl fn8 [v0, v33] rfl (Calls_ret (netlist_CheckList_ok N  (i0 := 4) (i1 := 0) hw rfl rfl hx34) ?_)
 rintro _ w ⟨rfl, hw⟩
 refine as_ (vi x34) rfl rfl ?_
 refine RL.ns ?_
 refine mv (vi x34) rfl rfl ?_
 refine ic x34 0 rfl rfl rfl rfl ?_
 refine RL.nt ?_
 refine RC.cond (b := (x34 != 0)) rfl (fun hc => ?_) (fun hc => ?_)
 ·replace hb := cT hc hb
  refine RC.sr ?_
  refine RL.buildc (zs := [(.slice none 0 0), (.slice none 0 0)]) (cs := [(.slice none 0 0), (.slice none 0 0)]) trivial rfl [] rfl st26 trivial rfl ?_
  refine mv (vi x34) rfl rfl ?_
  have hw := hw.rd_nil Part
  have hw := hw.rd_nil Net
  have hw := hw.rd_agg (cs := [(.slice none 0 0), (.slice none 0 0)]) (x := (⟨([] : (List Part)), ([] : (List Net))⟩ : Netlist)) (fun M hs g => ⟨[(.slice none 0 0)], [(.slice none 0 0)], rfl, (rd_one rfl (g.sat 1 _ rfl).1), (rd_one rfl (g.sat 0 _ rfl).1)⟩) rfl
  refine RL.store_raw (i := 4) (j := 0) trivial hw rfl rfl rfl rfl ty26 rfl fun w hw => ?_
  refine as_ (vi x34) rfl rfl ?_
  refine RL.nt ?_
  refine RC.rt ?_
  obtain rfl := oi hb
  exact finC2 (i := 4) rfl hw rfl rfl ty26 rfl fun v35 hw => ⟨v35, rfl, hw.pick 9 [0] (new := [rd v35 (⟨([] : (List Part)), ([] : (List Net))⟩ : Netlist)]) rfl rfl (by decide) (by decide)⟩
 replace hb := cF hc hb
 refine RC.ss ?_
 obtain ⟨x37, hx37, hb⟩ := bd hb
 obtain ⟨x39, hx39, hb⟩ := bd hb
 refine RC.drw mixed rfl (fun (D : Nat → Bool) (σ : Nat → Value) (w : World) => ∃ (v36 : Value) (v38 : Value), doneV D σ [(0, 22, v36), (1, 23, (str p2)), (2, 24, (vi x37)), (3, 25, v38), (4, 26, (str p3)), (5, 27, (vi x39)), (6, 11, (vi x37)), (7, 12, (vi x39))] ∧ agree σ [(2, (str p2)), (3, (str p3)), (5, (vp b31 0)), (8, (vp b32 0))] ∧ Holds E w ([bif D 0 then (rd v36 p1) else junk, bif D 3 then (rd v38 p1) else junk, rd v33 p1, raw 26 b32 2, bx 26 b31 p1, rd v1 p1, rd v0 p0] ++ Γ)) ?_ ⟨?_, ?_, ?_, ?_, ?_, ?_, ?_, ?_, trivial⟩ ?_
 ·have hw := hw.drew
  have hw := hw.junk
  have hw := hw.junk
  exact ⟨undef, undef, doneV.none, ⟨rfl, rfl, rfl, rfl, trivial⟩, hw⟩
 ·rintro D σ w hD hdep hcl ⟨v36, v38, hv, ha, hw⟩
  obtain ⟨τ, rfl⟩ := (ac (ha.at 2 rfl) az).ups
  have hw := hw.selF (i := 0) rfl hD
  refine RL.load_bf (i := 4) (f := (fun x => x)) trivial rfl hw rfl rfl Fd.self ty26 fun v40 hw => ?_
  have hw := hw.pick 8 [0, 2, 3, 4, 5, 6, 7] (new := [rd v40 p1, bif D 3 then (rd v38 p1) else junk, rd v33 p1, raw 26 b32 2, bx 26 b31 p1, rd v1 p1, rd v0 p0]) rfl rfl (by decide) (by decide)
  have hw := hw.altT (i := 0) (b := true) rfl rfl (junk)
  refine RL.nil ?_
  exact ⟨rfl, v40, v38, hv.put 0 rfl rfl, ha.up rfl, hw⟩
 ·rintro D σ w hD hdep hcl ⟨v36, v38, hv, ha, hw⟩
  obtain ⟨τ, rfl⟩ := (ac (ha.at 0 rfl) az).ups
  refine mv (str p2) rfl rfl ?_
  refine RL.nil ?_
  exact ⟨rfl, v36, v38, hv.put 1 rfl rfl, ha.up rfl, hw⟩
 ·rintro D σ w hD hdep hcl ⟨v36, v38, hv, ha, hw⟩
  obtain ⟨τ, rfl⟩ := (ac (hv.at 0 rfl (hdep.1 rfl)) (ac (hv.at 1 rfl (hdep.2.1 rfl)) az)).ups
  have hw := hw.selT (i := 0) rfl (hdep.1 rfl)
  refine RL.call trivial rfl fn9 [v36, (str p2)] rfl (Calls_ret (netlist_NetAt_ok N (p1 := p2) (i0 := 0) hw rfl hx37) ?_)
  rintro _ w ⟨rfl, hw⟩
  have hw := hw.altT (i := 0) (b := D 0) rfl (hdep.1 rfl) (junk)
  refine RL.nil ?_
  exact ⟨rfl, v36, v38, hv.put 2 rfl rfl, ha.up rfl, hw⟩
 ·rintro D σ w hD hdep hcl ⟨v36, v38, hv, ha, hw⟩
  obtain ⟨τ, rfl⟩ := (ac (ha.at 2 rfl) az).ups
  have hw := hw.selF (i := 1) rfl hD
  refine RL.load_bf (i := 4) (f := (fun x => x)) trivial rfl hw rfl rfl Fd.self ty26 fun v41 hw => ?_
  have hw := hw.pick 8 [1, 0, 3, 4, 5, 6, 7] (new := [bif D 0 then (rd v36 p1) else junk, rd v41 p1, rd v33 p1, raw 26 b32 2, bx 26 b31 p1, rd v1 p1, rd v0 p0]) rfl rfl (by decide) (by decide)
  have hw := hw.altT (i := 1) (b := true) rfl rfl (junk)
  refine RL.nil ?_
  exact ⟨rfl, v36, v41, hv.put 3 rfl rfl, ha.up rfl, hw⟩
 ·rintro D σ w hD hdep hcl ⟨v36, v38, hv, ha, hw⟩
  obtain ⟨τ, rfl⟩ := (ac (ha.at 1 rfl) az).ups
  refine mv (str p3) rfl rfl ?_
  refine RL.nil ?_
  exact ⟨rfl, v36, v38, hv.put 4 rfl rfl, ha.up rfl, hw⟩
 ·rintro D σ w hD hdep hcl ⟨v36, v38, hv, ha, hw⟩
  obtain ⟨τ, rfl⟩ := (ac (hv.at 3 rfl (hdep.1 rfl)) (ac (hv.at 4 rfl (hdep.2.1 rfl)) az)).ups
  have hw := hw.selT (i := 1) rfl (hdep.1 rfl)
  refine RL.call trivial rfl fn9 [v38, (str p3)] rfl (Calls_ret (netlist_NetAt_ok N (p1 := p3) (i0 := 1) hw rfl hx39) ?_)
  rintro _ w ⟨rfl, hw⟩
  have hw := hw.altT (i := 1) (b := D 3) rfl (hdep.1 rfl) (junk)
  refine RL.nil ?_
  exact ⟨rfl, v36, v38, hv.put 5 rfl rfl, ha.up rfl, hw⟩
 ·rintro D σ w hD hdep hcl ⟨v36, v38, hv, ha, hw⟩
  obtain ⟨τ, rfl⟩ := (ac (hv.at 2 rfl (hdep.1 rfl)) az).ups
  refine as_ (vi x37) rfl rfl ?_
  refine RL.nil ?_
  exact ⟨rfl, v36, v38, hv.put 6 rfl rfl, ha.up rfl, hw⟩
 ·rintro D σ w hD hdep hcl ⟨v36, v38, hv, ha, hw⟩
  obtain ⟨τ, rfl⟩ := (ac (hv.at 5 rfl (hdep.1 rfl)) az).ups
  refine as_ (vi x39) rfl rfl ?_
  refine RL.nil ?_
  exact ⟨rfl, v36, v38, hv.put 7 rfl rfl, ha.up rfl, hw⟩
 rintro D σ w hall ⟨v36, v38, hv, ha, hw⟩
 rw [hall 0 (by decide), hall 3 (by decide)] at hw
 obtain ⟨τ, rfl⟩ := (ac (hv.at 6 rfl (hall 6 (by decide))) (ac (hv.at 7 rfl (hall 7 (by decide))) (ac (ha.at 0 rfl) (ac (ha.at 1 rfl) (ac (ha.at 2 rfl) (ac (ha.at 3 rfl) az)))))).ups
 refine thenQ_n ?_
 refine RC.seq ?_
 refine RC.bs ?_
 refine mv (vi x37) rfl rfl ?_
 refine ic x37 0 rfl rfl rfl rfl ?_
 refine mv (vb (decide (x37 < 0))) rfl rfl ?_
 refine RL.gs (c := true) (b := (decide (x37 < 0))) (v := (vi x39)) rfl rfl rfl (gs_move rfl (fun _ => rfl)) ?_
 refine RL.gs (c := true) (b := (decide (x37 < 0))) (v := (vb (decide (x39 < 0)))) rfl rfl rfl (gs_icmp (bop := .lss) (K := .i64) (a := x39) (b := 0) rfl (fun h => by exact (cv_t h : cv (true && ((decide (x37 < 0)) == false)) (vi x39) = (vi x39))) (fun _ => rfl) rfl) ?_
 refine RL.pick (b := (decide (x37 < 0))) (v := (vb ((decide (x37 < 0)) || (decide (x39 < 0))))) trivial rfl rfl (pk_or (c := true) rfl) ?_
 refine as_ (vb ((decide (x37 < 0)) || (decide (x39 < 0)))) rfl rfl ?_
 refine RL.nt ?_
 refine RC.cond (b := ((decide (x37 < 0)) || (decide (x39 < 0)))) rfl (fun hc => ?_) (fun hc => ?_)
 ·replace hb := cT hc hb
  refine RC.sr ?_
  refine RL.buildc (zs := [(.slice none 0 0), (.slice none 0 0)]) (cs := [(.slice none 0 0), (.slice none 0 0)]) trivial rfl [] rfl st26 trivial rfl ?_
  have hw := hw.rd_nil Part
  have hw := hw.rd_nil Net
  have hw := hw.rd_agg (cs := [(.slice none 0 0), (.slice none 0 0)]) (x := (⟨([] : (List Part)), ([] : (List Net))⟩ : Netlist)) (fun M hs g => ⟨[(.slice none 0 0)], [(.slice none 0 0)], rfl, (rd_one rfl (g.sat 1 _ rfl).1), (rd_one rfl (g.sat 0 _ rfl).1)⟩) rfl
  refine RL.store_raw (i := 6) (j := 0) trivial hw rfl rfl rfl rfl ty26 rfl fun w hw => ?_
  refine as_ (vi 9) rfl rfl ?_
  refine RL.nt ?_
  refine RC.rb ?_
  refine thenQ_r ?_
  obtain rfl := oi hb
  exact finC2 (i := 6) rfl hw rfl rfl ty26 rfl fun v78 hw => ⟨v78, rfl, hw.pick 11 [0] (new := [rd v78 (⟨([] : (List Part)), ([] : (List Net))⟩ : Netlist)]) rfl rfl (by decide) (by decide)⟩
 replace hb := cF hc hb
 refine RC.sr ?_
 refine mv (vi x37) rfl rfl ?_
 refine mv (vi x39) rfl rfl ?_
 refine ic x37 x39 rfl rfl rfl rfl ?_
 refine as_ (vb (x37 == x39)) rfl rfl ?_
 refine RL.nt ?_
 refine RC.cond (b := (x37 == x39)) rfl (fun hc => ?_) (fun hc => ?_)
 ·replace hb := cT hc hb
  refine RC.sr ?_
  refine RL.buildc (zs := [(.slice none 0 0), (.slice none 0 0)]) (cs := [(.slice none 0 0), (.slice none 0 0)]) trivial rfl [] rfl st26 trivial rfl ?_
  have hw := hw.rd_nil Part
  have hw := hw.rd_nil Net
  have hw := hw.rd_agg (cs := [(.slice none 0 0), (.slice none 0 0)]) (x := (⟨([] : (List Part)), ([] : (List Net))⟩ : Netlist)) (fun M hs g => ⟨[(.slice none 0 0)], [(.slice none 0 0)], rfl, (rd_one rfl (g.sat 1 _ rfl).1), (rd_one rfl (g.sat 0 _ rfl).1)⟩) rfl
  refine RL.store_raw (i := 6) (j := 0) trivial hw rfl rfl rfl rfl ty26 rfl fun w hw => ?_
  refine as_ (vi 12) rfl rfl ?_
  refine RL.nt ?_
  refine RC.rb ?_
  refine thenQ_r ?_
  obtain rfl := oi hb
  exact finC2 (i := 6) rfl hw rfl rfl ty26 rfl fun v97 hw => ⟨v97, rfl, hw.pick 11 [0] (new := [rd v97 (⟨([] : (List Part)), ([] : (List Net))⟩ : Netlist)]) rfl rfl (by decide) (by decide)⟩
 replace hb := cF hc hb
 refine RC.seq ?_
 obtain ⟨x99, hx99, hb⟩ := bd hb
 obtain ⟨x104, hx104, hb⟩ := bd hb
 refine RC.drw mixed rfl (fun (D : Nat → Bool) (σ : Nat → Value) (w : World) => ∃ (v98 : Value) (v100 : Value) (v101 : Value) (v102 : Value) (v103 : Value) (v105 : Value) (v106 : Value) (v107 : Value), doneV D σ [(0, 42, (vp b31 1)), (1, 43, v98), (2, 44, (vi x37)), (3, 45, v100), (4, 46, v101), (5, 47, v102), (6, 48, (vi (x99.Pins.length : Int))), (7, 49, (vp b31 1)), (8, 50, v103), (9, 51, (vi x39)), (10, 52, v105), (11, 53, v106), (12, 54, v107), (13, 55, (vi (x104.Pins.length : Int))), (14, 56, (vi (IntKind.wrap .i64 ((x99.Pins.length : Int) + (x104.Pins.length : Int))))), (15, 57, (vb (decide ((IntKind.wrap .i64 ((x99.Pins.length : Int) + (x104.Pins.length : Int))) > 500)))), (16, 41, (vb (decide ((IntKind.wrap .i64 ((x99.Pins.length : Int) + (x104.Pins.length : Int))) > 500))))] ∧ agree σ [(5, (vp b31 0)), (8, (vp b32 0)), (11, (vi x37)), (12, (vi x39))] ∧ Holds E w ([bif D 1 then (rd v98 p1.Nets) else junk, bif D 3 then (pt v100 x99) else junk, bif D 4 then (pt v101 x99.Pins) else junk, bif D 5 then (rd v102 x99.Pins) else junk, bif D 8 then (rd v103 p1.Nets) else junk, bif D 10 then (pt v105 x104) else junk, bif D 11 then (pt v106 x104.Pins) else junk, bif D 12 then (rd v107 x104.Pins) else junk, rd v36 p1, rd v38 p1, rd v33 p1, raw 26 b32 2, bx 26 b31 p1, rd v1 p1, rd v0 p0] ++ Γ)) ?_ ⟨?_, ?_, ?_, ?_, ?_, ?_, ?_, ?_, ?_, ?_, ?_, ?_, ?_, ?_, ?_, ?_, ?_, trivial⟩ ?_
 ·have hw := hw.drew
  have hw := hw.junk
  have hw := hw.junk
  have hw := hw.junk
  have hw := hw.junk
  have hw := hw.junk
  have hw := hw.junk
  have hw := hw.junk
  have hw := hw.junk
  exact ⟨undef, undef, undef, undef, undef, undef, undef, undef, doneV.none, ⟨rfl, rfl, rfl, rfl, trivial⟩, hw⟩
 ·rintro D σ w hD hdep hcl ⟨v98, v100, v101, v102, v103, v105, v106, v107, hv, ha, hw⟩
  obtain ⟨τ, rfl⟩ := (ac (ha.at 0 rfl) az).ups
  refine RL.fa_b trivial rfl rfl fa26_1 ?_
  refine RL.nil ?_
  exact ⟨rfl, v98, v100, v101, v102, v103, v105, v106, v107, hv.put 0 rfl rfl, ha.up rfl, hw⟩
 ·rintro D σ w hD hdep hcl ⟨v98, v100, v101, v102, v103, v105, v106, v107, hv, ha, hw⟩
  obtain ⟨τ, rfl⟩ := (ac (hv.at 0 rfl (hdep.1 rfl)) az).ups
  have hw := hw.selF (i := 0) rfl hD
  refine RL.load_bf (i := 12) (f := (fun x => x.Nets)) trivial rfl hw rfl rfl fd_Netlist_1 ty24 fun v108 hw => ?_
  have hw := hw.pick 16 [0, 2, 3, 4, 5, 6, 7, 8, 9, 10, 11, 12, 13, 14, 15] (new := [rd v108 p1.Nets, bif D 3 then (pt v100 x99) else junk, bif D 4 then (pt v101 x99.Pins) else junk, bif D 5 then (rd v102 x99.Pins) else junk, bif D 8 then (rd v103 p1.Nets) else junk, bif D 10 then (pt v105 x104) else junk, bif D 11 then (pt v106 x104.Pins) else junk, bif D 12 then (rd v107 x104.Pins) else junk, rd v36 p1, rd v38 p1, rd v33 p1, raw 26 b32 2, bx 26 b31 p1, rd v1 p1, rd v0 p0]) rfl rfl (by decide) (by decide)
  have hw := hw.altT (i := 0) (b := true) rfl rfl (junk)
  refine RL.nil ?_
  exact ⟨rfl, v108, v100, v101, v102, v103, v105, v106, v107, hv.put 1 rfl rfl, ha.up rfl, hw⟩
 ·rintro D σ w hD hdep hcl ⟨v98, v100, v101, v102, v103, v105, v106, v107, hv, ha, hw⟩
  obtain ⟨τ, rfl⟩ := (ac (ha.at 2 rfl) az).ups
  refine mv (vi x37) rfl rfl ?_
  refine RL.nil ?_
  exact ⟨rfl, v98, v100, v101, v102, v103, v105, v106, v107, hv.put 2 rfl rfl, ha.up rfl, hw⟩
 ·rintro D σ w hD hdep hcl ⟨v98, v100, v101, v102, v103, v105, v106, v107, hv, ha, hw⟩
  obtain ⟨τ, rfl⟩ := (ac (hv.at 1 rfl (hdep.1 rfl)) (ac (hv.at 2 rfl (hdep.2.1 rfl)) az)).ups
  have hw := hw.selT (i := 0) rfl (hdep.1 rfl)
  have hw := hw.selF (i := 1) rfl hD
  refine RL.ia_rd (i := 0) trivial rfl hw rfl rfl rfl sl24 hx99 fun v109 hw => ?_
  have hw := hw.pick 16 [1, 0, 3, 4, 5, 6, 7, 8, 9, 10, 11, 12, 13, 14, 15] (new := [rd v98 p1.Nets, pt v109 x99, bif D 4 then (pt v101 x99.Pins) else junk, bif D 5 then (rd v102 x99.Pins) else junk, bif D 8 then (rd v103 p1.Nets) else junk, bif D 10 then (pt v105 x104) else junk, bif D 11 then (pt v106 x104.Pins) else junk, bif D 12 then (rd v107 x104.Pins) else junk, rd v36 p1, rd v38 p1, rd v33 p1, raw 26 b32 2, bx 26 b31 p1, rd v1 p1, rd v0 p0]) rfl rfl (by decide) (by decide)
  have hw := hw.altT (i := 0) (b := D 1) rfl (hdep.1 rfl) (junk)
  have hw := hw.altT (i := 1) (b := true) rfl rfl (junk)
  refine RL.nil ?_
  exact ⟨rfl, v98, v109, v101, v102, v103, v105, v106, v107, hv.put 3 rfl rfl, ha.up rfl, hw⟩
 ·rintro D σ w hD hdep hcl ⟨v98, v100, v101, v102, v103, v105, v106, v107, hv, ha, hw⟩
  obtain ⟨τ, rfl⟩ := (ac (hv.at 3 rfl (hdep.1 rfl)) az).ups
  have hw := hw.selT (i := 1) rfl (hdep.1 rfl)
  have hw := hw.selF (i := 2) rfl hD
  refine RL.fa_pt (i := 1) (f := fun (x : Net) => x.Pins) trivial rfl hw rfl rfl fa38_1 fd_Net_1 fun v110 hw => ?_
  have hw := hw.pick 16 [1, 2, 0, 4, 5, 6, 7, 8, 9, 10, 11, 12, 13, 14, 15] (new := [bif D 1 then (rd v98 p1.Nets) else junk, pt v100 x99, pt v110 x99.Pins, bif D 5 then (rd v102 x99.Pins) else junk, bif D 8 then (rd v103 p1.Nets) else junk, bif D 10 then (pt v105 x104) else junk, bif D 11 then (pt v106 x104.Pins) else junk, bif D 12 then (rd v107 x104.Pins) else junk, rd v36 p1, rd v38 p1, rd v33 p1, raw 26 b32 2, bx 26 b31 p1, rd v1 p1, rd v0 p0]) rfl rfl (by decide) (by decide)
  have hw := hw.altT (i := 1) (b := D 3) rfl (hdep.1 rfl) (junk)
  have hw := hw.altT (i := 2) (b := true) rfl rfl (junk)
  refine RL.nil ?_
  exact ⟨rfl, v98, v100, v110, v102, v103, v105, v106, v107, hv.put 4 rfl rfl, ha.up rfl, hw⟩
 ·rintro D σ w hD hdep hcl ⟨v98, v100, v101, v102, v103, v105, v106, v107, hv, ha, hw⟩
  obtain ⟨τ, rfl⟩ := (ac (hv.at 4 rfl (hdep.1 rfl)) az).ups
  have hw := hw.selT (i := 2) rfl (hdep.1 rfl)
  have hw := hw.selF (i := 3) rfl hD
  refine RL.load_pt (i := 2) (x := x99.Pins) trivial rfl hw rfl rfl ty35 fun v111 hw => ?_
  have hw := hw.pick 16 [1, 2, 3, 0, 5, 6, 7, 8, 9, 10, 11, 12, 13, 14, 15] (new := [bif D 1 then (rd v98 p1.Nets) else junk, bif D 3 then (pt v100 x99) else junk, pt v101 x99.Pins, rd v111 x99.Pins, bif D 8 then (rd v103 p1.Nets) else junk, bif D 10 then (pt v105 x104) else junk, bif D 11 then (pt v106 x104.Pins) else junk, bif D 12 then (rd v107 x104.Pins) else junk, rd v36 p1, rd v38 p1, rd v33 p1, raw 26 b32 2, bx 26 b31 p1, rd v1 p1, rd v0 p0]) rfl rfl (by decide) (by decide)
  have hw := hw.altT (i := 2) (b := D 4) rfl (hdep.1 rfl) (junk)
  have hw := hw.altT (i := 3) (b := true) rfl rfl (junk)
  refine RL.nil ?_
  exact ⟨rfl, v98, v100, v101, v111, v103, v105, v106, v107, hv.put 5 rfl rfl, ha.up rfl, hw⟩
 ·rintro D σ w hD hdep hcl ⟨v98, v100, v101, v102, v103, v105, v106, v107, hv, ha, hw⟩
  obtain ⟨τ, rfl⟩ := (ac (hv.at 5 rfl (hdep.1 rfl)) az).ups
  have hw := hw.selT (i := 3) rfl (hdep.1 rfl)
  refine RL.len_rd (i := 3) (l := x99.Pins) trivial rfl hw rfl rfl un35 ?_
  have hw := hw.altT (i := 3) (b := D 5) rfl (hdep.1 rfl) (junk)
  refine RL.nil ?_
  exact ⟨rfl, v98, v100, v101, v102, v103, v105, v106, v107, hv.put 6 rfl rfl, ha.up rfl, hw⟩
 ·rintro D σ w hD hdep hcl ⟨v98, v100, v101, v102, v103, v105, v106, v107, hv, ha, hw⟩
  obtain ⟨τ, rfl⟩ := (ac (ha.at 0 rfl) az).ups
  refine RL.fa_b trivial rfl rfl fa26_1 ?_
  refine RL.nil ?_
  exact ⟨rfl, v98, v100, v101, v102, v103, v105, v106, v107, hv.put 7 rfl rfl, ha.up rfl, hw⟩
 ·rintro D σ w hD hdep hcl ⟨v98, v100, v101, v102, v103, v105, v106, v107, hv, ha, hw⟩
  obtain ⟨τ, rfl⟩ := (ac (hv.at 7 rfl (hdep.1 rfl)) az).ups
  have hw := hw.selF (i := 4) rfl hD
  refine RL.load_bf (i := 12) (f := (fun x => x.Nets)) trivial rfl hw rfl rfl fd_Netlist_1 ty24 fun v112 hw => ?_
  have hw := hw.pick 16 [1, 2, 3, 4, 0, 6, 7, 8, 9, 10, 11, 12, 13, 14, 15] (new := [bif D 1 then (rd v98 p1.Nets) else junk, bif D 3 then (pt v100 x99) else junk, bif D 4 then (pt v101 x99.Pins) else junk, bif D 5 then (rd v102 x99.Pins) else junk, rd v112 p1.Nets, bif D 10 then (pt v105 x104) else junk, bif D 11 then (pt v106 x104.Pins) else junk, bif D 12 then (rd v107 x104.Pins) else junk, rd v36 p1, rd v38 p1, rd v33 p1, raw 26 b32 2, bx 26 b31 p1, rd v1 p1, rd v0 p0]) rfl rfl (by decide) (by decide)
  have hw := hw.altT (i := 4) (b := true) rfl rfl (junk)
  refine RL.nil ?_
  exact ⟨rfl, v98, v100, v101, v102, v112, v105, v106, v107, hv.put 8 rfl rfl, ha.up rfl, hw⟩
 ·rintro D σ w hD hdep hcl ⟨v98, v100, v101, v102, v103, v105, v106, v107, hv, ha, hw⟩
  obtain ⟨τ, rfl⟩ := (ac (ha.at 3 rfl) az).ups
  refine mv (vi x39) rfl rfl ?_
  refine RL.nil ?_
  exact ⟨rfl, v98, v100, v101, v102, v103, v105, v106, v107, hv.put 9 rfl rfl, ha.up rfl, hw⟩
 ·rintro D σ w hD hdep hcl ⟨v98, v100, v101, v102, v103, v105, v106, v107, hv, ha, hw⟩
  obtain ⟨τ, rfl⟩ := (ac (hv.at 8 rfl (hdep.1 rfl)) (ac (hv.at 9 rfl (hdep.2.1 rfl)) az)).ups
  have hw := hw.selT (i := 4) rfl (hdep.1 rfl)
  have hw := hw.selF (i := 5) rfl hD
  refine RL.ia_rd (i := 4) trivial rfl hw rfl rfl rfl sl24 hx104 fun v113 hw => ?_
  have hw := hw.pick 16 [1, 2, 3, 4, 5, 0, 7, 8, 9, 10, 11, 12, 13, 14, 15] (new := [bif D 1 then (rd v98 p1.Nets) else junk, bif D 3 then (pt v100 x99) else junk, bif D 4 then (pt v101 x99.Pins) else junk, bif D 5 then (rd v102 x99.Pins) else junk, rd v103 p1.Nets, pt v113 x104, bif D 11 then (pt v106 x104.Pins) else junk, bif D 12 then (rd v107 x104.Pins) else junk, rd v36 p1, rd v38 p1, rd v33 p1, raw 26 b32 2, bx 26 b31 p1, rd v1 p1, rd v0 p0]) rfl rfl (by decide) (by decide)
  have hw := hw.altT (i := 4) (b := D 8) rfl (hdep.1 rfl) (junk)
  have hw := hw.altT (i := 5) (b := true) rfl rfl (junk)
  refine RL.nil ?_
  exact ⟨rfl, v98, v100, v101, v102, v103, v113, v106, v107, hv.put 10 rfl rfl, ha.up rfl, hw⟩
 ·rintro D σ w hD hdep hcl ⟨v98, v100, v101, v102, v103, v105, v106, v107, hv, ha, hw⟩
  obtain ⟨τ, rfl⟩ := (ac (hv.at 10 rfl (hdep.1 rfl)) az).ups
  have hw := hw.selT (i := 5) rfl (hdep.1 rfl)
  have hw := hw.selF (i := 6) rfl hD
  refine RL.fa_pt (i := 5) (f := fun (x : Net) => x.Pins) trivial rfl hw rfl rfl fa38_1 fd_Net_1 fun v114 hw => ?_
  have hw := hw.pick 16 [1, 2, 3, 4, 5, 6, 0, 8, 9, 10, 11, 12, 13, 14, 15] (new := [bif D 1 then (rd v98 p1.Nets) else junk, bif D 3 then (pt v100 x99) else junk, bif D 4 then (pt v101 x99.Pins) else junk, bif D 5 then (rd v102 x99.Pins) else junk, bif D 8 then (rd v103 p1.Nets) else junk, pt v105 x104, pt v114 x104.Pins, bif D 12 then (rd v107 x104.Pins) else junk, rd v36 p1, rd v38 p1, rd v33 p1, raw 26 b32 2, bx 26 b31 p1, rd v1 p1, rd v0 p0]) rfl rfl (by decide) (by decide)
  have hw := hw.altT (i := 5) (b := D 10) rfl (hdep.1 rfl) (junk)
  have hw := hw.altT (i := 6) (b := true) rfl rfl (junk)
  refine RL.nil ?_
  exact ⟨rfl, v98, v100, v101, v102, v103, v105, v114, v107, hv.put 11 rfl rfl, ha.up rfl, hw⟩
 ·rintro D σ w hD hdep hcl ⟨v98, v100, v101, v102, v103, v105, v106, v107, hv, ha, hw⟩
  obtain ⟨τ, rfl⟩ := (ac (hv.at 11 rfl (hdep.1 rfl)) az).ups
  have hw := hw.selT (i := 6) rfl (hdep.1 rfl)
  have hw := hw.selF (i := 7) rfl hD
  refine RL.load_pt (i := 6) (x := x104.Pins) trivial rfl hw rfl rfl ty35 fun v115 hw => ?_
  have hw := hw.pick 16 [1, 2, 3, 4, 5, 6, 7, 0, 9, 10, 11, 12, 13, 14, 15] (new := [bif D 1 then (rd v98 p1.Nets) else junk, bif D 3 then (pt v100 x99) else junk, bif D 4 then (pt v101 x99.Pins) else junk, bif D 5 then (rd v102 x99.Pins) else junk, bif D 8 then (rd v103 p1.Nets) else junk, bif D 10 then (pt v105 x104) else junk, pt v106 x104.Pins, rd v115 x104.Pins, rd v36 p1, rd v38 p1, rd v33 p1, raw 26 b32 2, bx 26 b31 p1, rd v1 p1, rd v0 p0]) rfl rfl (by decide) (by decide)
  have hw := hw.altT (i := 6) (b := D 11) rfl (hdep.1 rfl) (junk)
  have hw := hw.altT (i := 7) (b := true) rfl rfl (junk)
  refine RL.nil ?_
  exact ⟨rfl, v98, v100, v101, v102, v103, v105, v106, v115, hv.put 12 rfl rfl, ha.up rfl, hw⟩
 ·rintro D σ w hD hdep hcl ⟨v98, v100, v101, v102, v103, v105, v106, v107, hv, ha, hw⟩
  obtain ⟨τ, rfl⟩ := (ac (hv.at 12 rfl (hdep.1 rfl)) az).ups
  have hw := hw.selT (i := 7) rfl (hdep.1 rfl)
  refine RL.len_rd (i := 7) (l := x104.Pins) trivial rfl hw rfl rfl un35 ?_
  have hw := hw.altT (i := 7) (b := D 12) rfl (hdep.1 rfl) (junk)
  refine RL.nil ?_
  exact ⟨rfl, v98, v100, v101, v102, v103, v105, v106, v107, hv.put 13 rfl rfl, ha.up rfl, hw⟩
 ·rintro D σ w hD hdep hcl ⟨v98, v100, v101, v102, v103, v105, v106, v107, hv, ha, hw⟩
  obtain ⟨τ, rfl⟩ := (ac (hv.at 6 rfl (hdep.1 rfl)) (ac (hv.at 13 rfl (hdep.2.1 rfl)) az)).ups
  refine RL.iar (a := (x99.Pins.length : Int)) (b := (x104.Pins.length : Int)) trivial rfl rfl rfl rfl ?_
  refine RL.nil ?_
  exact ⟨rfl, v98, v100, v101, v102, v103, v105, v106, v107, hv.put 14 rfl rfl, ha.up rfl, hw⟩
 ·rintro D σ w hD hdep hcl ⟨v98, v100, v101, v102, v103, v105, v106, v107, hv, ha, hw⟩
  obtain ⟨τ, rfl⟩ := (ac (hv.at 14 rfl (hdep.1 rfl)) az).ups
  refine ic ((IntKind.wrap .i64 ((x99.Pins.length : Int) + (x104.Pins.length : Int)))) 500 rfl rfl rfl rfl ?_
  refine RL.nil ?_
  exact ⟨rfl, v98, v100, v101, v102, v103, v105, v106, v107, hv.put 15 rfl rfl, ha.up rfl, hw⟩
 ·rintro D σ w hD hdep hcl ⟨v98, v100, v101, v102, v103, v105, v106, v107, hv, ha, hw⟩
  obtain ⟨τ, rfl⟩ := (ac (hv.at 15 rfl (hdep.1 rfl)) az).ups
  refine as_ (vb (decide ((IntKind.wrap .i64 ((x99.Pins.length : Int) + (x104.Pins.length : Int))) > 500))) rfl rfl ?_
  refine RL.nil ?_
  exact ⟨rfl, v98, v100, v101, v102, v103, v105, v106, v107, hv.put 16 rfl rfl, ha.up rfl, hw⟩
 rintro D σ w hall ⟨v98, v100, v101, v102, v103, v105, v106, v107, hv, ha, hw⟩
 rw [hall 1 (by decide), hall 3 (by decide), hall 4 (by decide), hall 5 (by decide), hall 8 (by decide), hall 10 (by decide), hall 11 (by decide), hall 12 (by decide)] at hw
 obtain ⟨τ, rfl⟩ := (ac (hv.at 16 rfl (hall 16 (by decide))) (ac (ha.at 0 rfl) (ac (ha.at 1 rfl) (ac (ha.at 2 rfl) (ac (ha.at 3 rfl) az))))).ups
 refine thenQ_n ?_
 refine RC.cond (b := (decide ((IntKind.wrap .i64 ((x99.Pins.length : Int) + (x104.Pins.length : Int))) > 500))) rfl (fun hc => ?_) (fun hc => ?_)
 ·replace hb := cT hc hb
  refine RC.sr ?_
  refine RL.buildc (zs := [(.slice none 0 0), (.slice none 0 0)]) (cs := [(.slice none 0 0), (.slice none 0 0)]) trivial rfl [] rfl st26 trivial rfl ?_
  have hw := hw.rd_nil Part
  have hw := hw.rd_nil Net
  have hw := hw.rd_agg (cs := [(.slice none 0 0), (.slice none 0 0)]) (x := (⟨([] : (List Part)), ([] : (List Net))⟩ : Netlist)) (fun M hs g => ⟨[(.slice none 0 0)], [(.slice none 0 0)], rfl, (rd_one rfl (g.sat 1 _ rfl).1), (rd_one rfl (g.sat 0 _ rfl).1)⟩) rfl
  refine RL.store_raw (i := 14) (j := 0) trivial hw rfl rfl rfl rfl ty26 rfl fun w hw => ?_
  refine as_ (vi 2) rfl rfl ?_
  refine RL.nt ?_
  refine RC.rb ?_
  refine thenQ_r ?_
  obtain rfl := oi hb
  exact finC2 (i := 14) rfl hw rfl rfl ty26 rfl fun v116 hw => ⟨v116, rfl, hw.pick 19 [0] (new := [rd v116 (⟨([] : (List Part)), ([] : (List Net))⟩ : Netlist)]) rfl rfl (by decide) (by decide)⟩
 replace hb := cF hc hb
 refine RC.skip ?_
 refine blkQ_n ?_
 refine thenQ_n ?_
 refine RC.sr ?_
 refine mv (vi x37) rfl rfl ?_
 refine mv (vi x39) rfl rfl ?_
 refine RL.min (a := x37) (b := x39) trivial rfl rfl rfl ?_
 refine mv (vi x37) rfl rfl ?_
 refine mv (vi x39) rfl rfl ?_
 refine RL.max (a := x37) (b := x39) trivial rfl rfl rfl ?_
 refine as_ (vi (if x39 < x37 then x39 else x37)) rfl rfl ?_
 refine as_ (vi (if x37 < x39 then x39 else x37)) rfl rfl ?_
 refine RL.ns ?_
 refine RL.load_bf (i := 12) (f := (fun x => x)) trivial rfl hw rfl rfl Fd.self ty26 fun v117 hw => ?_
 obtain ⟨x118, hx118, hb⟩ := bd hb
 refine RL.call trivial rfl fn10 [v117] rfl (Calls_ret (netlist_Own_ok N  (i0 := 0) hw rfl hx118) ?_)
 rintro _ w ⟨v119, v120, us121, rfl, hw⟩
 refine RL.alloc_bc trivial rfl hw zc26 rfl fun b122 w hw => ?_
 refine RL.store_bca (i := 0) (cs := [v119, v120]) trivial hw rfl rfl rfl (oneL.all (⟨(one_own hw (i := 1) rfl), (one_own hw (i := 2) rfl), trivial⟩ : oneL [v119, v120])) ty26 rfl rfl fun w hw => ?_
 refine RL.ns ?_
 refine RL.fa_b trivial rfl rfl fa26_1 ?_
 refine RL.load_bc (i := 0) (v := v120) trivial rfl hw rfl rfl rfl ty24 ?_
 refine mv (vi (if x39 < x37 then x39 else x37)) rfl rfl ?_
 obtain ⟨x123, hx123, hb⟩ := bd hb
 have hl124 := hw.bag_len (j := 3) rfl
 have hr125 := idx_raw (default : Net_r1) hl124 hx123
 have hq126 := elp hw (i := 2) rfl hr125 0
 refine RL.ia_ownA (i := 2) trivial rfl hw rfl rfl rfl sl24 hr125 ?_
 refine as_ (elA v120 (Int.toNat (if x39 < x37 then x39 else x37)) 3 0) rfl rfl ?_
 refine RL.nq ?_
 obtain ⟨x131, hx131, hb⟩ := bd hb
 obtain ⟨x138, hx138, hb⟩ := bd hb
 obtain ⟨x139, hx139, hb⟩ := bd hb
 refine RC.drw mixed rfl (fun (D : Nat → Bool) (σ : Nat → Value) (w : World) => ∃ (v140 : Value), doneV D σ [(0, 71, (elA v120 (Int.toNat (if x39 < x37 then x39 else x37)) 3 0)), (1, 72, (elA v120 (Int.toNat (if x39 < x37 then x39 else x37)) 3 0)), (2, 73, (elA v120 (Int.toNat (if x39 < x37 then x39 else x37)) 3 0)), (3, 74, (elA v120 (Int.toNat (if x39 < x37 then x39 else x37)) 3 1)), (4, 75, (us121.getD (Int.toNat (if x39 < x37 then x39 else x37)) (default : Net_r1)).Pins.v), (5, 76, (vp b122 1)), (6, 77, v120), (7, 78, (vi (if x37 < x39 then x39 else x37))), (8, 79, (elA v120 (Int.toNat (if x37 < x39 then x39 else x37)) 3 0)), (9, 80, (elA v120 (Int.toNat (if x37 < x39 then x39 else x37)) 3 1)), (10, 81, (us121.getD (Int.toNat (if x37 < x39 then x39 else x37)) (default : Net_r1)).Pins.v), (11, 82, v140), (12, 83, (elA v120 (Int.toNat (if x39 < x37 then x39 else x37)) 3 0)), (13, 84, (elA v120 (Int.toNat (if x39 < x37 then x39 else x37)) 3 1))] ∧ agree σ [(8, (vp b32 0)), (12, (vi (if x37 < x39 then x39 else x37))), (13, (vp b122 0)), (14, (elA v120 (Int.toNat (if x39 < x37 then x39 else x37)) 3 0))] ∧ Holds E w ([bif D 14 then (junk) else (bif D 11 then (own 43 v140 x139) else junk), bc 26 b122 [v119, v120], own 48 v119 x118.1, bif D 14 then (own 38 v120 (us121.set (Int.toNat (if x39 < x37 then x39 else x37)) { (us121.getD (Int.toNat (if x39 < x37 then x39 else x37)) (default : Net_r1)) with Pins := rv v140 })) else (own 38 v120 us121), bif D 14 then (bag XF_Net_r1 (us121.set (Int.toNat (if x39 < x37 then x39 else x37)) { (us121.getD (Int.toNat (if x39 < x37 then x39 else x37)) (default : Net_r1)) with Pins := rv v140 }) (x118.2.set (Int.toNat (if x39 < x37 then x39 else x37)) { x123 with Pins := x139 }) none) else (bif D 11 then (bag XF_Net_r1 us121 x118.2 (some (Int.toNat (if x39 < x37 then x39 else x37)))) else (bag XF_Net_r1 us121 x118.2 none)), rd v117 p1, rd v98 p1.Nets, pt v100 x99, pt v101 x99.Pins, rd v102 x99.Pins, rd v103 p1.Nets, pt v105 x104, pt v106 x104.Pins, rd v107 x104.Pins, rd v36 p1, rd v38 p1, rd v33 p1, raw 26 b32 2, bx 26 b31 p1, rd v1 p1, rd v0 p0] ++ Γ)) ?_ ⟨?_, ?_, ?_, ?_, ?_, ?_, ?_, ?_, ?_, ?_, ?_, ?_, ?_, ?_, ?_, trivial⟩ ?_
 ·have hw := hw.drew
  have hw := hw.junk
  exact ⟨undef, doneV.none, ⟨rfl, rfl, rfl, rfl, trivial⟩, hw⟩
 ·rintro D σ w hD hdep hcl ⟨v140, hv, ha, hw⟩
  obtain ⟨τ, rfl⟩ := (ac (ha.at 3 rfl) az).ups
  refine mv (elA v120 (Int.toNat (if x39 < x37 then x39 else x37)) 3 0) rfl rfl ?_
  refine RL.nil ?_
  exact ⟨rfl, v140, hv.put 0 rfl rfl, ha.up rfl, hw⟩
 ·rintro D σ w hD hdep hcl ⟨v140, hv, ha, hw⟩
  obtain ⟨τ, rfl⟩ := (ac (ha.at 3 rfl) az).ups
  refine mv (elA v120 (Int.toNat (if x39 < x37 then x39 else x37)) 3 0) rfl rfl ?_
  refine RL.nil ?_
  exact ⟨rfl, v140, hv.put 1 rfl rfl, ha.up rfl, hw⟩
 ·rintro D σ w hD hdep hcl ⟨v140, hv, ha, hw⟩
  obtain ⟨τ, rfl⟩ := (ac (hv.at 1 rfl (hdep.1 rfl)) az).ups
  refine RL.nilCheck_el trivial rfl rfl hq126 ?_
  refine RL.nil ?_
  exact ⟨rfl, v140, hv.put 2 rfl rfl, ha.up rfl, hw⟩
 ·rintro D σ w hD hdep hcl ⟨v140, hv, ha, hw⟩
  obtain ⟨τ, rfl⟩ := (ac (hv.at 2 rfl (hdep.1 rfl)) az).ups
  have hw := hw.selF (i := 3) rfl (nf (fun h => ft hD ((hcl 14 _ rfl h).2.2.2.2.2.2.1 rfl)))
  have hw := hw.selF (i := 4) rfl (nf (fun h => ft hD ((hcl 14 _ rfl h).2.2.2.2.2.2.1 rfl)))
  have hw := hw.selF (i := 4) rfl (nf (fun h => ft hD ((hcl 4 _ rfl ((hcl 11 _ rfl h).1 rfl)).1 rfl)))
  have hl145 := hw.bag_len (j := 4) rfl
  have hr146 := idx_raw (default : Net_r1) hl145 hx123
  refine RL.fa_elA (α := Net_r1) trivial rfl rfl (elp hw (i := 3) rfl hr146 0) fa38_1 ?_
  have hw := hw.altF (i := 3) (b := D 14) rfl (nf (fun h => ft hD ((hcl 14 _ rfl h).2.2.2.2.2.2.1 rfl))) (own 38 v120 (us121.set (Int.toNat (if x39 < x37 then x39 else x37)) { (us121.getD (Int.toNat (if x39 < x37 then x39 else x37)) (default : Net_r1)) with Pins := rv v140 }))
  have hw := hw.altF (i := 4) (b := D 11) rfl (nf (fun h => ft hD ((hcl 4 _ rfl ((hcl 11 _ rfl h).1 rfl)).1 rfl))) (bag XF_Net_r1 us121 x118.2 (some (Int.toNat (if x39 < x37 then x39 else x37))))
  have hw := hw.altF (i := 4) (b := D 14) rfl (nf (fun h => ft hD ((hcl 14 _ rfl h).2.2.2.2.2.2.1 rfl))) (bag XF_Net_r1 (us121.set (Int.toNat (if x39 < x37 then x39 else x37)) { (us121.getD (Int.toNat (if x39 < x37 then x39 else x37)) (default : Net_r1)) with Pins := rv v140 }) (x118.2.set (Int.toNat (if x39 < x37 then x39 else x37)) { x123 with Pins := x139 }) none)
  refine RL.nil ?_
  exact ⟨rfl, v140, hv.put 3 rfl rfl, ha.up rfl, hw⟩
 ·rintro D σ w hD hdep hcl ⟨v140, hv, ha, hw⟩
  obtain ⟨τ, rfl⟩ := (ac (hv.at 3 rfl (hdep.1 rfl)) az).ups
  have hw := hw.selF (i := 3) rfl (nf (fun h => ft hD ((hcl 14 _ rfl h).2.2.2.2.2.2.2.1 rfl)))
  have hw := hw.selF (i := 4) rfl (nf (fun h => ft hD ((hcl 14 _ rfl h).2.2.2.2.2.2.2.1 rfl)))
  have hw := hw.selF (i := 4) rfl (nf (fun h => ft hD ((hcl 11 _ rfl h).1 rfl)))
  have hl147 := hw.bag_len (j := 4) rfl
  have hr148 := idx_raw (default : Net_r1) hl147 hx123
  refine RL.load_peek (i := 3) (b := 4) (jj := (if x39 < x37 then x39 else x37)) xo_Net_r1 (default : Net_r1) trivial rfl hw rfl (elp hw (i := 3) rfl hr148 1) rfl rfl hx123 ty35 ?_
  have hw := hw.altF (i := 3) (b := D 14) rfl (nf (fun h => ft hD ((hcl 14 _ rfl h).2.2.2.2.2.2.2.1 rfl))) (own 38 v120 (us121.set (Int.toNat (if x39 < x37 then x39 else x37)) { (us121.getD (Int.toNat (if x39 < x37 then x39 else x37)) (default : Net_r1)) with Pins := rv v140 }))
  have hw := hw.altF (i := 4) (b := D 11) rfl (nf (fun h => ft hD ((hcl 11 _ rfl h).1 rfl))) (bag XF_Net_r1 us121 x118.2 (some (Int.toNat (if x39 < x37 then x39 else x37))))
  have hw := hw.altF (i := 4) (b := D 14) rfl (nf (fun h => ft hD ((hcl 14 _ rfl h).2.2.2.2.2.2.2.1 rfl))) (bag XF_Net_r1 (us121.set (Int.toNat (if x39 < x37 then x39 else x37)) { (us121.getD (Int.toNat (if x39 < x37 then x39 else x37)) (default : Net_r1)) with Pins := rv v140 }) (x118.2.set (Int.toNat (if x39 < x37 then x39 else x37)) { x123 with Pins := x139 }) none)
  refine RL.nil ?_
  exact ⟨rfl, v140, hv.put 4 rfl rfl, ha.up rfl, hw⟩
 ·rintro D σ w hD hdep hcl ⟨v140, hv, ha, hw⟩
  obtain ⟨τ, rfl⟩ := (ac (ha.at 2 rfl) az).ups
  refine RL.fa_b trivial rfl rfl fa26_1 ?_
  refine RL.nil ?_
  exact ⟨rfl, v140, hv.put 5 rfl rfl, ha.up rfl, hw⟩
 ·rintro D σ w hD hdep hcl ⟨v140, hv, ha, hw⟩
  obtain ⟨τ, rfl⟩ := (ac (hv.at 5 rfl (hdep.1 rfl)) az).ups
  refine RL.load_bc (i := 1) (v := v120) trivial rfl hw rfl rfl rfl ty24 ?_
  refine RL.nil ?_
  exact ⟨rfl, v140, hv.put 6 rfl rfl, ha.up rfl, hw⟩
 ·rintro D σ w hD hdep hcl ⟨v140, hv, ha, hw⟩
  obtain ⟨τ, rfl⟩ := (ac (ha.at 1 rfl) az).ups
  refine mv (vi (if x37 < x39 then x39 else x37)) rfl rfl ?_
  refine RL.nil ?_
  exact ⟨rfl, v140, hv.put 7 rfl rfl, ha.up rfl, hw⟩
 ·rintro D σ w hD hdep hcl ⟨v140, hv, ha, hw⟩
  obtain ⟨τ, rfl⟩ := (ac (hv.at 6 rfl (hdep.1 rfl)) (ac (hv.at 7 rfl (hdep.2.1 rfl)) az)).ups
  have hw := hw.selF (i := 3) rfl (nf (fun h => ft hD ((hcl 14 _ rfl h).2.2.2.2.2.2.2.2.2.2.2.1 rfl)))
  have hw := hw.selF (i := 4) rfl (nf (fun h => ft hD ((hcl 14 _ rfl h).2.2.2.2.2.2.2.2.2.2.2.1 rfl)))
  have hw := hw.selF (i := 4) rfl (nf (fun h => ft hD ((hcl 9 _ rfl ((hcl 10 _ rfl ((hcl 11 _ rfl h).2.1 rfl)).1 rfl)).1 rfl)))
  have hl149 := hw.bag_len (j := 4) rfl
  have hr150 := idx_raw (default : Net_r1) hl149 hx131
  refine RL.ia_ownA (i := 3) trivial rfl hw rfl rfl rfl sl24 hr150 ?_
  have hw := hw.altF (i := 3) (b := D 14) rfl (nf (fun h => ft hD ((hcl 14 _ rfl h).2.2.2.2.2.2.2.2.2.2.2.1 rfl))) (own 38 v120 (us121.set (Int.toNat (if x39 < x37 then x39 else x37)) { (us121.getD (Int.toNat (if x39 < x37 then x39 else x37)) (default : Net_r1)) with Pins := rv v140 }))
  have hw := hw.altF (i := 4) (b := D 11) rfl (nf (fun h => ft hD ((hcl 9 _ rfl ((hcl 10 _ rfl ((hcl 11 _ rfl h).2.1 rfl)).1 rfl)).1 rfl))) (bag XF_Net_r1 us121 x118.2 (some (Int.toNat (if x39 < x37 then x39 else x37))))
  have hw := hw.altF (i := 4) (b := D 14) rfl (nf (fun h => ft hD ((hcl 14 _ rfl h).2.2.2.2.2.2.2.2.2.2.2.1 rfl))) (bag XF_Net_r1 (us121.set (Int.toNat (if x39 < x37 then x39 else x37)) { (us121.getD (Int.toNat (if x39 < x37 then x39 else x37)) (default : Net_r1)) with Pins := rv v140 }) (x118.2.set (Int.toNat (if x39 < x37 then x39 else x37)) { x123 with Pins := x139 }) none)
  refine RL.nil ?_
  exact ⟨rfl, v140, hv.put 8 rfl rfl, ha.up rfl, hw⟩
 ·rintro D σ w hD hdep hcl ⟨v140, hv, ha, hw⟩
  obtain ⟨τ, rfl⟩ := (ac (hv.at 8 rfl (hdep.1 rfl)) az).ups
  have hw := hw.selF (i := 3) rfl (nf (fun h => ft hD ((hcl 14 _ rfl h).2.2.2.2.2.2.2.2.2.2.2.2.1 rfl)))
  have hw := hw.selF (i := 4) rfl (nf (fun h => ft hD ((hcl 14 _ rfl h).2.2.2.2.2.2.2.2.2.2.2.2.1 rfl)))
  have hw := hw.selF (i := 4) rfl (nf (fun h => ft hD ((hcl 10 _ rfl ((hcl 11 _ rfl h).2.1 rfl)).1 rfl)))
  have hl151 := hw.bag_len (j := 4) rfl
  have hr152 := idx_raw (default : Net_r1) hl151 hx131
  refine RL.fa_elA (α := Net_r1) trivial rfl rfl (elp hw (i := 3) rfl hr152 0) fa38_1 ?_
  have hw := hw.altF (i := 3) (b := D 14) rfl (nf (fun h => ft hD ((hcl 14 _ rfl h).2.2.2.2.2.2.2.2.2.2.2.2.1 rfl))) (own 38 v120 (us121.set (Int.toNat (if x39 < x37 then x39 else x37)) { (us121.getD (Int.toNat (if x39 < x37 then x39 else x37)) (default : Net_r1)) with Pins := rv v140 }))
  have hw := hw.altF (i := 4) (b := D 11) rfl (nf (fun h => ft hD ((hcl 10 _ rfl ((hcl 11 _ rfl h).2.1 rfl)).1 rfl))) (bag XF_Net_r1 us121 x118.2 (some (Int.toNat (if x39 < x37 then x39 else x37))))
  have hw := hw.altF (i := 4) (b := D 14) rfl (nf (fun h => ft hD ((hcl 14 _ rfl h).2.2.2.2.2.2.2.2.2.2.2.2.1 rfl))) (bag XF_Net_r1 (us121.set (Int.toNat (if x39 < x37 then x39 else x37)) { (us121.getD (Int.toNat (if x39 < x37 then x39 else x37)) (default : Net_r1)) with Pins := rv v140 }) (x118.2.set (Int.toNat (if x39 < x37 then x39 else x37)) { x123 with Pins := x139 }) none)
  refine RL.nil ?_
  exact ⟨rfl, v140, hv.put 9 rfl rfl, ha.up rfl, hw⟩
 ·rintro D σ w hD hdep hcl ⟨v140, hv, ha, hw⟩
  obtain ⟨τ, rfl⟩ := (ac (hv.at 9 rfl (hdep.1 rfl)) az).ups
  have hw := hw.selF (i := 3) rfl (nf (fun h => ft hD ((hcl 14 _ rfl h).2.2.2.2.2.2.2.2.2.2.2.2.2.1 rfl)))
  have hw := hw.selF (i := 4) rfl (nf (fun h => ft hD ((hcl 14 _ rfl h).2.2.2.2.2.2.2.2.2.2.2.2.2.1 rfl)))
  have hw := hw.selF (i := 4) rfl (nf (fun h => ft hD ((hcl 11 _ rfl h).2.1 rfl)))
  have hl153 := hw.bag_len (j := 4) rfl
  have hr154 := idx_raw (default : Net_r1) hl153 hx131
  refine RL.load_peek (i := 3) (b := 4) (jj := (if x37 < x39 then x39 else x37)) xo_Net_r1 (default : Net_r1) trivial rfl hw rfl (elp hw (i := 3) rfl hr154 1) rfl rfl hx131 ty35 ?_
  have hw := hw.altF (i := 3) (b := D 14) rfl (nf (fun h => ft hD ((hcl 14 _ rfl h).2.2.2.2.2.2.2.2.2.2.2.2.2.1 rfl))) (own 38 v120 (us121.set (Int.toNat (if x39 < x37 then x39 else x37)) { (us121.getD (Int.toNat (if x39 < x37 then x39 else x37)) (default : Net_r1)) with Pins := rv v140 }))
  have hw := hw.altF (i := 4) (b := D 11) rfl (nf (fun h => ft hD ((hcl 11 _ rfl h).2.1 rfl))) (bag XF_Net_r1 us121 x118.2 (some (Int.toNat (if x39 < x37 then x39 else x37))))
  have hw := hw.altF (i := 4) (b := D 14) rfl (nf (fun h => ft hD ((hcl 14 _ rfl h).2.2.2.2.2.2.2.2.2.2.2.2.2.1 rfl))) (bag XF_Net_r1 (us121.set (Int.toNat (if x39 < x37 then x39 else x37)) { (us121.getD (Int.toNat (if x39 < x37 then x39 else x37)) (default : Net_r1)) with Pins := rv v140 }) (x118.2.set (Int.toNat (if x39 < x37 then x39 else x37)) { x123 with Pins := x139 }) none)
  refine RL.nil ?_
  exact ⟨rfl, v140, hv.put 10 rfl rfl, ha.up rfl, hw⟩
 ·rintro D σ w hD hdep hcl ⟨v140, hv, ha, hw⟩
  obtain ⟨τ, rfl⟩ := (ac (hv.at 4 rfl (hdep.1 rfl)) (ac (hv.at 10 rfl (hdep.2.1 rfl)) az)).ups
  have hw := hw.selF (i := 0) rfl (nf (fun h => ft hD ((hcl 14 _ rfl h).2.1 rfl)))
  have hw := hw.selF (i := 0) rfl hD
  have hw := hw.selF (i := 3) rfl (nf (fun h => ft hD ((hcl 14 _ rfl h).2.1 rfl)))
  have hw := hw.selF (i := 4) rfl (nf (fun h => ft hD ((hcl 14 _ rfl h).2.1 rfl)))
  have hw := hw.selF (i := 4) rfl hD
  have hw := hw.focusX (j := 4) (jj := (if x39 < x37 then x39 else x37)) xo_Net_r1 (default : Net_r1) rfl hx123
  refine RL.app_peek (i := 0) (b := 5) (jj := (if x37 < x39 then x39 else x37)) xo_Net_r1 (default : Net_r1) trivial rfl hw rfl rfl rfl rfl hx131 (ne?_some hx138) el35 hx139 fun v155 w hw => ?_
  have hw := hw.pick 22 [0, 2, 3, 4, 5, 6, 7, 8, 9, 10, 11, 12, 13, 14, 15, 16, 17, 18, 19, 20, 21] (new := [own 43 v155 x139, bc 26 b122 [v119, v120], own 48 v119 x118.1, own 38 v120 us121, bag XF_Net_r1 us121 x118.2 (some (Int.toNat (if x39 < x37 then x39 else x37))), rd v117 p1, rd v98 p1.Nets, pt v100 x99, pt v101 x99.Pins, rd v102 x99.Pins, rd v103 p1.Nets, pt v105 x104, pt v106 x104.Pins, rd v107 x104.Pins, rd v36 p1, rd v38 p1, rd v33 p1, raw 26 b32 2, bx 26 b31 p1, rd v1 p1, rd v0 p0]) rfl rfl (by decide) (by decide)
  have hw := hw.altT (i := 0) (b := true) rfl rfl (junk)
  have hw := hw.altF (i := 0) (b := D 14) rfl (nf (fun h => ft hD ((hcl 14 _ rfl h).2.1 rfl))) (junk)
  have hw := hw.altF (i := 3) (b := D 14) rfl (nf (fun h => ft hD ((hcl 14 _ rfl h).2.1 rfl))) (own 38 v120 (us121.set (Int.toNat (if x39 < x37 then x39 else x37)) { (us121.getD (Int.toNat (if x39 < x37 then x39 else x37)) (default : Net_r1)) with Pins := rv v155 }))
  have hw := hw.altT (i := 4) (b := true) rfl rfl (bag XF_Net_r1 us121 x118.2 none)
  have hw := hw.altF (i := 4) (b := D 14) rfl (nf (fun h => ft hD ((hcl 14 _ rfl h).2.1 rfl))) (bag XF_Net_r1 (us121.set (Int.toNat (if x39 < x37 then x39 else x37)) { (us121.getD (Int.toNat (if x39 < x37 then x39 else x37)) (default : Net_r1)) with Pins := rv v155 }) (x118.2.set (Int.toNat (if x39 < x37 then x39 else x37)) { x123 with Pins := x139 }) none)
  refine RL.nil ?_
  exact ⟨rfl, v155, hv.put 11 rfl rfl, ha.up rfl, hw⟩
 ·rintro D σ w hD hdep hcl ⟨v140, hv, ha, hw⟩
  obtain ⟨τ, rfl⟩ := (ac (hv.at 0 rfl (hdep.1 rfl)) az).ups
  refine RL.nilCheck_el trivial rfl rfl hq126 ?_
  refine RL.nil ?_
  exact ⟨rfl, v140, hv.put 12 rfl rfl, ha.up rfl, hw⟩
 ·rintro D σ w hD hdep hcl ⟨v140, hv, ha, hw⟩
  obtain ⟨τ, rfl⟩ := (ac (hv.at 12 rfl (hdep.1 rfl)) az).ups
  have hw := hw.selF (i := 3) rfl (nf (fun h => ft hD ((hcl 14 _ rfl h).1 rfl)))
  have hw := hw.selF (i := 4) rfl (nf (fun h => ft hD ((hcl 14 _ rfl h).1 rfl)))
  have hw := hw.selT (i := 4) rfl (hdep.2.2.2.2.2.2.2.2.2.2.2.2.1 rfl)
  have hl156 := hw.bag_len (j := 4) rfl
  have hr157 := idx_raw (default : Net_r1) hl156 hx123
  refine RL.fa_elA (α := Net_r1) trivial rfl rfl (elp hw (i := 3) rfl hr157 0) fa38_1 ?_
  have hw := hw.altF (i := 3) (b := D 14) rfl (nf (fun h => ft hD ((hcl 14 _ rfl h).1 rfl))) (own 38 v120 (us121.set (Int.toNat (if x39 < x37 then x39 else x37)) { (us121.getD (Int.toNat (if x39 < x37 then x39 else x37)) (default : Net_r1)) with Pins := rv v140 }))
  have hw := hw.altT (i := 4) (b := D 11) rfl (hdep.2.2.2.2.2.2.2.2.2.2.2.2.1 rfl) (bag XF_Net_r1 us121 x118.2 none)
  have hw := hw.altF (i := 4) (b := D 14) rfl (nf (fun h => ft hD ((hcl 14 _ rfl h).1 rfl))) (bag XF_Net_r1 (us121.set (Int.toNat (if x39 < x37 then x39 else x37)) { (us121.getD (Int.toNat (if x39 < x37 then x39 else x37)) (default : Net_r1)) with Pins := rv v140 }) (x118.2.set (Int.toNat (if x39 < x37 then x39 else x37)) { x123 with Pins := x139 }) none)
  refine RL.nil ?_
  exact ⟨rfl, v140, hv.put 13 rfl rfl, ha.up rfl, hw⟩
 ·rintro D σ w hD hdep hcl ⟨v140, hv, ha, hw⟩
  obtain ⟨τ, rfl⟩ := (ac (hv.at 11 rfl (hdep.2.1 rfl)) (ac (hv.at 13 rfl (hdep.1 rfl)) az)).ups
  have hw := hw.selF (i := 0) rfl hD
  have hw := hw.selT (i := 0) rfl (hdep.2.1 rfl)
  have hw := hw.selF (i := 3) rfl hD
  have hw := hw.selF (i := 4) rfl hD
  have hw := hw.selT (i := 4) rfl (hdep.2.1 rfl)
  have hl158 := hw.bag_len (j := 4) rfl
  have hr159 := idx_raw (default : Net_r1) hl158 hx123
  refine RL.store_nest (i := 3) (b := 4) (o := 0) (jj := (if x39 < x37 then x39 else x37)) xo_Net_r1 (default : Net_r1) trivial hw rfl rfl (elp hw (i := 3) rfl hr159 1) rfl rfl (.inr rfl) rfl hx123 (by decide) (by decide) (by decide) ty35 fun w hw => ?_
  have hw := hw.altT (i := 0) (b := true) rfl rfl (bif D 11 then (own 43 v140 x139) else junk)
  have hw := hw.altT (i := 3) (b := true) rfl rfl (own 38 v120 us121)
  have hw := hw.altT (i := 4) (b := true) rfl rfl (bif D 11 then (bag XF_Net_r1 us121 x118.2 (some (Int.toNat (if x39 < x37 then x39 else x37)))) else (bag XF_Net_r1 us121 x118.2 none))
  refine RL.nil ?_
  exact ⟨rfl, v140, hv.no rfl, ha, hw⟩
 rintro D σ w hall ⟨v140, hv, ha, hw⟩
 rw [hall 11 (by decide), hall 14 (by decide)] at hw
 obtain ⟨τ, rfl⟩ := (ac (ha.at 0 rfl) (ac (ha.at 1 rfl) (ac (ha.at 2 rfl) (ac (ha.at 3 rfl) az)))).ups
 refine thenQ_n ?_
 refine RC.sr ?_
 refine mv (elA v120 (Int.toNat (if x39 < x37 then x39 else x37)) 3 0) rfl rfl ?_
 refine RL.nilCheck_el trivial rfl rfl hq126 ?_
 obtain ⟨x160, hx160, hb⟩ := bd hb
 have hl161 := hw.bag_len (j := 4) rfl
 have hr162 := idx_raw (default : Net_r1) hl161 hx160
 refine RL.fa_elA (α := Net_r1) trivial rfl rfl (elp hw (i := 3) rfl hr162 0) fa38_1 ?_
 have hl163 := hw.bag_len (j := 4) rfl
 have hr164 := idx_raw (default : Net_r1) hl163 hx160
 refine RL.load_nest (i := 3) (b := 4) (jj := (if x39 < x37 then x39 else x37)) xo_Net_r1 (default : Net_r1) trivial rfl hw rfl (elp hw (i := 3) rfl hr164 1) rfl rfl hx160 ty35 fun hw => ?_
 obtain ⟨x165, hx165, hb⟩ := bd hb
 have hw := hw.pull (i := 0) rfl
 refine RL.call trivial rfl fn11 [((us121.set (Int.toNat (if x39 < x37 then x39 else x37)) { (us121.getD (Int.toNat (if x39 < x37 then x39 else x37)) (default : Net_r1)) with Pins := rv v140 }).getD (Int.toNat (if x39 < x37 then x39 else x37)) (default : Net_r1)).Pins.v, (.func (.func 12) #[] #[])] rfl (Calls_ret (sort_ok (α := Pin) Tryz.lay11 rfl ty43.isA ty43.sz fn12 (fun hw hi hj hr => netlist_ComparePins_ok N hw hi hj hr) hw hx165) ?_)
 rintro _ w ⟨rfl, hw⟩
 have hw := hw.pull (i := 0) rfl
 have hw := hw.unfocusS (j := 6) (jj := (if x39 < x37 then x39 else x37)) xo_Net_r1 (default : Net_r1) (fun _ => rfl) rfl hx160
 refine RL.ns ?_
 refine RL.fa_b trivial rfl rfl fa26_1 ?_
 refine RL.load_bc (i := 3) (v := v120) trivial rfl hw rfl rfl rfl ty24 ?_
 refine mv (vi (if x37 < x39 then x39 else x37)) rfl rfl ?_
 refine mv (vi (if x37 < x39 then x39 else x37)) rfl rfl ?_
 refine RL.iar (a := (if x37 < x39 then x39 else x37)) (b := 1) trivial rfl rfl rfl rfl ?_
 have hw := hw.nest_fz (X := XF_Net_r1) (b := 6) (j := 5) rfl (fun M h u x cs => xrd_Net_r1 M h u x cs) rfl rfl (by decide)
 obtain ⟨x166, hx166, hb⟩ := bd hb
 have hw := hw.pull (i := 5) rfl
 refine RL.call trivial rfl fn13 [v120, (vi (if x37 < x39 then x39 else x37)), (vi (IntKind.wrap .i64 ((if x37 < x39 then x39 else x37) + 1)))] rfl (Calls_ret (del13_ok sl24 el24 zd38 hw hx166) ?_)
 rintro v167 w hw
 refine RL.fa_b trivial rfl rfl fa26_1 ?_
 refine RL.store_bc (i := 4) (v := v167) trivial hw rfl rfl rfl rfl (one_own hw (i := 0) rfl) ty24 fun w hw => ?_
 refine RL.ns ?_
 have hw := hw.freeze (i := 5) rfl
 have hw := hw.freeze (i := 0) rfl
 have hw := hw.close_bc (i := 4) (x := (⟨x118.1, x166⟩ : Netlist)) rfl (fun M hs g => ⟨[v119], [v167], rfl, (rd_one rfl (g.sat 5 _ rfl).1), (rd_one rfl (g.sat 0 _ rfl).1)⟩)
 refine RL.load_bf (i := 4) (f := (fun x => x)) trivial rfl hw rfl rfl Fd.self ty26 fun v168 hw => ?_
 refine RL.store_raw (i := 21) (j := 0) trivial hw rfl rfl rfl rfl ty26 rfl fun w hw => ?_
 refine as_ (vi 0) rfl rfl ?_
 refine RL.nt ?_
 refine RC.ret ?_
 obtain rfl := oi hb
 exact finC2 (i := 21) rfl hw rfl rfl ty26 rfl fun v169 hw => ⟨v169, rfl, hw.pick 26 [0] (new := [rd v169 (⟨x118.1, x166⟩ : Netlist)]) rfl rfl (by decide) (by decide)⟩
def etchhouseref2_within_R (E : World) (Γ : List HP) (res : Bool) (v : Value) (w : World) : Prop := v = (vb res) ∧ Holds E w Γ
theorem etchhouseref2_within_ok (N : Nat) {E w : World} {Γ : List HP} {p0 : Int} {p1 : Int} {p2 : Int} {res : Bool} (hw : Holds E w Γ)  (hb : etchhouseref2_within N p0 p1 p2 = some res) :
    Calls Tryz.prog 88 [(vi p0), (vi p1), (vi p2)].toArray w (Ret (etchhouseref2_within_R E Γ res)) := by
 unfold etchhouseref2_within at hb
 refine enter Tryz.func88 rfl rfl (Nat.le_of_ble_eq_true rfl) ?_
 refine RC.sr ?_
 refine as_ (vb false) rfl rfl ?_
 refine RL.ns ?_
 refine mv (vi p1) rfl rfl ?_
 refine mv (vi p0) rfl rfl ?_
 refine ic p1 p0 rfl rfl rfl rfl ?_
 refine mv (vb (decide (p1 ≤ p0))) rfl rfl ?_
 refine RL.gs (c := true) (b := (decide (p1 ≤ p0))) (v := (vi p0)) rfl rfl rfl (gs_move rfl (fun _ => rfl)) ?_
 refine RL.gs (c := true) (b := (decide (p1 ≤ p0))) (v := (vi p2)) rfl rfl rfl (gs_move rfl (fun _ => rfl)) ?_
 refine RL.gs (c := true) (b := (decide (p1 ≤ p0))) (v := (vb (decide (p0 ≤ p2)))) rfl rfl rfl (gs_icmp (bop := .leq) (K := .i64) (a := p0) (b := p2) rfl (fun h => by exact (cv_t h : cv (true && ((decide (p1 ≤ p0)) == true)) (vi p0) = (vi p0))) (fun h => by exact (cv_t h : cv (true && ((decide (p1 ≤ p0)) == true)) (vi p2) = (vi p2))) rfl) ?_
 refine RL.pick (b := (decide (p1 ≤ p0))) (v := (vb ((decide (p1 ≤ p0)) && (decide (p0 ≤ p2))))) trivial rfl rfl (pk_and (c := true) rfl) ?_
 refine as_ (vb ((decide (p1 ≤ p0)) && (decide (p0 ≤ p2)))) rfl rfl ?_
 refine RL.nt ?_
 refine RC.ret ?_
 obtain rfl := oi hb
 exact fin1 rfl rfl ⟨rfl, hw.drop 0 rfl⟩
def etchhouseref2_IsWord_R (E : World) (Γ : List HP) (res : Bool) (v : Value) (w : World) : Prop := v = (vb res) ∧ Holds E w Γ
def etchhouseref2_IsWord_K (E : World) (Γ : List HP) (r : Bool) (σ : Nat → Value) (w : World) : Prop := finQ Tryz.prog 44 Tryz.f87 (etchhouseref2_IsWord_R E Γ r) .ret σ w
theorem etchhouseref2_IsWord_ok (N : Nat) {E w : World} {Γ : List HP} {p0 : Str} {res : Bool} (hw : Holds E w Γ)  (hb : etchhouseref2_IsWord N p0 = some res) :
    Calls Tryz.prog 87 [(str p0)].toArray w (Ret (etchhouseref2_IsWord_R E Γ res)) := by
 unfold etchhouseref2_IsWord at hb
 refine enter Tryz.func87 rfl rfl (Nat.le_of_ble_eq_true rfl) ?_
 refine RC.sr ?_
 refine as_ (vb false) rfl rfl ?_
 refine RL.nq ?_
 refine RC.sr ?_
 refine mv (str p0) rfl rfl ?_
 refine RL.lens (s := p0) trivial rfl rfl un9 ?_
 refine mv (vi 0) rfl rfl ?_
 refine RL.nt ?_
 obtain ⟨o46, hN, hb⟩ := bd hb
 refine RC.range (fun (k31 : Nat) (s32 : Unit) (σ : Nat → Value) (w : World) => agree σ [(0, (str p0)), (6, (vi (p0.toL.length : Int))), (7, (vi (k31 : Int)))] ∧ Holds E w ([] ++ Γ)) (fun (s32 : Unit) (σ : Nat → Value) (w : World) => agree σ [(0, (str p0))] ∧ Holds E w ([] ++ Γ)) (etchhouseref2_IsWord_K E Γ) hN ?_ ?_ ?_ ?_ ?_ 
 ·exact ⟨⟨rfl, rfl, rfl, trivial⟩, hw.pick 0 [] (new := []) rfl rfl (by decide) (by decide)⟩
 ·intro hm s32 σ w hI
  obtain ⟨ha, hw⟩ := hI
  obtain ⟨τ, rfl⟩ := ha.ups
  refine RC.sr ?_
  refine ic ((p0.toL.length : Int)) ((p0.toL.length : Int)) rfl rfl rfl rfl ?_
  refine RL.nq ?_
  refine RC.cond_f dge ?_
  refine RC.ex ?_
  exact ⟨rfl, ⟨rfl, trivial⟩, hw.pick 0 [] (new := []) rfl rfl (by decide) (by decide)⟩
 ·intro hm k31 s32 fl σ w hk hI hb
  obtain ⟨ha, hw⟩ := hI
  obtain ⟨τ, rfl⟩ := ha.ups
  refine RC.sr ?_
  refine ic ((k31 : Int)) ((p0.toL.length : Int)) rfl rfl rfl rfl ?_
  refine RL.nq ?_
  refine RC.cond_t (dlt hk) ?_
  refine RC.ss ?_
  refine RC.bs ?_
  refine mv (vi (k31 : Int)) rfl rfl ?_
  refine as_ (vi (k31 : Int)) rfl rfl ?_
  refine RL.ns ?_
  refine mv (str p0) rfl rfl ?_
  refine mv (vi (k31 : Int)) rfl rfl ?_
  obtain ⟨x39, hx39, hb⟩ := bd hb
  refine RL.idxs (s := p0) (i := (k31 : Int)) (c := x39) trivial rfl rfl rfl un9 hx39 ?_
  refine as_ (.int .u8 (x39.toNat : Int)) rfl rfl ?_
  refine RL.nq ?_
  obtain ⟨s42, hj, hb⟩ := bd hb
  refine RC.jn (fun (s42 : Bool) (σ : Nat → Value) (w : World) => agree σ [(0, (str p0)), (6, (vi (p0.toL.length : Int))), (7, (vi (k31 : Int))), (39, (vb s42))] ∧ Holds E w ([] ++ Γ)) s42 ?_ ?_
  ·refine RC.region ?_
   refine mv (.int .u8 (x39.toNat : Int)) rfl rfl ?_
   refine ic ((x39.toNat : Int)) 97 rfl rfl rfl rfl ?_
   refine mv (vb (decide ((x39.toNat : Int) < 97))) rfl rfl ?_
   refine RL.gs (c := true) (b := (decide ((x39.toNat : Int) < 97))) (v := (.int .u8 (x39.toNat : Int))) rfl rfl rfl (gs_move rfl (fun _ => rfl)) ?_
   refine RL.gs (c := true) (b := (decide ((x39.toNat : Int) < 97))) (v := (vb (decide ((x39.toNat : Int) > 122)))) rfl rfl rfl (gs_icmp (bop := .gtr) (K := .u8) (a := (x39.toNat : Int)) (b := 122) rfl (fun h => by exact (cv_t h : cv (true && ((decide ((x39.toNat : Int) < 97)) == false)) (.int .u8 (x39.toNat : Int)) = (.int .u8 (x39.toNat : Int)))) (fun _ => rfl) rfl) ?_
   refine RL.pick (b := (decide ((x39.toNat : Int) < 97))) (v := (vb ((decide ((x39.toNat : Int) < 97)) || (decide ((x39.toNat : Int) > 122))))) trivial rfl rfl (pk_or (c := true) rfl) ?_
   refine mv (vb ((decide ((x39.toNat : Int) < 97)) || (decide ((x39.toNat : Int) > 122)))) rfl rfl ?_
   refine RL.gs (c := true) (b := ((decide ((x39.toNat : Int) < 97)) || (decide ((x39.toNat : Int) > 122)))) (v := (.int .u8 (x39.toNat : Int))) rfl rfl rfl (gs_move rfl (fun _ => rfl)) ?_
   refine RL.gs (c := true) (b := ((decide ((x39.toNat : Int) < 97)) || (decide ((x39.toNat : Int) > 122)))) (v := (vb (decide ((x39.toNat : Int) < 65)))) rfl rfl rfl (gs_icmp (bop := .lss) (K := .u8) (a := (x39.toNat : Int)) (b := 65) rfl (fun h => by exact (cv_t h : cv (true && (((decide ((x39.toNat : Int) < 97)) || (decide ((x39.toNat : Int) > 122))) == true)) (.int .u8 (x39.toNat : Int)) = (.int .u8 (x39.toNat : Int)))) (fun _ => rfl) rfl) ?_
   refine RL.gs (c := true) (b := ((decide ((x39.toNat : Int) < 97)) || (decide ((x39.toNat : Int) > 122)))) (v := (vb (decide ((x39.toNat : Int) < 65)))) rfl rfl rfl (gs_move rfl (fun h => by exact (cv_t h : cv (true && (((decide ((x39.toNat : Int) < 97)) || (decide ((x39.toNat : Int) > 122))) == true)) (vb (decide ((x39.toNat : Int) < 65))) = (vb (decide ((x39.toNat : Int) < 65)))))) ?_
   refine RL.gs (c := (true && (((decide ((x39.toNat : Int) < 97)) || (decide ((x39.toNat : Int) > 122))) == true))) (b := (decide ((x39.toNat : Int) < 65))) (v := (.int .u8 (x39.toNat : Int))) rfl rfl rfl (gs_move rfl (fun _ => rfl)) ?_
   refine RL.gs (c := (true && (((decide ((x39.toNat : Int) < 97)) || (decide ((x39.toNat : Int) > 122))) == true))) (b := (decide ((x39.toNat : Int) < 65))) (v := (vb (decide ((x39.toNat : Int) > 90)))) rfl rfl rfl (gs_icmp (bop := .gtr) (K := .u8) (a := (x39.toNat : Int)) (b := 90) rfl (fun h => by exact (cv_t h : cv ((true && (((decide ((x39.toNat : Int) < 97)) || (decide ((x39.toNat : Int) > 122))) == true)) && ((decide ((x39.toNat : Int) < 65)) == false)) (.int .u8 (x39.toNat : Int)) = (.int .u8 (x39.toNat : Int)))) (fun _ => rfl) rfl) ?_
   refine RL.gs (c := true) (b := ((decide ((x39.toNat : Int) < 97)) || (decide ((x39.toNat : Int) > 122)))) (v := (vb ((decide ((x39.toNat : Int) < 65)) || (decide ((x39.toNat : Int) > 90))))) rfl rfl rfl (gs_pick (b := (decide ((x39.toNat : Int) < 65))) rfl (fun h => by exact (cv_t h : cv (true && (((decide ((x39.toNat : Int) < 97)) || (decide ((x39.toNat : Int) > 122))) == true)) (vb (decide ((x39.toNat : Int) < 65))) = (vb (decide ((x39.toNat : Int) < 65))))) (fun h => by exact pk_or (c := (true && (((decide ((x39.toNat : Int) < 97)) || (decide ((x39.toNat : Int) > 122))) == true))) h)) ?_
   refine RL.pick (b := ((decide ((x39.toNat : Int) < 97)) || (decide ((x39.toNat : Int) > 122)))) (v := (vb (((decide ((x39.toNat : Int) < 97)) || (decide ((x39.toNat : Int) > 122))) && ((decide ((x39.toNat : Int) < 65)) || (decide ((x39.toNat : Int) > 90)))))) trivial rfl rfl (pk_and (c := true) rfl) ?_
   refine mv (vb (((decide ((x39.toNat : Int) < 97)) || (decide ((x39.toNat : Int) > 122))) && ((decide ((x39.toNat : Int) < 65)) || (decide ((x39.toNat : Int) > 90))))) rfl rfl ?_
   refine RL.gs (c := true) (b := (((decide ((x39.toNat : Int) < 97)) || (decide ((x39.toNat : Int) > 122))) && ((decide ((x39.toNat : Int) < 65)) || (decide ((x39.toNat : Int) > 90))))) (v := (.int .u8 (x39.toNat : Int))) rfl rfl rfl (gs_move rfl (fun _ => rfl)) ?_
   refine RL.gs (c := true) (b := (((decide ((x39.toNat : Int) < 97)) || (decide ((x39.toNat : Int) > 122))) && ((decide ((x39.toNat : Int) < 65)) || (decide ((x39.toNat : Int) > 90))))) (v := (vb (decide ((x39.toNat : Int) < 48)))) rfl rfl rfl (gs_icmp (bop := .lss) (K := .u8) (a := (x39.toNat : Int)) (b := 48) rfl (fun h => by exact (cv_t h : cv (true && ((((decide ((x39.toNat : Int) < 97)) || (decide ((x39.toNat : Int) > 122))) && ((decide ((x39.toNat : Int) < 65)) || (decide ((x39.toNat : Int) > 90)))) == true)) (.int .u8 (x39.toNat : Int)) = (.int .u8 (x39.toNat : Int)))) (fun _ => rfl) rfl) ?_
   refine RL.gs (c := true) (b := (((decide ((x39.toNat : Int) < 97)) || (decide ((x39.toNat : Int) > 122))) && ((decide ((x39.toNat : Int) < 65)) || (decide ((x39.toNat : Int) > 90))))) (v := (vb (decide ((x39.toNat : Int) < 48)))) rfl rfl rfl (gs_move rfl (fun h => by exact (cv_t h : cv (true && ((((decide ((x39.toNat : Int) < 97)) || (decide ((x39.toNat : Int) > 122))) && ((decide ((x39.toNat : Int) < 65)) || (decide ((x39.toNat : Int) > 90)))) == true)) (vb (decide ((x39.toNat : Int) < 48))) = (vb (decide ((x39.toNat : Int) < 48)))))) ?_
   refine RL.gs (c := (true && ((((decide ((x39.toNat : Int) < 97)) || (decide ((x39.toNat : Int) > 122))) && ((decide ((x39.toNat : Int) < 65)) || (decide ((x39.toNat : Int) > 90)))) == true))) (b := (decide ((x39.toNat : Int) < 48))) (v := (.int .u8 (x39.toNat : Int))) rfl rfl rfl (gs_move rfl (fun _ => rfl)) ?_
   refine RL.gs (c := (true && ((((decide ((x39.toNat : Int) < 97)) || (decide ((x39.toNat : Int) > 122))) && ((decide ((x39.toNat : Int) < 65)) || (decide ((x39.toNat : Int) > 90)))) == true))) (b := (decide ((x39.toNat : Int) < 48))) (v := (vb (decide ((x39.toNat : Int) > 57)))) rfl rfl rfl (gs_icmp (bop := .gtr) (K := .u8) (a := (x39.toNat : Int)) (b := 57) rfl (fun h => by exact (cv_t h : cv ((true && ((((decide ((x39.toNat : Int) < 97)) || (decide ((x39.toNat : Int) > 122))) && ((decide ((x39.toNat : Int) < 65)) || (decide ((x39.toNat : Int) > 90)))) == true)) && ((decide ((x39.toNat : Int) < 48)) == false)) (.int .u8 (x39.toNat : Int)) = (.int .u8 (x39.toNat : Int)))) (fun _ => rfl) rfl) ?_
   refine RL.gs (c := true) (b := (((decide ((x39.toNat : Int) < 97)) || (decide ((x39.toNat : Int) > 122))) && ((decide ((x39.toNat : Int) < 65)) || (decide ((x39.toNat : Int) > 90))))) (v := (vb ((decide ((x39.toNat : Int) < 48)) || (decide ((x39.toNat : Int) > 57))))) rfl rfl rfl (gs_pick (b := (decide ((x39.toNat : Int) < 48))) rfl (fun h => by exact (cv_t h : cv (true && ((((decide ((x39.toNat : Int) < 97)) || (decide ((x39.toNat : Int) > 122))) && ((decide ((x39.toNat : Int) < 65)) || (decide ((x39.toNat : Int) > 90)))) == true)) (vb (decide ((x39.toNat : Int) < 48))) = (vb (decide ((x39.toNat : Int) < 48))))) (fun h => by exact pk_or (c := (true && ((((decide ((x39.toNat : Int) < 97)) || (decide ((x39.toNat : Int) > 122))) && ((decide ((x39.toNat : Int) < 65)) || (decide ((x39.toNat : Int) > 90)))) == true))) h)) ?_
   refine RL.pick (b := (((decide ((x39.toNat : Int) < 97)) || (decide ((x39.toNat : Int) > 122))) && ((decide ((x39.toNat : Int) < 65)) || (decide ((x39.toNat : Int) > 90))))) (v := (vb ((((decide ((x39.toNat : Int) < 97)) || (decide ((x39.toNat : Int) > 122))) && ((decide ((x39.toNat : Int) < 65)) || (decide ((x39.toNat : Int) > 90)))) && ((decide ((x39.toNat : Int) < 48)) || (decide ((x39.toNat : Int) > 57)))))) trivial rfl rfl (pk_and (c := true) rfl) ?_
   refine mv (vb ((((decide ((x39.toNat : Int) < 97)) || (decide ((x39.toNat : Int) > 122))) && ((decide ((x39.toNat : Int) < 65)) || (decide ((x39.toNat : Int) > 90)))) && ((decide ((x39.toNat : Int) < 48)) || (decide ((x39.toNat : Int) > 57))))) rfl rfl ?_
   rcases Bool.eq_false_or_eq_true ((((decide ((x39.toNat : Int) < 97)) || (decide ((x39.toNat : Int) > 122))) && ((decide ((x39.toNat : Int) < 65)) || (decide ((x39.toNat : Int) > 90)))) && ((decide ((x39.toNat : Int) < 48)) || (decide ((x39.toNat : Int) > 57)))) with hg43 | hg43
   rotate_left
   ·replace hj := cF hg43 hj
    refine sk rfl (.inl (cb hg43)) rfl ?_
    refine sk rfl (.inl (cb hg43)) rfl ?_
    refine sk rfl (.inl (cb hg43)) rfl ?_
    refine RL.pick (b := ((((decide ((x39.toNat : Int) < 97)) || (decide ((x39.toNat : Int) > 122))) && ((decide ((x39.toNat : Int) < 65)) || (decide ((x39.toNat : Int) > 90)))) && ((decide ((x39.toNat : Int) < 48)) || (decide ((x39.toNat : Int) > 57))))) (v := (vb false)) trivial rfl rfl (by rw [hg43]; rfl) ?_
    refine RL.nil ?_
    obtain rfl := oi hj
    exact ⟨rfl, ⟨rfl, rfl, rfl, rfl, trivial⟩, hw.pick 0 [] (new := []) rfl rfl (by decide) (by decide)⟩
   replace hj := cT hg43 hj
   refine RL.move (v := (.int .u8 (x39.toNat : Int))) ⟨_, rfl, cb hg43⟩ rfl rfl ?_
   obtain ⟨x44, hx44, hj⟩ := bd hj
   refine RL.call ⟨_, rfl, cb hg43⟩ rfl fn70 [(str ⟨[95, 43, 45, 35]⟩), (.int .u8 (x39.toNat : Int))] rfl (Calls_ret (strings_IndexByte_ok N (p0 := ⟨[95, 43, 45, 35]⟩) (p1 := (x39.toNat : Int))  hw  hx44) ?_)
   rintro _ w ⟨rfl, hw⟩
   refine RL.icmp (a := x44) (b := 0) ⟨_, rfl, cb hg43⟩ rfl rfl rfl rfl ?_
   refine RL.pick (b := ((((decide ((x39.toNat : Int) < 97)) || (decide ((x39.toNat : Int) > 122))) && ((decide ((x39.toNat : Int) < 65)) || (decide ((x39.toNat : Int) > 90)))) && ((decide ((x39.toNat : Int) < 48)) || (decide ((x39.toNat : Int) > 57))))) (v := (vb (decide (x44 < 0)))) trivial rfl rfl (by rw [hg43]; rfl) ?_
   refine RL.nil ?_
   obtain rfl := oi hj
   exact ⟨rfl, ⟨rfl, rfl, rfl, rfl, trivial⟩, hw.pick 0 [] (new := []) rfl rfl (by decide) (by decide)⟩
  rintro σ w ⟨ha, hw⟩
  obtain ⟨τ, rfl⟩ := ha.ups
  refine thenQ_n ?_
  refine RC.cond (b := s42) rfl (fun hc => ?_) (fun hc => ?_)
  rotate_left
  ·replace hb := cF hc hb
   refine RC.skip ?_
   refine blkQ_n ?_
   refine thenQ_n ?_
   refine RC.region ?_
   refine RL.inc trivial rfl hk hm rfl rfl ?_
   refine mv (vi ((k31 + 1 : Nat) : Int)) rfl rfl ?_
   refine RL.nil ?_
   obtain rfl := oi hb
   exact ⟨rfl, ⟨rfl, rfl, rfl, trivial⟩, hw.pick 0 [] (new := []) rfl rfl (by decide) (by decide)⟩
  replace hb := cT hc hb
  refine RC.sr ?_
  refine as_ (vb false) rfl rfl ?_
  refine RL.nt ?_
  refine RC.rb ?_
  refine thenQ_r ?_
  obtain rfl := oi hb
  exact ⟨rfl, fin1 rfl rfl ⟨rfl, hw.drop 0 rfl⟩⟩
 ·intro r σ w e hK
  subst e
  refine thenQ_r ?_
  obtain rfl := oi hb
  exact hK
 intro s32 σ w e hJ
 subst e
 rw [Fo.cs_go] at hb
 obtain ⟨ha, hw⟩ := hJ
 obtain ⟨τ, rfl⟩ := ha.ups
 refine thenQ_n ?_
 refine RC.sr ?_
 refine mv (str p0) rfl rfl ?_
 refine RL.lens (s := p0) trivial rfl rfl un9 ?_
 obtain ⟨x45, hx45, hb⟩ := bd hb
 refine RL.call trivial rfl fn88 [(vi (p0.toL.length : Int)), (vi 1), (vi 40)] rfl (Calls_ret (etchhouseref2_within_ok N (p0 := (p0.toL.length : Int)) (p1 := 1) (p2 := 40)  hw  hx45) ?_)
 rintro _ w ⟨rfl, hw⟩
 refine as_ (vb x45) rfl rfl ?_
 refine RL.nt ?_
 refine RC.ret ?_
 obtain rfl := oi hb
 exact fin1 rfl rfl ⟨rfl, hw.drop 0 rfl⟩
end Go.Gk
