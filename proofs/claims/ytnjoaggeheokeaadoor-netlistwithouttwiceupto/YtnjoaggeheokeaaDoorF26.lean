/-
  Printed by gen.py: Go functions as plain functions, and that they are.
-/
import Derived.Test.YtnjoaggeheokeaaDoorT
import Derived.Test.YtnjoaggeheokeaaDoorF2
import Derived.Test.YtnjoaggeheokeaaDoorF14
set_option linter.unusedVariables false
set_option linter.unusedSimpArgs false
set_option linter.unusedSectionVars false
set_option maxRecDepth 100000
set_option maxHeartbeats 4000000

namespace Go.Gk
open Go Go.Proofs
def netlist_Without_c1_R (E : World) (Γ : List HP) (res : Bool) (v : Value) (w : World) : Prop := v = (vb res) ∧ Holds E w Γ
def netlist_Without_c1_K (E : World) (Γ : List HP) (r : Bool) (σ : Nat → Value) (w : World) : Prop := finQ Tryd.prog 9 Tryd.f73 (netlist_Without_c1_R E Γ r) .ret σ w
theorem netlist_Without_c1_ok (N : Nat) {E w : World} {Γ : List HP} {p0 : Str} {i1 : Nat} {v1 : Value} {p1 : Netlist} {res : Bool} (hw : Holds E w Γ) (h1 : Γ[i1]? = some (pt v1 p1)) (hb : netlist_Without_c1 N p0 p1 = some res) :
    Calls Tryd.prog 73 [(str p0), v1].toArray w (Ret (netlist_Without_c1_R E Γ res)) := by
 unfold netlist_Without_c1 at hb
 refine enter Tryd.func73 rfl rfl (Nat.le_of_ble_eq_true rfl) ?_
 have hw := hw.dup_pt (i := i1 + 0) h1
 refine RC.sr ?_
 refine as_ (vb false) rfl rfl ?_
 refine RL.ns ?_
 refine RL.fa_pt (i := 0) (f := fun (x : Netlist) => x.Parts) trivial rfl hw rfl rfl fa26_0 fd_Netlist_0 fun v31 hw => ?_
 refine RL.load_pt (i := 0) (x := p1.Parts) trivial rfl hw rfl rfl ty23 fun v32 hw => ?_
 refine mv (str p0) rfl rfl ?_
 obtain ⟨x33, hx33, hb⟩ := bd hb
 refine RL.call trivial rfl fn51 [v32, (str p0)] rfl (Calls_ret (netlist_partAt_ok N (p1 := p0) (i0 := 0) hw rfl hx33) ?_)
 rintro _ w ⟨rfl, hw⟩
 refine ic x33 0 rfl rfl rfl rfl ?_
 refine as_ (vb (decide (x33 ≥ 0))) rfl rfl ?_
 refine RL.nt ?_
 refine RC.ret ?_
 obtain rfl := oi hb
 exact fin1 rfl rfl ⟨rfl, hw.drop 3 rfl⟩
def slices_Clone_Part_R (E : World) (Γ : List HP) (res : (List Part)) (v : Value) (w : World) : Prop := Holds E w (own 87 v res :: Γ)
def slices_Clone_Part_K (E : World) (Γ : List HP) (r : (List Part)) (σ : Nat → Value) (w : World) : Prop := finQ Tryd.prog 8 Tryd.f116 (slices_Clone_Part_R E Γ r) .ret σ w
theorem slices_Clone_Part_ok (N : Nat) {E w : World} {Γ : List HP} {i0 : Nat} {v0 : Value} {p0 : (List Part)} {res : (List Part)} (hw : Holds E w Γ) (h0 : Γ[i0]? = some (rd v0 p0)) (hb : slices_Clone_Part N p0 = some res) :
    Calls Tryd.prog 116 [v0].toArray w (Ret (slices_Clone_Part_R E Γ res)) := by
 unfold slices_Clone_Part at hb
 refine enter Tryd.func116 rfl rfl (Nat.le_of_ble_eq_true rfl) ?_
 have hw := hw.dup (i := i0 + 0) h0
 refine RC.sr ?_
 refine as_ (.slice none 0 0) rfl rfl ?_
 refine RL.nq ?_
 refine RC.sr ?_
 refine mv v0 rfl rfl ?_
 refine RL.eqnil (i := 0) trivial rfl hw rfl rfl rfl un23 ?_
 refine RL.nt ?_
 refine RC.cond (b := (nilV v0)) rfl (fun hc => ?_) (fun hc => ?_)
 ·have hx := hw.nilx (i := 0) rfl hc
  rw [hx] at hb
  replace hb : some ([] : (List Part)) = _ := hb
  refine RC.sr ?_
  refine as_ (.slice none 0 0) rfl rfl ?_
  refine RL.nt ?_
  refine RC.rt ?_
  obtain rfl := oi hb
  have hw := hw.own_nil Part 87
  exact fin1 rfl rfl (hw.pick 2 [0] (new := [own 87 (.slice none 0 0) ([] : (List Part))]) rfl rfl (by decide) (by decide))
 refine RC.sx ?_
 refine RL.bslice (l := ([] : (List Part))) trivial rfl hw [] rfl rfl rfl sl23 ze87 (fun M hs g => trivial) fun v31 w hw => ?_
 refine mv v0 rfl rfl ?_
 obtain ⟨x32, hx32, hb⟩ := bd hb
 refine RL.app (i := 0) (j := 1) trivial rfl hw rfl rfl rfl rfl el23 hx32 fun v33 w hw => ?_
 refine as_ v33 rfl rfl ?_
 refine RL.nt ?_
 refine RC.ret ?_
 obtain rfl := oi hb
 exact fin1 rfl rfl (hw.pick 2 [0] (new := [own 87 v33 x32]) rfl rfl (by decide) (by decide))
def slices_Clone_Net_R (E : World) (Γ : List HP) (res : (List Net)) (v : Value) (w : World) : Prop := Holds E w (own 64 v res :: Γ)
def slices_Clone_Net_K (E : World) (Γ : List HP) (r : (List Net)) (σ : Nat → Value) (w : World) : Prop := finQ Tryd.prog 8 Tryd.f117 (slices_Clone_Net_R E Γ r) .ret σ w
theorem slices_Clone_Net_ok (N : Nat) {E w : World} {Γ : List HP} {i0 : Nat} {v0 : Value} {p0 : (List Net)} {res : (List Net)} (hw : Holds E w Γ) (h0 : Γ[i0]? = some (rd v0 p0)) (hb : slices_Clone_Net N p0 = some res) :
    Calls Tryd.prog 117 [v0].toArray w (Ret (slices_Clone_Net_R E Γ res)) := by
 unfold slices_Clone_Net at hb
 refine enter Tryd.func117 rfl rfl (Nat.le_of_ble_eq_true rfl) ?_
 have hw := hw.dup (i := i0 + 0) h0
 refine RC.sr ?_
 refine as_ (.slice none 0 0) rfl rfl ?_
 refine RL.nq ?_
 refine RC.sr ?_
 refine mv v0 rfl rfl ?_
 refine RL.eqnil (i := 0) trivial rfl hw rfl rfl rfl un24 ?_
 refine RL.nt ?_
 refine RC.cond (b := (nilV v0)) rfl (fun hc => ?_) (fun hc => ?_)
 ·have hx := hw.nilx (i := 0) rfl hc
  rw [hx] at hb
  replace hb : some ([] : (List Net)) = _ := hb
  refine RC.sr ?_
  refine as_ (.slice none 0 0) rfl rfl ?_
  refine RL.nt ?_
  refine RC.rt ?_
  obtain rfl := oi hb
  have hw := hw.own_nil Net 64
  exact fin1 rfl rfl (hw.pick 2 [0] (new := [own 64 (.slice none 0 0) ([] : (List Net))]) rfl rfl (by decide) (by decide))
 refine RC.sx ?_
 refine RL.bslice (l := ([] : (List Net))) trivial rfl hw [] rfl rfl rfl sl24 ze64 (fun M hs g => trivial) fun v31 w hw => ?_
 refine mv v0 rfl rfl ?_
 obtain ⟨x32, hx32, hb⟩ := bd hb
 refine RL.app (i := 0) (j := 1) trivial rfl hw rfl rfl rfl rfl el24 hx32 fun v33 w hw => ?_
 refine as_ v33 rfl rfl ?_
 refine RL.nt ?_
 refine RC.ret ?_
 obtain rfl := oi hb
 exact fin1 rfl rfl (hw.pick 2 [0] (new := [own 64 v33 x32]) rfl rfl (by decide) (by decide))
def netlist_Own_R (E : World) (Γ : List HP) (res : ((List Part) × (List Net))) (v : Value) (w : World) : Prop := ∃ (u0_0 : Value) (u0_1 : Value) (uw0_1 : List Net_r1), v = (.agg ([u0_0, u0_1] : List Value).toArray) ∧ Holds E w (own 87 u0_0 res.1 :: own 64 u0_1 uw0_1 :: bag XF_Net_r1 uw0_1 res.2 none :: Γ)
def netlist_Own_K (E : World) (Γ : List HP) (r : ((List Part) × (List Net))) (σ : Nat → Value) (w : World) : Prop := finQ Tryd.prog 37 Tryd.f74 (netlist_Own_R E Γ r) .ret σ w
theorem netlist_Own_ok (N : Nat) {E w : World} {Γ : List HP} {i0 : Nat} {v0 : Value} {p0 : Netlist} {res : ((List Part) × (List Net))} (hw : Holds E w Γ) (h0 : Γ[i0]? = some (rd v0 p0)) (hb : netlist_Own N p0 = some res) :
    Calls Tryd.prog 74 [v0].toArray w (Ret (netlist_Own_R E Γ res)) := by
 unfold netlist_Own at hb
 refine enter Tryd.func74 rfl rfl (Nat.le_of_ble_eq_true rfl) ?_
 have hw := hw.dup (i := i0 + 0) h0
 refine RC.sr ?_
 refine RL.box_rd (i := 0) (v := v0) trivial rfl hw rfl rfl fun b31 w hw => ?_
 refine RL.alloc_bc trivial rfl hw zc26 rfl fun b32 w hw => ?_
 refine RL.nq ?_
 obtain ⟨x34, hx34, hb⟩ := bd hb
 obtain ⟨x37, hx37, hb⟩ := bd hb
 refine RC.drw mixed rfl (fun (D : Nat → Bool) (σ : Nat → Value) (w : World) => ∃ (v33 : Value) (v35 : Value) (v36 : Value) (v38 : Value) (v40 : Value), doneV D σ [(0, 4, (vp b31 0)), (1, 5, v33), (2, 6, v35), (3, 7, (vp b31 1)), (4, 8, v36), (5, 9, v38), (6, 10, (vp b31 0)), (8, 11, (vp b31 1))] ∧ agree σ [(1, (vp b31 0)), (2, (vp b32 0))] ∧ Holds E w ([bif D 1 then (rd v33 p0.Parts) else junk, bif D 2 then (own 87 v35 x34) else junk, bif D 4 then (rd v36 p0.Nets) else junk, bif D 5 then (own 64 v38 x37) else junk, bif D 7 then (rd v40 p0.Nets) else junk, bc 26 b32 [(.slice none 0 0), (.slice none 0 0)], bif D 9 then (bc 26 b31 [v35, v38]) else (bif D 7 then (bc 26 b31 [v35, v40]) else (bx 26 b31 p0)), rd v0 p0] ++ Γ)) ?_ ⟨?_, ?_, ?_, ?_, ?_, ?_, ?_, ?_, ?_, ?_, trivial⟩ ?_
 ·have hw := hw.drew
  have hw := hw.junk
  have hw := hw.junk
  have hw := hw.junk
  have hw := hw.junk
  have hw := hw.junk
  exact ⟨undef, undef, undef, undef, undef, doneV.none, ⟨rfl, rfl, trivial⟩, hw⟩
 ·rintro D σ w hD hdep hcl ⟨v33, v35, v36, v38, v40, hv, ha, hw⟩
  obtain ⟨τ, rfl⟩ := (ac (ha.at 0 rfl) az).ups
  refine RL.fa_b trivial rfl rfl fa26_0 ?_
  refine RL.nil ?_
  exact ⟨rfl, v33, v35, v36, v38, v40, hv.put 0 rfl rfl, ha.up rfl, hw⟩
 ·rintro D σ w hD hdep hcl ⟨v33, v35, v36, v38, v40, hv, ha, hw⟩
  obtain ⟨τ, rfl⟩ := (ac (hv.at 0 rfl (hdep.1 rfl)) az).ups
  have hw := hw.selF (i := 0) rfl hD
  have hw := hw.selF (i := 6) rfl (nf (fun h => ft hD ((hcl 9 _ rfl h).2.2.2.2.1 rfl)))
  have hw := hw.selF (i := 6) rfl (nf (fun h => ft hD ((hcl 7 _ rfl h).2.2.2.2.1 rfl)))
  refine RL.load_bf (i := 6) (f := (fun x => x.Parts)) trivial rfl hw rfl rfl fd_Netlist_0 ty23 fun v41 hw => ?_
  have hw := hw.pick 9 [0, 2, 3, 4, 5, 6, 7, 8] (new := [rd v41 p0.Parts, bif D 2 then (own 87 v35 x34) else junk, bif D 4 then (rd v36 p0.Nets) else junk, bif D 5 then (own 64 v38 x37) else junk, bif D 7 then (rd v40 p0.Nets) else junk, bc 26 b32 [(.slice none 0 0), (.slice none 0 0)], bx 26 b31 p0, rd v0 p0]) rfl rfl (by decide) (by decide)
  have hw := hw.altT (i := 0) (b := true) rfl rfl (junk)
  have hw := hw.altF (i := 6) (b := D 7) rfl (nf (fun h => ft hD ((hcl 7 _ rfl h).2.2.2.2.1 rfl))) (bc 26 b31 [v35, v40])
  have hw := hw.altF (i := 6) (b := D 9) rfl (nf (fun h => ft hD ((hcl 9 _ rfl h).2.2.2.2.1 rfl))) (bc 26 b31 [v35, v38])
  refine RL.nil ?_
  exact ⟨rfl, v41, v35, v36, v38, v40, hv.put 1 rfl rfl, ha.up rfl, hw⟩
 ·rintro D σ w hD hdep hcl ⟨v33, v35, v36, v38, v40, hv, ha, hw⟩
  obtain ⟨τ, rfl⟩ := (ac (hv.at 1 rfl (hdep.1 rfl)) az).ups
  have hw := hw.selT (i := 0) rfl (hdep.1 rfl)
  have hw := hw.selF (i := 1) rfl hD
  have hw := hw.selF (i := 6) rfl (nf (fun h => ft hD ((hcl 9 _ rfl h).2.2.2.2.2.1 rfl)))
  have hw := hw.selF (i := 6) rfl (nf (fun h => ft hD ((hcl 7 _ rfl h).2.1 rfl)))
  refine RL.call trivial rfl fn116 [v33] rfl (Calls_ret (slices_Clone_Part_ok N  (i0 := 0) hw rfl hx34) ?_)
  rintro v42 w hw
  have hw := hw.pick 9 [1, 0, 3, 4, 5, 6, 7, 8] (new := [rd v33 p0.Parts, own 87 v42 x34, bif D 4 then (rd v36 p0.Nets) else junk, bif D 5 then (own 64 v38 x37) else junk, bif D 7 then (rd v40 p0.Nets) else junk, bc 26 b32 [(.slice none 0 0), (.slice none 0 0)], bx 26 b31 p0, rd v0 p0]) rfl rfl (by decide) (by decide)
  have hw := hw.altT (i := 0) (b := D 1) rfl (hdep.1 rfl) (junk)
  have hw := hw.altT (i := 1) (b := true) rfl rfl (junk)
  have hw := hw.altF (i := 6) (b := D 7) rfl (nf (fun h => ft hD ((hcl 7 _ rfl h).2.1 rfl))) (bc 26 b31 [v42, v40])
  have hw := hw.altF (i := 6) (b := D 9) rfl (nf (fun h => ft hD ((hcl 9 _ rfl h).2.2.2.2.2.1 rfl))) (bc 26 b31 [v42, v38])
  refine RL.nil ?_
  exact ⟨rfl, v33, v42, v36, v38, v40, hv.put 2 rfl rfl, ha.up rfl, hw⟩
 ·rintro D σ w hD hdep hcl ⟨v33, v35, v36, v38, v40, hv, ha, hw⟩
  obtain ⟨τ, rfl⟩ := (ac (ha.at 0 rfl) az).ups
  refine RL.fa_b trivial rfl rfl fa26_1 ?_
  refine RL.nil ?_
  exact ⟨rfl, v33, v35, v36, v38, v40, hv.put 3 rfl rfl, ha.up rfl, hw⟩
 ·rintro D σ w hD hdep hcl ⟨v33, v35, v36, v38, v40, hv, ha, hw⟩
  obtain ⟨τ, rfl⟩ := (ac (hv.at 3 rfl (hdep.1 rfl)) az).ups
  have hw := hw.selF (i := 2) rfl hD
  have hw := hw.selF (i := 6) rfl (nf (fun h => ft hD ((hcl 9 _ rfl h).2.2.2.2.2.2.2.1 rfl)))
  have hw := hw.selF (i := 6) rfl (nf (fun h => ft hD ((hcl 7 _ rfl h).2.2.2.2.2.2.2.1 rfl)))
  refine RL.load_bf (i := 6) (f := (fun x => x.Nets)) trivial rfl hw rfl rfl fd_Netlist_1 ty24 fun v43 hw => ?_
  have hw := hw.pick 9 [1, 2, 0, 4, 5, 6, 7, 8] (new := [bif D 1 then (rd v33 p0.Parts) else junk, bif D 2 then (own 87 v35 x34) else junk, rd v43 p0.Nets, bif D 5 then (own 64 v38 x37) else junk, bif D 7 then (rd v40 p0.Nets) else junk, bc 26 b32 [(.slice none 0 0), (.slice none 0 0)], bx 26 b31 p0, rd v0 p0]) rfl rfl (by decide) (by decide)
  have hw := hw.altT (i := 2) (b := true) rfl rfl (junk)
  have hw := hw.altF (i := 6) (b := D 7) rfl (nf (fun h => ft hD ((hcl 7 _ rfl h).2.2.2.2.2.2.2.1 rfl))) (bc 26 b31 [v35, v40])
  have hw := hw.altF (i := 6) (b := D 9) rfl (nf (fun h => ft hD ((hcl 9 _ rfl h).2.2.2.2.2.2.2.1 rfl))) (bc 26 b31 [v35, v38])
  refine RL.nil ?_
  exact ⟨rfl, v33, v35, v43, v38, v40, hv.put 4 rfl rfl, ha.up rfl, hw⟩
 ·rintro D σ w hD hdep hcl ⟨v33, v35, v36, v38, v40, hv, ha, hw⟩
  obtain ⟨τ, rfl⟩ := (ac (hv.at 4 rfl (hdep.1 rfl)) az).ups
  have hw := hw.selT (i := 2) rfl (hdep.1 rfl)
  have hw := hw.selF (i := 3) rfl hD
  have hw := hw.selF (i := 6) rfl (nf (fun h => ft hD ((hcl 9 _ rfl h).2.1 rfl)))
  have hw := hw.selF (i := 6) rfl (nf (fun h => ft hD ((hcl 7 _ rfl h).2.2.1 rfl)))
  refine RL.call trivial rfl fn117 [v36] rfl (Calls_ret (slices_Clone_Net_ok N  (i0 := 2) hw rfl hx37) ?_)
  rintro v44 w hw
  have hw := hw.pick 9 [1, 2, 3, 0, 5, 6, 7, 8] (new := [bif D 1 then (rd v33 p0.Parts) else junk, bif D 2 then (own 87 v35 x34) else junk, rd v36 p0.Nets, own 64 v44 x37, bif D 7 then (rd v40 p0.Nets) else junk, bc 26 b32 [(.slice none 0 0), (.slice none 0 0)], bx 26 b31 p0, rd v0 p0]) rfl rfl (by decide) (by decide)
  have hw := hw.altT (i := 2) (b := D 4) rfl (hdep.1 rfl) (junk)
  have hw := hw.altT (i := 3) (b := true) rfl rfl (junk)
  have hw := hw.altF (i := 6) (b := D 7) rfl (nf (fun h => ft hD ((hcl 7 _ rfl h).2.2.1 rfl))) (bc 26 b31 [v35, v40])
  have hw := hw.altF (i := 6) (b := D 9) rfl (nf (fun h => ft hD ((hcl 9 _ rfl h).2.1 rfl))) (bc 26 b31 [v35, v44])
  refine RL.nil ?_
  exact ⟨rfl, v33, v35, v36, v44, v40, hv.put 5 rfl rfl, ha.up rfl, hw⟩
 ·rintro D σ w hD hdep hcl ⟨v33, v35, v36, v38, v40, hv, ha, hw⟩
  obtain ⟨τ, rfl⟩ := (ac (ha.at 0 rfl) az).ups
  refine RL.fa_b trivial rfl rfl fa26_0 ?_
  refine RL.nil ?_
  exact ⟨rfl, v33, v35, v36, v38, v40, hv.put 6 rfl rfl, ha.up rfl, hw⟩
 ·rintro D σ w hD hdep hcl ⟨v33, v35, v36, v38, v40, hv, ha, hw⟩
  obtain ⟨τ, rfl⟩ := (ac (hv.at 2 rfl (hdep.2.1 rfl)) (ac (hv.at 6 rfl (hdep.1 rfl)) az)).ups
  have hw := hw.selT (i := 1) rfl (hdep.2.1 rfl)
  have hw := hw.selF (i := 4) rfl hD
  have hw := hw.selF (i := 6) rfl (nf (fun h => ft hD ((hcl 9 _ rfl h).2.2.1 rfl)))
  have hw := hw.selF (i := 6) rfl hD
  obtain ⟨cs, hcs, hw⟩ := hw.open_bx (i := 6) rfl
  obtain ⟨v45, v46, rfl⟩ := len2 hcs
  have hw := hw.fld (i := 0) (k := 0) (f := fun x => x.Parts) rfl fd_Netlist_0 rfl rfl rfl
  have hw := hw.fld (i := 1) (k := 1) (f := fun x => x.Nets) rfl fd_Netlist_1 rfl rfl rfl
  refine RL.store_bc (i := 9) (v := v35) trivial hw rfl rfl rfl rfl (one_own hw (i := 4) rfl) ty23 fun w hw => ?_
  have hw := hw.pick 11 [3, 4, 5, 6, 0, 8, 9, 10] (new := [bif D 1 then (rd v33 p0.Parts) else junk, own 87 v35 x34, bif D 4 then (rd v36 p0.Nets) else junk, bif D 5 then (own 64 v38 x37) else junk, rd v46 p0.Nets, bc 26 b32 [(.slice none 0 0), (.slice none 0 0)], bc 26 b31 [v35, v46], rd v0 p0]) rfl rfl (by decide) (by decide)
  have hw := hw.altT (i := 1) (b := D 2) rfl (hdep.2.1 rfl) (junk)
  have hw := hw.altT (i := 4) (b := true) rfl rfl (junk)
  have hw := hw.altT (i := 6) (b := true) rfl rfl (bx 26 b31 p0)
  have hw := hw.altF (i := 6) (b := D 9) rfl (nf (fun h => ft hD ((hcl 9 _ rfl h).2.2.1 rfl))) (bc 26 b31 [v35, v38])
  refine RL.nil ?_
  exact ⟨rfl, v33, v35, v36, v38, v46, hv.no rfl, ha, hw⟩
 ·rintro D σ w hD hdep hcl ⟨v33, v35, v36, v38, v40, hv, ha, hw⟩
  obtain ⟨τ, rfl⟩ := (ac (ha.at 0 rfl) az).ups
  refine RL.fa_b trivial rfl rfl fa26_1 ?_
  refine RL.nil ?_
  exact ⟨rfl, v33, v35, v36, v38, v40, hv.put 7 rfl rfl, ha.up rfl, hw⟩
 ·rintro D σ w hD hdep hcl ⟨v33, v35, v36, v38, v40, hv, ha, hw⟩
  obtain ⟨τ, rfl⟩ := (ac (hv.at 5 rfl (hdep.2.1 rfl)) (ac (hv.at 7 rfl (hdep.1 rfl)) az)).ups
  have hw := hw.selT (i := 3) rfl (hdep.2.1 rfl)
  have hw := hw.selF (i := 6) rfl hD
  have hw := hw.selT (i := 6) rfl (hdep.2.2.1 rfl)
  refine RL.store_bc (i := 6) (v := v38) trivial hw rfl rfl rfl rfl (one_own hw (i := 3) rfl) ty24 fun w hw => ?_
  have hw := hw.altT (i := 3) (b := D 5) rfl (hdep.2.1 rfl) (junk)
  have hw := hw.altT (i := 6) (b := true) rfl rfl (bif D 7 then (bc 26 b31 [v35, v40]) else (bx 26 b31 p0))
  refine RL.nil ?_
  exact ⟨rfl, v33, v35, v36, v38, v40, hv.no rfl, ha, hw⟩
 rintro D σ w hall ⟨v33, v35, v36, v38, v40, hv, ha, hw⟩
 rw [hall 1 (by decide), hall 2 (by decide), hall 4 (by decide), hall 5 (by decide), hall 7 (by decide), hall 9 (by decide)] at hw
 obtain ⟨τ, rfl⟩ := (ac (ha.at 0 rfl) (ac (ha.at 1 rfl) az)).ups
 refine thenQ_n ?_
 refine RC.seq ?_
 refine RC.sr ?_
 refine RL.fa_b trivial rfl rfl fa26_1 ?_
 refine RL.load_bc (i := 6) (v := v38) trivial rfl hw rfl rfl rfl ty24 ?_
 refine RL.len_own (i := 3) (l := x37) trivial rfl hw rfl rfl un24 ?_
 refine mv (vi 0) rfl rfl ?_
 refine RL.nt ?_
 obtain ⟨us47, hw⟩ := Holds.to_flags (X := XF_Net_r1) (f := fun u => u.Pins) (gg := fun x => x.Pins) (j := 3) rfl xraw_Net_r1 hw rfl
 obtain ⟨s49, hN, hb⟩ := bd hb
 refine RC.fold (fun (k48 : Nat) (s49 : (List (Bool × Net))) (σ : Nat → Value) (w : World) => ∃ (us138 : List Net_r1), agree σ [(1, (vp b31 0)), (2, (vp b32 0)), (14, (vi (x37.length : Int))), (15, (vi (k48 : Int)))] ∧ Holds E w ([bc 26 b31 [v35, v38], own 87 v35 x34, own 64 v38 us138, bag (XB XF_Net_r1 (fun u => u.Pins) (fun x => x.Pins)) us138 s49 none, bc 26 b32 [(.slice none 0 0), (.slice none 0 0)]] ++ Γ)) (fun (s49 : (List (Bool × Net))) (σ : Nat → Value) (w : World) => ∃ (us139 : List Net_r1), agree σ [(1, (vp b31 0)), (2, (vp b32 0))] ∧ Holds E w ([bc 26 b31 [v35, v38], own 87 v35 x34, own 64 v38 us139, bag (XB XF_Net_r1 (fun u => u.Pins) (fun x => x.Pins)) us139 s49 none, bc 26 b32 [(.slice none 0 0), (.slice none 0 0)]] ++ Γ)) hN ?_ ?_ ?_ ?_
 ·exact ⟨us47, ⟨rfl, rfl, rfl, rfl, trivial⟩, hw.pick 9 [7, 2, 4, 0, 6] (new := [bc 26 b31 [v35, v38], own 87 v35 x34, own 64 v38 us47, bag (XB XF_Net_r1 (fun u => u.Pins) (fun x => x.Pins)) us47 (x37.map fun x => (false, x)) none, bc 26 b32 [(.slice none 0 0), (.slice none 0 0)]]) rfl rfl (by decide) (by decide)⟩
 ·intro hm s49 σ w hI
  obtain ⟨us184, ha, hw⟩ := hI
  obtain ⟨τ, rfl⟩ := ha.ups
  refine RC.sr ?_
  refine ic ((x37.length : Int)) ((x37.length : Int)) rfl rfl rfl rfl ?_
  refine RL.nq ?_
  refine RC.cond_f dge ?_
  refine RC.ex ?_
  exact ⟨rfl, us184, ⟨rfl, rfl, trivial⟩, hw.pick 5 [0, 1, 2, 3, 4] (new := [bc 26 b31 [v35, v38], own 87 v35 x34, own 64 v38 us184, bag (XB XF_Net_r1 (fun u => u.Pins) (fun x => x.Pins)) us184 s49 none, bc 26 b32 [(.slice none 0 0), (.slice none 0 0)]]) rfl rfl (by decide) (by decide)⟩
 ·intro hm k48 s49 s' σ w hk hI hb
  obtain ⟨us140, ha, hw⟩ := hI
  obtain ⟨τ, rfl⟩ := ha.ups
  refine RC.sr ?_
  refine ic ((k48 : Int)) ((x37.length : Int)) rfl rfl rfl rfl ?_
  refine RL.nq ?_
  refine RC.cond_t (dlt hk) ?_
  refine RC.ss ?_
  refine RC.bs ?_
  refine mv (vi (k48 : Int)) rfl rfl ?_
  refine as_ (vi (k48 : Int)) rfl rfl ?_
  refine RL.nt ?_
  obtain ⟨x141, hx141, hb⟩ := bd hb
  obtain ⟨x148, hx148, hb⟩ := bd hb
  obtain ⟨x149, hx149, hb⟩ := bd hb
  obtain ⟨x151, hx151, hb⟩ := bd hb
  obtain ⟨x158, hx158, hb⟩ := bd hb
  refine RC.drw mixed rfl (fun (D : Nat → Bool) (σ : Nat → Value) (w : World) => ∃ (v150 : Value), doneV D σ [(0, 18, (vp b31 1)), (1, 19, v38), (2, 20, (vi (k48 : Int))), (3, 21, (vp b31 1)), (4, 22, v38), (5, 23, (vi (k48 : Int))), (6, 24, (vp b31 1)), (7, 25, v38), (8, 26, (vi (k48 : Int))), (9, 27, (elA v38 (Int.toNat (k48 : Int)) 3 0)), (10, 28, (elA v38 (Int.toNat (k48 : Int)) 3 1)), (11, 29, (us140.getD (Int.toNat (k48 : Int)) (default : Net_r1)).Pins.v), (12, 30, v150), (13, 31, (elA v38 (Int.toNat (k48 : Int)) 3 0)), (14, 32, (elA v38 (Int.toNat (k48 : Int)) 3 1)), (16, 33, (elA v38 (Int.toNat (k48 : Int)) 3 0)), (17, 34, (elA v38 (Int.toNat (k48 : Int)) 3 2))] ∧ agree σ [(1, (vp b31 0)), (2, (vp b32 0)), (3, (vi (k48 : Int))), (14, (vi (x37.length : Int))), (15, (vi (k48 : Int)))] ∧ Holds E w ([bif D 11 then (rd (us140.getD (Int.toNat (k48 : Int)) (default : Net_r1)).Pins.v x148.Pins) else junk, bif D 15 then (junk) else (bif D 12 then (own 28 v150 x149) else junk), bc 26 b31 [v35, v38], own 87 v35 x34, bif D 18 then (own 64 v38 ((us140.set (Int.toNat (k48 : Int)) { (us140.getD (Int.toNat (k48 : Int)) (default : Net_r1)) with Pins := rv v150 }).set (Int.toNat (k48 : Int)) { ((us140.set (Int.toNat (k48 : Int)) { (us140.getD (Int.toNat (k48 : Int)) (default : Net_r1)) with Pins := rv v150 }).getD (Int.toNat (k48 : Int)) (default : Net_r1)) with Ports := ([] : (List Str)) })) else (bif D 15 then (own 64 v38 (us140.set (Int.toNat (k48 : Int)) { (us140.getD (Int.toNat (k48 : Int)) (default : Net_r1)) with Pins := rv v150 })) else (own 64 v38 us140)), bif D 18 then (bag (XB XF_Net_r1 (fun u => u.Pins) (fun x => x.Pins)) ((us140.set (Int.toNat (k48 : Int)) { (us140.getD (Int.toNat (k48 : Int)) (default : Net_r1)) with Pins := rv v150 }).set (Int.toNat (k48 : Int)) { ((us140.set (Int.toNat (k48 : Int)) { (us140.getD (Int.toNat (k48 : Int)) (default : Net_r1)) with Pins := rv v150 }).getD (Int.toNat (k48 : Int)) (default : Net_r1)) with Ports := ([] : (List Str)) }) ((s49.set (Int.toNat (k48 : Int)) (true, { x151.2 with Pins := x149 })).set (Int.toNat (k48 : Int)) (x158.1, { x158.2 with Ports := ([] : (List Str)) })) none) else (bif D 15 then (bag (XB XF_Net_r1 (fun u => u.Pins) (fun x => x.Pins)) (us140.set (Int.toNat (k48 : Int)) { (us140.getD (Int.toNat (k48 : Int)) (default : Net_r1)) with Pins := rv v150 }) (s49.set (Int.toNat (k48 : Int)) (true, { x151.2 with Pins := x149 })) none) else (bag (XB XF_Net_r1 (fun u => u.Pins) (fun x => x.Pins)) us140 s49 none)), bc 26 b32 [(.slice none 0 0), (.slice none 0 0)]] ++ Γ)) ?_ ⟨?_, ?_, ?_, ?_, ?_, ?_, ?_, ?_, ?_, ?_, ?_, ?_, ?_, ?_, ?_, ?_, ?_, ?_, ?_, trivial⟩ ?_
  ·have hw := hw.drew
   have hw := hw.junk
   have hw := hw.junk
   exact ⟨undef, doneV.none, ⟨rfl, rfl, rfl, rfl, rfl, trivial⟩, hw⟩
  ·rintro D σ w hD hdep hcl ⟨v150, hv, ha, hw⟩
   obtain ⟨τ, rfl⟩ := (ac (ha.at 0 rfl) az).ups
   refine RL.fa_b trivial rfl rfl fa26_1 ?_
   refine RL.nil ?_
   exact ⟨rfl, v150, hv.put 0 rfl rfl, ha.up rfl, hw⟩
  ·rintro D σ w hD hdep hcl ⟨v150, hv, ha, hw⟩
   obtain ⟨τ, rfl⟩ := (ac (hv.at 0 rfl (hdep.1 rfl)) az).ups
   refine RL.load_bc (i := 2) (v := v38) trivial rfl hw rfl rfl rfl ty24 ?_
   refine RL.nil ?_
   exact ⟨rfl, v150, hv.put 1 rfl rfl, ha.up rfl, hw⟩
  ·rintro D σ w hD hdep hcl ⟨v150, hv, ha, hw⟩
   obtain ⟨τ, rfl⟩ := (ac (ha.at 2 rfl) az).ups
   refine mv (vi (k48 : Int)) rfl rfl ?_
   refine RL.nil ?_
   exact ⟨rfl, v150, hv.put 2 rfl rfl, ha.up rfl, hw⟩
  ·rintro D σ w hD hdep hcl ⟨v150, hv, ha, hw⟩
   obtain ⟨τ, rfl⟩ := (ac (ha.at 0 rfl) az).ups
   refine RL.fa_b trivial rfl rfl fa26_1 ?_
   refine RL.nil ?_
   exact ⟨rfl, v150, hv.put 3 rfl rfl, ha.up rfl, hw⟩
  ·rintro D σ w hD hdep hcl ⟨v150, hv, ha, hw⟩
   obtain ⟨τ, rfl⟩ := (ac (hv.at 3 rfl (hdep.1 rfl)) az).ups
   refine RL.load_bc (i := 2) (v := v38) trivial rfl hw rfl rfl rfl ty24 ?_
   refine RL.nil ?_
   exact ⟨rfl, v150, hv.put 4 rfl rfl, ha.up rfl, hw⟩
  ·rintro D σ w hD hdep hcl ⟨v150, hv, ha, hw⟩
   obtain ⟨τ, rfl⟩ := (ac (ha.at 2 rfl) az).ups
   refine mv (vi (k48 : Int)) rfl rfl ?_
   refine RL.nil ?_
   exact ⟨rfl, v150, hv.put 5 rfl rfl, ha.up rfl, hw⟩
  ·rintro D σ w hD hdep hcl ⟨v150, hv, ha, hw⟩
   obtain ⟨τ, rfl⟩ := (ac (ha.at 0 rfl) az).ups
   refine RL.fa_b trivial rfl rfl fa26_1 ?_
   refine RL.nil ?_
   exact ⟨rfl, v150, hv.put 6 rfl rfl, ha.up rfl, hw⟩
  ·rintro D σ w hD hdep hcl ⟨v150, hv, ha, hw⟩
   obtain ⟨τ, rfl⟩ := (ac (hv.at 6 rfl (hdep.1 rfl)) az).ups
   refine RL.load_bc (i := 2) (v := v38) trivial rfl hw rfl rfl rfl ty24 ?_
   refine RL.nil ?_
   exact ⟨rfl, v150, hv.put 7 rfl rfl, ha.up rfl, hw⟩
  ·rintro D σ w hD hdep hcl ⟨v150, hv, ha, hw⟩
   obtain ⟨τ, rfl⟩ := (ac (ha.at 2 rfl) az).ups
   refine mv (vi (k48 : Int)) rfl rfl ?_
   refine RL.nil ?_
   exact ⟨rfl, v150, hv.put 8 rfl rfl, ha.up rfl, hw⟩
  ·rintro D σ w hD hdep hcl ⟨v150, hv, ha, hw⟩
   obtain ⟨τ, rfl⟩ := (ac (hv.at 7 rfl (hdep.1 rfl)) (ac (hv.at 8 rfl (hdep.2.1 rfl)) az)).ups
   have hw := hw.selF (i := 4) rfl (nf (fun h => ft hD ((hcl 18 _ rfl h).2.2.2.2.2.2.2.2.2.2.2.1 rfl)))
   have hw := hw.selF (i := 4) rfl (nf (fun h => ft hD ((hcl 15 _ rfl h).2.2.2.2.2.2.2.2.2.2.2.2.1 rfl)))
   have hw := hw.selF (i := 5) rfl (nf (fun h => ft hD ((hcl 18 _ rfl h).2.2.2.2.2.2.2.2.2.2.2.1 rfl)))
   have hw := hw.selF (i := 5) rfl (nf (fun h => ft hD ((hcl 15 _ rfl h).2.2.2.2.2.2.2.2.2.2.2.2.1 rfl)))
   have hl165 := hw.bag_len (j := 5) rfl
   have hr166 := idx_raw (default : Net_r1) hl165 hx141
   refine RL.ia_ownA (i := 4) trivial rfl hw rfl rfl rfl sl24 hr166 ?_
   have hw := hw.altF (i := 4) (b := D 15) rfl (nf (fun h => ft hD ((hcl 15 _ rfl h).2.2.2.2.2.2.2.2.2.2.2.2.1 rfl))) (own 64 v38 (us140.set (Int.toNat (k48 : Int)) { (us140.getD (Int.toNat (k48 : Int)) (default : Net_r1)) with Pins := rv v150 }))
   have hw := hw.altF (i := 4) (b := D 18) rfl (nf (fun h => ft hD ((hcl 18 _ rfl h).2.2.2.2.2.2.2.2.2.2.2.1 rfl))) (own 64 v38 ((us140.set (Int.toNat (k48 : Int)) { (us140.getD (Int.toNat (k48 : Int)) (default : Net_r1)) with Pins := rv v150 }).set (Int.toNat (k48 : Int)) { ((us140.set (Int.toNat (k48 : Int)) { (us140.getD (Int.toNat (k48 : Int)) (default : Net_r1)) with Pins := rv v150 }).getD (Int.toNat (k48 : Int)) (default : Net_r1)) with Ports := ([] : (List Str)) }))
   have hw := hw.altF (i := 5) (b := D 15) rfl (nf (fun h => ft hD ((hcl 15 _ rfl h).2.2.2.2.2.2.2.2.2.2.2.2.1 rfl))) (bag (XB XF_Net_r1 (fun u => u.Pins) (fun x => x.Pins)) (us140.set (Int.toNat (k48 : Int)) { (us140.getD (Int.toNat (k48 : Int)) (default : Net_r1)) with Pins := rv v150 }) (s49.set (Int.toNat (k48 : Int)) (true, { x151.2 with Pins := x149 })) none)
   have hw := hw.altF (i := 5) (b := D 18) rfl (nf (fun h => ft hD ((hcl 18 _ rfl h).2.2.2.2.2.2.2.2.2.2.2.1 rfl))) (bag (XB XF_Net_r1 (fun u => u.Pins) (fun x => x.Pins)) ((us140.set (Int.toNat (k48 : Int)) { (us140.getD (Int.toNat (k48 : Int)) (default : Net_r1)) with Pins := rv v150 }).set (Int.toNat (k48 : Int)) { ((us140.set (Int.toNat (k48 : Int)) { (us140.getD (Int.toNat (k48 : Int)) (default : Net_r1)) with Pins := rv v150 }).getD (Int.toNat (k48 : Int)) (default : Net_r1)) with Ports := ([] : (List Str)) }) ((s49.set (Int.toNat (k48 : Int)) (true, { x151.2 with Pins := x149 })).set (Int.toNat (k48 : Int)) (x158.1, { x158.2 with Ports := ([] : (List Str)) })) none)
   refine RL.nil ?_
   exact ⟨rfl, v150, hv.put 9 rfl rfl, ha.up rfl, hw⟩
  ·rintro D σ w hD hdep hcl ⟨v150, hv, ha, hw⟩
   obtain ⟨τ, rfl⟩ := (ac (hv.at 9 rfl (hdep.1 rfl)) az).ups
   have hw := hw.selF (i := 4) rfl (nf (fun h => ft hD ((hcl 18 _ rfl h).2.2.2.2.2.2.2.2.2.2.2.2.1 rfl)))
   have hw := hw.selF (i := 4) rfl (nf (fun h => ft hD ((hcl 15 _ rfl h).2.2.2.2.2.2.2.2.2.2.2.2.2.1 rfl)))
   have hw := hw.selF (i := 5) rfl (nf (fun h => ft hD ((hcl 18 _ rfl h).2.2.2.2.2.2.2.2.2.2.2.2.1 rfl)))
   have hw := hw.selF (i := 5) rfl (nf (fun h => ft hD ((hcl 15 _ rfl h).2.2.2.2.2.2.2.2.2.2.2.2.2.1 rfl)))
   have hl167 := hw.bag_len (j := 5) rfl
   have hr168 := idx_raw (default : Net_r1) hl167 hx141
   refine RL.fa_elA (α := Net_r1) trivial rfl rfl (elp hw (i := 4) rfl hr168 0) fa64_1 ?_
   have hw := hw.altF (i := 4) (b := D 15) rfl (nf (fun h => ft hD ((hcl 15 _ rfl h).2.2.2.2.2.2.2.2.2.2.2.2.2.1 rfl))) (own 64 v38 (us140.set (Int.toNat (k48 : Int)) { (us140.getD (Int.toNat (k48 : Int)) (default : Net_r1)) with Pins := rv v150 }))
   have hw := hw.altF (i := 4) (b := D 18) rfl (nf (fun h => ft hD ((hcl 18 _ rfl h).2.2.2.2.2.2.2.2.2.2.2.2.1 rfl))) (own 64 v38 ((us140.set (Int.toNat (k48 : Int)) { (us140.getD (Int.toNat (k48 : Int)) (default : Net_r1)) with Pins := rv v150 }).set (Int.toNat (k48 : Int)) { ((us140.set (Int.toNat (k48 : Int)) { (us140.getD (Int.toNat (k48 : Int)) (default : Net_r1)) with Pins := rv v150 }).getD (Int.toNat (k48 : Int)) (default : Net_r1)) with Ports := ([] : (List Str)) }))
   have hw := hw.altF (i := 5) (b := D 15) rfl (nf (fun h => ft hD ((hcl 15 _ rfl h).2.2.2.2.2.2.2.2.2.2.2.2.2.1 rfl))) (bag (XB XF_Net_r1 (fun u => u.Pins) (fun x => x.Pins)) (us140.set (Int.toNat (k48 : Int)) { (us140.getD (Int.toNat (k48 : Int)) (default : Net_r1)) with Pins := rv v150 }) (s49.set (Int.toNat (k48 : Int)) (true, { x151.2 with Pins := x149 })) none)
   have hw := hw.altF (i := 5) (b := D 18) rfl (nf (fun h => ft hD ((hcl 18 _ rfl h).2.2.2.2.2.2.2.2.2.2.2.2.1 rfl))) (bag (XB XF_Net_r1 (fun u => u.Pins) (fun x => x.Pins)) ((us140.set (Int.toNat (k48 : Int)) { (us140.getD (Int.toNat (k48 : Int)) (default : Net_r1)) with Pins := rv v150 }).set (Int.toNat (k48 : Int)) { ((us140.set (Int.toNat (k48 : Int)) { (us140.getD (Int.toNat (k48 : Int)) (default : Net_r1)) with Pins := rv v150 }).getD (Int.toNat (k48 : Int)) (default : Net_r1)) with Ports := ([] : (List Str)) }) ((s49.set (Int.toNat (k48 : Int)) (true, { x151.2 with Pins := x149 })).set (Int.toNat (k48 : Int)) (x158.1, { x158.2 with Ports := ([] : (List Str)) })) none)
   refine RL.nil ?_
   exact ⟨rfl, v150, hv.put 10 rfl rfl, ha.up rfl, hw⟩
  ·rintro D σ w hD hdep hcl ⟨v150, hv, ha, hw⟩
   obtain ⟨τ, rfl⟩ := (ac (hv.at 10 rfl (hdep.1 rfl)) az).ups
   have hw := hw.selF (i := 0) rfl hD
   have hw := hw.selF (i := 4) rfl (nf (fun h => ft hD ((hcl 18 _ rfl h).2.2.2.2.2.2.2.2.2.2.2.2.2.1 rfl)))
   have hw := hw.selF (i := 4) rfl (nf (fun h => ft hD ((hcl 15 _ rfl h).2.2.2.2.2.2.2.2.2.2.2.2.2.2.1 rfl)))
   have hw := hw.selF (i := 5) rfl (nf (fun h => ft hD ((hcl 18 _ rfl h).2.2.2.2.2.2.2.2.2.2.2.2.2.1 rfl)))
   have hw := hw.selF (i := 5) rfl (nf (fun h => ft hD ((hcl 15 _ rfl h).2.2.2.2.2.2.2.2.2.2.2.2.2.2.1 rfl)))
   have hl169 := hw.bag_len (j := 5) rfl
   have hr170 := idx_raw (default : Net_r1) hl169 hx141
   refine RL.load_flag (i := 4) (b := 5) (jj := (k48 : Int)) fd_Net_r1_1 (default : Net_r1) trivial rfl hw rfl (elp hw (i := 4) rfl hr170 1) rfl rfl hx141 hx148 ty33 fun hw => ?_
   have hw := hw.pick 8 [0, 2, 3, 4, 5, 6, 7] (new := [rd (us140.getD (Int.toNat (k48 : Int)) (default : Net_r1)).Pins.v x148.Pins, bif D 15 then (junk) else (bif D 12 then (own 28 v150 x149) else junk), bc 26 b31 [v35, v38], own 87 v35 x34, own 64 v38 us140, bag (XB XF_Net_r1 (fun u => u.Pins) (fun x => x.Pins)) us140 s49 none, bc 26 b32 [(.slice none 0 0), (.slice none 0 0)]]) rfl rfl (by decide) (by decide)
   have hw := hw.altT (i := 0) (b := true) rfl rfl (junk)
   have hw := hw.altF (i := 4) (b := D 15) rfl (nf (fun h => ft hD ((hcl 15 _ rfl h).2.2.2.2.2.2.2.2.2.2.2.2.2.2.1 rfl))) (own 64 v38 (us140.set (Int.toNat (k48 : Int)) { (us140.getD (Int.toNat (k48 : Int)) (default : Net_r1)) with Pins := rv v150 }))
   have hw := hw.altF (i := 4) (b := D 18) rfl (nf (fun h => ft hD ((hcl 18 _ rfl h).2.2.2.2.2.2.2.2.2.2.2.2.2.1 rfl))) (own 64 v38 ((us140.set (Int.toNat (k48 : Int)) { (us140.getD (Int.toNat (k48 : Int)) (default : Net_r1)) with Pins := rv v150 }).set (Int.toNat (k48 : Int)) { ((us140.set (Int.toNat (k48 : Int)) { (us140.getD (Int.toNat (k48 : Int)) (default : Net_r1)) with Pins := rv v150 }).getD (Int.toNat (k48 : Int)) (default : Net_r1)) with Ports := ([] : (List Str)) }))
   have hw := hw.altF (i := 5) (b := D 15) rfl (nf (fun h => ft hD ((hcl 15 _ rfl h).2.2.2.2.2.2.2.2.2.2.2.2.2.2.1 rfl))) (bag (XB XF_Net_r1 (fun u => u.Pins) (fun x => x.Pins)) (us140.set (Int.toNat (k48 : Int)) { (us140.getD (Int.toNat (k48 : Int)) (default : Net_r1)) with Pins := rv v150 }) (s49.set (Int.toNat (k48 : Int)) (true, { x151.2 with Pins := x149 })) none)
   have hw := hw.altF (i := 5) (b := D 18) rfl (nf (fun h => ft hD ((hcl 18 _ rfl h).2.2.2.2.2.2.2.2.2.2.2.2.2.1 rfl))) (bag (XB XF_Net_r1 (fun u => u.Pins) (fun x => x.Pins)) ((us140.set (Int.toNat (k48 : Int)) { (us140.getD (Int.toNat (k48 : Int)) (default : Net_r1)) with Pins := rv v150 }).set (Int.toNat (k48 : Int)) { ((us140.set (Int.toNat (k48 : Int)) { (us140.getD (Int.toNat (k48 : Int)) (default : Net_r1)) with Pins := rv v150 }).getD (Int.toNat (k48 : Int)) (default : Net_r1)) with Ports := ([] : (List Str)) }) ((s49.set (Int.toNat (k48 : Int)) (true, { x151.2 with Pins := x149 })).set (Int.toNat (k48 : Int)) (x158.1, { x158.2 with Ports := ([] : (List Str)) })) none)
   refine RL.nil ?_
   exact ⟨rfl, v150, hv.put 11 rfl rfl, ha.up rfl, hw⟩
  ·rintro D σ w hD hdep hcl ⟨v150, hv, ha, hw⟩
   obtain ⟨τ, rfl⟩ := (ac (hv.at 11 rfl (hdep.1 rfl)) az).ups
   have hw := hw.selT (i := 0) rfl (hdep.1 rfl)
   have hw := hw.selF (i := 1) rfl (nf (fun h => ft hD ((hcl 15 _ rfl h).2.1 rfl)))
   have hw := hw.selF (i := 1) rfl hD
   have hw := hw.selF (i := 4) rfl (nf (fun h => ft hD ((hcl 18 _ rfl h).2.2.2.2.2.2.2.2.2.2.2.2.2.2.1 rfl)))
   have hw := hw.selF (i := 4) rfl (nf (fun h => ft hD ((hcl 15 _ rfl h).2.1 rfl)))
   have hw := hw.selF (i := 5) rfl (nf (fun h => ft hD ((hcl 18 _ rfl h).2.2.2.2.2.2.2.2.2.2.2.2.2.2.1 rfl)))
   have hw := hw.selF (i := 5) rfl (nf (fun h => ft hD ((hcl 15 _ rfl h).2.1 rfl)))
   refine RL.call trivial rfl fn55 [(us140.getD (Int.toNat (k48 : Int)) (default : Net_r1)).Pins.v] rfl (Calls_ret (slices_Clone_Pin_ok N  (i0 := 0) hw rfl hx149) ?_)
   rintro v171 w hw
   have hw := hw.pick 8 [1, 0, 3, 4, 5, 6, 7] (new := [rd (us140.getD (Int.toNat (k48 : Int)) (default : Net_r1)).Pins.v x148.Pins, own 28 v171 x149, bc 26 b31 [v35, v38], own 87 v35 x34, own 64 v38 us140, bag (XB XF_Net_r1 (fun u => u.Pins) (fun x => x.Pins)) us140 s49 none, bc 26 b32 [(.slice none 0 0), (.slice none 0 0)]]) rfl rfl (by decide) (by decide)
   have hw := hw.altT (i := 0) (b := D 11) rfl (hdep.1 rfl) (junk)
   have hw := hw.altT (i := 1) (b := true) rfl rfl (junk)
   have hw := hw.altF (i := 1) (b := D 15) rfl (nf (fun h => ft hD ((hcl 15 _ rfl h).2.1 rfl))) (junk)
   have hw := hw.altF (i := 4) (b := D 15) rfl (nf (fun h => ft hD ((hcl 15 _ rfl h).2.1 rfl))) (own 64 v38 (us140.set (Int.toNat (k48 : Int)) { (us140.getD (Int.toNat (k48 : Int)) (default : Net_r1)) with Pins := rv v171 }))
   have hw := hw.altF (i := 4) (b := D 18) rfl (nf (fun h => ft hD ((hcl 18 _ rfl h).2.2.2.2.2.2.2.2.2.2.2.2.2.2.1 rfl))) (own 64 v38 ((us140.set (Int.toNat (k48 : Int)) { (us140.getD (Int.toNat (k48 : Int)) (default : Net_r1)) with Pins := rv v171 }).set (Int.toNat (k48 : Int)) { ((us140.set (Int.toNat (k48 : Int)) { (us140.getD (Int.toNat (k48 : Int)) (default : Net_r1)) with Pins := rv v171 }).getD (Int.toNat (k48 : Int)) (default : Net_r1)) with Ports := ([] : (List Str)) }))
   have hw := hw.altF (i := 5) (b := D 15) rfl (nf (fun h => ft hD ((hcl 15 _ rfl h).2.1 rfl))) (bag (XB XF_Net_r1 (fun u => u.Pins) (fun x => x.Pins)) (us140.set (Int.toNat (k48 : Int)) { (us140.getD (Int.toNat (k48 : Int)) (default : Net_r1)) with Pins := rv v171 }) (s49.set (Int.toNat (k48 : Int)) (true, { x151.2 with Pins := x149 })) none)
   have hw := hw.altF (i := 5) (b := D 18) rfl (nf (fun h => ft hD ((hcl 18 _ rfl h).2.2.2.2.2.2.2.2.2.2.2.2.2.2.1 rfl))) (bag (XB XF_Net_r1 (fun u => u.Pins) (fun x => x.Pins)) ((us140.set (Int.toNat (k48 : Int)) { (us140.getD (Int.toNat (k48 : Int)) (default : Net_r1)) with Pins := rv v171 }).set (Int.toNat (k48 : Int)) { ((us140.set (Int.toNat (k48 : Int)) { (us140.getD (Int.toNat (k48 : Int)) (default : Net_r1)) with Pins := rv v171 }).getD (Int.toNat (k48 : Int)) (default : Net_r1)) with Ports := ([] : (List Str)) }) ((s49.set (Int.toNat (k48 : Int)) (true, { x151.2 with Pins := x149 })).set (Int.toNat (k48 : Int)) (x158.1, { x158.2 with Ports := ([] : (List Str)) })) none)
   refine RL.nil ?_
   exact ⟨rfl, v171, hv.put 12 rfl rfl, ha.up rfl, hw⟩
  ·rintro D σ w hD hdep hcl ⟨v150, hv, ha, hw⟩
   obtain ⟨τ, rfl⟩ := (ac (hv.at 1 rfl (hdep.1 rfl)) (ac (hv.at 2 rfl (hdep.2.1 rfl)) az)).ups
   have hw := hw.selF (i := 4) rfl (nf (fun h => ft hD ((hcl 18 _ rfl h).2.2.2.2.2.2.2.2.2.2.2.2.2.2.2.1 rfl)))
   have hw := hw.selF (i := 4) rfl (nf (fun h => ft hD ((hcl 14 _ rfl ((hcl 15 _ rfl h).1 rfl)).1 rfl)))
   have hw := hw.selF (i := 5) rfl (nf (fun h => ft hD ((hcl 18 _ rfl h).2.2.2.2.2.2.2.2.2.2.2.2.2.2.2.1 rfl)))
   have hw := hw.selF (i := 5) rfl (nf (fun h => ft hD ((hcl 14 _ rfl ((hcl 15 _ rfl h).1 rfl)).1 rfl)))
   have hl172 := hw.bag_len (j := 5) rfl
   have hr173 := idx_raw (default : Net_r1) hl172 hx151
   refine RL.ia_ownA (i := 4) trivial rfl hw rfl rfl rfl sl24 hr173 ?_
   have hw := hw.altF (i := 4) (b := D 15) rfl (nf (fun h => ft hD ((hcl 14 _ rfl ((hcl 15 _ rfl h).1 rfl)).1 rfl))) (own 64 v38 (us140.set (Int.toNat (k48 : Int)) { (us140.getD (Int.toNat (k48 : Int)) (default : Net_r1)) with Pins := rv v150 }))
   have hw := hw.altF (i := 4) (b := D 18) rfl (nf (fun h => ft hD ((hcl 18 _ rfl h).2.2.2.2.2.2.2.2.2.2.2.2.2.2.2.1 rfl))) (own 64 v38 ((us140.set (Int.toNat (k48 : Int)) { (us140.getD (Int.toNat (k48 : Int)) (default : Net_r1)) with Pins := rv v150 }).set (Int.toNat (k48 : Int)) { ((us140.set (Int.toNat (k48 : Int)) { (us140.getD (Int.toNat (k48 : Int)) (default : Net_r1)) with Pins := rv v150 }).getD (Int.toNat (k48 : Int)) (default : Net_r1)) with Ports := ([] : (List Str)) }))
   have hw := hw.altF (i := 5) (b := D 15) rfl (nf (fun h => ft hD ((hcl 14 _ rfl ((hcl 15 _ rfl h).1 rfl)).1 rfl))) (bag (XB XF_Net_r1 (fun u => u.Pins) (fun x => x.Pins)) (us140.set (Int.toNat (k48 : Int)) { (us140.getD (Int.toNat (k48 : Int)) (default : Net_r1)) with Pins := rv v150 }) (s49.set (Int.toNat (k48 : Int)) (true, { x151.2 with Pins := x149 })) none)
   have hw := hw.altF (i := 5) (b := D 18) rfl (nf (fun h => ft hD ((hcl 18 _ rfl h).2.2.2.2.2.2.2.2.2.2.2.2.2.2.2.1 rfl))) (bag (XB XF_Net_r1 (fun u => u.Pins) (fun x => x.Pins)) ((us140.set (Int.toNat (k48 : Int)) { (us140.getD (Int.toNat (k48 : Int)) (default : Net_r1)) with Pins := rv v150 }).set (Int.toNat (k48 : Int)) { ((us140.set (Int.toNat (k48 : Int)) { (us140.getD (Int.toNat (k48 : Int)) (default : Net_r1)) with Pins := rv v150 }).getD (Int.toNat (k48 : Int)) (default : Net_r1)) with Ports := ([] : (List Str)) }) ((s49.set (Int.toNat (k48 : Int)) (true, { x151.2 with Pins := x149 })).set (Int.toNat (k48 : Int)) (x158.1, { x158.2 with Ports := ([] : (List Str)) })) none)
   refine RL.nil ?_
   exact ⟨rfl, v150, hv.put 13 rfl rfl, ha.up rfl, hw⟩
  ·rintro D σ w hD hdep hcl ⟨v150, hv, ha, hw⟩
   obtain ⟨τ, rfl⟩ := (ac (hv.at 13 rfl (hdep.1 rfl)) az).ups
   have hw := hw.selF (i := 4) rfl (nf (fun h => ft hD ((hcl 18 _ rfl h).2.2.2.2.2.2.2.2.2.2.2.2.2.2.2.2.1 rfl)))
   have hw := hw.selF (i := 4) rfl (nf (fun h => ft hD ((hcl 15 _ rfl h).1 rfl)))
   have hw := hw.selF (i := 5) rfl (nf (fun h => ft hD ((hcl 18 _ rfl h).2.2.2.2.2.2.2.2.2.2.2.2.2.2.2.2.1 rfl)))
   have hw := hw.selF (i := 5) rfl (nf (fun h => ft hD ((hcl 15 _ rfl h).1 rfl)))
   have hl174 := hw.bag_len (j := 5) rfl
   have hr175 := idx_raw (default : Net_r1) hl174 hx151
   refine RL.fa_elA (α := Net_r1) trivial rfl rfl (elp hw (i := 4) rfl hr175 0) fa64_1 ?_
   have hw := hw.altF (i := 4) (b := D 15) rfl (nf (fun h => ft hD ((hcl 15 _ rfl h).1 rfl))) (own 64 v38 (us140.set (Int.toNat (k48 : Int)) { (us140.getD (Int.toNat (k48 : Int)) (default : Net_r1)) with Pins := rv v150 }))
   have hw := hw.altF (i := 4) (b := D 18) rfl (nf (fun h => ft hD ((hcl 18 _ rfl h).2.2.2.2.2.2.2.2.2.2.2.2.2.2.2.2.1 rfl))) (own 64 v38 ((us140.set (Int.toNat (k48 : Int)) { (us140.getD (Int.toNat (k48 : Int)) (default : Net_r1)) with Pins := rv v150 }).set (Int.toNat (k48 : Int)) { ((us140.set (Int.toNat (k48 : Int)) { (us140.getD (Int.toNat (k48 : Int)) (default : Net_r1)) with Pins := rv v150 }).getD (Int.toNat (k48 : Int)) (default : Net_r1)) with Ports := ([] : (List Str)) }))
   have hw := hw.altF (i := 5) (b := D 15) rfl (nf (fun h => ft hD ((hcl 15 _ rfl h).1 rfl))) (bag (XB XF_Net_r1 (fun u => u.Pins) (fun x => x.Pins)) (us140.set (Int.toNat (k48 : Int)) { (us140.getD (Int.toNat (k48 : Int)) (default : Net_r1)) with Pins := rv v150 }) (s49.set (Int.toNat (k48 : Int)) (true, { x151.2 with Pins := x149 })) none)
   have hw := hw.altF (i := 5) (b := D 18) rfl (nf (fun h => ft hD ((hcl 18 _ rfl h).2.2.2.2.2.2.2.2.2.2.2.2.2.2.2.2.1 rfl))) (bag (XB XF_Net_r1 (fun u => u.Pins) (fun x => x.Pins)) ((us140.set (Int.toNat (k48 : Int)) { (us140.getD (Int.toNat (k48 : Int)) (default : Net_r1)) with Pins := rv v150 }).set (Int.toNat (k48 : Int)) { ((us140.set (Int.toNat (k48 : Int)) { (us140.getD (Int.toNat (k48 : Int)) (default : Net_r1)) with Pins := rv v150 }).getD (Int.toNat (k48 : Int)) (default : Net_r1)) with Ports := ([] : (List Str)) }) ((s49.set (Int.toNat (k48 : Int)) (true, { x151.2 with Pins := x149 })).set (Int.toNat (k48 : Int)) (x158.1, { x158.2 with Ports := ([] : (List Str)) })) none)
   refine RL.nil ?_
   exact ⟨rfl, v150, hv.put 14 rfl rfl, ha.up rfl, hw⟩
  ·rintro D σ w hD hdep hcl ⟨v150, hv, ha, hw⟩
   obtain ⟨τ, rfl⟩ := (ac (hv.at 12 rfl (hdep.2.1 rfl)) (ac (hv.at 14 rfl (hdep.1 rfl)) az)).ups
   have hw := hw.selF (i := 1) rfl hD
   have hw := hw.selT (i := 1) rfl (hdep.2.1 rfl)
   have hw := hw.selF (i := 4) rfl (nf (fun h => ft hD ((hcl 18 _ rfl h).2.1 rfl)))
   have hw := hw.selF (i := 4) rfl hD
   have hw := hw.selF (i := 5) rfl (nf (fun h => ft hD ((hcl 18 _ rfl h).2.1 rfl)))
   have hw := hw.selF (i := 5) rfl hD
   have hl176 := hw.bag_len (j := 5) rfl
   have hr177 := idx_raw (default : Net_r1) hl176 hx151
   refine RL.store_nestP (i := 4) (b := 5) (o := 1) (jj := (k48 : Int)) (XB_xp xp_Net_r1) (default : Net_r1) trivial hw rfl rfl (elp hw (i := 4) rfl hr177 1) rfl rfl rfl hx151 (by decide) (by decide) (by decide) ty33 fun w hw => ?_
   have hw := hw.altT (i := 1) (b := true) rfl rfl (bif D 12 then (own 28 v150 x149) else junk)
   have hw := hw.altT (i := 4) (b := true) rfl rfl (own 64 v38 us140)
   have hw := hw.altF (i := 4) (b := D 18) rfl (nf (fun h => ft hD ((hcl 18 _ rfl h).2.1 rfl))) (own 64 v38 ((us140.set (Int.toNat (k48 : Int)) { (us140.getD (Int.toNat (k48 : Int)) (default : Net_r1)) with Pins := rv v150 }).set (Int.toNat (k48 : Int)) { ((us140.set (Int.toNat (k48 : Int)) { (us140.getD (Int.toNat (k48 : Int)) (default : Net_r1)) with Pins := rv v150 }).getD (Int.toNat (k48 : Int)) (default : Net_r1)) with Ports := ([] : (List Str)) }))
   have hw := hw.altT (i := 5) (b := true) rfl rfl (bag (XB XF_Net_r1 (fun u => u.Pins) (fun x => x.Pins)) us140 s49 none)
   have hw := hw.altF (i := 5) (b := D 18) rfl (nf (fun h => ft hD ((hcl 18 _ rfl h).2.1 rfl))) (bag (XB XF_Net_r1 (fun u => u.Pins) (fun x => x.Pins)) ((us140.set (Int.toNat (k48 : Int)) { (us140.getD (Int.toNat (k48 : Int)) (default : Net_r1)) with Pins := rv v150 }).set (Int.toNat (k48 : Int)) { ((us140.set (Int.toNat (k48 : Int)) { (us140.getD (Int.toNat (k48 : Int)) (default : Net_r1)) with Pins := rv v150 }).getD (Int.toNat (k48 : Int)) (default : Net_r1)) with Ports := ([] : (List Str)) }) ((s49.set (Int.toNat (k48 : Int)) (true, { x151.2 with Pins := x149 })).set (Int.toNat (k48 : Int)) (x158.1, { x158.2 with Ports := ([] : (List Str)) })) none)
   refine RL.nil ?_
   exact ⟨rfl, v150, hv.no rfl, ha, hw⟩
  ·rintro D σ w hD hdep hcl ⟨v150, hv, ha, hw⟩
   obtain ⟨τ, rfl⟩ := (ac (hv.at 4 rfl (hdep.1 rfl)) (ac (hv.at 5 rfl (hdep.2.1 rfl)) az)).ups
   have hw := hw.selF (i := 4) rfl (nf (fun h => ft hD ((hcl 17 _ rfl ((hcl 18 _ rfl h).1 rfl)).1 rfl)))
   have hw := hw.selT (i := 4) rfl (hdep.2.2.2.2.2.2.2.2.2.2.2.2.2.2.2.2.2.1 rfl)
   have hw := hw.selF (i := 5) rfl (nf (fun h => ft hD ((hcl 17 _ rfl ((hcl 18 _ rfl h).1 rfl)).1 rfl)))
   have hw := hw.selT (i := 5) rfl (hdep.2.2.2.2.2.2.2.2.2.2.2.2.2.2.2.2.2.1 rfl)
   have hl178 := hw.bag_len (j := 5) rfl
   have hr179 := idx_raw (default : Net_r1) hl178 hx158
   refine RL.ia_ownA (i := 4) trivial rfl hw rfl rfl rfl sl24 hr179 ?_
   have hw := hw.altT (i := 4) (b := D 15) rfl (hdep.2.2.2.2.2.2.2.2.2.2.2.2.2.2.2.2.2.1 rfl) (own 64 v38 us140)
   have hw := hw.altF (i := 4) (b := D 18) rfl (nf (fun h => ft hD ((hcl 17 _ rfl ((hcl 18 _ rfl h).1 rfl)).1 rfl))) (own 64 v38 ((us140.set (Int.toNat (k48 : Int)) { (us140.getD (Int.toNat (k48 : Int)) (default : Net_r1)) with Pins := rv v150 }).set (Int.toNat (k48 : Int)) { ((us140.set (Int.toNat (k48 : Int)) { (us140.getD (Int.toNat (k48 : Int)) (default : Net_r1)) with Pins := rv v150 }).getD (Int.toNat (k48 : Int)) (default : Net_r1)) with Ports := ([] : (List Str)) }))
   have hw := hw.altT (i := 5) (b := D 15) rfl (hdep.2.2.2.2.2.2.2.2.2.2.2.2.2.2.2.2.2.1 rfl) (bag (XB XF_Net_r1 (fun u => u.Pins) (fun x => x.Pins)) us140 s49 none)
   have hw := hw.altF (i := 5) (b := D 18) rfl (nf (fun h => ft hD ((hcl 17 _ rfl ((hcl 18 _ rfl h).1 rfl)).1 rfl))) (bag (XB XF_Net_r1 (fun u => u.Pins) (fun x => x.Pins)) ((us140.set (Int.toNat (k48 : Int)) { (us140.getD (Int.toNat (k48 : Int)) (default : Net_r1)) with Pins := rv v150 }).set (Int.toNat (k48 : Int)) { ((us140.set (Int.toNat (k48 : Int)) { (us140.getD (Int.toNat (k48 : Int)) (default : Net_r1)) with Pins := rv v150 }).getD (Int.toNat (k48 : Int)) (default : Net_r1)) with Ports := ([] : (List Str)) }) ((s49.set (Int.toNat (k48 : Int)) (true, { x151.2 with Pins := x149 })).set (Int.toNat (k48 : Int)) (x158.1, { x158.2 with Ports := ([] : (List Str)) })) none)
   refine RL.nil ?_
   exact ⟨rfl, v150, hv.put 15 rfl rfl, ha.up rfl, hw⟩
  ·rintro D σ w hD hdep hcl ⟨v150, hv, ha, hw⟩
   obtain ⟨τ, rfl⟩ := (ac (hv.at 15 rfl (hdep.1 rfl)) az).ups
   have hw := hw.selF (i := 4) rfl (nf (fun h => ft hD ((hcl 18 _ rfl h).1 rfl)))
   have hw := hw.selT (i := 4) rfl (hdep.2.2.2.2.2.2.2.2.2.2.2.2.2.2.2.2.1 rfl)
   have hw := hw.selF (i := 5) rfl (nf (fun h => ft hD ((hcl 18 _ rfl h).1 rfl)))
   have hw := hw.selT (i := 5) rfl (hdep.2.2.2.2.2.2.2.2.2.2.2.2.2.2.2.2.1 rfl)
   have hl180 := hw.bag_len (j := 5) rfl
   have hr181 := idx_raw (default : Net_r1) hl180 hx158
   refine RL.fa_elA (α := Net_r1) trivial rfl rfl (elp hw (i := 4) rfl hr181 0) fa64_2 ?_
   have hw := hw.altT (i := 4) (b := D 15) rfl (hdep.2.2.2.2.2.2.2.2.2.2.2.2.2.2.2.2.1 rfl) (own 64 v38 us140)
   have hw := hw.altF (i := 4) (b := D 18) rfl (nf (fun h => ft hD ((hcl 18 _ rfl h).1 rfl))) (own 64 v38 ((us140.set (Int.toNat (k48 : Int)) { (us140.getD (Int.toNat (k48 : Int)) (default : Net_r1)) with Pins := rv v150 }).set (Int.toNat (k48 : Int)) { ((us140.set (Int.toNat (k48 : Int)) { (us140.getD (Int.toNat (k48 : Int)) (default : Net_r1)) with Pins := rv v150 }).getD (Int.toNat (k48 : Int)) (default : Net_r1)) with Ports := ([] : (List Str)) }))
   have hw := hw.altT (i := 5) (b := D 15) rfl (hdep.2.2.2.2.2.2.2.2.2.2.2.2.2.2.2.2.1 rfl) (bag (XB XF_Net_r1 (fun u => u.Pins) (fun x => x.Pins)) us140 s49 none)
   have hw := hw.altF (i := 5) (b := D 18) rfl (nf (fun h => ft hD ((hcl 18 _ rfl h).1 rfl))) (bag (XB XF_Net_r1 (fun u => u.Pins) (fun x => x.Pins)) ((us140.set (Int.toNat (k48 : Int)) { (us140.getD (Int.toNat (k48 : Int)) (default : Net_r1)) with Pins := rv v150 }).set (Int.toNat (k48 : Int)) { ((us140.set (Int.toNat (k48 : Int)) { (us140.getD (Int.toNat (k48 : Int)) (default : Net_r1)) with Pins := rv v150 }).getD (Int.toNat (k48 : Int)) (default : Net_r1)) with Ports := ([] : (List Str)) }) ((s49.set (Int.toNat (k48 : Int)) (true, { x151.2 with Pins := x149 })).set (Int.toNat (k48 : Int)) (x158.1, { x158.2 with Ports := ([] : (List Str)) })) none)
   refine RL.nil ?_
   exact ⟨rfl, v150, hv.put 16 rfl rfl, ha.up rfl, hw⟩
  ·rintro D σ w hD hdep hcl ⟨v150, hv, ha, hw⟩
   obtain ⟨τ, rfl⟩ := (ac (hv.at 16 rfl (hdep.1 rfl)) az).ups
   have hw := hw.selF (i := 4) rfl hD
   have hw := hw.selT (i := 4) rfl (hdep.2.1 rfl)
   have hw := hw.selF (i := 5) rfl hD
   have hw := hw.selT (i := 5) rfl (hdep.2.1 rfl)
   have hl182 := hw.bag_len (j := 5) rfl
   have hr183 := idx_raw (default : Net_r1) hl182 hx158
   have hw := hw.rd_nil Str
   refine RL.store_oth (i := 5) (b := 6) (j := 0) (jj := (k48 : Int)) fs_Net_r1_2 (by decide) (XB_oth xoth_Net_r1_2 xrest_Net_r1_2 (fun _ _ => rfl) (fun _ _ => rfl)) (default : Net_r1) trivial hw rfl rfl (elp hw (i := 5) rfl hr183 2) rfl rfl rfl hx158 (by decide) ty55 fun w hw => ?_
   have hw := hw.pick 8 [1, 2, 3, 4, 5, 6, 7] (new := [bif D 11 then (rd (us140.getD (Int.toNat (k48 : Int)) (default : Net_r1)).Pins.v x148.Pins) else junk, bif D 15 then (junk) else (bif D 12 then (own 28 v150 x149) else junk), bc 26 b31 [v35, v38], own 87 v35 x34, own 64 v38 ((us140.set (Int.toNat (k48 : Int)) { (us140.getD (Int.toNat (k48 : Int)) (default : Net_r1)) with Pins := rv v150 }).set (Int.toNat (k48 : Int)) { ((us140.set (Int.toNat (k48 : Int)) { (us140.getD (Int.toNat (k48 : Int)) (default : Net_r1)) with Pins := rv v150 }).getD (Int.toNat (k48 : Int)) (default : Net_r1)) with Ports := ([] : (List Str)) }), bag (XB XF_Net_r1 (fun u => u.Pins) (fun x => x.Pins)) ((us140.set (Int.toNat (k48 : Int)) { (us140.getD (Int.toNat (k48 : Int)) (default : Net_r1)) with Pins := rv v150 }).set (Int.toNat (k48 : Int)) { ((us140.set (Int.toNat (k48 : Int)) { (us140.getD (Int.toNat (k48 : Int)) (default : Net_r1)) with Pins := rv v150 }).getD (Int.toNat (k48 : Int)) (default : Net_r1)) with Ports := ([] : (List Str)) }) ((s49.set (Int.toNat (k48 : Int)) (true, { x151.2 with Pins := x149 })).set (Int.toNat (k48 : Int)) (x158.1, { x158.2 with Ports := ([] : (List Str)) })) none, bc 26 b32 [(.slice none 0 0), (.slice none 0 0)]]) rfl rfl (by decide) (by decide)
   have hw := hw.altT (i := 4) (b := true) rfl rfl (bif D 15 then (own 64 v38 (us140.set (Int.toNat (k48 : Int)) { (us140.getD (Int.toNat (k48 : Int)) (default : Net_r1)) with Pins := rv v150 })) else (own 64 v38 us140))
   have hw := hw.altT (i := 5) (b := true) rfl rfl (bif D 15 then (bag (XB XF_Net_r1 (fun u => u.Pins) (fun x => x.Pins)) (us140.set (Int.toNat (k48 : Int)) { (us140.getD (Int.toNat (k48 : Int)) (default : Net_r1)) with Pins := rv v150 }) (s49.set (Int.toNat (k48 : Int)) (true, { x151.2 with Pins := x149 })) none) else (bag (XB XF_Net_r1 (fun u => u.Pins) (fun x => x.Pins)) us140 s49 none))
   refine RL.nil ?_
   exact ⟨rfl, v150, hv.no rfl, ha, hw⟩
  rintro D σ w hall ⟨v150, hv, ha, hw⟩
  rw [hall 11 (by decide), hall 12 (by decide), hall 15 (by decide), hall 18 (by decide)] at hw
  obtain ⟨τ, rfl⟩ := (ac (ha.at 0 rfl) (ac (ha.at 1 rfl) (ac (ha.at 2 rfl) (ac (ha.at 3 rfl) (ac (ha.at 4 rfl) az))))).ups
  refine blkQ_n ?_
  refine thenQ_n ?_
  refine RC.region ?_
  refine RL.inc trivial rfl hk hm rfl rfl ?_
  refine mv (vi ((k48 + 1 : Nat) : Int)) rfl rfl ?_
  refine RL.nil ?_
  obtain rfl := oi hb
  exact ⟨rfl, ((us140.set (Int.toNat (k48 : Int)) { (us140.getD (Int.toNat (k48 : Int)) (default : Net_r1)) with Pins := rv v150 }).set (Int.toNat (k48 : Int)) { ((us140.set (Int.toNat (k48 : Int)) { (us140.getD (Int.toNat (k48 : Int)) (default : Net_r1)) with Pins := rv v150 }).getD (Int.toNat (k48 : Int)) (default : Net_r1)) with Ports := ([] : (List Str)) }), ⟨rfl, rfl, rfl, rfl, trivial⟩, hw.pick 7 [2, 3, 4, 5, 6] (new := [bc 26 b31 [v35, v38], own 87 v35 x34, own 64 v38 ((us140.set (Int.toNat (k48 : Int)) { (us140.getD (Int.toNat (k48 : Int)) (default : Net_r1)) with Pins := rv v150 }).set (Int.toNat (k48 : Int)) { ((us140.set (Int.toNat (k48 : Int)) { (us140.getD (Int.toNat (k48 : Int)) (default : Net_r1)) with Pins := rv v150 }).getD (Int.toNat (k48 : Int)) (default : Net_r1)) with Ports := ([] : (List Str)) }), bag (XB XF_Net_r1 (fun u => u.Pins) (fun x => x.Pins)) ((us140.set (Int.toNat (k48 : Int)) { (us140.getD (Int.toNat (k48 : Int)) (default : Net_r1)) with Pins := rv v150 }).set (Int.toNat (k48 : Int)) { ((us140.set (Int.toNat (k48 : Int)) { (us140.getD (Int.toNat (k48 : Int)) (default : Net_r1)) with Pins := rv v150 }).getD (Int.toNat (k48 : Int)) (default : Net_r1)) with Ports := ([] : (List Str)) }) ((s49.set (Int.toNat (k48 : Int)) (true, { x151.2 with Pins := x149 })).set (Int.toNat (k48 : Int)) (x158.1, { x158.2 with Ports := ([] : (List Str)) })) none, bc 26 b32 [(.slice none 0 0), (.slice none 0 0)]]) rfl rfl (by decide) (by decide)⟩
 intro σ w hJ
 obtain ⟨us139, ha, hw⟩ := hJ
 obtain ⟨τ, rfl⟩ := ha.ups
 obtain ⟨y185, hy185, hb⟩ := bd hb
 have hw := hw.all_flags (j := 3) rfl hy185
 refine thenQ_n ?_
 refine RC.sr ?_
 refine RL.load_bca (i := 0) (cs := [v35, v38]) trivial rfl hw rfl rfl ty26 rfl ?_
 refine RL.store_bca (i := 4) (cs := [v35, v38]) trivial hw rfl rfl rfl (oneL.all (⟨(one_own hw (i := 1) rfl), (one_own hw (i := 2) rfl), trivial⟩ : oneL [v35, v38])) ty26 rfl rfl fun w hw => ?_
 refine RL.nt ?_
 refine RC.ret ?_
 obtain rfl := oi hb
 exact finCa (i := 4) (cs := [v35, v38]) rfl hw rfl rfl ty26 rfl ⟨v35, v38, us139, rfl, hw.pick 5 [1, 2, 3] (new := [own 87 v35 x34, own 64 v38 us139, bag XF_Net_r1 us139 y185 none]) rfl rfl (by decide) (by decide)⟩
end Go.Gk
