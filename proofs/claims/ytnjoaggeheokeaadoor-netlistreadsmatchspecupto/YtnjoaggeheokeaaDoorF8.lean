/-
  Printed by gen.py: Go functions as plain functions, and that they are.
-/
import Derived.Test.YtnjoaggeheokeaaDoorT
import Derived.Test.YtnjoaggeheokeaaDoorF5
import Derived.Test.YtnjoaggeheokeaaDoorF7
set_option linter.unusedVariables false
set_option linter.unusedSimpArgs false
set_option linter.unusedSectionVars false
set_option maxRecDepth 100000
set_option maxHeartbeats 4000000

namespace Go.Gk
open Go Go.Proofs
def slices_Equal_Part_R (E : World) (Γ : List HP) (res : Bool) (v : Value) (w : World) : Prop := v = (vb res) ∧ Holds E w Γ
def slices_Equal_Part_K (E : World) (Γ : List HP) (r : Bool) (σ : Nat → Value) (w : World) : Prop := finQ Tryd.prog 26 Tryd.f63 (slices_Equal_Part_R E Γ r) .ret σ w
theorem slices_Equal_Part_ok (N : Nat) {E w : World} {Γ : List HP} {i0 : Nat} {v0 : Value} {p0 : (List Part)} {i1 : Nat} {v1 : Value} {p1 : (List Part)} {res : Bool} (hw : Holds E w Γ) (h0 : Γ[i0]? = some (rd v0 p0)) (h1 : Γ[i1]? = some (rd v1 p1)) (hb : slices_Equal_Part N p0 p1 = some res) :
    Calls Tryd.prog 63 [v0, v1].toArray w (Ret (slices_Equal_Part_R E Γ res)) := by
 unfold slices_Equal_Part at hb
 refine enter Tryd.func63 rfl rfl (Nat.le_of_ble_eq_true rfl) ?_
 have hw := hw.dup (i := i0 + 0) h0
 have hw := hw.dup (i := i1 + 1) h1
 refine RC.sr ?_
 refine as_ (vb false) rfl rfl ?_
 refine RL.nq ?_
 refine RC.sr ?_
 refine mv v0 rfl rfl ?_
 refine RL.len_rd (i := 1) (l := p0) trivial rfl hw rfl rfl un23 ?_
 refine mv v1 rfl rfl ?_
 refine RL.len_rd (i := 0) (l := p1) trivial rfl hw rfl rfl un23 ?_
 refine ic ((p0.length : Int)) ((p1.length : Int)) rfl rfl rfl rfl ?_
 refine RL.nt ?_
 refine RC.cond (b := ((p0.length : Int) != (p1.length : Int))) rfl (fun hc => ?_) (fun hc => ?_)
 ·replace hb := cT hc hb
  refine RC.sr ?_
  refine as_ (vb false) rfl rfl ?_
  refine RL.nt ?_
  refine RC.rt ?_
  obtain rfl := oi hb
  exact fin1 rfl rfl ⟨rfl, hw.drop 2 rfl⟩
 replace hb := cF hc hb
 refine RC.ss ?_
 refine RC.sr ?_
 refine mv v0 rfl rfl ?_
 refine RL.len_rd (i := 1) (l := p0) trivial rfl hw rfl rfl un23 ?_
 refine mv (vi 0) rfl rfl ?_
 refine RL.nt ?_
 obtain ⟨o23, hN, hb⟩ := bd hb
 refine RC.range (fun (k1 : Nat) (s2 : Unit) (σ : Nat → Value) (w : World) => agree σ [(0, v0), (1, v1), (12, (vi (p0.length : Int))), (13, (vi (k1 : Int)))] ∧ Holds E w ([rd v0 p0, rd v1 p1] ++ Γ)) (fun (s2 : Unit) (σ : Nat → Value) (w : World) => agree σ [] ∧ Holds E w ([rd v0 p0, rd v1 p1] ++ Γ)) (slices_Equal_Part_K E Γ) hN ?_ ?_ ?_ ?_ ?_ 
 ·exact ⟨⟨rfl, rfl, rfl, rfl, trivial⟩, hw.pick 2 [1, 0] (new := [rd v0 p0, rd v1 p1]) rfl rfl (by decide) (by decide)⟩
 ·intro hm s2 σ w hI
  obtain ⟨ha, hw⟩ := hI
  obtain ⟨τ, rfl⟩ := ha.ups
  refine RC.sr ?_
  refine ic ((p0.length : Int)) ((p0.length : Int)) rfl rfl rfl rfl ?_
  refine RL.nq ?_
  refine RC.cond_f dge ?_
  refine RC.ex ?_
  exact ⟨rfl, trivial, hw.pick 2 [0, 1] (new := [rd v0 p0, rd v1 p1]) rfl rfl (by decide) (by decide)⟩
 ·intro hm k1 s2 fl σ w hk hI hb
  obtain ⟨ha, hw⟩ := hI
  obtain ⟨τ, rfl⟩ := ha.ups
  refine RC.sr ?_
  refine ic ((k1 : Int)) ((p0.length : Int)) rfl rfl rfl rfl ?_
  refine RL.nq ?_
  refine RC.cond_t (dlt hk) ?_
  refine RC.ss ?_
  refine RC.bs ?_
  refine mv (vi (k1 : Int)) rfl rfl ?_
  refine as_ (vi (k1 : Int)) rfl rfl ?_
  refine RL.nq ?_
  obtain ⟨x13, hx13, hb⟩ := bd hb
  obtain ⟨x16, hx16, hb⟩ := bd hb
  refine RC.drw mixed rfl (fun (D : Nat → Bool) (σ : Nat → Value) (w : World) => ∃ (v14 : Value) (v15 : Value) (v17 : Value) (v18 : Value), doneV D σ [(0, 16, v0), (1, 17, (vi (k1 : Int))), (2, 18, v14), (3, 19, v15), (4, 20, v1), (5, 21, (vi (k1 : Int))), (6, 22, v17), (7, 23, v18), (8, 24, (vb (!(decide (x13 = x16)))))] ∧ agree σ [(0, v0), (1, v1), (5, (vi (k1 : Int))), (12, (vi (p0.length : Int))), (13, (vi (k1 : Int)))] ∧ Holds E w ([bif D 2 then (pt v14 x13) else junk, bif D 3 then (rd v15 x13) else junk, bif D 6 then (pt v17 x16) else junk, bif D 7 then (rd v18 x16) else junk, rd v0 p0, rd v1 p1] ++ Γ)) ?_ ⟨?_, ?_, ?_, ?_, ?_, ?_, ?_, ?_, ?_, trivial⟩ ?_
  ·have hw := hw.drew
   have hw := hw.junk
   have hw := hw.junk
   have hw := hw.junk
   have hw := hw.junk
   exact ⟨undef, undef, undef, undef, doneV.none, ⟨rfl, rfl, rfl, rfl, rfl, trivial⟩, hw⟩
  ·rintro D σ w hD hdep hcl ⟨v14, v15, v17, v18, hv, ha, hw⟩
   obtain ⟨τ, rfl⟩ := (ac (ha.at 0 rfl) az).ups
   refine mv v0 rfl rfl ?_
   refine RL.nil ?_
   exact ⟨rfl, v14, v15, v17, v18, hv.put 0 rfl rfl, ha.up rfl, hw⟩
  ·rintro D σ w hD hdep hcl ⟨v14, v15, v17, v18, hv, ha, hw⟩
   obtain ⟨τ, rfl⟩ := (ac (ha.at 2 rfl) az).ups
   refine mv (vi (k1 : Int)) rfl rfl ?_
   refine RL.nil ?_
   exact ⟨rfl, v14, v15, v17, v18, hv.put 1 rfl rfl, ha.up rfl, hw⟩
  ·rintro D σ w hD hdep hcl ⟨v14, v15, v17, v18, hv, ha, hw⟩
   obtain ⟨τ, rfl⟩ := (ac (hv.at 0 rfl (hdep.1 rfl)) (ac (hv.at 1 rfl (hdep.2.1 rfl)) az)).ups
   have hw := hw.selF (i := 0) rfl hD
   refine RL.ia_rd (i := 4) trivial rfl hw rfl rfl rfl sl23 hx13 fun v19 hw => ?_
   have hw := hw.pick 7 [0, 2, 3, 4, 5, 6] (new := [pt v19 x13, bif D 3 then (rd v15 x13) else junk, bif D 6 then (pt v17 x16) else junk, bif D 7 then (rd v18 x16) else junk, rd v0 p0, rd v1 p1]) rfl rfl (by decide) (by decide)
   have hw := hw.altT (i := 0) (b := true) rfl rfl (junk)
   refine RL.nil ?_
   exact ⟨rfl, v19, v15, v17, v18, hv.put 2 rfl rfl, ha.up rfl, hw⟩
  ·rintro D σ w hD hdep hcl ⟨v14, v15, v17, v18, hv, ha, hw⟩
   obtain ⟨τ, rfl⟩ := (ac (hv.at 2 rfl (hdep.1 rfl)) az).ups
   have hw := hw.selT (i := 0) rfl (hdep.1 rfl)
   have hw := hw.selF (i := 1) rfl hD
   refine RL.load_pt (i := 0) (x := x13) trivial rfl hw rfl rfl ty87 fun v20 hw => ?_
   have hw := hw.pick 7 [1, 0, 3, 4, 5, 6] (new := [pt v14 x13, rd v20 x13, bif D 6 then (pt v17 x16) else junk, bif D 7 then (rd v18 x16) else junk, rd v0 p0, rd v1 p1]) rfl rfl (by decide) (by decide)
   have hw := hw.altT (i := 0) (b := D 2) rfl (hdep.1 rfl) (junk)
   have hw := hw.altT (i := 1) (b := true) rfl rfl (junk)
   refine RL.nil ?_
   exact ⟨rfl, v14, v20, v17, v18, hv.put 3 rfl rfl, ha.up rfl, hw⟩
  ·rintro D σ w hD hdep hcl ⟨v14, v15, v17, v18, hv, ha, hw⟩
   obtain ⟨τ, rfl⟩ := (ac (ha.at 1 rfl) az).ups
   refine mv v1 rfl rfl ?_
   refine RL.nil ?_
   exact ⟨rfl, v14, v15, v17, v18, hv.put 4 rfl rfl, ha.up rfl, hw⟩
  ·rintro D σ w hD hdep hcl ⟨v14, v15, v17, v18, hv, ha, hw⟩
   obtain ⟨τ, rfl⟩ := (ac (ha.at 2 rfl) az).ups
   refine mv (vi (k1 : Int)) rfl rfl ?_
   refine RL.nil ?_
   exact ⟨rfl, v14, v15, v17, v18, hv.put 5 rfl rfl, ha.up rfl, hw⟩
  ·rintro D σ w hD hdep hcl ⟨v14, v15, v17, v18, hv, ha, hw⟩
   obtain ⟨τ, rfl⟩ := (ac (hv.at 4 rfl (hdep.1 rfl)) (ac (hv.at 5 rfl (hdep.2.1 rfl)) az)).ups
   have hw := hw.selF (i := 2) rfl hD
   refine RL.ia_rd (i := 5) trivial rfl hw rfl rfl rfl sl23 hx16 fun v21 hw => ?_
   have hw := hw.pick 7 [1, 2, 0, 4, 5, 6] (new := [bif D 2 then (pt v14 x13) else junk, bif D 3 then (rd v15 x13) else junk, pt v21 x16, bif D 7 then (rd v18 x16) else junk, rd v0 p0, rd v1 p1]) rfl rfl (by decide) (by decide)
   have hw := hw.altT (i := 2) (b := true) rfl rfl (junk)
   refine RL.nil ?_
   exact ⟨rfl, v14, v15, v21, v18, hv.put 6 rfl rfl, ha.up rfl, hw⟩
  ·rintro D σ w hD hdep hcl ⟨v14, v15, v17, v18, hv, ha, hw⟩
   obtain ⟨τ, rfl⟩ := (ac (hv.at 6 rfl (hdep.1 rfl)) az).ups
   have hw := hw.selT (i := 2) rfl (hdep.1 rfl)
   have hw := hw.selF (i := 3) rfl hD
   refine RL.load_pt (i := 2) (x := x16) trivial rfl hw rfl rfl ty87 fun v22 hw => ?_
   have hw := hw.pick 7 [1, 2, 3, 0, 5, 6] (new := [bif D 2 then (pt v14 x13) else junk, bif D 3 then (rd v15 x13) else junk, pt v17 x16, rd v22 x16, rd v0 p0, rd v1 p1]) rfl rfl (by decide) (by decide)
   have hw := hw.altT (i := 2) (b := D 6) rfl (hdep.1 rfl) (junk)
   have hw := hw.altT (i := 3) (b := true) rfl rfl (junk)
   refine RL.nil ?_
   exact ⟨rfl, v14, v15, v17, v22, hv.put 7 rfl rfl, ha.up rfl, hw⟩
  ·rintro D σ w hD hdep hcl ⟨v14, v15, v17, v18, hv, ha, hw⟩
   obtain ⟨τ, rfl⟩ := (ac (hv.at 3 rfl (hdep.1 rfl)) (ac (hv.at 7 rfl (hdep.2.1 rfl)) az)).ups
   have hw := hw.selT (i := 1) rfl (hdep.1 rfl)
   have hw := hw.selT (i := 3) rfl (hdep.2.1 rfl)
   refine RL.sne (i := 1) (j := 3) (a := x13) (b := x16) trivial rfl hw rfl rfl rfl rfl eqt87 rfl ?_
   have hw := hw.altT (i := 1) (b := D 3) rfl (hdep.1 rfl) (junk)
   have hw := hw.altT (i := 3) (b := D 7) rfl (hdep.2.1 rfl) (junk)
   refine RL.nil ?_
   exact ⟨rfl, v14, v15, v17, v18, hv.put 8 rfl rfl, ha.up rfl, hw⟩
  rintro D σ w hall ⟨v14, v15, v17, v18, hv, ha, hw⟩
  rw [hall 2 (by decide), hall 3 (by decide), hall 6 (by decide), hall 7 (by decide)] at hw
  obtain ⟨τ, rfl⟩ := (ac (hv.at 8 rfl (hall 8 (by decide))) (ac (ha.at 0 rfl) (ac (ha.at 1 rfl) (ac (ha.at 2 rfl) (ac (ha.at 3 rfl) (ac (ha.at 4 rfl) az)))))).ups
  refine thenQ_n ?_
  refine RC.cond (b := (!(decide (x13 = x16)))) rfl (fun hc => ?_) (fun hc => ?_)
  rotate_left
  ·replace hb := cF hc hb
   refine RC.skip ?_
   refine blkQ_n ?_
   refine thenQ_n ?_
   refine RC.region ?_
   refine RL.inc trivial rfl hk hm rfl rfl ?_
   refine mv (vi ((k1 + 1 : Nat) : Int)) rfl rfl ?_
   refine RL.nil ?_
   obtain rfl := oi hb
   exact ⟨rfl, ⟨rfl, rfl, rfl, rfl, trivial⟩, hw.pick 6 [4, 5] (new := [rd v0 p0, rd v1 p1]) rfl rfl (by decide) (by decide)⟩
  replace hb := cT hc hb
  refine RC.sr ?_
  refine as_ (vb false) rfl rfl ?_
  refine RL.nt ?_
  refine RC.rb ?_
  refine thenQ_r ?_
  obtain rfl := oi hb
  exact ⟨rfl, fin1 rfl rfl ⟨rfl, hw.drop 6 rfl⟩⟩
 ·intro r σ w e hK
  subst e
  refine thenQ_r ?_
  obtain rfl := oi hb
  exact hK
 intro s2 σ w e hJ
 subst e
 rw [Fo.cs_go] at hb
 obtain ⟨ha, hw⟩ := hJ
 obtain ⟨τ, rfl⟩ := ha.ups
 refine thenQ_n ?_
 refine RC.sr ?_
 refine as_ (vb true) rfl rfl ?_
 refine RL.nt ?_
 refine RC.ret ?_
 obtain rfl := oi hb
 exact fin1 rfl rfl ⟨rfl, hw.drop 2 rfl⟩
def slices_Equal_string_R (E : World) (Γ : List HP) (res : Bool) (v : Value) (w : World) : Prop := v = (vb res) ∧ Holds E w Γ
def slices_Equal_string_K (E : World) (Γ : List HP) (r : Bool) (σ : Nat → Value) (w : World) : Prop := finQ Tryd.prog 26 Tryd.f64 (slices_Equal_string_R E Γ r) .ret σ w
theorem slices_Equal_string_ok (N : Nat) {E w : World} {Γ : List HP} {i0 : Nat} {v0 : Value} {p0 : (List Str)} {i1 : Nat} {v1 : Value} {p1 : (List Str)} {res : Bool} (hw : Holds E w Γ) (h0 : Γ[i0]? = some (rd v0 p0)) (h1 : Γ[i1]? = some (rd v1 p1)) (hb : slices_Equal_string N p0 p1 = some res) :
    Calls Tryd.prog 64 [v0, v1].toArray w (Ret (slices_Equal_string_R E Γ res)) := by
 unfold slices_Equal_string at hb
 refine enter Tryd.func64 rfl rfl (Nat.le_of_ble_eq_true rfl) ?_
 have hw := hw.dup (i := i0 + 0) h0
 have hw := hw.dup (i := i1 + 1) h1
 refine RC.sr ?_
 refine as_ (vb false) rfl rfl ?_
 refine RL.nq ?_
 refine RC.sr ?_
 refine mv v0 rfl rfl ?_
 refine RL.len_rd (i := 1) (l := p0) trivial rfl hw rfl rfl un55 ?_
 refine mv v1 rfl rfl ?_
 refine RL.len_rd (i := 0) (l := p1) trivial rfl hw rfl rfl un55 ?_
 refine ic ((p0.length : Int)) ((p1.length : Int)) rfl rfl rfl rfl ?_
 refine RL.nt ?_
 refine RC.cond (b := ((p0.length : Int) != (p1.length : Int))) rfl (fun hc => ?_) (fun hc => ?_)
 ·replace hb := cT hc hb
  refine RC.sr ?_
  refine as_ (vb false) rfl rfl ?_
  refine RL.nt ?_
  refine RC.rt ?_
  obtain rfl := oi hb
  exact fin1 rfl rfl ⟨rfl, hw.drop 2 rfl⟩
 replace hb := cF hc hb
 refine RC.ss ?_
 refine RC.sr ?_
 refine mv v0 rfl rfl ?_
 refine RL.len_rd (i := 1) (l := p0) trivial rfl hw rfl rfl un55 ?_
 refine mv (vi 0) rfl rfl ?_
 refine RL.nt ?_
 obtain ⟨o15, hN, hb⟩ := bd hb
 refine RC.range (fun (k1 : Nat) (s2 : Unit) (σ : Nat → Value) (w : World) => agree σ [(0, v0), (1, v1), (12, (vi (p0.length : Int))), (13, (vi (k1 : Int)))] ∧ Holds E w ([rd v0 p0, rd v1 p1] ++ Γ)) (fun (s2 : Unit) (σ : Nat → Value) (w : World) => agree σ [] ∧ Holds E w ([rd v0 p0, rd v1 p1] ++ Γ)) (slices_Equal_string_K E Γ) hN ?_ ?_ ?_ ?_ ?_ 
 ·exact ⟨⟨rfl, rfl, rfl, rfl, trivial⟩, hw.pick 2 [1, 0] (new := [rd v0 p0, rd v1 p1]) rfl rfl (by decide) (by decide)⟩
 ·intro hm s2 σ w hI
  obtain ⟨ha, hw⟩ := hI
  obtain ⟨τ, rfl⟩ := ha.ups
  refine RC.sr ?_
  refine ic ((p0.length : Int)) ((p0.length : Int)) rfl rfl rfl rfl ?_
  refine RL.nq ?_
  refine RC.cond_f dge ?_
  refine RC.ex ?_
  exact ⟨rfl, trivial, hw.pick 2 [0, 1] (new := [rd v0 p0, rd v1 p1]) rfl rfl (by decide) (by decide)⟩
 ·intro hm k1 s2 fl σ w hk hI hb
  obtain ⟨ha, hw⟩ := hI
  obtain ⟨τ, rfl⟩ := ha.ups
  refine RC.sr ?_
  refine ic ((k1 : Int)) ((p0.length : Int)) rfl rfl rfl rfl ?_
  refine RL.nq ?_
  refine RC.cond_t (dlt hk) ?_
  refine RC.ss ?_
  refine RC.bs ?_
  refine mv (vi (k1 : Int)) rfl rfl ?_
  refine as_ (vi (k1 : Int)) rfl rfl ?_
  refine RL.nq ?_
  obtain ⟨x9, hx9, hb⟩ := bd hb
  obtain ⟨x11, hx11, hb⟩ := bd hb
  refine RC.drw mixed rfl (fun (D : Nat → Bool) (σ : Nat → Value) (w : World) => ∃ (v10 : Value) (v12 : Value), doneV D σ [(0, 16, v0), (1, 17, (vi (k1 : Int))), (2, 18, v10), (3, 19, (str x9)), (4, 20, v1), (5, 21, (vi (k1 : Int))), (6, 22, v12), (7, 23, (str x11)), (8, 24, (vb (!x9.eqb x11)))] ∧ agree σ [(0, v0), (1, v1), (5, (vi (k1 : Int))), (12, (vi (p0.length : Int))), (13, (vi (k1 : Int)))] ∧ Holds E w ([bif D 2 then (pt v10 x9) else junk, bif D 6 then (pt v12 x11) else junk, rd v0 p0, rd v1 p1] ++ Γ)) ?_ ⟨?_, ?_, ?_, ?_, ?_, ?_, ?_, ?_, ?_, trivial⟩ ?_
  ·have hw := hw.drew
   have hw := hw.junk
   have hw := hw.junk
   exact ⟨undef, undef, doneV.none, ⟨rfl, rfl, rfl, rfl, rfl, trivial⟩, hw⟩
  ·rintro D σ w hD hdep hcl ⟨v10, v12, hv, ha, hw⟩
   obtain ⟨τ, rfl⟩ := (ac (ha.at 0 rfl) az).ups
   refine mv v0 rfl rfl ?_
   refine RL.nil ?_
   exact ⟨rfl, v10, v12, hv.put 0 rfl rfl, ha.up rfl, hw⟩
  ·rintro D σ w hD hdep hcl ⟨v10, v12, hv, ha, hw⟩
   obtain ⟨τ, rfl⟩ := (ac (ha.at 2 rfl) az).ups
   refine mv (vi (k1 : Int)) rfl rfl ?_
   refine RL.nil ?_
   exact ⟨rfl, v10, v12, hv.put 1 rfl rfl, ha.up rfl, hw⟩
  ·rintro D σ w hD hdep hcl ⟨v10, v12, hv, ha, hw⟩
   obtain ⟨τ, rfl⟩ := (ac (hv.at 0 rfl (hdep.1 rfl)) (ac (hv.at 1 rfl (hdep.2.1 rfl)) az)).ups
   have hw := hw.selF (i := 0) rfl hD
   refine RL.ia_rd (i := 2) trivial rfl hw rfl rfl rfl sl55 hx9 fun v13 hw => ?_
   have hw := hw.pick 5 [0, 2, 3, 4] (new := [pt v13 x9, bif D 6 then (pt v12 x11) else junk, rd v0 p0, rd v1 p1]) rfl rfl (by decide) (by decide)
   have hw := hw.altT (i := 0) (b := true) rfl rfl (junk)
   refine RL.nil ?_
   exact ⟨rfl, v13, v12, hv.put 2 rfl rfl, ha.up rfl, hw⟩
  ·rintro D σ w hD hdep hcl ⟨v10, v12, hv, ha, hw⟩
   obtain ⟨τ, rfl⟩ := (ac (hv.at 2 rfl (hdep.1 rfl)) az).ups
   have hw := hw.selT (i := 0) rfl (hdep.1 rfl)
   refine RL.load_pts (i := 0) (y := x9) trivial rfl hw rfl rfl ty9 ?_
   have hw := hw.altT (i := 0) (b := D 2) rfl (hdep.1 rfl) (junk)
   refine RL.nil ?_
   exact ⟨rfl, v10, v12, hv.put 3 rfl rfl, ha.up rfl, hw⟩
  ·rintro D σ w hD hdep hcl ⟨v10, v12, hv, ha, hw⟩
   obtain ⟨τ, rfl⟩ := (ac (ha.at 1 rfl) az).ups
   refine mv v1 rfl rfl ?_
   refine RL.nil ?_
   exact ⟨rfl, v10, v12, hv.put 4 rfl rfl, ha.up rfl, hw⟩
  ·rintro D σ w hD hdep hcl ⟨v10, v12, hv, ha, hw⟩
   obtain ⟨τ, rfl⟩ := (ac (ha.at 2 rfl) az).ups
   refine mv (vi (k1 : Int)) rfl rfl ?_
   refine RL.nil ?_
   exact ⟨rfl, v10, v12, hv.put 5 rfl rfl, ha.up rfl, hw⟩
  ·rintro D σ w hD hdep hcl ⟨v10, v12, hv, ha, hw⟩
   obtain ⟨τ, rfl⟩ := (ac (hv.at 4 rfl (hdep.1 rfl)) (ac (hv.at 5 rfl (hdep.2.1 rfl)) az)).ups
   have hw := hw.selF (i := 1) rfl hD
   refine RL.ia_rd (i := 3) trivial rfl hw rfl rfl rfl sl55 hx11 fun v14 hw => ?_
   have hw := hw.pick 5 [1, 0, 3, 4] (new := [bif D 2 then (pt v10 x9) else junk, pt v14 x11, rd v0 p0, rd v1 p1]) rfl rfl (by decide) (by decide)
   have hw := hw.altT (i := 1) (b := true) rfl rfl (junk)
   refine RL.nil ?_
   exact ⟨rfl, v10, v14, hv.put 6 rfl rfl, ha.up rfl, hw⟩
  ·rintro D σ w hD hdep hcl ⟨v10, v12, hv, ha, hw⟩
   obtain ⟨τ, rfl⟩ := (ac (hv.at 6 rfl (hdep.1 rfl)) az).ups
   have hw := hw.selT (i := 1) rfl (hdep.1 rfl)
   refine RL.load_pts (i := 1) (y := x11) trivial rfl hw rfl rfl ty9 ?_
   have hw := hw.altT (i := 1) (b := D 6) rfl (hdep.1 rfl) (junk)
   refine RL.nil ?_
   exact ⟨rfl, v10, v12, hv.put 7 rfl rfl, ha.up rfl, hw⟩
  ·rintro D σ w hD hdep hcl ⟨v10, v12, hv, ha, hw⟩
   obtain ⟨τ, rfl⟩ := (ac (hv.at 3 rfl (hdep.1 rfl)) (ac (hv.at 7 rfl (hdep.2.1 rfl)) az)).ups
   refine RL.scmp (a := x9) (b := x11) trivial rfl rfl rfl rfl ?_
   refine RL.nil ?_
   exact ⟨rfl, v10, v12, hv.put 8 rfl rfl, ha.up rfl, hw⟩
  rintro D σ w hall ⟨v10, v12, hv, ha, hw⟩
  rw [hall 2 (by decide), hall 6 (by decide)] at hw
  obtain ⟨τ, rfl⟩ := (ac (hv.at 8 rfl (hall 8 (by decide))) (ac (ha.at 0 rfl) (ac (ha.at 1 rfl) (ac (ha.at 2 rfl) (ac (ha.at 3 rfl) (ac (ha.at 4 rfl) az)))))).ups
  refine thenQ_n ?_
  refine RC.cond (b := (!x9.eqb x11)) rfl (fun hc => ?_) (fun hc => ?_)
  rotate_left
  ·replace hb := cF hc hb
   refine RC.skip ?_
   refine blkQ_n ?_
   refine thenQ_n ?_
   refine RC.region ?_
   refine RL.inc trivial rfl hk hm rfl rfl ?_
   refine mv (vi ((k1 + 1 : Nat) : Int)) rfl rfl ?_
   refine RL.nil ?_
   obtain rfl := oi hb
   exact ⟨rfl, ⟨rfl, rfl, rfl, rfl, trivial⟩, hw.pick 4 [2, 3] (new := [rd v0 p0, rd v1 p1]) rfl rfl (by decide) (by decide)⟩
  replace hb := cT hc hb
  refine RC.sr ?_
  refine as_ (vb false) rfl rfl ?_
  refine RL.nt ?_
  refine RC.rb ?_
  refine thenQ_r ?_
  obtain rfl := oi hb
  exact ⟨rfl, fin1 rfl rfl ⟨rfl, hw.drop 4 rfl⟩⟩
 ·intro r σ w e hK
  subst e
  refine thenQ_r ?_
  obtain rfl := oi hb
  exact hK
 intro s2 σ w e hJ
 subst e
 rw [Fo.cs_go] at hb
 obtain ⟨ha, hw⟩ := hJ
 obtain ⟨τ, rfl⟩ := ha.ups
 refine thenQ_n ?_
 refine RC.sr ?_
 refine as_ (vb true) rfl rfl ?_
 refine RL.nt ?_
 refine RC.ret ?_
 obtain rfl := oi hb
 exact fin1 rfl rfl ⟨rfl, hw.drop 2 rfl⟩
def etchhouseref2_Same_R (E : World) (Γ : List HP) (res : Bool) (v : Value) (w : World) : Prop := v = (vb res) ∧ Holds E w Γ
def etchhouseref2_Same_K (E : World) (Γ : List HP) (r : Bool) (σ : Nat → Value) (w : World) : Prop := finQ Tryd.prog 64 Tryd.f24 (etchhouseref2_Same_R E Γ r) .ret σ w
theorem etchhouseref2_Same_ok (N : Nat) {E w : World} {Γ : List HP} {i0 : Nat} {v0 : Value} {p0 : Netlist} {i1 : Nat} {v1 : Value} {p1 : Netlist} {res : Bool} (hw : Holds E w Γ) (h0 : Γ[i0]? = some (rd v0 p0)) (h1 : Γ[i1]? = some (rd v1 p1)) (hb : etchhouseref2_Same N p0 p1 = some res) :
    Calls Tryd.prog 24 [v0, v1].toArray w (Ret (etchhouseref2_Same_R E Γ res)) := by
 unfold etchhouseref2_Same at hb
 refine enter Tryd.func24 rfl rfl (Nat.le_of_ble_eq_true rfl) ?_
 have hw := hw.dup (i := i0 + 0) h0
 have hw := hw.dup (i := i1 + 1) h1
 refine RC.sr ?_
 refine RL.box_rd (i := 1) (v := v0) trivial rfl hw rfl rfl fun b1 w hw => ?_
 refine RL.box_rd (i := 1) (v := v1) trivial rfl hw rfl rfl fun b2 w hw => ?_
 refine as_ (vb false) rfl rfl ?_
 refine RL.nq ?_
 refine RC.seq ?_
 obtain ⟨s12, hj, hb⟩ := bd hb
 refine RC.jn (fun (s12 : Bool) (σ : Nat → Value) (w : World) => agree σ [(2, (vp b1 0)), (3, (vp b2 0)), (21, (vb s12))] ∧ Holds E w ([bx 26 b1 p0, bx 26 b2 p1] ++ Γ)) s12 ?_ ?_
 ·refine RC.region ?_
  refine RL.fa_b trivial rfl rfl fa26_0 ?_
  refine RL.load_bf (i := 1) (f := (fun x => x.Parts)) trivial rfl hw rfl rfl fd_Netlist_0 ty23 fun v13 hw => ?_
  refine RL.fa_b trivial rfl rfl fa26_0 ?_
  refine RL.load_bf (i := 1) (f := (fun x => x.Parts)) trivial rfl hw rfl rfl fd_Netlist_0 ty23 fun v14 hw => ?_
  obtain ⟨x15, hx15, hj⟩ := bd hj
  refine RL.call trivial rfl fn63 [v13, v14] rfl (Calls_ret (slices_Equal_Part_ok N  (i0 := 1) (i1 := 0) hw rfl rfl hx15) ?_)
  rintro _ w ⟨rfl, hw⟩
  refine RL.not (b := x15) trivial rfl rfl ?_
  refine mv (vb (!x15)) rfl rfl ?_
  rcases Bool.eq_false_or_eq_true (!x15) with hg16 | hg16
  ·replace hj := cT hg16 hj
   refine sk rfl (.inl (cb hg16)) rfl ?_
   refine sk rfl (.inl (cb hg16)) rfl ?_
   refine sk rfl (.inl (cb hg16)) rfl ?_
   refine sk rfl (.inl (cb hg16)) rfl ?_
   refine sk rfl (.inl (cb hg16)) rfl ?_
   refine sk rfl (.inl (cb hg16)) rfl ?_
   refine sk rfl (.inl (cb hg16)) rfl ?_
   refine RL.pick (b := (!x15)) (v := (vb true)) trivial rfl rfl (by rw [hg16]; rfl) ?_
   refine RL.nil ?_
   obtain rfl := oi hj
   exact ⟨rfl, ⟨rfl, rfl, rfl, trivial⟩, hw.pick 6 [3, 2] (new := [bx 26 b1 p0, bx 26 b2 p1]) rfl rfl (by decide) (by decide)⟩
  replace hj := cF hg16 hj
  refine RL.fa_b ⟨_, rfl, cb hg16⟩ rfl rfl fa26_1 ?_
  refine RL.load_bf (i := 3) (f := (fun x => x.Nets)) ⟨_, rfl, cb hg16⟩ rfl hw rfl rfl fd_Netlist_1 ty24 fun v17 hw => ?_
  refine RL.len_rd (i := 0) (l := p0.Nets) ⟨_, rfl, cb hg16⟩ rfl hw rfl rfl un24 ?_
  refine RL.fa_b ⟨_, rfl, cb hg16⟩ rfl rfl fa26_1 ?_
  refine RL.load_bf (i := 3) (f := (fun x => x.Nets)) ⟨_, rfl, cb hg16⟩ rfl hw rfl rfl fd_Netlist_1 ty24 fun v18 hw => ?_
  refine RL.len_rd (i := 0) (l := p1.Nets) ⟨_, rfl, cb hg16⟩ rfl hw rfl rfl un24 ?_
  refine RL.icmp (a := (p0.Nets.length : Int)) (b := (p1.Nets.length : Int)) ⟨_, rfl, cb hg16⟩ rfl rfl rfl rfl ?_
  refine RL.pick (b := (!x15)) (v := (vb ((p0.Nets.length : Int) != (p1.Nets.length : Int)))) trivial rfl rfl (by rw [hg16]; rfl) ?_
  refine RL.nil ?_
  obtain rfl := oi hj
  exact ⟨rfl, ⟨rfl, rfl, rfl, trivial⟩, hw.pick 8 [5, 4] (new := [bx 26 b1 p0, bx 26 b2 p1]) rfl rfl (by decide) (by decide)⟩
 rintro σ w ⟨ha, hw⟩
 obtain ⟨τ, rfl⟩ := ha.ups
 refine thenQ_n ?_
 refine RC.cond (b := s12) rfl (fun hc => ?_) (fun hc => ?_)
 ·replace hb := cT hc hb
  refine RC.sr ?_
  refine as_ (vb false) rfl rfl ?_
  refine RL.nt ?_
  refine RC.rt ?_
  obtain rfl := oi hb
  exact fin1 rfl rfl ⟨rfl, hw.drop 2 rfl⟩
 replace hb := cF hc hb
 refine RC.ss ?_
 refine RC.sr ?_
 refine RL.fa_b trivial rfl rfl fa26_1 ?_
 refine RL.load_bf (i := 0) (f := (fun x => x.Nets)) trivial rfl hw rfl rfl fd_Netlist_1 ty24 fun v19 hw => ?_
 refine RL.len_rd (i := 0) (l := p0.Nets) trivial rfl hw rfl rfl un24 ?_
 refine mv (vi 0) rfl rfl ?_
 refine RL.nt ?_
 obtain ⟨o246, hN, hb⟩ := bd hb
 refine RC.range (fun (k20 : Nat) (s21 : Unit) (σ : Nat → Value) (w : World) => agree σ [(3, (vp b2 0)), (23, v19), (24, (vi (p0.Nets.length : Int))), (25, (vi (k20 : Int)))] ∧ Holds E w ([bx 26 b2 p1, rd v19 p0.Nets] ++ Γ)) (fun (s21 : Unit) (σ : Nat → Value) (w : World) => agree σ [] ∧ Holds E w ([bx 26 b2 p1, rd v19 p0.Nets] ++ Γ)) (etchhouseref2_Same_K E Γ) hN ?_ ?_ ?_ ?_ ?_ 
 ·exact ⟨⟨rfl, rfl, rfl, rfl, trivial⟩, hw.pick 3 [2, 0] (new := [bx 26 b2 p1, rd v19 p0.Nets]) rfl rfl (by decide) (by decide)⟩
 ·intro hm s21 σ w hI
  obtain ⟨ha, hw⟩ := hI
  obtain ⟨τ, rfl⟩ := ha.ups
  refine RC.sr ?_
  refine ic ((p0.Nets.length : Int)) ((p0.Nets.length : Int)) rfl rfl rfl rfl ?_
  refine RL.nq ?_
  refine RC.cond_f dge ?_
  refine RC.ex ?_
  exact ⟨rfl, trivial, hw.pick 2 [0, 1] (new := [bx 26 b2 p1, rd v19 p0.Nets]) rfl rfl (by decide) (by decide)⟩
 ·intro hm k20 s21 fl σ w hk hI hb
  obtain ⟨ha, hw⟩ := hI
  obtain ⟨τ, rfl⟩ := ha.ups
  refine RC.sr ?_
  refine ic ((k20 : Int)) ((p0.Nets.length : Int)) rfl rfl rfl rfl ?_
  refine RL.nq ?_
  refine RC.cond_t (dlt hk) ?_
  refine RC.ss ?_
  refine RC.bs ?_
  refine mv (vi (k20 : Int)) rfl rfl ?_
  obtain ⟨x134, hx134, hb⟩ := bd hb
  refine RL.ia_rd (i := 1) trivial rfl hw rfl rfl rfl sl24 hx134 fun v135 hw => ?_
  refine RL.load_pt (i := 0) (x := x134) trivial rfl hw rfl rfl ty64 fun v136 hw => ?_
  refine RL.alloc trivial rfl hw ze64.z fun b137 w hw => ?_
  refine as_ (vi (k20 : Int)) rfl rfl ?_
  refine RL.store_raw (i := 0) (j := 1) trivial hw rfl rfl rfl rfl ty64 rfl fun w hw => ?_
  refine RL.nq ?_
  obtain ⟨s201, hj, hb⟩ := bd hb
  refine RC.jn (fun (s201 : Bool) (σ : Nat → Value) (w : World) => agree σ [(3, (vp b2 0)), (23, v19), (24, (vi (p0.Nets.length : Int))), (25, (vi (k20 : Int))), (62, (vb s201))] ∧ Holds E w ([bx 26 b2 p1, rd v19 p0.Nets] ++ Γ)) s201 ?_ ?_
  ·obtain ⟨x203, hx203, hj⟩ := bd hj
   rcases Bool.eq_false_or_eq_true (!x134.Name.eqb x203.Name) with hg206 | hg206
   ·replace hj := cT hg206 hj
    refine RC.drw mixed rfl (fun (D : Nat → Bool) (σ : Nat → Value) (w : World) => ∃ (v202 : Value) (v204 : Value) (v205 : Value), doneV D σ [(0, 30, (vp b137 0)), (1, 31, (str x134.Name)), (2, 32, (vp b2 1)), (3, 33, v202), (4, 34, (vi (k20 : Int))), (5, 35, v204), (6, 36, v205), (7, 37, (str x203.Name)), (8, 38, (vb (!x134.Name.eqb x203.Name))), (9, 39, (vb (!x134.Name.eqb x203.Name))), (10, 40, undef), (11, 41, undef), (12, 42, undef), (13, 43, undef), (14, 44, undef), (15, 45, undef), (16, 46, undef), (17, 47, undef), (18, 48, undef), (19, 49, undef), (20, 50, (vb true)), (21, 51, (vb true)), (22, 52, undef), (23, 53, undef), (24, 54, undef), (25, 55, undef), (26, 56, undef), (27, 57, undef), (28, 58, undef), (29, 59, undef), (30, 60, undef), (31, 61, undef), (32, 62, (vb true))] ∧ agree σ [(3, (vp b2 0)), (5, (vi (k20 : Int))), (6, (vp b137 0)), (23, v19), (24, (vi (p0.Nets.length : Int))), (25, (vi (k20 : Int)))] ∧ Holds E w ([bif D 3 then (rd v202 p1.Nets) else junk, bif D 5 then (pt v204 x203) else junk, bif D 6 then (pt v205 x203.Name) else junk, bx 64 b137 x134, rd v136 x134, pt v135 x134, bx 26 b2 p1, rd v19 p0.Nets] ++ Γ)) ?_ ⟨?_, ?_, ?_, ?_, ?_, ?_, ?_, ?_, ?_, ?_, ?_, ?_, ?_, ?_, ?_, ?_, ?_, ?_, ?_, ?_, ?_, ?_, ?_, ?_, ?_, ?_, ?_, ?_, ?_, ?_, ?_, ?_, ?_, trivial⟩ ?_
    ·have hw := hw.drew
     have hw := hw.junk
     have hw := hw.junk
     have hw := hw.junk
     exact ⟨undef, undef, undef, doneV.none, ⟨rfl, rfl, rfl, rfl, rfl, rfl, trivial⟩, hw⟩
    ·rintro D σ w hD hdep hcl ⟨v202, v204, v205, hv, ha, hw⟩
     obtain ⟨τ, rfl⟩ := (ac (ha.at 2 rfl) az).ups
     refine RL.fa_b trivial rfl rfl fa64_0 ?_
     refine RL.nil ?_
     exact ⟨rfl, v202, v204, v205, hv.put 0 rfl rfl, ha.up rfl, hw⟩
    ·rintro D σ w hD hdep hcl ⟨v202, v204, v205, hv, ha, hw⟩
     obtain ⟨τ, rfl⟩ := (ac (hv.at 0 rfl (hdep.1 rfl)) az).ups
     refine RL.load_bfs (i := 3) (f := (fun x => x.Name)) trivial rfl hw rfl rfl fd_Net_0 ty9 ?_
     refine RL.nil ?_
     exact ⟨rfl, v202, v204, v205, hv.put 1 rfl rfl, ha.up rfl, hw⟩
    ·rintro D σ w hD hdep hcl ⟨v202, v204, v205, hv, ha, hw⟩
     obtain ⟨τ, rfl⟩ := (ac (ha.at 0 rfl) az).ups
     refine RL.fa_b trivial rfl rfl fa26_1 ?_
     refine RL.nil ?_
     exact ⟨rfl, v202, v204, v205, hv.put 2 rfl rfl, ha.up rfl, hw⟩
    ·rintro D σ w hD hdep hcl ⟨v202, v204, v205, hv, ha, hw⟩
     obtain ⟨τ, rfl⟩ := (ac (hv.at 2 rfl (hdep.1 rfl)) az).ups
     have hw := hw.selF (i := 0) rfl hD
     refine RL.load_bf (i := 6) (f := (fun x => x.Nets)) trivial rfl hw rfl rfl fd_Netlist_1 ty24 fun v207 hw => ?_
     have hw := hw.pick 9 [0, 2, 3, 4, 5, 6, 7, 8] (new := [rd v207 p1.Nets, bif D 5 then (pt v204 x203) else junk, bif D 6 then (pt v205 x203.Name) else junk, bx 64 b137 x134, rd v136 x134, pt v135 x134, bx 26 b2 p1, rd v19 p0.Nets]) rfl rfl (by decide) (by decide)
     have hw := hw.altT (i := 0) (b := true) rfl rfl (junk)
     refine RL.nil ?_
     exact ⟨rfl, v207, v204, v205, hv.put 3 rfl rfl, ha.up rfl, hw⟩
    ·rintro D σ w hD hdep hcl ⟨v202, v204, v205, hv, ha, hw⟩
     obtain ⟨τ, rfl⟩ := (ac (ha.at 1 rfl) az).ups
     refine mv (vi (k20 : Int)) rfl rfl ?_
     refine RL.nil ?_
     exact ⟨rfl, v202, v204, v205, hv.put 4 rfl rfl, ha.up rfl, hw⟩
    ·rintro D σ w hD hdep hcl ⟨v202, v204, v205, hv, ha, hw⟩
     obtain ⟨τ, rfl⟩ := (ac (hv.at 3 rfl (hdep.1 rfl)) (ac (hv.at 4 rfl (hdep.2.1 rfl)) az)).ups
     have hw := hw.selT (i := 0) rfl (hdep.1 rfl)
     have hw := hw.selF (i := 1) rfl hD
     refine RL.ia_rd (i := 0) trivial rfl hw rfl rfl rfl sl24 hx203 fun v208 hw => ?_
     have hw := hw.pick 9 [1, 0, 3, 4, 5, 6, 7, 8] (new := [rd v202 p1.Nets, pt v208 x203, bif D 6 then (pt v205 x203.Name) else junk, bx 64 b137 x134, rd v136 x134, pt v135 x134, bx 26 b2 p1, rd v19 p0.Nets]) rfl rfl (by decide) (by decide)
     have hw := hw.altT (i := 0) (b := D 3) rfl (hdep.1 rfl) (junk)
     have hw := hw.altT (i := 1) (b := true) rfl rfl (junk)
     refine RL.nil ?_
     exact ⟨rfl, v202, v208, v205, hv.put 5 rfl rfl, ha.up rfl, hw⟩
    ·rintro D σ w hD hdep hcl ⟨v202, v204, v205, hv, ha, hw⟩
     obtain ⟨τ, rfl⟩ := (ac (hv.at 5 rfl (hdep.1 rfl)) az).ups
     have hw := hw.selT (i := 1) rfl (hdep.1 rfl)
     have hw := hw.selF (i := 2) rfl hD
     refine RL.fa_pt (i := 1) (f := fun (x : Net) => x.Name) trivial rfl hw rfl rfl fa64_0 fd_Net_0 fun v209 hw => ?_
     have hw := hw.pick 9 [1, 2, 0, 4, 5, 6, 7, 8] (new := [bif D 3 then (rd v202 p1.Nets) else junk, pt v204 x203, pt v209 x203.Name, bx 64 b137 x134, rd v136 x134, pt v135 x134, bx 26 b2 p1, rd v19 p0.Nets]) rfl rfl (by decide) (by decide)
     have hw := hw.altT (i := 1) (b := D 5) rfl (hdep.1 rfl) (junk)
     have hw := hw.altT (i := 2) (b := true) rfl rfl (junk)
     refine RL.nil ?_
     exact ⟨rfl, v202, v204, v209, hv.put 6 rfl rfl, ha.up rfl, hw⟩
    ·rintro D σ w hD hdep hcl ⟨v202, v204, v205, hv, ha, hw⟩
     obtain ⟨τ, rfl⟩ := (ac (hv.at 6 rfl (hdep.1 rfl)) az).ups
     have hw := hw.selT (i := 2) rfl (hdep.1 rfl)
     refine RL.load_pts (i := 2) (y := x203.Name) trivial rfl hw rfl rfl ty9 ?_
     have hw := hw.altT (i := 2) (b := D 6) rfl (hdep.1 rfl) (junk)
     refine RL.nil ?_
     exact ⟨rfl, v202, v204, v205, hv.put 7 rfl rfl, ha.up rfl, hw⟩
    ·rintro D σ w hD hdep hcl ⟨v202, v204, v205, hv, ha, hw⟩
     obtain ⟨τ, rfl⟩ := (ac (hv.at 1 rfl (hdep.1 rfl)) (ac (hv.at 7 rfl (hdep.2.1 rfl)) az)).ups
     refine RL.scmp (a := x134.Name) (b := x203.Name) trivial rfl rfl rfl rfl ?_
     refine RL.nil ?_
     exact ⟨rfl, v202, v204, v205, hv.put 8 rfl rfl, ha.up rfl, hw⟩
    ·rintro D σ w hD hdep hcl ⟨v202, v204, v205, hv, ha, hw⟩
     obtain ⟨τ, rfl⟩ := (ac (hv.at 8 rfl (hdep.1 rfl)) az).ups
     refine mv (vb (!x134.Name.eqb x203.Name)) rfl rfl ?_
     refine RL.nil ?_
     exact ⟨rfl, v202, v204, v205, hv.put 9 rfl rfl, ha.up rfl, hw⟩
    ·rintro D σ w hD hdep hcl ⟨v202, v204, v205, hv, ha, hw⟩
     obtain ⟨τ, rfl⟩ := (ac (hv.at 9 rfl (hdep.1 rfl)) (ac (ha.at 2 rfl) az)).ups
     refine sk rfl (.inl (cb hg206)) rfl ?_
     refine RL.nil ?_
     exact ⟨rfl, v202, v204, v205, hv.put 10 rfl rfl, ha.up rfl, hw⟩
    ·rintro D σ w hD hdep hcl ⟨v202, v204, v205, hv, ha, hw⟩
     obtain ⟨τ, rfl⟩ := (ac (hv.at 9 rfl (hdep.2.1 rfl)) (ac (hv.at 10 rfl (hdep.1 rfl)) az)).ups
     refine sk rfl (.inl (cb hg206)) rfl ?_
     refine RL.nil ?_
     exact ⟨rfl, v202, v204, v205, hv.put 11 rfl rfl, ha.up rfl, hw⟩
    ·rintro D σ w hD hdep hcl ⟨v202, v204, v205, hv, ha, hw⟩
     obtain ⟨τ, rfl⟩ := (ac (hv.at 9 rfl (hdep.1 rfl)) (ac (ha.at 0 rfl) az)).ups
     refine sk rfl (.inl (cb hg206)) rfl ?_
     refine RL.nil ?_
     exact ⟨rfl, v202, v204, v205, hv.put 12 rfl rfl, ha.up rfl, hw⟩
    ·rintro D σ w hD hdep hcl ⟨v202, v204, v205, hv, ha, hw⟩
     obtain ⟨τ, rfl⟩ := (ac (hv.at 9 rfl (hdep.2.1 rfl)) (ac (hv.at 12 rfl (hdep.1 rfl)) az)).ups
     refine sk rfl (.inl (cb hg206)) rfl ?_
     refine RL.nil ?_
     exact ⟨rfl, v202, v204, v205, hv.put 13 rfl rfl, ha.up rfl, hw⟩
    ·rintro D σ w hD hdep hcl ⟨v202, v204, v205, hv, ha, hw⟩
     obtain ⟨τ, rfl⟩ := (ac (hv.at 9 rfl (hdep.1 rfl)) (ac (ha.at 1 rfl) az)).ups
     refine sk rfl (.inl (cb hg206)) rfl ?_
     refine RL.nil ?_
     exact ⟨rfl, v202, v204, v205, hv.put 14 rfl rfl, ha.up rfl, hw⟩
    ·rintro D σ w hD hdep hcl ⟨v202, v204, v205, hv, ha, hw⟩
     obtain ⟨τ, rfl⟩ := (ac (hv.at 9 rfl (hdep.2.2.1 rfl)) (ac (hv.at 13 rfl (hdep.1 rfl)) (ac (hv.at 14 rfl (hdep.2.1 rfl)) az))).ups
     refine sk rfl (.inl (cb hg206)) rfl ?_
     refine RL.nil ?_
     exact ⟨rfl, v202, v204, v205, hv.put 15 rfl rfl, ha.up rfl, hw⟩
    ·rintro D σ w hD hdep hcl ⟨v202, v204, v205, hv, ha, hw⟩
     obtain ⟨τ, rfl⟩ := (ac (hv.at 9 rfl (hdep.2.1 rfl)) (ac (hv.at 15 rfl (hdep.1 rfl)) az)).ups
     refine sk rfl (.inl (cb hg206)) rfl ?_
     refine RL.nil ?_
     exact ⟨rfl, v202, v204, v205, hv.put 16 rfl rfl, ha.up rfl, hw⟩
    ·rintro D σ w hD hdep hcl ⟨v202, v204, v205, hv, ha, hw⟩
     obtain ⟨τ, rfl⟩ := (ac (hv.at 9 rfl (hdep.2.1 rfl)) (ac (hv.at 16 rfl (hdep.1 rfl)) az)).ups
     refine sk rfl (.inl (cb hg206)) rfl ?_
     refine RL.nil ?_
     exact ⟨rfl, v202, v204, v205, hv.put 17 rfl rfl, ha.up rfl, hw⟩
    ·rintro D σ w hD hdep hcl ⟨v202, v204, v205, hv, ha, hw⟩
     obtain ⟨τ, rfl⟩ := (ac (hv.at 9 rfl (hdep.2.2.1 rfl)) (ac (hv.at 11 rfl (hdep.1 rfl)) (ac (hv.at 17 rfl (hdep.2.1 rfl)) az))).ups
     refine sk rfl (.inl (cb hg206)) rfl ?_
     refine RL.nil ?_
     exact ⟨rfl, v202, v204, v205, hv.put 18 rfl rfl, ha.up rfl, hw⟩
    ·rintro D σ w hD hdep hcl ⟨v202, v204, v205, hv, ha, hw⟩
     obtain ⟨τ, rfl⟩ := (ac (hv.at 9 rfl (hdep.2.1 rfl)) (ac (hv.at 18 rfl (hdep.1 rfl)) az)).ups
     refine sk rfl (.inl (cb hg206)) rfl ?_
     refine RL.nil ?_
     exact ⟨rfl, v202, v204, v205, hv.put 19 rfl rfl, ha.up rfl, hw⟩
    ·rintro D σ w hD hdep hcl ⟨v202, v204, v205, hv, ha, hw⟩
     obtain ⟨τ, rfl⟩ := (ac (hv.at 9 rfl (hdep.1 rfl)) (ac (hv.at 19 rfl (hdep.2.1 rfl)) az)).ups
     refine RL.pick (b := (!x134.Name.eqb x203.Name)) (v := (vb true)) trivial rfl rfl (by rw [hg206]; rfl) ?_
     refine RL.nil ?_
     exact ⟨rfl, v202, v204, v205, hv.put 20 rfl rfl, ha.up rfl, hw⟩
    ·rintro D σ w hD hdep hcl ⟨v202, v204, v205, hv, ha, hw⟩
     obtain ⟨τ, rfl⟩ := (ac (hv.at 20 rfl (hdep.1 rfl)) az).ups
     refine mv (vb true) rfl rfl ?_
     refine RL.nil ?_
     exact ⟨rfl, v202, v204, v205, hv.put 21 rfl rfl, ha.up rfl, hw⟩
    ·rintro D σ w hD hdep hcl ⟨v202, v204, v205, hv, ha, hw⟩
     obtain ⟨τ, rfl⟩ := (ac (hv.at 21 rfl (hdep.1 rfl)) (ac (ha.at 2 rfl) az)).ups
     refine sk rfl (.inl rfl) rfl ?_
     refine RL.nil ?_
     exact ⟨rfl, v202, v204, v205, hv.put 22 rfl rfl, ha.up rfl, hw⟩
    ·rintro D σ w hD hdep hcl ⟨v202, v204, v205, hv, ha, hw⟩
     obtain ⟨τ, rfl⟩ := (ac (hv.at 21 rfl (hdep.2.1 rfl)) (ac (hv.at 22 rfl (hdep.1 rfl)) az)).ups
     refine sk rfl (.inl rfl) rfl ?_
     refine RL.nil ?_
     exact ⟨rfl, v202, v204, v205, hv.put 23 rfl rfl, ha.up rfl, hw⟩
    ·rintro D σ w hD hdep hcl ⟨v202, v204, v205, hv, ha, hw⟩
     obtain ⟨τ, rfl⟩ := (ac (hv.at 21 rfl (hdep.1 rfl)) (ac (ha.at 0 rfl) az)).ups
     refine sk rfl (.inl rfl) rfl ?_
     refine RL.nil ?_
     exact ⟨rfl, v202, v204, v205, hv.put 24 rfl rfl, ha.up rfl, hw⟩
    ·rintro D σ w hD hdep hcl ⟨v202, v204, v205, hv, ha, hw⟩
     obtain ⟨τ, rfl⟩ := (ac (hv.at 21 rfl (hdep.2.1 rfl)) (ac (hv.at 24 rfl (hdep.1 rfl)) az)).ups
     refine sk rfl (.inl rfl) rfl ?_
     refine RL.nil ?_
     exact ⟨rfl, v202, v204, v205, hv.put 25 rfl rfl, ha.up rfl, hw⟩
    ·rintro D σ w hD hdep hcl ⟨v202, v204, v205, hv, ha, hw⟩
     obtain ⟨τ, rfl⟩ := (ac (hv.at 21 rfl (hdep.1 rfl)) (ac (ha.at 1 rfl) az)).ups
     refine sk rfl (.inl rfl) rfl ?_
     refine RL.nil ?_
     exact ⟨rfl, v202, v204, v205, hv.put 26 rfl rfl, ha.up rfl, hw⟩
    ·rintro D σ w hD hdep hcl ⟨v202, v204, v205, hv, ha, hw⟩
     obtain ⟨τ, rfl⟩ := (ac (hv.at 21 rfl (hdep.2.2.1 rfl)) (ac (hv.at 25 rfl (hdep.1 rfl)) (ac (hv.at 26 rfl (hdep.2.1 rfl)) az))).ups
     refine sk rfl (.inl rfl) rfl ?_
     refine RL.nil ?_
     exact ⟨rfl, v202, v204, v205, hv.put 27 rfl rfl, ha.up rfl, hw⟩
    ·rintro D σ w hD hdep hcl ⟨v202, v204, v205, hv, ha, hw⟩
     obtain ⟨τ, rfl⟩ := (ac (hv.at 21 rfl (hdep.2.1 rfl)) (ac (hv.at 27 rfl (hdep.1 rfl)) az)).ups
     refine sk rfl (.inl rfl) rfl ?_
     refine RL.nil ?_
     exact ⟨rfl, v202, v204, v205, hv.put 28 rfl rfl, ha.up rfl, hw⟩
    ·rintro D σ w hD hdep hcl ⟨v202, v204, v205, hv, ha, hw⟩
     obtain ⟨τ, rfl⟩ := (ac (hv.at 21 rfl (hdep.2.1 rfl)) (ac (hv.at 28 rfl (hdep.1 rfl)) az)).ups
     refine sk rfl (.inl rfl) rfl ?_
     refine RL.nil ?_
     exact ⟨rfl, v202, v204, v205, hv.put 29 rfl rfl, ha.up rfl, hw⟩
    ·rintro D σ w hD hdep hcl ⟨v202, v204, v205, hv, ha, hw⟩
     obtain ⟨τ, rfl⟩ := (ac (hv.at 21 rfl (hdep.2.2.1 rfl)) (ac (hv.at 23 rfl (hdep.1 rfl)) (ac (hv.at 29 rfl (hdep.2.1 rfl)) az))).ups
     refine sk rfl (.inl rfl) rfl ?_
     refine RL.nil ?_
     exact ⟨rfl, v202, v204, v205, hv.put 30 rfl rfl, ha.up rfl, hw⟩
    ·rintro D σ w hD hdep hcl ⟨v202, v204, v205, hv, ha, hw⟩
     obtain ⟨τ, rfl⟩ := (ac (hv.at 21 rfl (hdep.2.1 rfl)) (ac (hv.at 30 rfl (hdep.1 rfl)) az)).ups
     refine sk rfl (.inl rfl) rfl ?_
     refine RL.nil ?_
     exact ⟨rfl, v202, v204, v205, hv.put 31 rfl rfl, ha.up rfl, hw⟩
    ·rintro D σ w hD hdep hcl ⟨v202, v204, v205, hv, ha, hw⟩
     obtain ⟨τ, rfl⟩ := (ac (hv.at 21 rfl (hdep.1 rfl)) (ac (hv.at 31 rfl (hdep.2.1 rfl)) az)).ups
     refine RL.pick (b := true) (v := (vb true)) trivial rfl rfl rfl ?_
     refine RL.nil ?_
     exact ⟨rfl, v202, v204, v205, hv.put 32 rfl rfl, ha.up rfl, hw⟩
    rintro D σ w hall ⟨v202, v204, v205, hv, ha, hw⟩
    rw [hall 3 (by decide), hall 5 (by decide), hall 6 (by decide)] at hw
    obtain ⟨τ, rfl⟩ := (ac (hv.at 32 rfl (hall 32 (by decide))) (ac (ha.at 0 rfl) (ac (ha.at 1 rfl) (ac (ha.at 2 rfl) (ac (ha.at 3 rfl) (ac (ha.at 4 rfl) (ac (ha.at 5 rfl) az))))))).ups
    obtain rfl := oi hj
    exact ⟨rfl, ⟨rfl, rfl, rfl, rfl, rfl, trivial⟩, hw.pick 8 [6, 7] (new := [bx 26 b2 p1, rd v19 p0.Nets]) rfl rfl (by decide) (by decide)⟩
   replace hj := cF hg206 hj
   obtain ⟨x212, hx212, hj⟩ := bd hj
   obtain ⟨x216, hx216, hj⟩ := bd hj
   rcases Bool.eq_false_or_eq_true (!x216) with hg217 | hg217
   ·replace hj := cT hg217 hj
    refine RC.drw mixed rfl (fun (D : Nat → Bool) (σ : Nat → Value) (w : World) => ∃ (v202 : Value) (v204 : Value) (v205 : Value) (v210 : Value) (v211 : Value) (v213 : Value) (v214 : Value) (v215 : Value), doneV D σ [(0, 30, (vp b137 0)), (1, 31, (str x134.Name)), (2, 32, (vp b2 1)), (3, 33, v202), (4, 34, (vi (k20 : Int))), (5, 35, v204), (6, 36, v205), (7, 37, (str x203.Name)), (8, 38, (vb (!x134.Name.eqb x203.Name))), (9, 39, (vb (!x134.Name.eqb x203.Name))), (10, 40, (vp b137 1)), (11, 41, v210), (12, 42, (vp b2 1)), (13, 43, v211), (14, 44, (vi (k20 : Int))), (15, 45, v213), (16, 46, v214), (17, 47, v215), (18, 48, (vb x216)), (19, 49, (vb (!x216))), (20, 50, (vb (!x216))), (21, 51, (vb (!x216))), (22, 52, undef), (23, 53, undef), (24, 54, undef), (25, 55, undef), (26, 56, undef), (27, 57, undef), (28, 58, undef), (29, 59, undef), (30, 60, undef), (31, 61, undef), (32, 62, (vb true))] ∧ agree σ [(3, (vp b2 0)), (5, (vi (k20 : Int))), (6, (vp b137 0)), (23, v19), (24, (vi (p0.Nets.length : Int))), (25, (vi (k20 : Int)))] ∧ Holds E w ([bif D 3 then (rd v202 p1.Nets) else junk, bif D 5 then (pt v204 x203) else junk, bif D 6 then (pt v205 x203.Name) else junk, bif D 11 then (rd v210 x134.Pins) else junk, bif D 13 then (rd v211 p1.Nets) else junk, bif D 15 then (pt v213 x212) else junk, bif D 16 then (pt v214 x212.Pins) else junk, bif D 17 then (rd v215 x212.Pins) else junk, bx 64 b137 x134, rd v136 x134, pt v135 x134, bx 26 b2 p1, rd v19 p0.Nets] ++ Γ)) ?_ ⟨?_, ?_, ?_, ?_, ?_, ?_, ?_, ?_, ?_, ?_, ?_, ?_, ?_, ?_, ?_, ?_, ?_, ?_, ?_, ?_, ?_, ?_, ?_, ?_, ?_, ?_, ?_, ?_, ?_, ?_, ?_, ?_, ?_, trivial⟩ ?_
    ·have hw := hw.drew
     have hw := hw.junk
     have hw := hw.junk
     have hw := hw.junk
     have hw := hw.junk
     have hw := hw.junk
     have hw := hw.junk
     have hw := hw.junk
     have hw := hw.junk
     exact ⟨undef, undef, undef, undef, undef, undef, undef, undef, doneV.none, ⟨rfl, rfl, rfl, rfl, rfl, rfl, trivial⟩, hw⟩
    ·rintro D σ w hD hdep hcl ⟨v202, v204, v205, v210, v211, v213, v214, v215, hv, ha, hw⟩
     obtain ⟨τ, rfl⟩ := (ac (ha.at 2 rfl) az).ups
     refine RL.fa_b trivial rfl rfl fa64_0 ?_
     refine RL.nil ?_
     exact ⟨rfl, v202, v204, v205, v210, v211, v213, v214, v215, hv.put 0 rfl rfl, ha.up rfl, hw⟩
    ·rintro D σ w hD hdep hcl ⟨v202, v204, v205, v210, v211, v213, v214, v215, hv, ha, hw⟩
     obtain ⟨τ, rfl⟩ := (ac (hv.at 0 rfl (hdep.1 rfl)) az).ups
     refine RL.load_bfs (i := 8) (f := (fun x => x.Name)) trivial rfl hw rfl rfl fd_Net_0 ty9 ?_
     refine RL.nil ?_
     exact ⟨rfl, v202, v204, v205, v210, v211, v213, v214, v215, hv.put 1 rfl rfl, ha.up rfl, hw⟩
    ·rintro D σ w hD hdep hcl ⟨v202, v204, v205, v210, v211, v213, v214, v215, hv, ha, hw⟩
     obtain ⟨τ, rfl⟩ := (ac (ha.at 0 rfl) az).ups
     refine RL.fa_b trivial rfl rfl fa26_1 ?_
     refine RL.nil ?_
     exact ⟨rfl, v202, v204, v205, v210, v211, v213, v214, v215, hv.put 2 rfl rfl, ha.up rfl, hw⟩
    ·rintro D σ w hD hdep hcl ⟨v202, v204, v205, v210, v211, v213, v214, v215, hv, ha, hw⟩
     obtain ⟨τ, rfl⟩ := (ac (hv.at 2 rfl (hdep.1 rfl)) az).ups
     have hw := hw.selF (i := 0) rfl hD
     refine RL.load_bf (i := 11) (f := (fun x => x.Nets)) trivial rfl hw rfl rfl fd_Netlist_1 ty24 fun v218 hw => ?_
     have hw := hw.pick 14 [0, 2, 3, 4, 5, 6, 7, 8, 9, 10, 11, 12, 13] (new := [rd v218 p1.Nets, bif D 5 then (pt v204 x203) else junk, bif D 6 then (pt v205 x203.Name) else junk, bif D 11 then (rd v210 x134.Pins) else junk, bif D 13 then (rd v211 p1.Nets) else junk, bif D 15 then (pt v213 x212) else junk, bif D 16 then (pt v214 x212.Pins) else junk, bif D 17 then (rd v215 x212.Pins) else junk, bx 64 b137 x134, rd v136 x134, pt v135 x134, bx 26 b2 p1, rd v19 p0.Nets]) rfl rfl (by decide) (by decide)
     have hw := hw.altT (i := 0) (b := true) rfl rfl (junk)
     refine RL.nil ?_
     exact ⟨rfl, v218, v204, v205, v210, v211, v213, v214, v215, hv.put 3 rfl rfl, ha.up rfl, hw⟩
    ·rintro D σ w hD hdep hcl ⟨v202, v204, v205, v210, v211, v213, v214, v215, hv, ha, hw⟩
     obtain ⟨τ, rfl⟩ := (ac (ha.at 1 rfl) az).ups
     refine mv (vi (k20 : Int)) rfl rfl ?_
     refine RL.nil ?_
     exact ⟨rfl, v202, v204, v205, v210, v211, v213, v214, v215, hv.put 4 rfl rfl, ha.up rfl, hw⟩
    ·rintro D σ w hD hdep hcl ⟨v202, v204, v205, v210, v211, v213, v214, v215, hv, ha, hw⟩
     obtain ⟨τ, rfl⟩ := (ac (hv.at 3 rfl (hdep.1 rfl)) (ac (hv.at 4 rfl (hdep.2.1 rfl)) az)).ups
     have hw := hw.selT (i := 0) rfl (hdep.1 rfl)
     have hw := hw.selF (i := 1) rfl hD
     refine RL.ia_rd (i := 0) trivial rfl hw rfl rfl rfl sl24 hx203 fun v219 hw => ?_
     have hw := hw.pick 14 [1, 0, 3, 4, 5, 6, 7, 8, 9, 10, 11, 12, 13] (new := [rd v202 p1.Nets, pt v219 x203, bif D 6 then (pt v205 x203.Name) else junk, bif D 11 then (rd v210 x134.Pins) else junk, bif D 13 then (rd v211 p1.Nets) else junk, bif D 15 then (pt v213 x212) else junk, bif D 16 then (pt v214 x212.Pins) else junk, bif D 17 then (rd v215 x212.Pins) else junk, bx 64 b137 x134, rd v136 x134, pt v135 x134, bx 26 b2 p1, rd v19 p0.Nets]) rfl rfl (by decide) (by decide)
     have hw := hw.altT (i := 0) (b := D 3) rfl (hdep.1 rfl) (junk)
     have hw := hw.altT (i := 1) (b := true) rfl rfl (junk)
     refine RL.nil ?_
     exact ⟨rfl, v202, v219, v205, v210, v211, v213, v214, v215, hv.put 5 rfl rfl, ha.up rfl, hw⟩
    ·rintro D σ w hD hdep hcl ⟨v202, v204, v205, v210, v211, v213, v214, v215, hv, ha, hw⟩
     obtain ⟨τ, rfl⟩ := (ac (hv.at 5 rfl (hdep.1 rfl)) az).ups
     have hw := hw.selT (i := 1) rfl (hdep.1 rfl)
     have hw := hw.selF (i := 2) rfl hD
     refine RL.fa_pt (i := 1) (f := fun (x : Net) => x.Name) trivial rfl hw rfl rfl fa64_0 fd_Net_0 fun v220 hw => ?_
     have hw := hw.pick 14 [1, 2, 0, 4, 5, 6, 7, 8, 9, 10, 11, 12, 13] (new := [bif D 3 then (rd v202 p1.Nets) else junk, pt v204 x203, pt v220 x203.Name, bif D 11 then (rd v210 x134.Pins) else junk, bif D 13 then (rd v211 p1.Nets) else junk, bif D 15 then (pt v213 x212) else junk, bif D 16 then (pt v214 x212.Pins) else junk, bif D 17 then (rd v215 x212.Pins) else junk, bx 64 b137 x134, rd v136 x134, pt v135 x134, bx 26 b2 p1, rd v19 p0.Nets]) rfl rfl (by decide) (by decide)
     have hw := hw.altT (i := 1) (b := D 5) rfl (hdep.1 rfl) (junk)
     have hw := hw.altT (i := 2) (b := true) rfl rfl (junk)
     refine RL.nil ?_
     exact ⟨rfl, v202, v204, v220, v210, v211, v213, v214, v215, hv.put 6 rfl rfl, ha.up rfl, hw⟩
    ·rintro D σ w hD hdep hcl ⟨v202, v204, v205, v210, v211, v213, v214, v215, hv, ha, hw⟩
     obtain ⟨τ, rfl⟩ := (ac (hv.at 6 rfl (hdep.1 rfl)) az).ups
     have hw := hw.selT (i := 2) rfl (hdep.1 rfl)
     refine RL.load_pts (i := 2) (y := x203.Name) trivial rfl hw rfl rfl ty9 ?_
     have hw := hw.altT (i := 2) (b := D 6) rfl (hdep.1 rfl) (junk)
     refine RL.nil ?_
     exact ⟨rfl, v202, v204, v205, v210, v211, v213, v214, v215, hv.put 7 rfl rfl, ha.up rfl, hw⟩
    ·rintro D σ w hD hdep hcl ⟨v202, v204, v205, v210, v211, v213, v214, v215, hv, ha, hw⟩
     obtain ⟨τ, rfl⟩ := (ac (hv.at 1 rfl (hdep.1 rfl)) (ac (hv.at 7 rfl (hdep.2.1 rfl)) az)).ups
     refine RL.scmp (a := x134.Name) (b := x203.Name) trivial rfl rfl rfl rfl ?_
     refine RL.nil ?_
     exact ⟨rfl, v202, v204, v205, v210, v211, v213, v214, v215, hv.put 8 rfl rfl, ha.up rfl, hw⟩
    ·rintro D σ w hD hdep hcl ⟨v202, v204, v205, v210, v211, v213, v214, v215, hv, ha, hw⟩
     obtain ⟨τ, rfl⟩ := (ac (hv.at 8 rfl (hdep.1 rfl)) az).ups
     refine mv (vb (!x134.Name.eqb x203.Name)) rfl rfl ?_
     refine RL.nil ?_
     exact ⟨rfl, v202, v204, v205, v210, v211, v213, v214, v215, hv.put 9 rfl rfl, ha.up rfl, hw⟩
    ·rintro D σ w hD hdep hcl ⟨v202, v204, v205, v210, v211, v213, v214, v215, hv, ha, hw⟩
     obtain ⟨τ, rfl⟩ := (ac (hv.at 9 rfl (hdep.1 rfl)) (ac (ha.at 2 rfl) az)).ups
     refine RL.fa_b ⟨_, rfl, cb hg206⟩ rfl rfl fa64_1 ?_
     refine RL.nil ?_
     exact ⟨rfl, v202, v204, v205, v210, v211, v213, v214, v215, hv.put 10 rfl rfl, ha.up rfl, hw⟩
    ·rintro D σ w hD hdep hcl ⟨v202, v204, v205, v210, v211, v213, v214, v215, hv, ha, hw⟩
     obtain ⟨τ, rfl⟩ := (ac (hv.at 9 rfl (hdep.2.1 rfl)) (ac (hv.at 10 rfl (hdep.1 rfl)) az)).ups
     have hw := hw.selF (i := 3) rfl hD
     refine RL.load_bf (i := 8) (f := (fun x => x.Pins)) ⟨_, rfl, cb hg206⟩ rfl hw rfl rfl fd_Net_1 ty33 fun v221 hw => ?_
     have hw := hw.pick 14 [1, 2, 3, 0, 5, 6, 7, 8, 9, 10, 11, 12, 13] (new := [bif D 3 then (rd v202 p1.Nets) else junk, bif D 5 then (pt v204 x203) else junk, bif D 6 then (pt v205 x203.Name) else junk, rd v221 x134.Pins, bif D 13 then (rd v211 p1.Nets) else junk, bif D 15 then (pt v213 x212) else junk, bif D 16 then (pt v214 x212.Pins) else junk, bif D 17 then (rd v215 x212.Pins) else junk, bx 64 b137 x134, rd v136 x134, pt v135 x134, bx 26 b2 p1, rd v19 p0.Nets]) rfl rfl (by decide) (by decide)
     have hw := hw.altT (i := 3) (b := true) rfl rfl (junk)
     refine RL.nil ?_
     exact ⟨rfl, v202, v204, v205, v221, v211, v213, v214, v215, hv.put 11 rfl rfl, ha.up rfl, hw⟩
    ·rintro D σ w hD hdep hcl ⟨v202, v204, v205, v210, v211, v213, v214, v215, hv, ha, hw⟩
     obtain ⟨τ, rfl⟩ := (ac (hv.at 9 rfl (hdep.1 rfl)) (ac (ha.at 0 rfl) az)).ups
     refine RL.fa_b ⟨_, rfl, cb hg206⟩ rfl rfl fa26_1 ?_
     refine RL.nil ?_
     exact ⟨rfl, v202, v204, v205, v210, v211, v213, v214, v215, hv.put 12 rfl rfl, ha.up rfl, hw⟩
    ·rintro D σ w hD hdep hcl ⟨v202, v204, v205, v210, v211, v213, v214, v215, hv, ha, hw⟩
     obtain ⟨τ, rfl⟩ := (ac (hv.at 9 rfl (hdep.2.1 rfl)) (ac (hv.at 12 rfl (hdep.1 rfl)) az)).ups
     have hw := hw.selF (i := 4) rfl hD
     refine RL.load_bf (i := 11) (f := (fun x => x.Nets)) ⟨_, rfl, cb hg206⟩ rfl hw rfl rfl fd_Netlist_1 ty24 fun v222 hw => ?_
     have hw := hw.pick 14 [1, 2, 3, 4, 0, 6, 7, 8, 9, 10, 11, 12, 13] (new := [bif D 3 then (rd v202 p1.Nets) else junk, bif D 5 then (pt v204 x203) else junk, bif D 6 then (pt v205 x203.Name) else junk, bif D 11 then (rd v210 x134.Pins) else junk, rd v222 p1.Nets, bif D 15 then (pt v213 x212) else junk, bif D 16 then (pt v214 x212.Pins) else junk, bif D 17 then (rd v215 x212.Pins) else junk, bx 64 b137 x134, rd v136 x134, pt v135 x134, bx 26 b2 p1, rd v19 p0.Nets]) rfl rfl (by decide) (by decide)
     have hw := hw.altT (i := 4) (b := true) rfl rfl (junk)
     refine RL.nil ?_
     exact ⟨rfl, v202, v204, v205, v210, v222, v213, v214, v215, hv.put 13 rfl rfl, ha.up rfl, hw⟩
    ·rintro D σ w hD hdep hcl ⟨v202, v204, v205, v210, v211, v213, v214, v215, hv, ha, hw⟩
     obtain ⟨τ, rfl⟩ := (ac (hv.at 9 rfl (hdep.1 rfl)) (ac (ha.at 1 rfl) az)).ups
     refine RL.move (v := (vi (k20 : Int))) ⟨_, rfl, cb hg206⟩ rfl rfl ?_
     refine RL.nil ?_
     exact ⟨rfl, v202, v204, v205, v210, v211, v213, v214, v215, hv.put 14 rfl rfl, ha.up rfl, hw⟩
    ·rintro D σ w hD hdep hcl ⟨v202, v204, v205, v210, v211, v213, v214, v215, hv, ha, hw⟩
     obtain ⟨τ, rfl⟩ := (ac (hv.at 9 rfl (hdep.2.2.1 rfl)) (ac (hv.at 13 rfl (hdep.1 rfl)) (ac (hv.at 14 rfl (hdep.2.1 rfl)) az))).ups
     have hw := hw.selT (i := 4) rfl (hdep.1 rfl)
     have hw := hw.selF (i := 5) rfl hD
     refine RL.ia_rd (i := 4) ⟨_, rfl, cb hg206⟩ rfl hw rfl rfl rfl sl24 hx212 fun v223 hw => ?_
     have hw := hw.pick 14 [1, 2, 3, 4, 5, 0, 7, 8, 9, 10, 11, 12, 13] (new := [bif D 3 then (rd v202 p1.Nets) else junk, bif D 5 then (pt v204 x203) else junk, bif D 6 then (pt v205 x203.Name) else junk, bif D 11 then (rd v210 x134.Pins) else junk, rd v211 p1.Nets, pt v223 x212, bif D 16 then (pt v214 x212.Pins) else junk, bif D 17 then (rd v215 x212.Pins) else junk, bx 64 b137 x134, rd v136 x134, pt v135 x134, bx 26 b2 p1, rd v19 p0.Nets]) rfl rfl (by decide) (by decide)
     have hw := hw.altT (i := 4) (b := D 13) rfl (hdep.1 rfl) (junk)
     have hw := hw.altT (i := 5) (b := true) rfl rfl (junk)
     refine RL.nil ?_
     exact ⟨rfl, v202, v204, v205, v210, v211, v223, v214, v215, hv.put 15 rfl rfl, ha.up rfl, hw⟩
    ·rintro D σ w hD hdep hcl ⟨v202, v204, v205, v210, v211, v213, v214, v215, hv, ha, hw⟩
     obtain ⟨τ, rfl⟩ := (ac (hv.at 9 rfl (hdep.2.1 rfl)) (ac (hv.at 15 rfl (hdep.1 rfl)) az)).ups
     have hw := hw.selT (i := 5) rfl (hdep.1 rfl)
     have hw := hw.selF (i := 6) rfl hD
     refine RL.fa_pt (i := 5) (f := fun (x : Net) => x.Pins) ⟨_, rfl, cb hg206⟩ rfl hw rfl rfl fa64_1 fd_Net_1 fun v224 hw => ?_
     have hw := hw.pick 14 [1, 2, 3, 4, 5, 6, 0, 8, 9, 10, 11, 12, 13] (new := [bif D 3 then (rd v202 p1.Nets) else junk, bif D 5 then (pt v204 x203) else junk, bif D 6 then (pt v205 x203.Name) else junk, bif D 11 then (rd v210 x134.Pins) else junk, bif D 13 then (rd v211 p1.Nets) else junk, pt v213 x212, pt v224 x212.Pins, bif D 17 then (rd v215 x212.Pins) else junk, bx 64 b137 x134, rd v136 x134, pt v135 x134, bx 26 b2 p1, rd v19 p0.Nets]) rfl rfl (by decide) (by decide)
     have hw := hw.altT (i := 5) (b := D 15) rfl (hdep.1 rfl) (junk)
     have hw := hw.altT (i := 6) (b := true) rfl rfl (junk)
     refine RL.nil ?_
     exact ⟨rfl, v202, v204, v205, v210, v211, v213, v224, v215, hv.put 16 rfl rfl, ha.up rfl, hw⟩
    ·rintro D σ w hD hdep hcl ⟨v202, v204, v205, v210, v211, v213, v214, v215, hv, ha, hw⟩
     obtain ⟨τ, rfl⟩ := (ac (hv.at 9 rfl (hdep.2.1 rfl)) (ac (hv.at 16 rfl (hdep.1 rfl)) az)).ups
     have hw := hw.selT (i := 6) rfl (hdep.1 rfl)
     have hw := hw.selF (i := 7) rfl hD
     refine RL.load_pt (i := 6) (x := x212.Pins) ⟨_, rfl, cb hg206⟩ rfl hw rfl rfl ty33 fun v225 hw => ?_
     have hw := hw.pick 14 [1, 2, 3, 4, 5, 6, 7, 0, 9, 10, 11, 12, 13] (new := [bif D 3 then (rd v202 p1.Nets) else junk, bif D 5 then (pt v204 x203) else junk, bif D 6 then (pt v205 x203.Name) else junk, bif D 11 then (rd v210 x134.Pins) else junk, bif D 13 then (rd v211 p1.Nets) else junk, bif D 15 then (pt v213 x212) else junk, pt v214 x212.Pins, rd v225 x212.Pins, bx 64 b137 x134, rd v136 x134, pt v135 x134, bx 26 b2 p1, rd v19 p0.Nets]) rfl rfl (by decide) (by decide)
     have hw := hw.altT (i := 6) (b := D 16) rfl (hdep.1 rfl) (junk)
     have hw := hw.altT (i := 7) (b := true) rfl rfl (junk)
     refine RL.nil ?_
     exact ⟨rfl, v202, v204, v205, v210, v211, v213, v214, v225, hv.put 17 rfl rfl, ha.up rfl, hw⟩
    ·rintro D σ w hD hdep hcl ⟨v202, v204, v205, v210, v211, v213, v214, v215, hv, ha, hw⟩
     obtain ⟨τ, rfl⟩ := (ac (hv.at 9 rfl (hdep.2.2.1 rfl)) (ac (hv.at 11 rfl (hdep.1 rfl)) (ac (hv.at 17 rfl (hdep.2.1 rfl)) az))).ups
     have hw := hw.selT (i := 3) rfl (hdep.1 rfl)
     have hw := hw.selT (i := 7) rfl (hdep.2.1 rfl)
     refine RL.call ⟨_, rfl, cb hg206⟩ rfl fn17 [v210, v215] rfl (Calls_ret (slices_Equal_Pin_ok N  (i0 := 3) (i1 := 7) hw rfl rfl hx216) ?_)
     rintro _ w ⟨rfl, hw⟩
     have hw := hw.altT (i := 3) (b := D 11) rfl (hdep.1 rfl) (junk)
     have hw := hw.altT (i := 7) (b := D 17) rfl (hdep.2.1 rfl) (junk)
     refine RL.nil ?_
     exact ⟨rfl, v202, v204, v205, v210, v211, v213, v214, v215, hv.put 18 rfl rfl, ha.up rfl, hw⟩
    ·rintro D σ w hD hdep hcl ⟨v202, v204, v205, v210, v211, v213, v214, v215, hv, ha, hw⟩
     obtain ⟨τ, rfl⟩ := (ac (hv.at 9 rfl (hdep.2.1 rfl)) (ac (hv.at 18 rfl (hdep.1 rfl)) az)).ups
     refine RL.not (b := x216) ⟨_, rfl, cb hg206⟩ rfl rfl ?_
     refine RL.nil ?_
     exact ⟨rfl, v202, v204, v205, v210, v211, v213, v214, v215, hv.put 19 rfl rfl, ha.up rfl, hw⟩
    ·rintro D σ w hD hdep hcl ⟨v202, v204, v205, v210, v211, v213, v214, v215, hv, ha, hw⟩
     obtain ⟨τ, rfl⟩ := (ac (hv.at 9 rfl (hdep.1 rfl)) (ac (hv.at 19 rfl (hdep.2.1 rfl)) az)).ups
     refine RL.pick (b := (!x134.Name.eqb x203.Name)) (v := (vb (!x216))) trivial rfl rfl (by rw [hg206]; rfl) ?_
     refine RL.nil ?_
     exact ⟨rfl, v202, v204, v205, v210, v211, v213, v214, v215, hv.put 20 rfl rfl, ha.up rfl, hw⟩
    ·rintro D σ w hD hdep hcl ⟨v202, v204, v205, v210, v211, v213, v214, v215, hv, ha, hw⟩
     obtain ⟨τ, rfl⟩ := (ac (hv.at 20 rfl (hdep.1 rfl)) az).ups
     refine mv (vb (!x216)) rfl rfl ?_
     refine RL.nil ?_
     exact ⟨rfl, v202, v204, v205, v210, v211, v213, v214, v215, hv.put 21 rfl rfl, ha.up rfl, hw⟩
    ·rintro D σ w hD hdep hcl ⟨v202, v204, v205, v210, v211, v213, v214, v215, hv, ha, hw⟩
     obtain ⟨τ, rfl⟩ := (ac (hv.at 21 rfl (hdep.1 rfl)) (ac (ha.at 2 rfl) az)).ups
     refine sk rfl (.inl (cb hg217)) rfl ?_
     refine RL.nil ?_
     exact ⟨rfl, v202, v204, v205, v210, v211, v213, v214, v215, hv.put 22 rfl rfl, ha.up rfl, hw⟩
    ·rintro D σ w hD hdep hcl ⟨v202, v204, v205, v210, v211, v213, v214, v215, hv, ha, hw⟩
     obtain ⟨τ, rfl⟩ := (ac (hv.at 21 rfl (hdep.2.1 rfl)) (ac (hv.at 22 rfl (hdep.1 rfl)) az)).ups
     refine sk rfl (.inl (cb hg217)) rfl ?_
     refine RL.nil ?_
     exact ⟨rfl, v202, v204, v205, v210, v211, v213, v214, v215, hv.put 23 rfl rfl, ha.up rfl, hw⟩
    ·rintro D σ w hD hdep hcl ⟨v202, v204, v205, v210, v211, v213, v214, v215, hv, ha, hw⟩
     obtain ⟨τ, rfl⟩ := (ac (hv.at 21 rfl (hdep.1 rfl)) (ac (ha.at 0 rfl) az)).ups
     refine sk rfl (.inl (cb hg217)) rfl ?_
     refine RL.nil ?_
     exact ⟨rfl, v202, v204, v205, v210, v211, v213, v214, v215, hv.put 24 rfl rfl, ha.up rfl, hw⟩
    ·rintro D σ w hD hdep hcl ⟨v202, v204, v205, v210, v211, v213, v214, v215, hv, ha, hw⟩
     obtain ⟨τ, rfl⟩ := (ac (hv.at 21 rfl (hdep.2.1 rfl)) (ac (hv.at 24 rfl (hdep.1 rfl)) az)).ups
     refine sk rfl (.inl (cb hg217)) rfl ?_
     refine RL.nil ?_
     exact ⟨rfl, v202, v204, v205, v210, v211, v213, v214, v215, hv.put 25 rfl rfl, ha.up rfl, hw⟩
    ·rintro D σ w hD hdep hcl ⟨v202, v204, v205, v210, v211, v213, v214, v215, hv, ha, hw⟩
     obtain ⟨τ, rfl⟩ := (ac (hv.at 21 rfl (hdep.1 rfl)) (ac (ha.at 1 rfl) az)).ups
     refine sk rfl (.inl (cb hg217)) rfl ?_
     refine RL.nil ?_
     exact ⟨rfl, v202, v204, v205, v210, v211, v213, v214, v215, hv.put 26 rfl rfl, ha.up rfl, hw⟩
    ·rintro D σ w hD hdep hcl ⟨v202, v204, v205, v210, v211, v213, v214, v215, hv, ha, hw⟩
     obtain ⟨τ, rfl⟩ := (ac (hv.at 21 rfl (hdep.2.2.1 rfl)) (ac (hv.at 25 rfl (hdep.1 rfl)) (ac (hv.at 26 rfl (hdep.2.1 rfl)) az))).ups
     refine sk rfl (.inl (cb hg217)) rfl ?_
     refine RL.nil ?_
     exact ⟨rfl, v202, v204, v205, v210, v211, v213, v214, v215, hv.put 27 rfl rfl, ha.up rfl, hw⟩
    ·rintro D σ w hD hdep hcl ⟨v202, v204, v205, v210, v211, v213, v214, v215, hv, ha, hw⟩
     obtain ⟨τ, rfl⟩ := (ac (hv.at 21 rfl (hdep.2.1 rfl)) (ac (hv.at 27 rfl (hdep.1 rfl)) az)).ups
     refine sk rfl (.inl (cb hg217)) rfl ?_
     refine RL.nil ?_
     exact ⟨rfl, v202, v204, v205, v210, v211, v213, v214, v215, hv.put 28 rfl rfl, ha.up rfl, hw⟩
    ·rintro D σ w hD hdep hcl ⟨v202, v204, v205, v210, v211, v213, v214, v215, hv, ha, hw⟩
     obtain ⟨τ, rfl⟩ := (ac (hv.at 21 rfl (hdep.2.1 rfl)) (ac (hv.at 28 rfl (hdep.1 rfl)) az)).ups
     refine sk rfl (.inl (cb hg217)) rfl ?_
     refine RL.nil ?_
     exact ⟨rfl, v202, v204, v205, v210, v211, v213, v214, v215, hv.put 29 rfl rfl, ha.up rfl, hw⟩
    ·rintro D σ w hD hdep hcl ⟨v202, v204, v205, v210, v211, v213, v214, v215, hv, ha, hw⟩
     obtain ⟨τ, rfl⟩ := (ac (hv.at 21 rfl (hdep.2.2.1 rfl)) (ac (hv.at 23 rfl (hdep.1 rfl)) (ac (hv.at 29 rfl (hdep.2.1 rfl)) az))).ups
     refine sk rfl (.inl (cb hg217)) rfl ?_
     refine RL.nil ?_
     exact ⟨rfl, v202, v204, v205, v210, v211, v213, v214, v215, hv.put 30 rfl rfl, ha.up rfl, hw⟩
    ·rintro D σ w hD hdep hcl ⟨v202, v204, v205, v210, v211, v213, v214, v215, hv, ha, hw⟩
     obtain ⟨τ, rfl⟩ := (ac (hv.at 21 rfl (hdep.2.1 rfl)) (ac (hv.at 30 rfl (hdep.1 rfl)) az)).ups
     refine sk rfl (.inl (cb hg217)) rfl ?_
     refine RL.nil ?_
     exact ⟨rfl, v202, v204, v205, v210, v211, v213, v214, v215, hv.put 31 rfl rfl, ha.up rfl, hw⟩
    ·rintro D σ w hD hdep hcl ⟨v202, v204, v205, v210, v211, v213, v214, v215, hv, ha, hw⟩
     obtain ⟨τ, rfl⟩ := (ac (hv.at 21 rfl (hdep.1 rfl)) (ac (hv.at 31 rfl (hdep.2.1 rfl)) az)).ups
     refine RL.pick (b := (!x216)) (v := (vb true)) trivial rfl rfl (by rw [hg217]; rfl) ?_
     refine RL.nil ?_
     exact ⟨rfl, v202, v204, v205, v210, v211, v213, v214, v215, hv.put 32 rfl rfl, ha.up rfl, hw⟩
    rintro D σ w hall ⟨v202, v204, v205, v210, v211, v213, v214, v215, hv, ha, hw⟩
    rw [hall 3 (by decide), hall 5 (by decide), hall 6 (by decide), hall 11 (by decide), hall 13 (by decide), hall 15 (by decide), hall 16 (by decide), hall 17 (by decide)] at hw
    obtain ⟨τ, rfl⟩ := (ac (hv.at 32 rfl (hall 32 (by decide))) (ac (ha.at 0 rfl) (ac (ha.at 1 rfl) (ac (ha.at 2 rfl) (ac (ha.at 3 rfl) (ac (ha.at 4 rfl) (ac (ha.at 5 rfl) az))))))).ups
    obtain rfl := oi hj
    exact ⟨rfl, ⟨rfl, rfl, rfl, rfl, rfl, trivial⟩, hw.pick 13 [11, 12] (new := [bx 26 b2 p1, rd v19 p0.Nets]) rfl rfl (by decide) (by decide)⟩
   replace hj := cF hg217 hj
   obtain ⟨x228, hx228, hj⟩ := bd hj
   obtain ⟨x232, hx232, hj⟩ := bd hj
   refine RC.drw mixed rfl (fun (D : Nat → Bool) (σ : Nat → Value) (w : World) => ∃ (v202 : Value) (v204 : Value) (v205 : Value) (v210 : Value) (v211 : Value) (v213 : Value) (v214 : Value) (v215 : Value) (v226 : Value) (v227 : Value) (v229 : Value) (v230 : Value) (v231 : Value), doneV D σ [(0, 30, (vp b137 0)), (1, 31, (str x134.Name)), (2, 32, (vp b2 1)), (3, 33, v202), (4, 34, (vi (k20 : Int))), (5, 35, v204), (6, 36, v205), (7, 37, (str x203.Name)), (8, 38, (vb (!x134.Name.eqb x203.Name))), (9, 39, (vb (!x134.Name.eqb x203.Name))), (10, 40, (vp b137 1)), (11, 41, v210), (12, 42, (vp b2 1)), (13, 43, v211), (14, 44, (vi (k20 : Int))), (15, 45, v213), (16, 46, v214), (17, 47, v215), (18, 48, (vb x216)), (19, 49, (vb (!x216))), (20, 50, (vb (!x216))), (21, 51, (vb (!x216))), (22, 52, (vp b137 2)), (23, 53, v226), (24, 54, (vp b2 1)), (25, 55, v227), (26, 56, (vi (k20 : Int))), (27, 57, v229), (28, 58, v230), (29, 59, v231), (30, 60, (vb x232)), (31, 61, (vb (!x232))), (32, 62, (vb (!x232)))] ∧ agree σ [(3, (vp b2 0)), (5, (vi (k20 : Int))), (6, (vp b137 0)), (23, v19), (24, (vi (p0.Nets.length : Int))), (25, (vi (k20 : Int)))] ∧ Holds E w ([bif D 3 then (rd v202 p1.Nets) else junk, bif D 5 then (pt v204 x203) else junk, bif D 6 then (pt v205 x203.Name) else junk, bif D 11 then (rd v210 x134.Pins) else junk, bif D 13 then (rd v211 p1.Nets) else junk, bif D 15 then (pt v213 x212) else junk, bif D 16 then (pt v214 x212.Pins) else junk, bif D 17 then (rd v215 x212.Pins) else junk, bif D 23 then (rd v226 x134.Ports) else junk, bif D 25 then (rd v227 p1.Nets) else junk, bif D 27 then (pt v229 x228) else junk, bif D 28 then (pt v230 x228.Ports) else junk, bif D 29 then (rd v231 x228.Ports) else junk, bx 64 b137 x134, rd v136 x134, pt v135 x134, bx 26 b2 p1, rd v19 p0.Nets] ++ Γ)) ?_ ⟨?_, ?_, ?_, ?_, ?_, ?_, ?_, ?_, ?_, ?_, ?_, ?_, ?_, ?_, ?_, ?_, ?_, ?_, ?_, ?_, ?_, ?_, ?_, ?_, ?_, ?_, ?_, ?_, ?_, ?_, ?_, ?_, ?_, trivial⟩ ?_
   ·have hw := hw.drew
    have hw := hw.junk
    have hw := hw.junk
    have hw := hw.junk
    have hw := hw.junk
    have hw := hw.junk
    have hw := hw.junk
    have hw := hw.junk
    have hw := hw.junk
    have hw := hw.junk
    have hw := hw.junk
    have hw := hw.junk
    have hw := hw.junk
    have hw := hw.junk
    exact ⟨undef, undef, undef, undef, undef, undef, undef, undef, undef, undef, undef, undef, undef, doneV.none, ⟨rfl, rfl, rfl, rfl, rfl, rfl, trivial⟩, hw⟩
   ·rintro D σ w hD hdep hcl ⟨v202, v204, v205, v210, v211, v213, v214, v215, v226, v227, v229, v230, v231, hv, ha, hw⟩
    obtain ⟨τ, rfl⟩ := (ac (ha.at 2 rfl) az).ups
    refine RL.fa_b trivial rfl rfl fa64_0 ?_
    refine RL.nil ?_
    exact ⟨rfl, v202, v204, v205, v210, v211, v213, v214, v215, v226, v227, v229, v230, v231, hv.put 0 rfl rfl, ha.up rfl, hw⟩
   ·rintro D σ w hD hdep hcl ⟨v202, v204, v205, v210, v211, v213, v214, v215, v226, v227, v229, v230, v231, hv, ha, hw⟩
    obtain ⟨τ, rfl⟩ := (ac (hv.at 0 rfl (hdep.1 rfl)) az).ups
    refine RL.load_bfs (i := 13) (f := (fun x => x.Name)) trivial rfl hw rfl rfl fd_Net_0 ty9 ?_
    refine RL.nil ?_
    exact ⟨rfl, v202, v204, v205, v210, v211, v213, v214, v215, v226, v227, v229, v230, v231, hv.put 1 rfl rfl, ha.up rfl, hw⟩
   ·rintro D σ w hD hdep hcl ⟨v202, v204, v205, v210, v211, v213, v214, v215, v226, v227, v229, v230, v231, hv, ha, hw⟩
    obtain ⟨τ, rfl⟩ := (ac (ha.at 0 rfl) az).ups
    refine RL.fa_b trivial rfl rfl fa26_1 ?_
    refine RL.nil ?_
    exact ⟨rfl, v202, v204, v205, v210, v211, v213, v214, v215, v226, v227, v229, v230, v231, hv.put 2 rfl rfl, ha.up rfl, hw⟩
   ·rintro D σ w hD hdep hcl ⟨v202, v204, v205, v210, v211, v213, v214, v215, v226, v227, v229, v230, v231, hv, ha, hw⟩
    obtain ⟨τ, rfl⟩ := (ac (hv.at 2 rfl (hdep.1 rfl)) az).ups
    have hw := hw.selF (i := 0) rfl hD
    refine RL.load_bf (i := 16) (f := (fun x => x.Nets)) trivial rfl hw rfl rfl fd_Netlist_1 ty24 fun v233 hw => ?_
    have hw := hw.pick 19 [0, 2, 3, 4, 5, 6, 7, 8, 9, 10, 11, 12, 13, 14, 15, 16, 17, 18] (new := [rd v233 p1.Nets, bif D 5 then (pt v204 x203) else junk, bif D 6 then (pt v205 x203.Name) else junk, bif D 11 then (rd v210 x134.Pins) else junk, bif D 13 then (rd v211 p1.Nets) else junk, bif D 15 then (pt v213 x212) else junk, bif D 16 then (pt v214 x212.Pins) else junk, bif D 17 then (rd v215 x212.Pins) else junk, bif D 23 then (rd v226 x134.Ports) else junk, bif D 25 then (rd v227 p1.Nets) else junk, bif D 27 then (pt v229 x228) else junk, bif D 28 then (pt v230 x228.Ports) else junk, bif D 29 then (rd v231 x228.Ports) else junk, bx 64 b137 x134, rd v136 x134, pt v135 x134, bx 26 b2 p1, rd v19 p0.Nets]) rfl rfl (by decide) (by decide)
    have hw := hw.altT (i := 0) (b := true) rfl rfl (junk)
    refine RL.nil ?_
    exact ⟨rfl, v233, v204, v205, v210, v211, v213, v214, v215, v226, v227, v229, v230, v231, hv.put 3 rfl rfl, ha.up rfl, hw⟩
   ·rintro D σ w hD hdep hcl ⟨v202, v204, v205, v210, v211, v213, v214, v215, v226, v227, v229, v230, v231, hv, ha, hw⟩
    obtain ⟨τ, rfl⟩ := (ac (ha.at 1 rfl) az).ups
    refine mv (vi (k20 : Int)) rfl rfl ?_
    refine RL.nil ?_
    exact ⟨rfl, v202, v204, v205, v210, v211, v213, v214, v215, v226, v227, v229, v230, v231, hv.put 4 rfl rfl, ha.up rfl, hw⟩
   ·rintro D σ w hD hdep hcl ⟨v202, v204, v205, v210, v211, v213, v214, v215, v226, v227, v229, v230, v231, hv, ha, hw⟩
    obtain ⟨τ, rfl⟩ := (ac (hv.at 3 rfl (hdep.1 rfl)) (ac (hv.at 4 rfl (hdep.2.1 rfl)) az)).ups
    have hw := hw.selT (i := 0) rfl (hdep.1 rfl)
    have hw := hw.selF (i := 1) rfl hD
    refine RL.ia_rd (i := 0) trivial rfl hw rfl rfl rfl sl24 hx203 fun v234 hw => ?_
    have hw := hw.pick 19 [1, 0, 3, 4, 5, 6, 7, 8, 9, 10, 11, 12, 13, 14, 15, 16, 17, 18] (new := [rd v202 p1.Nets, pt v234 x203, bif D 6 then (pt v205 x203.Name) else junk, bif D 11 then (rd v210 x134.Pins) else junk, bif D 13 then (rd v211 p1.Nets) else junk, bif D 15 then (pt v213 x212) else junk, bif D 16 then (pt v214 x212.Pins) else junk, bif D 17 then (rd v215 x212.Pins) else junk, bif D 23 then (rd v226 x134.Ports) else junk, bif D 25 then (rd v227 p1.Nets) else junk, bif D 27 then (pt v229 x228) else junk, bif D 28 then (pt v230 x228.Ports) else junk, bif D 29 then (rd v231 x228.Ports) else junk, bx 64 b137 x134, rd v136 x134, pt v135 x134, bx 26 b2 p1, rd v19 p0.Nets]) rfl rfl (by decide) (by decide)
    have hw := hw.altT (i := 0) (b := D 3) rfl (hdep.1 rfl) (junk)
    have hw := hw.altT (i := 1) (b := true) rfl rfl (junk)
    refine RL.nil ?_
    exact ⟨rfl, v202, v234, v205, v210, v211, v213, v214, v215, v226, v227, v229, v230, v231, hv.put 5 rfl rfl, ha.up rfl, hw⟩
   ·rintro D σ w hD hdep hcl ⟨v202, v204, v205, v210, v211, v213, v214, v215, v226, v227, v229, v230, v231, hv, ha, hw⟩
    obtain ⟨τ, rfl⟩ := (ac (hv.at 5 rfl (hdep.1 rfl)) az).ups
    have hw := hw.selT (i := 1) rfl (hdep.1 rfl)
    have hw := hw.selF (i := 2) rfl hD
    refine RL.fa_pt (i := 1) (f := fun (x : Net) => x.Name) trivial rfl hw rfl rfl fa64_0 fd_Net_0 fun v235 hw => ?_
    have hw := hw.pick 19 [1, 2, 0, 4, 5, 6, 7, 8, 9, 10, 11, 12, 13, 14, 15, 16, 17, 18] (new := [bif D 3 then (rd v202 p1.Nets) else junk, pt v204 x203, pt v235 x203.Name, bif D 11 then (rd v210 x134.Pins) else junk, bif D 13 then (rd v211 p1.Nets) else junk, bif D 15 then (pt v213 x212) else junk, bif D 16 then (pt v214 x212.Pins) else junk, bif D 17 then (rd v215 x212.Pins) else junk, bif D 23 then (rd v226 x134.Ports) else junk, bif D 25 then (rd v227 p1.Nets) else junk, bif D 27 then (pt v229 x228) else junk, bif D 28 then (pt v230 x228.Ports) else junk, bif D 29 then (rd v231 x228.Ports) else junk, bx 64 b137 x134, rd v136 x134, pt v135 x134, bx 26 b2 p1, rd v19 p0.Nets]) rfl rfl (by decide) (by decide)
    have hw := hw.altT (i := 1) (b := D 5) rfl (hdep.1 rfl) (junk)
    have hw := hw.altT (i := 2) (b := true) rfl rfl (junk)
    refine RL.nil ?_
    exact ⟨rfl, v202, v204, v235, v210, v211, v213, v214, v215, v226, v227, v229, v230, v231, hv.put 6 rfl rfl, ha.up rfl, hw⟩
   ·rintro D σ w hD hdep hcl ⟨v202, v204, v205, v210, v211, v213, v214, v215, v226, v227, v229, v230, v231, hv, ha, hw⟩
    obtain ⟨τ, rfl⟩ := (ac (hv.at 6 rfl (hdep.1 rfl)) az).ups
    have hw := hw.selT (i := 2) rfl (hdep.1 rfl)
    refine RL.load_pts (i := 2) (y := x203.Name) trivial rfl hw rfl rfl ty9 ?_
    have hw := hw.altT (i := 2) (b := D 6) rfl (hdep.1 rfl) (junk)
    refine RL.nil ?_
    exact ⟨rfl, v202, v204, v205, v210, v211, v213, v214, v215, v226, v227, v229, v230, v231, hv.put 7 rfl rfl, ha.up rfl, hw⟩
   ·rintro D σ w hD hdep hcl ⟨v202, v204, v205, v210, v211, v213, v214, v215, v226, v227, v229, v230, v231, hv, ha, hw⟩
    obtain ⟨τ, rfl⟩ := (ac (hv.at 1 rfl (hdep.1 rfl)) (ac (hv.at 7 rfl (hdep.2.1 rfl)) az)).ups
    refine RL.scmp (a := x134.Name) (b := x203.Name) trivial rfl rfl rfl rfl ?_
    refine RL.nil ?_
    exact ⟨rfl, v202, v204, v205, v210, v211, v213, v214, v215, v226, v227, v229, v230, v231, hv.put 8 rfl rfl, ha.up rfl, hw⟩
   ·rintro D σ w hD hdep hcl ⟨v202, v204, v205, v210, v211, v213, v214, v215, v226, v227, v229, v230, v231, hv, ha, hw⟩
    obtain ⟨τ, rfl⟩ := (ac (hv.at 8 rfl (hdep.1 rfl)) az).ups
    refine mv (vb (!x134.Name.eqb x203.Name)) rfl rfl ?_
    refine RL.nil ?_
    exact ⟨rfl, v202, v204, v205, v210, v211, v213, v214, v215, v226, v227, v229, v230, v231, hv.put 9 rfl rfl, ha.up rfl, hw⟩
   ·rintro D σ w hD hdep hcl ⟨v202, v204, v205, v210, v211, v213, v214, v215, v226, v227, v229, v230, v231, hv, ha, hw⟩
    obtain ⟨τ, rfl⟩ := (ac (hv.at 9 rfl (hdep.1 rfl)) (ac (ha.at 2 rfl) az)).ups
    refine RL.fa_b ⟨_, rfl, cb hg206⟩ rfl rfl fa64_1 ?_
    refine RL.nil ?_
    exact ⟨rfl, v202, v204, v205, v210, v211, v213, v214, v215, v226, v227, v229, v230, v231, hv.put 10 rfl rfl, ha.up rfl, hw⟩
   ·rintro D σ w hD hdep hcl ⟨v202, v204, v205, v210, v211, v213, v214, v215, v226, v227, v229, v230, v231, hv, ha, hw⟩
    obtain ⟨τ, rfl⟩ := (ac (hv.at 9 rfl (hdep.2.1 rfl)) (ac (hv.at 10 rfl (hdep.1 rfl)) az)).ups
    have hw := hw.selF (i := 3) rfl hD
    refine RL.load_bf (i := 13) (f := (fun x => x.Pins)) ⟨_, rfl, cb hg206⟩ rfl hw rfl rfl fd_Net_1 ty33 fun v236 hw => ?_
    have hw := hw.pick 19 [1, 2, 3, 0, 5, 6, 7, 8, 9, 10, 11, 12, 13, 14, 15, 16, 17, 18] (new := [bif D 3 then (rd v202 p1.Nets) else junk, bif D 5 then (pt v204 x203) else junk, bif D 6 then (pt v205 x203.Name) else junk, rd v236 x134.Pins, bif D 13 then (rd v211 p1.Nets) else junk, bif D 15 then (pt v213 x212) else junk, bif D 16 then (pt v214 x212.Pins) else junk, bif D 17 then (rd v215 x212.Pins) else junk, bif D 23 then (rd v226 x134.Ports) else junk, bif D 25 then (rd v227 p1.Nets) else junk, bif D 27 then (pt v229 x228) else junk, bif D 28 then (pt v230 x228.Ports) else junk, bif D 29 then (rd v231 x228.Ports) else junk, bx 64 b137 x134, rd v136 x134, pt v135 x134, bx 26 b2 p1, rd v19 p0.Nets]) rfl rfl (by decide) (by decide)
    have hw := hw.altT (i := 3) (b := true) rfl rfl (junk)
    refine RL.nil ?_
    exact ⟨rfl, v202, v204, v205, v236, v211, v213, v214, v215, v226, v227, v229, v230, v231, hv.put 11 rfl rfl, ha.up rfl, hw⟩
   ·rintro D σ w hD hdep hcl ⟨v202, v204, v205, v210, v211, v213, v214, v215, v226, v227, v229, v230, v231, hv, ha, hw⟩
    obtain ⟨τ, rfl⟩ := (ac (hv.at 9 rfl (hdep.1 rfl)) (ac (ha.at 0 rfl) az)).ups
    refine RL.fa_b ⟨_, rfl, cb hg206⟩ rfl rfl fa26_1 ?_
    refine RL.nil ?_
    exact ⟨rfl, v202, v204, v205, v210, v211, v213, v214, v215, v226, v227, v229, v230, v231, hv.put 12 rfl rfl, ha.up rfl, hw⟩
   ·rintro D σ w hD hdep hcl ⟨v202, v204, v205, v210, v211, v213, v214, v215, v226, v227, v229, v230, v231, hv, ha, hw⟩
    obtain ⟨τ, rfl⟩ := (ac (hv.at 9 rfl (hdep.2.1 rfl)) (ac (hv.at 12 rfl (hdep.1 rfl)) az)).ups
    have hw := hw.selF (i := 4) rfl hD
    refine RL.load_bf (i := 16) (f := (fun x => x.Nets)) ⟨_, rfl, cb hg206⟩ rfl hw rfl rfl fd_Netlist_1 ty24 fun v237 hw => ?_
    have hw := hw.pick 19 [1, 2, 3, 4, 0, 6, 7, 8, 9, 10, 11, 12, 13, 14, 15, 16, 17, 18] (new := [bif D 3 then (rd v202 p1.Nets) else junk, bif D 5 then (pt v204 x203) else junk, bif D 6 then (pt v205 x203.Name) else junk, bif D 11 then (rd v210 x134.Pins) else junk, rd v237 p1.Nets, bif D 15 then (pt v213 x212) else junk, bif D 16 then (pt v214 x212.Pins) else junk, bif D 17 then (rd v215 x212.Pins) else junk, bif D 23 then (rd v226 x134.Ports) else junk, bif D 25 then (rd v227 p1.Nets) else junk, bif D 27 then (pt v229 x228) else junk, bif D 28 then (pt v230 x228.Ports) else junk, bif D 29 then (rd v231 x228.Ports) else junk, bx 64 b137 x134, rd v136 x134, pt v135 x134, bx 26 b2 p1, rd v19 p0.Nets]) rfl rfl (by decide) (by decide)
    have hw := hw.altT (i := 4) (b := true) rfl rfl (junk)
    refine RL.nil ?_
    exact ⟨rfl, v202, v204, v205, v210, v237, v213, v214, v215, v226, v227, v229, v230, v231, hv.put 13 rfl rfl, ha.up rfl, hw⟩
   ·rintro D σ w hD hdep hcl ⟨v202, v204, v205, v210, v211, v213, v214, v215, v226, v227, v229, v230, v231, hv, ha, hw⟩
    obtain ⟨τ, rfl⟩ := (ac (hv.at 9 rfl (hdep.1 rfl)) (ac (ha.at 1 rfl) az)).ups
    refine RL.move (v := (vi (k20 : Int))) ⟨_, rfl, cb hg206⟩ rfl rfl ?_
    refine RL.nil ?_
    exact ⟨rfl, v202, v204, v205, v210, v211, v213, v214, v215, v226, v227, v229, v230, v231, hv.put 14 rfl rfl, ha.up rfl, hw⟩
   ·rintro D σ w hD hdep hcl ⟨v202, v204, v205, v210, v211, v213, v214, v215, v226, v227, v229, v230, v231, hv, ha, hw⟩
    obtain ⟨τ, rfl⟩ := (ac (hv.at 9 rfl (hdep.2.2.1 rfl)) (ac (hv.at 13 rfl (hdep.1 rfl)) (ac (hv.at 14 rfl (hdep.2.1 rfl)) az))).ups
    have hw := hw.selT (i := 4) rfl (hdep.1 rfl)
    have hw := hw.selF (i := 5) rfl hD
    refine RL.ia_rd (i := 4) ⟨_, rfl, cb hg206⟩ rfl hw rfl rfl rfl sl24 hx212 fun v238 hw => ?_
    have hw := hw.pick 19 [1, 2, 3, 4, 5, 0, 7, 8, 9, 10, 11, 12, 13, 14, 15, 16, 17, 18] (new := [bif D 3 then (rd v202 p1.Nets) else junk, bif D 5 then (pt v204 x203) else junk, bif D 6 then (pt v205 x203.Name) else junk, bif D 11 then (rd v210 x134.Pins) else junk, rd v211 p1.Nets, pt v238 x212, bif D 16 then (pt v214 x212.Pins) else junk, bif D 17 then (rd v215 x212.Pins) else junk, bif D 23 then (rd v226 x134.Ports) else junk, bif D 25 then (rd v227 p1.Nets) else junk, bif D 27 then (pt v229 x228) else junk, bif D 28 then (pt v230 x228.Ports) else junk, bif D 29 then (rd v231 x228.Ports) else junk, bx 64 b137 x134, rd v136 x134, pt v135 x134, bx 26 b2 p1, rd v19 p0.Nets]) rfl rfl (by decide) (by decide)
    have hw := hw.altT (i := 4) (b := D 13) rfl (hdep.1 rfl) (junk)
    have hw := hw.altT (i := 5) (b := true) rfl rfl (junk)
    refine RL.nil ?_
    exact ⟨rfl, v202, v204, v205, v210, v211, v238, v214, v215, v226, v227, v229, v230, v231, hv.put 15 rfl rfl, ha.up rfl, hw⟩
   ·rintro D σ w hD hdep hcl ⟨v202, v204, v205, v210, v211, v213, v214, v215, v226, v227, v229, v230, v231, hv, ha, hw⟩
    obtain ⟨τ, rfl⟩ := (ac (hv.at 9 rfl (hdep.2.1 rfl)) (ac (hv.at 15 rfl (hdep.1 rfl)) az)).ups
    have hw := hw.selT (i := 5) rfl (hdep.1 rfl)
    have hw := hw.selF (i := 6) rfl hD
    refine RL.fa_pt (i := 5) (f := fun (x : Net) => x.Pins) ⟨_, rfl, cb hg206⟩ rfl hw rfl rfl fa64_1 fd_Net_1 fun v239 hw => ?_
    have hw := hw.pick 19 [1, 2, 3, 4, 5, 6, 0, 8, 9, 10, 11, 12, 13, 14, 15, 16, 17, 18] (new := [bif D 3 then (rd v202 p1.Nets) else junk, bif D 5 then (pt v204 x203) else junk, bif D 6 then (pt v205 x203.Name) else junk, bif D 11 then (rd v210 x134.Pins) else junk, bif D 13 then (rd v211 p1.Nets) else junk, pt v213 x212, pt v239 x212.Pins, bif D 17 then (rd v215 x212.Pins) else junk, bif D 23 then (rd v226 x134.Ports) else junk, bif D 25 then (rd v227 p1.Nets) else junk, bif D 27 then (pt v229 x228) else junk, bif D 28 then (pt v230 x228.Ports) else junk, bif D 29 then (rd v231 x228.Ports) else junk, bx 64 b137 x134, rd v136 x134, pt v135 x134, bx 26 b2 p1, rd v19 p0.Nets]) rfl rfl (by decide) (by decide)
    have hw := hw.altT (i := 5) (b := D 15) rfl (hdep.1 rfl) (junk)
    have hw := hw.altT (i := 6) (b := true) rfl rfl (junk)
    refine RL.nil ?_
    exact ⟨rfl, v202, v204, v205, v210, v211, v213, v239, v215, v226, v227, v229, v230, v231, hv.put 16 rfl rfl, ha.up rfl, hw⟩
   ·rintro D σ w hD hdep hcl ⟨v202, v204, v205, v210, v211, v213, v214, v215, v226, v227, v229, v230, v231, hv, ha, hw⟩
    obtain ⟨τ, rfl⟩ := (ac (hv.at 9 rfl (hdep.2.1 rfl)) (ac (hv.at 16 rfl (hdep.1 rfl)) az)).ups
    have hw := hw.selT (i := 6) rfl (hdep.1 rfl)
    have hw := hw.selF (i := 7) rfl hD
    refine RL.load_pt (i := 6) (x := x212.Pins) ⟨_, rfl, cb hg206⟩ rfl hw rfl rfl ty33 fun v240 hw => ?_
    have hw := hw.pick 19 [1, 2, 3, 4, 5, 6, 7, 0, 9, 10, 11, 12, 13, 14, 15, 16, 17, 18] (new := [bif D 3 then (rd v202 p1.Nets) else junk, bif D 5 then (pt v204 x203) else junk, bif D 6 then (pt v205 x203.Name) else junk, bif D 11 then (rd v210 x134.Pins) else junk, bif D 13 then (rd v211 p1.Nets) else junk, bif D 15 then (pt v213 x212) else junk, pt v214 x212.Pins, rd v240 x212.Pins, bif D 23 then (rd v226 x134.Ports) else junk, bif D 25 then (rd v227 p1.Nets) else junk, bif D 27 then (pt v229 x228) else junk, bif D 28 then (pt v230 x228.Ports) else junk, bif D 29 then (rd v231 x228.Ports) else junk, bx 64 b137 x134, rd v136 x134, pt v135 x134, bx 26 b2 p1, rd v19 p0.Nets]) rfl rfl (by decide) (by decide)
    have hw := hw.altT (i := 6) (b := D 16) rfl (hdep.1 rfl) (junk)
    have hw := hw.altT (i := 7) (b := true) rfl rfl (junk)
    refine RL.nil ?_
    exact ⟨rfl, v202, v204, v205, v210, v211, v213, v214, v240, v226, v227, v229, v230, v231, hv.put 17 rfl rfl, ha.up rfl, hw⟩
   ·rintro D σ w hD hdep hcl ⟨v202, v204, v205, v210, v211, v213, v214, v215, v226, v227, v229, v230, v231, hv, ha, hw⟩
    obtain ⟨τ, rfl⟩ := (ac (hv.at 9 rfl (hdep.2.2.1 rfl)) (ac (hv.at 11 rfl (hdep.1 rfl)) (ac (hv.at 17 rfl (hdep.2.1 rfl)) az))).ups
    have hw := hw.selT (i := 3) rfl (hdep.1 rfl)
    have hw := hw.selT (i := 7) rfl (hdep.2.1 rfl)
    refine RL.call ⟨_, rfl, cb hg206⟩ rfl fn17 [v210, v215] rfl (Calls_ret (slices_Equal_Pin_ok N  (i0 := 3) (i1 := 7) hw rfl rfl hx216) ?_)
    rintro _ w ⟨rfl, hw⟩
    have hw := hw.altT (i := 3) (b := D 11) rfl (hdep.1 rfl) (junk)
    have hw := hw.altT (i := 7) (b := D 17) rfl (hdep.2.1 rfl) (junk)
    refine RL.nil ?_
    exact ⟨rfl, v202, v204, v205, v210, v211, v213, v214, v215, v226, v227, v229, v230, v231, hv.put 18 rfl rfl, ha.up rfl, hw⟩
   ·rintro D σ w hD hdep hcl ⟨v202, v204, v205, v210, v211, v213, v214, v215, v226, v227, v229, v230, v231, hv, ha, hw⟩
    obtain ⟨τ, rfl⟩ := (ac (hv.at 9 rfl (hdep.2.1 rfl)) (ac (hv.at 18 rfl (hdep.1 rfl)) az)).ups
    refine RL.not (b := x216) ⟨_, rfl, cb hg206⟩ rfl rfl ?_
    refine RL.nil ?_
    exact ⟨rfl, v202, v204, v205, v210, v211, v213, v214, v215, v226, v227, v229, v230, v231, hv.put 19 rfl rfl, ha.up rfl, hw⟩
   ·rintro D σ w hD hdep hcl ⟨v202, v204, v205, v210, v211, v213, v214, v215, v226, v227, v229, v230, v231, hv, ha, hw⟩
    obtain ⟨τ, rfl⟩ := (ac (hv.at 9 rfl (hdep.1 rfl)) (ac (hv.at 19 rfl (hdep.2.1 rfl)) az)).ups
    refine RL.pick (b := (!x134.Name.eqb x203.Name)) (v := (vb (!x216))) trivial rfl rfl (by rw [hg206]; rfl) ?_
    refine RL.nil ?_
    exact ⟨rfl, v202, v204, v205, v210, v211, v213, v214, v215, v226, v227, v229, v230, v231, hv.put 20 rfl rfl, ha.up rfl, hw⟩
   ·rintro D σ w hD hdep hcl ⟨v202, v204, v205, v210, v211, v213, v214, v215, v226, v227, v229, v230, v231, hv, ha, hw⟩
    obtain ⟨τ, rfl⟩ := (ac (hv.at 20 rfl (hdep.1 rfl)) az).ups
    refine mv (vb (!x216)) rfl rfl ?_
    refine RL.nil ?_
    exact ⟨rfl, v202, v204, v205, v210, v211, v213, v214, v215, v226, v227, v229, v230, v231, hv.put 21 rfl rfl, ha.up rfl, hw⟩
   ·rintro D σ w hD hdep hcl ⟨v202, v204, v205, v210, v211, v213, v214, v215, v226, v227, v229, v230, v231, hv, ha, hw⟩
    obtain ⟨τ, rfl⟩ := (ac (hv.at 21 rfl (hdep.1 rfl)) (ac (ha.at 2 rfl) az)).ups
    refine RL.fa_b ⟨_, rfl, cb hg217⟩ rfl rfl fa64_2 ?_
    refine RL.nil ?_
    exact ⟨rfl, v202, v204, v205, v210, v211, v213, v214, v215, v226, v227, v229, v230, v231, hv.put 22 rfl rfl, ha.up rfl, hw⟩
   ·rintro D σ w hD hdep hcl ⟨v202, v204, v205, v210, v211, v213, v214, v215, v226, v227, v229, v230, v231, hv, ha, hw⟩
    obtain ⟨τ, rfl⟩ := (ac (hv.at 21 rfl (hdep.2.1 rfl)) (ac (hv.at 22 rfl (hdep.1 rfl)) az)).ups
    have hw := hw.selF (i := 8) rfl hD
    refine RL.load_bf (i := 13) (f := (fun x => x.Ports)) ⟨_, rfl, cb hg217⟩ rfl hw rfl rfl fd_Net_2 ty55 fun v241 hw => ?_
    have hw := hw.pick 19 [1, 2, 3, 4, 5, 6, 7, 8, 0, 10, 11, 12, 13, 14, 15, 16, 17, 18] (new := [bif D 3 then (rd v202 p1.Nets) else junk, bif D 5 then (pt v204 x203) else junk, bif D 6 then (pt v205 x203.Name) else junk, bif D 11 then (rd v210 x134.Pins) else junk, bif D 13 then (rd v211 p1.Nets) else junk, bif D 15 then (pt v213 x212) else junk, bif D 16 then (pt v214 x212.Pins) else junk, bif D 17 then (rd v215 x212.Pins) else junk, rd v241 x134.Ports, bif D 25 then (rd v227 p1.Nets) else junk, bif D 27 then (pt v229 x228) else junk, bif D 28 then (pt v230 x228.Ports) else junk, bif D 29 then (rd v231 x228.Ports) else junk, bx 64 b137 x134, rd v136 x134, pt v135 x134, bx 26 b2 p1, rd v19 p0.Nets]) rfl rfl (by decide) (by decide)
    have hw := hw.altT (i := 8) (b := true) rfl rfl (junk)
    refine RL.nil ?_
    exact ⟨rfl, v202, v204, v205, v210, v211, v213, v214, v215, v241, v227, v229, v230, v231, hv.put 23 rfl rfl, ha.up rfl, hw⟩
   ·rintro D σ w hD hdep hcl ⟨v202, v204, v205, v210, v211, v213, v214, v215, v226, v227, v229, v230, v231, hv, ha, hw⟩
    obtain ⟨τ, rfl⟩ := (ac (hv.at 21 rfl (hdep.1 rfl)) (ac (ha.at 0 rfl) az)).ups
    refine RL.fa_b ⟨_, rfl, cb hg217⟩ rfl rfl fa26_1 ?_
    refine RL.nil ?_
    exact ⟨rfl, v202, v204, v205, v210, v211, v213, v214, v215, v226, v227, v229, v230, v231, hv.put 24 rfl rfl, ha.up rfl, hw⟩
   ·rintro D σ w hD hdep hcl ⟨v202, v204, v205, v210, v211, v213, v214, v215, v226, v227, v229, v230, v231, hv, ha, hw⟩
    obtain ⟨τ, rfl⟩ := (ac (hv.at 21 rfl (hdep.2.1 rfl)) (ac (hv.at 24 rfl (hdep.1 rfl)) az)).ups
    have hw := hw.selF (i := 9) rfl hD
    refine RL.load_bf (i := 16) (f := (fun x => x.Nets)) ⟨_, rfl, cb hg217⟩ rfl hw rfl rfl fd_Netlist_1 ty24 fun v242 hw => ?_
    have hw := hw.pick 19 [1, 2, 3, 4, 5, 6, 7, 8, 9, 0, 11, 12, 13, 14, 15, 16, 17, 18] (new := [bif D 3 then (rd v202 p1.Nets) else junk, bif D 5 then (pt v204 x203) else junk, bif D 6 then (pt v205 x203.Name) else junk, bif D 11 then (rd v210 x134.Pins) else junk, bif D 13 then (rd v211 p1.Nets) else junk, bif D 15 then (pt v213 x212) else junk, bif D 16 then (pt v214 x212.Pins) else junk, bif D 17 then (rd v215 x212.Pins) else junk, bif D 23 then (rd v226 x134.Ports) else junk, rd v242 p1.Nets, bif D 27 then (pt v229 x228) else junk, bif D 28 then (pt v230 x228.Ports) else junk, bif D 29 then (rd v231 x228.Ports) else junk, bx 64 b137 x134, rd v136 x134, pt v135 x134, bx 26 b2 p1, rd v19 p0.Nets]) rfl rfl (by decide) (by decide)
    have hw := hw.altT (i := 9) (b := true) rfl rfl (junk)
    refine RL.nil ?_
    exact ⟨rfl, v202, v204, v205, v210, v211, v213, v214, v215, v226, v242, v229, v230, v231, hv.put 25 rfl rfl, ha.up rfl, hw⟩
   ·rintro D σ w hD hdep hcl ⟨v202, v204, v205, v210, v211, v213, v214, v215, v226, v227, v229, v230, v231, hv, ha, hw⟩
    obtain ⟨τ, rfl⟩ := (ac (hv.at 21 rfl (hdep.1 rfl)) (ac (ha.at 1 rfl) az)).ups
    refine RL.move (v := (vi (k20 : Int))) ⟨_, rfl, cb hg217⟩ rfl rfl ?_
    refine RL.nil ?_
    exact ⟨rfl, v202, v204, v205, v210, v211, v213, v214, v215, v226, v227, v229, v230, v231, hv.put 26 rfl rfl, ha.up rfl, hw⟩
   ·rintro D σ w hD hdep hcl ⟨v202, v204, v205, v210, v211, v213, v214, v215, v226, v227, v229, v230, v231, hv, ha, hw⟩
    obtain ⟨τ, rfl⟩ := (ac (hv.at 21 rfl (hdep.2.2.1 rfl)) (ac (hv.at 25 rfl (hdep.1 rfl)) (ac (hv.at 26 rfl (hdep.2.1 rfl)) az))).ups
    have hw := hw.selT (i := 9) rfl (hdep.1 rfl)
    have hw := hw.selF (i := 10) rfl hD
    refine RL.ia_rd (i := 9) ⟨_, rfl, cb hg217⟩ rfl hw rfl rfl rfl sl24 hx228 fun v243 hw => ?_
    have hw := hw.pick 19 [1, 2, 3, 4, 5, 6, 7, 8, 9, 10, 0, 12, 13, 14, 15, 16, 17, 18] (new := [bif D 3 then (rd v202 p1.Nets) else junk, bif D 5 then (pt v204 x203) else junk, bif D 6 then (pt v205 x203.Name) else junk, bif D 11 then (rd v210 x134.Pins) else junk, bif D 13 then (rd v211 p1.Nets) else junk, bif D 15 then (pt v213 x212) else junk, bif D 16 then (pt v214 x212.Pins) else junk, bif D 17 then (rd v215 x212.Pins) else junk, bif D 23 then (rd v226 x134.Ports) else junk, rd v227 p1.Nets, pt v243 x228, bif D 28 then (pt v230 x228.Ports) else junk, bif D 29 then (rd v231 x228.Ports) else junk, bx 64 b137 x134, rd v136 x134, pt v135 x134, bx 26 b2 p1, rd v19 p0.Nets]) rfl rfl (by decide) (by decide)
    have hw := hw.altT (i := 9) (b := D 25) rfl (hdep.1 rfl) (junk)
    have hw := hw.altT (i := 10) (b := true) rfl rfl (junk)
    refine RL.nil ?_
    exact ⟨rfl, v202, v204, v205, v210, v211, v213, v214, v215, v226, v227, v243, v230, v231, hv.put 27 rfl rfl, ha.up rfl, hw⟩
   ·rintro D σ w hD hdep hcl ⟨v202, v204, v205, v210, v211, v213, v214, v215, v226, v227, v229, v230, v231, hv, ha, hw⟩
    obtain ⟨τ, rfl⟩ := (ac (hv.at 21 rfl (hdep.2.1 rfl)) (ac (hv.at 27 rfl (hdep.1 rfl)) az)).ups
    have hw := hw.selT (i := 10) rfl (hdep.1 rfl)
    have hw := hw.selF (i := 11) rfl hD
    refine RL.fa_pt (i := 10) (f := fun (x : Net) => x.Ports) ⟨_, rfl, cb hg217⟩ rfl hw rfl rfl fa64_2 fd_Net_2 fun v244 hw => ?_
    have hw := hw.pick 19 [1, 2, 3, 4, 5, 6, 7, 8, 9, 10, 11, 0, 13, 14, 15, 16, 17, 18] (new := [bif D 3 then (rd v202 p1.Nets) else junk, bif D 5 then (pt v204 x203) else junk, bif D 6 then (pt v205 x203.Name) else junk, bif D 11 then (rd v210 x134.Pins) else junk, bif D 13 then (rd v211 p1.Nets) else junk, bif D 15 then (pt v213 x212) else junk, bif D 16 then (pt v214 x212.Pins) else junk, bif D 17 then (rd v215 x212.Pins) else junk, bif D 23 then (rd v226 x134.Ports) else junk, bif D 25 then (rd v227 p1.Nets) else junk, pt v229 x228, pt v244 x228.Ports, bif D 29 then (rd v231 x228.Ports) else junk, bx 64 b137 x134, rd v136 x134, pt v135 x134, bx 26 b2 p1, rd v19 p0.Nets]) rfl rfl (by decide) (by decide)
    have hw := hw.altT (i := 10) (b := D 27) rfl (hdep.1 rfl) (junk)
    have hw := hw.altT (i := 11) (b := true) rfl rfl (junk)
    refine RL.nil ?_
    exact ⟨rfl, v202, v204, v205, v210, v211, v213, v214, v215, v226, v227, v229, v244, v231, hv.put 28 rfl rfl, ha.up rfl, hw⟩
   ·rintro D σ w hD hdep hcl ⟨v202, v204, v205, v210, v211, v213, v214, v215, v226, v227, v229, v230, v231, hv, ha, hw⟩
    obtain ⟨τ, rfl⟩ := (ac (hv.at 21 rfl (hdep.2.1 rfl)) (ac (hv.at 28 rfl (hdep.1 rfl)) az)).ups
    have hw := hw.selT (i := 11) rfl (hdep.1 rfl)
    have hw := hw.selF (i := 12) rfl hD
    refine RL.load_pt (i := 11) (x := x228.Ports) ⟨_, rfl, cb hg217⟩ rfl hw rfl rfl ty55 fun v245 hw => ?_
    have hw := hw.pick 19 [1, 2, 3, 4, 5, 6, 7, 8, 9, 10, 11, 12, 0, 14, 15, 16, 17, 18] (new := [bif D 3 then (rd v202 p1.Nets) else junk, bif D 5 then (pt v204 x203) else junk, bif D 6 then (pt v205 x203.Name) else junk, bif D 11 then (rd v210 x134.Pins) else junk, bif D 13 then (rd v211 p1.Nets) else junk, bif D 15 then (pt v213 x212) else junk, bif D 16 then (pt v214 x212.Pins) else junk, bif D 17 then (rd v215 x212.Pins) else junk, bif D 23 then (rd v226 x134.Ports) else junk, bif D 25 then (rd v227 p1.Nets) else junk, bif D 27 then (pt v229 x228) else junk, pt v230 x228.Ports, rd v245 x228.Ports, bx 64 b137 x134, rd v136 x134, pt v135 x134, bx 26 b2 p1, rd v19 p0.Nets]) rfl rfl (by decide) (by decide)
    have hw := hw.altT (i := 11) (b := D 28) rfl (hdep.1 rfl) (junk)
    have hw := hw.altT (i := 12) (b := true) rfl rfl (junk)
    refine RL.nil ?_
    exact ⟨rfl, v202, v204, v205, v210, v211, v213, v214, v215, v226, v227, v229, v230, v245, hv.put 29 rfl rfl, ha.up rfl, hw⟩
   ·rintro D σ w hD hdep hcl ⟨v202, v204, v205, v210, v211, v213, v214, v215, v226, v227, v229, v230, v231, hv, ha, hw⟩
    obtain ⟨τ, rfl⟩ := (ac (hv.at 21 rfl (hdep.2.2.1 rfl)) (ac (hv.at 23 rfl (hdep.1 rfl)) (ac (hv.at 29 rfl (hdep.2.1 rfl)) az))).ups
    have hw := hw.selT (i := 8) rfl (hdep.1 rfl)
    have hw := hw.selT (i := 12) rfl (hdep.2.1 rfl)
    refine RL.call ⟨_, rfl, cb hg217⟩ rfl fn64 [v226, v231] rfl (Calls_ret (slices_Equal_string_ok N  (i0 := 8) (i1 := 12) hw rfl rfl hx232) ?_)
    rintro _ w ⟨rfl, hw⟩
    have hw := hw.altT (i := 8) (b := D 23) rfl (hdep.1 rfl) (junk)
    have hw := hw.altT (i := 12) (b := D 29) rfl (hdep.2.1 rfl) (junk)
    refine RL.nil ?_
    exact ⟨rfl, v202, v204, v205, v210, v211, v213, v214, v215, v226, v227, v229, v230, v231, hv.put 30 rfl rfl, ha.up rfl, hw⟩
   ·rintro D σ w hD hdep hcl ⟨v202, v204, v205, v210, v211, v213, v214, v215, v226, v227, v229, v230, v231, hv, ha, hw⟩
    obtain ⟨τ, rfl⟩ := (ac (hv.at 21 rfl (hdep.2.1 rfl)) (ac (hv.at 30 rfl (hdep.1 rfl)) az)).ups
    refine RL.not (b := x232) ⟨_, rfl, cb hg217⟩ rfl rfl ?_
    refine RL.nil ?_
    exact ⟨rfl, v202, v204, v205, v210, v211, v213, v214, v215, v226, v227, v229, v230, v231, hv.put 31 rfl rfl, ha.up rfl, hw⟩
   ·rintro D σ w hD hdep hcl ⟨v202, v204, v205, v210, v211, v213, v214, v215, v226, v227, v229, v230, v231, hv, ha, hw⟩
    obtain ⟨τ, rfl⟩ := (ac (hv.at 21 rfl (hdep.1 rfl)) (ac (hv.at 31 rfl (hdep.2.1 rfl)) az)).ups
    refine RL.pick (b := (!x216)) (v := (vb (!x232))) trivial rfl rfl (by rw [hg217]; rfl) ?_
    refine RL.nil ?_
    exact ⟨rfl, v202, v204, v205, v210, v211, v213, v214, v215, v226, v227, v229, v230, v231, hv.put 32 rfl rfl, ha.up rfl, hw⟩
   rintro D σ w hall ⟨v202, v204, v205, v210, v211, v213, v214, v215, v226, v227, v229, v230, v231, hv, ha, hw⟩
   rw [hall 3 (by decide), hall 5 (by decide), hall 6 (by decide), hall 11 (by decide), hall 13 (by decide), hall 15 (by decide), hall 16 (by decide), hall 17 (by decide), hall 23 (by decide), hall 25 (by decide), hall 27 (by decide), hall 28 (by decide), hall 29 (by decide)] at hw
   obtain ⟨τ, rfl⟩ := (ac (hv.at 32 rfl (hall 32 (by decide))) (ac (ha.at 0 rfl) (ac (ha.at 1 rfl) (ac (ha.at 2 rfl) (ac (ha.at 3 rfl) (ac (ha.at 4 rfl) (ac (ha.at 5 rfl) az))))))).ups
   obtain rfl := oi hj
   exact ⟨rfl, ⟨rfl, rfl, rfl, rfl, rfl, trivial⟩, hw.pick 18 [16, 17] (new := [bx 26 b2 p1, rd v19 p0.Nets]) rfl rfl (by decide) (by decide)⟩
  rintro σ w ⟨ha, hw⟩
  obtain ⟨τ, rfl⟩ := ha.ups
  refine thenQ_n ?_
  refine RC.cond (b := s201) rfl (fun hc => ?_) (fun hc => ?_)
  rotate_left
  ·replace hb := cF hc hb
   refine RC.skip ?_
   refine blkQ_n ?_
   refine thenQ_n ?_
   refine RC.region ?_
   refine RL.inc trivial rfl hk hm rfl rfl ?_
   refine mv (vi ((k20 + 1 : Nat) : Int)) rfl rfl ?_
   refine RL.nil ?_
   obtain rfl := oi hb
   exact ⟨rfl, ⟨rfl, rfl, rfl, rfl, trivial⟩, hw.pick 2 [0, 1] (new := [bx 26 b2 p1, rd v19 p0.Nets]) rfl rfl (by decide) (by decide)⟩
  replace hb := cT hc hb
  refine RC.sr ?_
  refine as_ (vb false) rfl rfl ?_
  refine RL.nt ?_
  refine RC.rb ?_
  refine thenQ_r ?_
  obtain rfl := oi hb
  exact ⟨rfl, fin1 rfl rfl ⟨rfl, hw.drop 2 rfl⟩⟩
 ·intro r σ w e hK
  subst e
  refine thenQ_r ?_
  obtain rfl := oi hb
  exact hK
 intro s21 σ w e hJ
 subst e
 rw [Fo.cs_go] at hb
 obtain ⟨ha, hw⟩ := hJ
 obtain ⟨τ, rfl⟩ := ha.ups
 refine thenQ_n ?_
 refine RC.sr ?_
 refine as_ (vb true) rfl rfl ?_
 refine RL.nt ?_
 refine RC.ret ?_
 obtain rfl := oi hb
 exact fin1 rfl rfl ⟨rfl, hw.drop 2 rfl⟩
def etchhouselaw2_NetlistReadsMatchSpec_R (E : World) (Γ : List HP) (res : Bool) (v : Value) (w : World) : Prop := v = (vb res) ∧ Holds E w Γ
def etchhouselaw2_NetlistReadsMatchSpec_K (E : World) (Γ : List HP) (r : Bool) (σ : Nat → Value) (w : World) : Prop := finQ Tryd.prog 37 Tryd.f5 (etchhouselaw2_NetlistReadsMatchSpec_R E Γ r) .ret σ w
theorem etchhouselaw2_NetlistReadsMatchSpec_ok (N : Nat) {E w : World} {Γ : List HP} {p0 : Str} {res : Bool} (hw : Holds E w Γ)  (hb : etchhouselaw2_NetlistReadsMatchSpec N p0 = some res) :
    Calls Tryd.prog 5 [(str p0)].toArray w (Ret (etchhouselaw2_NetlistReadsMatchSpec_R E Γ res)) := by
 unfold etchhouselaw2_NetlistReadsMatchSpec at hb
 refine enter Tryd.func5 rfl rfl (Nat.le_of_ble_eq_true rfl) ?_
 refine RC.sr ?_
 refine as_ (vb false) rfl rfl ?_
 refine RL.ns ?_
 refine mv (str p0) rfl rfl ?_
 obtain ⟨x1, hx1, hb⟩ := bd hb
 refine RL.call trivial rfl fn22 [(str p0)] rfl (Calls_ret (netlist_Read_ok N (p0 := p0)  hw  hx1) ?_)
 rintro _ w ⟨v2, rfl, hw⟩
 refine mv (.tuple #[v2, (vi x1.2.1), (vi x1.2.2)]) rfl rfl ?_
 refine RL.extract (v := v2) trivial rfl rfl rfl ?_
 refine RL.extract (v := (vi x1.2.1)) trivial rfl rfl rfl ?_
 refine RL.extract (v := (vi x1.2.2)) trivial rfl rfl rfl ?_
 refine RL.alloc trivial rfl hw ze26.z fun b3 w hw => ?_
 refine RL.store_raw (i := 0) (j := 1) trivial hw rfl rfl rfl rfl ty26 rfl fun w hw => ?_
 refine as_ (vi x1.2.1) rfl rfl ?_
 refine as_ (vi x1.2.2) rfl rfl ?_
 refine RL.ns ?_
 refine mv (str p0) rfl rfl ?_
 obtain ⟨x4, hx4, hb⟩ := bd hb
 refine RL.call trivial rfl fn23 [(str p0)] rfl (Calls_ret (etchhouseref2_Read_ok N (p0 := p0)  hw  hx4) ?_)
 rintro _ w ⟨v5, rfl, hw⟩
 refine mv (.tuple #[v5, (vi x4.2.1), (vi x4.2.2)]) rfl rfl ?_
 refine RL.extract (v := v5) trivial rfl rfl rfl ?_
 refine RL.extract (v := (vi x4.2.1)) trivial rfl rfl rfl ?_
 refine RL.extract (v := (vi x4.2.2)) trivial rfl rfl rfl ?_
 refine RL.alloc trivial rfl hw ze26.z fun b6 w hw => ?_
 refine RL.store_raw (i := 0) (j := 1) trivial hw rfl rfl rfl rfl ty26 rfl fun w hw => ?_
 refine as_ (vi x4.2.1) rfl rfl ?_
 refine as_ (vi x4.2.2) rfl rfl ?_
 refine RL.nq ?_
 obtain ⟨s17, hj, hb⟩ := bd hb
 refine RC.jn (fun (s17 : Bool) (σ : Nat → Value) (w : World) => agree σ [(2, (vb s17))] ∧ Holds E w ([] ++ Γ)) s17 ?_ ?_
 ·refine RC.region ?_
  refine mv (vi x1.2.2) rfl rfl ?_
  refine mv (vi x4.2.2) rfl rfl ?_
  refine ic (x1.2.2) (x4.2.2) rfl rfl rfl rfl ?_
  refine mv (vb (x1.2.2 == x4.2.2)) rfl rfl ?_
  refine RL.gs (c := true) (b := (x1.2.2 == x4.2.2)) (v := (vi x1.2.1)) rfl rfl rfl (gs_move rfl (fun _ => rfl)) ?_
  refine RL.gs (c := true) (b := (x1.2.2 == x4.2.2)) (v := (vi x4.2.1)) rfl rfl rfl (gs_move rfl (fun _ => rfl)) ?_
  refine RL.gs (c := true) (b := (x1.2.2 == x4.2.2)) (v := (vb (x1.2.1 == x4.2.1))) rfl rfl rfl (gs_icmp (bop := .eql) (K := .i64) (a := x1.2.1) (b := x4.2.1) rfl (fun h => by exact (cv_t h : cv (true && ((x1.2.2 == x4.2.2) == true)) (vi x1.2.1) = (vi x1.2.1))) (fun h => by exact (cv_t h : cv (true && ((x1.2.2 == x4.2.2) == true)) (vi x4.2.1) = (vi x4.2.1))) rfl) ?_
  refine RL.pick (b := (x1.2.2 == x4.2.2)) (v := (vb ((x1.2.2 == x4.2.2) && (x1.2.1 == x4.2.1)))) trivial rfl rfl (pk_and (c := true) rfl) ?_
  refine mv (vb ((x1.2.2 == x4.2.2) && (x1.2.1 == x4.2.1))) rfl rfl ?_
  rcases Bool.eq_false_or_eq_true ((x1.2.2 == x4.2.2) && (x1.2.1 == x4.2.1)) with hg18 | hg18
  rotate_left
  ·replace hj := cF hg18 hj
   refine sk rfl (.inl (cb hg18)) rfl ?_
   refine sk rfl (.inl (cb hg18)) rfl ?_
   refine sk rfl (.inl (cb hg18)) rfl ?_
   refine RL.pick (b := ((x1.2.2 == x4.2.2) && (x1.2.1 == x4.2.1))) (v := (vb false)) trivial rfl rfl (by rw [hg18]; rfl) ?_
   refine mv (vb false) rfl rfl ?_
   refine sk rfl (.inl rfl) rfl ?_
   refine RL.pick (b := false) (v := (vb false)) trivial rfl rfl rfl ?_
   refine as_ (vb false) rfl rfl ?_
   refine RL.nil ?_
   obtain rfl := oi hj
   exact ⟨rfl, ⟨rfl, trivial⟩, hw.pick 4 [] (new := []) rfl rfl (by decide) (by decide)⟩
  replace hj := cT hg18 hj
  refine RL.load_bf (i := 2) (f := (fun x => x)) ⟨_, rfl, cb hg18⟩ rfl hw rfl rfl Fd.self ty26 fun v19 hw => ?_
  refine RL.load_bf (i := 1) (f := (fun x => x)) ⟨_, rfl, cb hg18⟩ rfl hw rfl rfl Fd.self ty26 fun v20 hw => ?_
  obtain ⟨x21, hx21, hj⟩ := bd hj
  refine RL.call ⟨_, rfl, cb hg18⟩ rfl fn24 [v19, v20] rfl (Calls_ret (etchhouseref2_Same_ok N  (i0 := 1) (i1 := 0) hw rfl rfl hx21) ?_)
  rintro _ w ⟨rfl, hw⟩
  refine RL.pick (b := ((x1.2.2 == x4.2.2) && (x1.2.1 == x4.2.1))) (v := (vb x21)) trivial rfl rfl (by rw [hg18]; rfl) ?_
  refine mv (vb x21) rfl rfl ?_
  rcases Bool.eq_false_or_eq_true x21 with hg22 | hg22
  rotate_left
  ·replace hj := cF hg22 hj
   refine sk rfl (.inl (cb hg22)) rfl ?_
   refine RL.pick (b := x21) (v := (vb false)) trivial rfl rfl (by rw [hg22]; rfl) ?_
   refine as_ (vb false) rfl rfl ?_
   refine RL.nil ?_
   obtain rfl := oi hj
   exact ⟨rfl, ⟨rfl, trivial⟩, hw.pick 6 [] (new := []) rfl rfl (by decide) (by decide)⟩
  replace hj := cT hg22 hj
  obtain ⟨x23, hx23, hj⟩ := bd hj
  refine RL.call ⟨_, rfl, cb hg22⟩ rfl fn18 [] rfl (Calls_ret (etchhouselaw2_awake_ok N   hw  hx23) ?_)
  rintro _ w ⟨rfl, hw⟩
  refine RL.pick (b := x21) (v := (vb x23)) trivial rfl rfl (by rw [hg22]; rfl) ?_
  refine as_ (vb x23) rfl rfl ?_
  refine RL.nil ?_
  obtain rfl := oi hj
  exact ⟨rfl, ⟨rfl, trivial⟩, hw.pick 6 [] (new := []) rfl rfl (by decide) (by decide)⟩
 rintro σ w ⟨ha, hw⟩
 obtain ⟨τ, rfl⟩ := ha.ups
 refine thenQ_n ?_
 refine RC.ret ?_
 obtain rfl := oi hb
 exact fin1 rfl rfl ⟨rfl, hw.drop 0 rfl⟩
end Go.Gk
