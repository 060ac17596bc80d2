/-
  Printed by gen.py: Go functions as plain functions, and that they are.
-/
import Derived.Test.YtnjoaggeheokeaaDoorT
import Derived.Test.YtnjoaggeheokeaaDoorF8
import Derived.Test.YtnjoaggeheokeaaDoorF11
import Derived.Test.YtnjoaggeheokeaaDoorF14
import Derived.Test.YtnjoaggeheokeaaDoorF15
set_option linter.unusedVariables false
set_option linter.unusedSimpArgs false
set_option linter.unusedSectionVars false
set_option maxRecDepth 100000
set_option maxHeartbeats 4000000

namespace Go.Gk
open Go Go.Proofs
def etchhouseref2_SameFindings_R (E : World) (Γ : List HP) (res : Bool) (v : Value) (w : World) : Prop := v = (vb res) ∧ Holds E w Γ
def etchhouseref2_SameFindings_K (E : World) (Γ : List HP) (r : Bool) (σ : Nat → Value) (w : World) : Prop := finQ Tryd.prog 55 Tryd.f21 (etchhouseref2_SameFindings_R E Γ r) .ret σ w
theorem etchhouseref2_SameFindings_ok (N : Nat) {E w : World} {Γ : List HP} {i0 : Nat} {v0 : Value} {p0 : (List Finding)} {i1 : Nat} {v1 : Value} {p1 : (List Finding)} {res : Bool} (hw : Holds E w Γ) (h0 : Γ[i0]? = some (rd v0 p0)) (h1 : Γ[i1]? = some (rd v1 p1)) (hb : etchhouseref2_SameFindings N p0 p1 = some res) :
    Calls Tryd.prog 21 [v0, v1].toArray w (Ret (etchhouseref2_SameFindings_R E Γ res)) := by
 unfold etchhouseref2_SameFindings at hb
 refine enter Tryd.func21 rfl rfl (Nat.le_of_ble_eq_true rfl) ?_
 have hw := hw.dup (i := i0 + 0) h0
 have hw := hw.dup (i := i1 + 1) h1
 refine RC.sr ?_
 refine as_ (vb false) rfl rfl ?_
 refine RL.nq ?_
 refine RC.sr ?_
 refine mv v0 rfl rfl ?_
 refine RL.len_rd (i := 1) (l := p0) trivial rfl hw rfl rfl un39 ?_
 refine mv v1 rfl rfl ?_
 refine RL.len_rd (i := 0) (l := p1) trivial rfl hw rfl rfl un39 ?_
 refine ic ((p0.length : Int)) ((p1.length : Int)) rfl rfl rfl rfl ?_
 refine RL.nt ?_
 refine RC.cond (b := ((p0.length : Int) != (p1.length : Int))) rfl (fun hc => ?_) (fun hc => ?_)
 ·replace hb := cT hc hb
  refine RC.sr ?_
  refine as_ (vb false) rfl rfl ?_
  refine RL.nt ?_
  refine RC.rt ?_
  obtain rfl := oi hb
  exact fin1 rfl rfl ⟨rfl, hw.drop 2 rfl⟩
 replace hb := cF hc hb
 refine RC.ss ?_
 refine RC.sr ?_
 refine mv v0 rfl rfl ?_
 refine RL.len_rd (i := 1) (l := p0) trivial rfl hw rfl rfl un39 ?_
 refine mv (vi 0) rfl rfl ?_
 refine RL.nt ?_
 obtain ⟨o277, hN, hb⟩ := bd hb
 refine RC.range (fun (k31 : Nat) (s32 : Unit) (σ : Nat → Value) (w : World) => agree σ [(0, v0), (1, v1), (12, (vi (p0.length : Int))), (13, (vi (k31 : Int)))] ∧ Holds E w ([rd v0 p0, rd v1 p1] ++ Γ)) (fun (s32 : Unit) (σ : Nat → Value) (w : World) => agree σ [] ∧ Holds E w ([rd v0 p0, rd v1 p1] ++ Γ)) (etchhouseref2_SameFindings_K E Γ) hN ?_ ?_ ?_ ?_ ?_ 
 ·exact ⟨⟨rfl, rfl, rfl, rfl, trivial⟩, hw.pick 2 [1, 0] (new := [rd v0 p0, rd v1 p1]) rfl rfl (by decide) (by decide)⟩
 ·intro hm s32 σ w hI
  obtain ⟨ha, hw⟩ := hI
  obtain ⟨τ, rfl⟩ := ha.ups
  refine RC.sr ?_
  refine ic ((p0.length : Int)) ((p0.length : Int)) rfl rfl rfl rfl ?_
  refine RL.nq ?_
  refine RC.cond_f dge ?_
  refine RC.ex ?_
  exact ⟨rfl, trivial, hw.pick 2 [0, 1] (new := [rd v0 p0, rd v1 p1]) rfl rfl (by decide) (by decide)⟩
 ·intro hm k31 s32 fl σ w hk hI hb
  obtain ⟨ha, hw⟩ := hI
  obtain ⟨τ, rfl⟩ := ha.ups
  refine RC.sr ?_
  refine ic ((k31 : Int)) ((p0.length : Int)) rfl rfl rfl rfl ?_
  refine RL.nq ?_
  refine RC.cond_t (dlt hk) ?_
  refine RC.ss ?_
  refine RC.bs ?_
  refine mv (vi (k31 : Int)) rfl rfl ?_
  refine as_ (vi (k31 : Int)) rfl rfl ?_
  refine RL.nq ?_
  obtain ⟨s227, hj, hb⟩ := bd hb
  refine RC.jn (fun (s227 : Bool) (σ : Nat → Value) (w : World) => agree σ [(0, v0), (1, v1), (12, (vi (p0.length : Int))), (13, (vi (k31 : Int))), (53, (vb s227))] ∧ Holds E w ([rd v0 p0, rd v1 p1] ++ Γ)) s227 ?_ ?_
  ·obtain ⟨x228, hx228, hj⟩ := bd hj
   obtain ⟨x231, hx231, hj⟩ := bd hj
   rcases Bool.eq_false_or_eq_true (x228.Kind != x231.Kind) with hg234 | hg234
   ·replace hj := cT hg234 hj
    refine RC.drw mixed rfl (fun (D : Nat → Bool) (σ : Nat → Value) (w : World) => ∃ (v229 : Value) (v230 : Value) (v232 : Value) (v233 : Value), doneV D σ [(0, 16, v0), (1, 17, (vi (k31 : Int))), (2, 18, v229), (3, 19, v230), (4, 20, (vi x228.Kind)), (5, 21, v1), (6, 22, (vi (k31 : Int))), (7, 23, v232), (8, 24, v233), (9, 25, (vi x231.Kind)), (10, 26, (vb (x228.Kind != x231.Kind))), (11, 27, (vb (x228.Kind != x231.Kind))), (12, 28, undef), (13, 29, undef), (14, 30, undef), (15, 31, undef), (16, 32, undef), (17, 33, undef), (18, 34, undef), (19, 35, undef), (20, 36, undef), (21, 37, undef), (22, 38, undef), (23, 39, (vb true)), (24, 40, (vb true)), (25, 41, undef), (26, 42, undef), (27, 43, undef), (28, 44, undef), (29, 45, undef), (30, 46, undef), (31, 47, undef), (32, 48, undef), (33, 49, undef), (34, 50, undef), (35, 51, undef), (36, 52, undef), (37, 53, (vb true))] ∧ agree σ [(0, v0), (1, v1), (5, (vi (k31 : Int))), (12, (vi (p0.length : Int))), (13, (vi (k31 : Int)))] ∧ Holds E w ([bif D 2 then (pt v229 x228) else junk, bif D 3 then (pt v230 x228.Kind) else junk, bif D 7 then (pt v232 x231) else junk, bif D 8 then (pt v233 x231.Kind) else junk, rd v0 p0, rd v1 p1] ++ Γ)) ?_ ⟨?_, ?_, ?_, ?_, ?_, ?_, ?_, ?_, ?_, ?_, ?_, ?_, ?_, ?_, ?_, ?_, ?_, ?_, ?_, ?_, ?_, ?_, ?_, ?_, ?_, ?_, ?_, ?_, ?_, ?_, ?_, ?_, ?_, ?_, ?_, ?_, ?_, ?_, trivial⟩ ?_
    ·have hw := hw.drew
     have hw := hw.junk
     have hw := hw.junk
     have hw := hw.junk
     have hw := hw.junk
     exact ⟨undef, undef, undef, undef, doneV.none, ⟨rfl, rfl, rfl, rfl, rfl, trivial⟩, hw⟩
    ·rintro D σ w hD hdep hcl ⟨v229, v230, v232, v233, hv, ha, hw⟩
     obtain ⟨τ, rfl⟩ := (ac (ha.at 0 rfl) az).ups
     refine mv v0 rfl rfl ?_
     refine RL.nil ?_
     exact ⟨rfl, v229, v230, v232, v233, hv.put 0 rfl rfl, ha.up rfl, hw⟩
    ·rintro D σ w hD hdep hcl ⟨v229, v230, v232, v233, hv, ha, hw⟩
     obtain ⟨τ, rfl⟩ := (ac (ha.at 2 rfl) az).ups
     refine mv (vi (k31 : Int)) rfl rfl ?_
     refine RL.nil ?_
     exact ⟨rfl, v229, v230, v232, v233, hv.put 1 rfl rfl, ha.up rfl, hw⟩
    ·rintro D σ w hD hdep hcl ⟨v229, v230, v232, v233, hv, ha, hw⟩
     obtain ⟨τ, rfl⟩ := (ac (hv.at 0 rfl (hdep.1 rfl)) (ac (hv.at 1 rfl (hdep.2.1 rfl)) az)).ups
     have hw := hw.selF (i := 0) rfl hD
     refine RL.ia_rd (i := 4) trivial rfl hw rfl rfl rfl sl39 hx228 fun v235 hw => ?_
     have hw := hw.pick 7 [0, 2, 3, 4, 5, 6] (new := [pt v235 x228, bif D 3 then (pt v230 x228.Kind) else junk, bif D 7 then (pt v232 x231) else junk, bif D 8 then (pt v233 x231.Kind) else junk, rd v0 p0, rd v1 p1]) rfl rfl (by decide) (by decide)
     have hw := hw.altT (i := 0) (b := true) rfl rfl (junk)
     refine RL.nil ?_
     exact ⟨rfl, v235, v230, v232, v233, hv.put 2 rfl rfl, ha.up rfl, hw⟩
    ·rintro D σ w hD hdep hcl ⟨v229, v230, v232, v233, hv, ha, hw⟩
     obtain ⟨τ, rfl⟩ := (ac (hv.at 2 rfl (hdep.1 rfl)) az).ups
     have hw := hw.selT (i := 0) rfl (hdep.1 rfl)
     have hw := hw.selF (i := 1) rfl hD
     refine RL.fa_pt (i := 0) (f := fun (x : Finding) => x.Kind) trivial rfl hw rfl rfl fa96_0 fd_Finding_0 fun v236 hw => ?_
     have hw := hw.pick 7 [1, 0, 3, 4, 5, 6] (new := [pt v229 x228, pt v236 x228.Kind, bif D 7 then (pt v232 x231) else junk, bif D 8 then (pt v233 x231.Kind) else junk, rd v0 p0, rd v1 p1]) rfl rfl (by decide) (by decide)
     have hw := hw.altT (i := 0) (b := D 2) rfl (hdep.1 rfl) (junk)
     have hw := hw.altT (i := 1) (b := true) rfl rfl (junk)
     refine RL.nil ?_
     exact ⟨rfl, v229, v236, v232, v233, hv.put 3 rfl rfl, ha.up rfl, hw⟩
    ·rintro D σ w hD hdep hcl ⟨v229, v230, v232, v233, hv, ha, hw⟩
     obtain ⟨τ, rfl⟩ := (ac (hv.at 3 rfl (hdep.1 rfl)) az).ups
     have hw := hw.selT (i := 1) rfl (hdep.1 rfl)
     refine RL.load_pts (i := 1) (y := x228.Kind) trivial rfl hw rfl rfl ty3 ?_
     have hw := hw.altT (i := 1) (b := D 3) rfl (hdep.1 rfl) (junk)
     refine RL.nil ?_
     exact ⟨rfl, v229, v230, v232, v233, hv.put 4 rfl rfl, ha.up rfl, hw⟩
    ·rintro D σ w hD hdep hcl ⟨v229, v230, v232, v233, hv, ha, hw⟩
     obtain ⟨τ, rfl⟩ := (ac (ha.at 1 rfl) az).ups
     refine mv v1 rfl rfl ?_
     refine RL.nil ?_
     exact ⟨rfl, v229, v230, v232, v233, hv.put 5 rfl rfl, ha.up rfl, hw⟩
    ·rintro D σ w hD hdep hcl ⟨v229, v230, v232, v233, hv, ha, hw⟩
     obtain ⟨τ, rfl⟩ := (ac (ha.at 2 rfl) az).ups
     refine mv (vi (k31 : Int)) rfl rfl ?_
     refine RL.nil ?_
     exact ⟨rfl, v229, v230, v232, v233, hv.put 6 rfl rfl, ha.up rfl, hw⟩
    ·rintro D σ w hD hdep hcl ⟨v229, v230, v232, v233, hv, ha, hw⟩
     obtain ⟨τ, rfl⟩ := (ac (hv.at 5 rfl (hdep.1 rfl)) (ac (hv.at 6 rfl (hdep.2.1 rfl)) az)).ups
     have hw := hw.selF (i := 2) rfl hD
     refine RL.ia_rd (i := 5) trivial rfl hw rfl rfl rfl sl39 hx231 fun v237 hw => ?_
     have hw := hw.pick 7 [1, 2, 0, 4, 5, 6] (new := [bif D 2 then (pt v229 x228) else junk, bif D 3 then (pt v230 x228.Kind) else junk, pt v237 x231, bif D 8 then (pt v233 x231.Kind) else junk, rd v0 p0, rd v1 p1]) rfl rfl (by decide) (by decide)
     have hw := hw.altT (i := 2) (b := true) rfl rfl (junk)
     refine RL.nil ?_
     exact ⟨rfl, v229, v230, v237, v233, hv.put 7 rfl rfl, ha.up rfl, hw⟩
    ·rintro D σ w hD hdep hcl ⟨v229, v230, v232, v233, hv, ha, hw⟩
     obtain ⟨τ, rfl⟩ := (ac (hv.at 7 rfl (hdep.1 rfl)) az).ups
     have hw := hw.selT (i := 2) rfl (hdep.1 rfl)
     have hw := hw.selF (i := 3) rfl hD
     refine RL.fa_pt (i := 2) (f := fun (x : Finding) => x.Kind) trivial rfl hw rfl rfl fa96_0 fd_Finding_0 fun v238 hw => ?_
     have hw := hw.pick 7 [1, 2, 3, 0, 5, 6] (new := [bif D 2 then (pt v229 x228) else junk, bif D 3 then (pt v230 x228.Kind) else junk, pt v232 x231, pt v238 x231.Kind, rd v0 p0, rd v1 p1]) rfl rfl (by decide) (by decide)
     have hw := hw.altT (i := 2) (b := D 7) rfl (hdep.1 rfl) (junk)
     have hw := hw.altT (i := 3) (b := true) rfl rfl (junk)
     refine RL.nil ?_
     exact ⟨rfl, v229, v230, v232, v238, hv.put 8 rfl rfl, ha.up rfl, hw⟩
    ·rintro D σ w hD hdep hcl ⟨v229, v230, v232, v233, hv, ha, hw⟩
     obtain ⟨τ, rfl⟩ := (ac (hv.at 8 rfl (hdep.1 rfl)) az).ups
     have hw := hw.selT (i := 3) rfl (hdep.1 rfl)
     refine RL.load_pts (i := 3) (y := x231.Kind) trivial rfl hw rfl rfl ty3 ?_
     have hw := hw.altT (i := 3) (b := D 8) rfl (hdep.1 rfl) (junk)
     refine RL.nil ?_
     exact ⟨rfl, v229, v230, v232, v233, hv.put 9 rfl rfl, ha.up rfl, hw⟩
    ·rintro D σ w hD hdep hcl ⟨v229, v230, v232, v233, hv, ha, hw⟩
     obtain ⟨τ, rfl⟩ := (ac (hv.at 4 rfl (hdep.1 rfl)) (ac (hv.at 9 rfl (hdep.2.1 rfl)) az)).ups
     refine ic (x228.Kind) (x231.Kind) rfl rfl rfl rfl ?_
     refine RL.nil ?_
     exact ⟨rfl, v229, v230, v232, v233, hv.put 10 rfl rfl, ha.up rfl, hw⟩
    ·rintro D σ w hD hdep hcl ⟨v229, v230, v232, v233, hv, ha, hw⟩
     obtain ⟨τ, rfl⟩ := (ac (hv.at 10 rfl (hdep.1 rfl)) az).ups
     refine mv (vb (x228.Kind != x231.Kind)) rfl rfl ?_
     refine RL.nil ?_
     exact ⟨rfl, v229, v230, v232, v233, hv.put 11 rfl rfl, ha.up rfl, hw⟩
    ·rintro D σ w hD hdep hcl ⟨v229, v230, v232, v233, hv, ha, hw⟩
     obtain ⟨τ, rfl⟩ := (ac (hv.at 11 rfl (hdep.1 rfl)) (ac (ha.at 0 rfl) az)).ups
     refine sk rfl (.inl (cb hg234)) rfl ?_
     refine RL.nil ?_
     exact ⟨rfl, v229, v230, v232, v233, hv.put 12 rfl rfl, ha.up rfl, hw⟩
    ·rintro D σ w hD hdep hcl ⟨v229, v230, v232, v233, hv, ha, hw⟩
     obtain ⟨τ, rfl⟩ := (ac (hv.at 11 rfl (hdep.1 rfl)) (ac (ha.at 2 rfl) az)).ups
     refine sk rfl (.inl (cb hg234)) rfl ?_
     refine RL.nil ?_
     exact ⟨rfl, v229, v230, v232, v233, hv.put 13 rfl rfl, ha.up rfl, hw⟩
    ·rintro D σ w hD hdep hcl ⟨v229, v230, v232, v233, hv, ha, hw⟩
     obtain ⟨τ, rfl⟩ := (ac (hv.at 11 rfl (hdep.2.2.1 rfl)) (ac (hv.at 12 rfl (hdep.1 rfl)) (ac (hv.at 13 rfl (hdep.2.1 rfl)) az))).ups
     refine sk rfl (.inl (cb hg234)) rfl ?_
     refine RL.nil ?_
     exact ⟨rfl, v229, v230, v232, v233, hv.put 14 rfl rfl, ha.up rfl, hw⟩
    ·rintro D σ w hD hdep hcl ⟨v229, v230, v232, v233, hv, ha, hw⟩
     obtain ⟨τ, rfl⟩ := (ac (hv.at 11 rfl (hdep.2.1 rfl)) (ac (hv.at 14 rfl (hdep.1 rfl)) az)).ups
     refine sk rfl (.inl (cb hg234)) rfl ?_
     refine RL.nil ?_
     exact ⟨rfl, v229, v230, v232, v233, hv.put 15 rfl rfl, ha.up rfl, hw⟩
    ·rintro D σ w hD hdep hcl ⟨v229, v230, v232, v233, hv, ha, hw⟩
     obtain ⟨τ, rfl⟩ := (ac (hv.at 11 rfl (hdep.2.1 rfl)) (ac (hv.at 15 rfl (hdep.1 rfl)) az)).ups
     refine sk rfl (.inl (cb hg234)) rfl ?_
     refine RL.nil ?_
     exact ⟨rfl, v229, v230, v232, v233, hv.put 16 rfl rfl, ha.up rfl, hw⟩
    ·rintro D σ w hD hdep hcl ⟨v229, v230, v232, v233, hv, ha, hw⟩
     obtain ⟨τ, rfl⟩ := (ac (hv.at 11 rfl (hdep.1 rfl)) (ac (ha.at 1 rfl) az)).ups
     refine sk rfl (.inl (cb hg234)) rfl ?_
     refine RL.nil ?_
     exact ⟨rfl, v229, v230, v232, v233, hv.put 17 rfl rfl, ha.up rfl, hw⟩
    ·rintro D σ w hD hdep hcl ⟨v229, v230, v232, v233, hv, ha, hw⟩
     obtain ⟨τ, rfl⟩ := (ac (hv.at 11 rfl (hdep.1 rfl)) (ac (ha.at 2 rfl) az)).ups
     refine sk rfl (.inl (cb hg234)) rfl ?_
     refine RL.nil ?_
     exact ⟨rfl, v229, v230, v232, v233, hv.put 18 rfl rfl, ha.up rfl, hw⟩
    ·rintro D σ w hD hdep hcl ⟨v229, v230, v232, v233, hv, ha, hw⟩
     obtain ⟨τ, rfl⟩ := (ac (hv.at 11 rfl (hdep.2.2.1 rfl)) (ac (hv.at 17 rfl (hdep.1 rfl)) (ac (hv.at 18 rfl (hdep.2.1 rfl)) az))).ups
     refine sk rfl (.inl (cb hg234)) rfl ?_
     refine RL.nil ?_
     exact ⟨rfl, v229, v230, v232, v233, hv.put 19 rfl rfl, ha.up rfl, hw⟩
    ·rintro D σ w hD hdep hcl ⟨v229, v230, v232, v233, hv, ha, hw⟩
     obtain ⟨τ, rfl⟩ := (ac (hv.at 11 rfl (hdep.2.1 rfl)) (ac (hv.at 19 rfl (hdep.1 rfl)) az)).ups
     refine sk rfl (.inl (cb hg234)) rfl ?_
     refine RL.nil ?_
     exact ⟨rfl, v229, v230, v232, v233, hv.put 20 rfl rfl, ha.up rfl, hw⟩
    ·rintro D σ w hD hdep hcl ⟨v229, v230, v232, v233, hv, ha, hw⟩
     obtain ⟨τ, rfl⟩ := (ac (hv.at 11 rfl (hdep.2.1 rfl)) (ac (hv.at 20 rfl (hdep.1 rfl)) az)).ups
     refine sk rfl (.inl (cb hg234)) rfl ?_
     refine RL.nil ?_
     exact ⟨rfl, v229, v230, v232, v233, hv.put 21 rfl rfl, ha.up rfl, hw⟩
    ·rintro D σ w hD hdep hcl ⟨v229, v230, v232, v233, hv, ha, hw⟩
     obtain ⟨τ, rfl⟩ := (ac (hv.at 11 rfl (hdep.2.2.1 rfl)) (ac (hv.at 16 rfl (hdep.1 rfl)) (ac (hv.at 21 rfl (hdep.2.1 rfl)) az))).ups
     refine sk rfl (.inl (cb hg234)) rfl ?_
     refine RL.nil ?_
     exact ⟨rfl, v229, v230, v232, v233, hv.put 22 rfl rfl, ha.up rfl, hw⟩
    ·rintro D σ w hD hdep hcl ⟨v229, v230, v232, v233, hv, ha, hw⟩
     obtain ⟨τ, rfl⟩ := (ac (hv.at 11 rfl (hdep.1 rfl)) (ac (hv.at 22 rfl (hdep.2.1 rfl)) az)).ups
     refine RL.pick (b := (x228.Kind != x231.Kind)) (v := (vb true)) trivial rfl rfl (by rw [hg234]; rfl) ?_
     refine RL.nil ?_
     exact ⟨rfl, v229, v230, v232, v233, hv.put 23 rfl rfl, ha.up rfl, hw⟩
    ·rintro D σ w hD hdep hcl ⟨v229, v230, v232, v233, hv, ha, hw⟩
     obtain ⟨τ, rfl⟩ := (ac (hv.at 23 rfl (hdep.1 rfl)) az).ups
     refine mv (vb true) rfl rfl ?_
     refine RL.nil ?_
     exact ⟨rfl, v229, v230, v232, v233, hv.put 24 rfl rfl, ha.up rfl, hw⟩
    ·rintro D σ w hD hdep hcl ⟨v229, v230, v232, v233, hv, ha, hw⟩
     obtain ⟨τ, rfl⟩ := (ac (hv.at 24 rfl (hdep.1 rfl)) (ac (ha.at 0 rfl) az)).ups
     refine sk rfl (.inl rfl) rfl ?_
     refine RL.nil ?_
     exact ⟨rfl, v229, v230, v232, v233, hv.put 25 rfl rfl, ha.up rfl, hw⟩
    ·rintro D σ w hD hdep hcl ⟨v229, v230, v232, v233, hv, ha, hw⟩
     obtain ⟨τ, rfl⟩ := (ac (hv.at 24 rfl (hdep.1 rfl)) (ac (ha.at 2 rfl) az)).ups
     refine sk rfl (.inl rfl) rfl ?_
     refine RL.nil ?_
     exact ⟨rfl, v229, v230, v232, v233, hv.put 26 rfl rfl, ha.up rfl, hw⟩
    ·rintro D σ w hD hdep hcl ⟨v229, v230, v232, v233, hv, ha, hw⟩
     obtain ⟨τ, rfl⟩ := (ac (hv.at 24 rfl (hdep.2.2.1 rfl)) (ac (hv.at 25 rfl (hdep.1 rfl)) (ac (hv.at 26 rfl (hdep.2.1 rfl)) az))).ups
     refine sk rfl (.inl rfl) rfl ?_
     refine RL.nil ?_
     exact ⟨rfl, v229, v230, v232, v233, hv.put 27 rfl rfl, ha.up rfl, hw⟩
    ·rintro D σ w hD hdep hcl ⟨v229, v230, v232, v233, hv, ha, hw⟩
     obtain ⟨τ, rfl⟩ := (ac (hv.at 24 rfl (hdep.2.1 rfl)) (ac (hv.at 27 rfl (hdep.1 rfl)) az)).ups
     refine sk rfl (.inl rfl) rfl ?_
     refine RL.nil ?_
     exact ⟨rfl, v229, v230, v232, v233, hv.put 28 rfl rfl, ha.up rfl, hw⟩
    ·rintro D σ w hD hdep hcl ⟨v229, v230, v232, v233, hv, ha, hw⟩
     obtain ⟨τ, rfl⟩ := (ac (hv.at 24 rfl (hdep.2.1 rfl)) (ac (hv.at 28 rfl (hdep.1 rfl)) az)).ups
     refine sk rfl (.inl rfl) rfl ?_
     refine RL.nil ?_
     exact ⟨rfl, v229, v230, v232, v233, hv.put 29 rfl rfl, ha.up rfl, hw⟩
    ·rintro D σ w hD hdep hcl ⟨v229, v230, v232, v233, hv, ha, hw⟩
     obtain ⟨τ, rfl⟩ := (ac (hv.at 24 rfl (hdep.1 rfl)) (ac (ha.at 1 rfl) az)).ups
     refine sk rfl (.inl rfl) rfl ?_
     refine RL.nil ?_
     exact ⟨rfl, v229, v230, v232, v233, hv.put 30 rfl rfl, ha.up rfl, hw⟩
    ·rintro D σ w hD hdep hcl ⟨v229, v230, v232, v233, hv, ha, hw⟩
     obtain ⟨τ, rfl⟩ := (ac (hv.at 24 rfl (hdep.1 rfl)) (ac (ha.at 2 rfl) az)).ups
     refine sk rfl (.inl rfl) rfl ?_
     refine RL.nil ?_
     exact ⟨rfl, v229, v230, v232, v233, hv.put 31 rfl rfl, ha.up rfl, hw⟩
    ·rintro D σ w hD hdep hcl ⟨v229, v230, v232, v233, hv, ha, hw⟩
     obtain ⟨τ, rfl⟩ := (ac (hv.at 24 rfl (hdep.2.2.1 rfl)) (ac (hv.at 30 rfl (hdep.1 rfl)) (ac (hv.at 31 rfl (hdep.2.1 rfl)) az))).ups
     refine sk rfl (.inl rfl) rfl ?_
     refine RL.nil ?_
     exact ⟨rfl, v229, v230, v232, v233, hv.put 32 rfl rfl, ha.up rfl, hw⟩
    ·rintro D σ w hD hdep hcl ⟨v229, v230, v232, v233, hv, ha, hw⟩
     obtain ⟨τ, rfl⟩ := (ac (hv.at 24 rfl (hdep.2.1 rfl)) (ac (hv.at 32 rfl (hdep.1 rfl)) az)).ups
     refine sk rfl (.inl rfl) rfl ?_
     refine RL.nil ?_
     exact ⟨rfl, v229, v230, v232, v233, hv.put 33 rfl rfl, ha.up rfl, hw⟩
    ·rintro D σ w hD hdep hcl ⟨v229, v230, v232, v233, hv, ha, hw⟩
     obtain ⟨τ, rfl⟩ := (ac (hv.at 24 rfl (hdep.2.1 rfl)) (ac (hv.at 33 rfl (hdep.1 rfl)) az)).ups
     refine sk rfl (.inl rfl) rfl ?_
     refine RL.nil ?_
     exact ⟨rfl, v229, v230, v232, v233, hv.put 34 rfl rfl, ha.up rfl, hw⟩
    ·rintro D σ w hD hdep hcl ⟨v229, v230, v232, v233, hv, ha, hw⟩
     obtain ⟨τ, rfl⟩ := (ac (hv.at 24 rfl (hdep.2.2.1 rfl)) (ac (hv.at 29 rfl (hdep.1 rfl)) (ac (hv.at 34 rfl (hdep.2.1 rfl)) az))).ups
     refine sk rfl (.inl rfl) rfl ?_
     refine RL.nil ?_
     exact ⟨rfl, v229, v230, v232, v233, hv.put 35 rfl rfl, ha.up rfl, hw⟩
    ·rintro D σ w hD hdep hcl ⟨v229, v230, v232, v233, hv, ha, hw⟩
     obtain ⟨τ, rfl⟩ := (ac (hv.at 24 rfl (hdep.2.1 rfl)) (ac (hv.at 35 rfl (hdep.1 rfl)) az)).ups
     refine sk rfl (.inl rfl) rfl ?_
     refine RL.nil ?_
     exact ⟨rfl, v229, v230, v232, v233, hv.put 36 rfl rfl, ha.up rfl, hw⟩
    ·rintro D σ w hD hdep hcl ⟨v229, v230, v232, v233, hv, ha, hw⟩
     obtain ⟨τ, rfl⟩ := (ac (hv.at 24 rfl (hdep.1 rfl)) (ac (hv.at 36 rfl (hdep.2.1 rfl)) az)).ups
     refine RL.pick (b := true) (v := (vb true)) trivial rfl rfl rfl ?_
     refine RL.nil ?_
     exact ⟨rfl, v229, v230, v232, v233, hv.put 37 rfl rfl, ha.up rfl, hw⟩
    rintro D σ w hall ⟨v229, v230, v232, v233, hv, ha, hw⟩
    rw [hall 2 (by decide), hall 3 (by decide), hall 7 (by decide), hall 8 (by decide)] at hw
    obtain ⟨τ, rfl⟩ := (ac (hv.at 37 rfl (hall 37 (by decide))) (ac (ha.at 0 rfl) (ac (ha.at 1 rfl) (ac (ha.at 2 rfl) (ac (ha.at 3 rfl) (ac (ha.at 4 rfl) az)))))).ups
    obtain rfl := oi hj
    exact ⟨rfl, ⟨rfl, rfl, rfl, rfl, rfl, trivial⟩, hw.pick 6 [4, 5] (new := [rd v0 p0, rd v1 p1]) rfl rfl (by decide) (by decide)⟩
   replace hj := cF hg234 hj
   obtain ⟨x239, hx239, hj⟩ := bd hj
   obtain ⟨x242, hx242, hj⟩ := bd hj
   rcases Bool.eq_false_or_eq_true (!x239.Net.eqb x242.Net) with hg245 | hg245
   ·replace hj := cT hg245 hj
    refine RC.drw mixed rfl (fun (D : Nat → Bool) (σ : Nat → Value) (w : World) => ∃ (v229 : Value) (v230 : Value) (v232 : Value) (v233 : Value) (v240 : Value) (v241 : Value) (v243 : Value) (v244 : Value), doneV D σ [(0, 16, v0), (1, 17, (vi (k31 : Int))), (2, 18, v229), (3, 19, v230), (4, 20, (vi x228.Kind)), (5, 21, v1), (6, 22, (vi (k31 : Int))), (7, 23, v232), (8, 24, v233), (9, 25, (vi x231.Kind)), (10, 26, (vb (x228.Kind != x231.Kind))), (11, 27, (vb (x228.Kind != x231.Kind))), (12, 28, v0), (13, 29, (vi (k31 : Int))), (14, 30, v240), (15, 31, v241), (16, 32, (str x239.Net)), (17, 33, v1), (18, 34, (vi (k31 : Int))), (19, 35, v243), (20, 36, v244), (21, 37, (str x242.Net)), (22, 38, (vb (!x239.Net.eqb x242.Net))), (23, 39, (vb (!x239.Net.eqb x242.Net))), (24, 40, (vb (!x239.Net.eqb x242.Net))), (25, 41, undef), (26, 42, undef), (27, 43, undef), (28, 44, undef), (29, 45, undef), (30, 46, undef), (31, 47, undef), (32, 48, undef), (33, 49, undef), (34, 50, undef), (35, 51, undef), (36, 52, undef), (37, 53, (vb true))] ∧ agree σ [(0, v0), (1, v1), (5, (vi (k31 : Int))), (12, (vi (p0.length : Int))), (13, (vi (k31 : Int)))] ∧ Holds E w ([bif D 2 then (pt v229 x228) else junk, bif D 3 then (pt v230 x228.Kind) else junk, bif D 7 then (pt v232 x231) else junk, bif D 8 then (pt v233 x231.Kind) else junk, bif D 14 then (pt v240 x239) else junk, bif D 15 then (pt v241 x239.Net) else junk, bif D 19 then (pt v243 x242) else junk, bif D 20 then (pt v244 x242.Net) else junk, rd v0 p0, rd v1 p1] ++ Γ)) ?_ ⟨?_, ?_, ?_, ?_, ?_, ?_, ?_, ?_, ?_, ?_, ?_, ?_, ?_, ?_, ?_, ?_, ?_, ?_, ?_, ?_, ?_, ?_, ?_, ?_, ?_, ?_, ?_, ?_, ?_, ?_, ?_, ?_, ?_, ?_, ?_, ?_, ?_, ?_, trivial⟩ ?_
    ·have hw := hw.drew
     have hw := hw.junk
     have hw := hw.junk
     have hw := hw.junk
     have hw := hw.junk
     have hw := hw.junk
     have hw := hw.junk
     have hw := hw.junk
     have hw := hw.junk
     exact ⟨undef, undef, undef, undef, undef, undef, undef, undef, doneV.none, ⟨rfl, rfl, rfl, rfl, rfl, trivial⟩, hw⟩
    ·rintro D σ w hD hdep hcl ⟨v229, v230, v232, v233, v240, v241, v243, v244, hv, ha, hw⟩
     obtain ⟨τ, rfl⟩ := (ac (ha.at 0 rfl) az).ups
     refine mv v0 rfl rfl ?_
     refine RL.nil ?_
     exact ⟨rfl, v229, v230, v232, v233, v240, v241, v243, v244, hv.put 0 rfl rfl, ha.up rfl, hw⟩
    ·rintro D σ w hD hdep hcl ⟨v229, v230, v232, v233, v240, v241, v243, v244, hv, ha, hw⟩
     obtain ⟨τ, rfl⟩ := (ac (ha.at 2 rfl) az).ups
     refine mv (vi (k31 : Int)) rfl rfl ?_
     refine RL.nil ?_
     exact ⟨rfl, v229, v230, v232, v233, v240, v241, v243, v244, hv.put 1 rfl rfl, ha.up rfl, hw⟩
    ·rintro D σ w hD hdep hcl ⟨v229, v230, v232, v233, v240, v241, v243, v244, hv, ha, hw⟩
     obtain ⟨τ, rfl⟩ := (ac (hv.at 0 rfl (hdep.1 rfl)) (ac (hv.at 1 rfl (hdep.2.1 rfl)) az)).ups
     have hw := hw.selF (i := 0) rfl hD
     refine RL.ia_rd (i := 8) trivial rfl hw rfl rfl rfl sl39 hx228 fun v246 hw => ?_
     have hw := hw.pick 11 [0, 2, 3, 4, 5, 6, 7, 8, 9, 10] (new := [pt v246 x228, bif D 3 then (pt v230 x228.Kind) else junk, bif D 7 then (pt v232 x231) else junk, bif D 8 then (pt v233 x231.Kind) else junk, bif D 14 then (pt v240 x239) else junk, bif D 15 then (pt v241 x239.Net) else junk, bif D 19 then (pt v243 x242) else junk, bif D 20 then (pt v244 x242.Net) else junk, rd v0 p0, rd v1 p1]) rfl rfl (by decide) (by decide)
     have hw := hw.altT (i := 0) (b := true) rfl rfl (junk)
     refine RL.nil ?_
     exact ⟨rfl, v246, v230, v232, v233, v240, v241, v243, v244, hv.put 2 rfl rfl, ha.up rfl, hw⟩
    ·rintro D σ w hD hdep hcl ⟨v229, v230, v232, v233, v240, v241, v243, v244, hv, ha, hw⟩
     obtain ⟨τ, rfl⟩ := (ac (hv.at 2 rfl (hdep.1 rfl)) az).ups
     have hw := hw.selT (i := 0) rfl (hdep.1 rfl)
     have hw := hw.selF (i := 1) rfl hD
     refine RL.fa_pt (i := 0) (f := fun (x : Finding) => x.Kind) trivial rfl hw rfl rfl fa96_0 fd_Finding_0 fun v247 hw => ?_
     have hw := hw.pick 11 [1, 0, 3, 4, 5, 6, 7, 8, 9, 10] (new := [pt v229 x228, pt v247 x228.Kind, bif D 7 then (pt v232 x231) else junk, bif D 8 then (pt v233 x231.Kind) else junk, bif D 14 then (pt v240 x239) else junk, bif D 15 then (pt v241 x239.Net) else junk, bif D 19 then (pt v243 x242) else junk, bif D 20 then (pt v244 x242.Net) else junk, rd v0 p0, rd v1 p1]) rfl rfl (by decide) (by decide)
     have hw := hw.altT (i := 0) (b := D 2) rfl (hdep.1 rfl) (junk)
     have hw := hw.altT (i := 1) (b := true) rfl rfl (junk)
     refine RL.nil ?_
     exact ⟨rfl, v229, v247, v232, v233, v240, v241, v243, v244, hv.put 3 rfl rfl, ha.up rfl, hw⟩
    ·rintro D σ w hD hdep hcl ⟨v229, v230, v232, v233, v240, v241, v243, v244, hv, ha, hw⟩
     obtain ⟨τ, rfl⟩ := (ac (hv.at 3 rfl (hdep.1 rfl)) az).ups
     have hw := hw.selT (i := 1) rfl (hdep.1 rfl)
     refine RL.load_pts (i := 1) (y := x228.Kind) trivial rfl hw rfl rfl ty3 ?_
     have hw := hw.altT (i := 1) (b := D 3) rfl (hdep.1 rfl) (junk)
     refine RL.nil ?_
     exact ⟨rfl, v229, v230, v232, v233, v240, v241, v243, v244, hv.put 4 rfl rfl, ha.up rfl, hw⟩
    ·rintro D σ w hD hdep hcl ⟨v229, v230, v232, v233, v240, v241, v243, v244, hv, ha, hw⟩
     obtain ⟨τ, rfl⟩ := (ac (ha.at 1 rfl) az).ups
     refine mv v1 rfl rfl ?_
     refine RL.nil ?_
     exact ⟨rfl, v229, v230, v232, v233, v240, v241, v243, v244, hv.put 5 rfl rfl, ha.up rfl, hw⟩
    ·rintro D σ w hD hdep hcl ⟨v229, v230, v232, v233, v240, v241, v243, v244, hv, ha, hw⟩
     obtain ⟨τ, rfl⟩ := (ac (ha.at 2 rfl) az).ups
     refine mv (vi (k31 : Int)) rfl rfl ?_
     refine RL.nil ?_
     exact ⟨rfl, v229, v230, v232, v233, v240, v241, v243, v244, hv.put 6 rfl rfl, ha.up rfl, hw⟩
    ·rintro D σ w hD hdep hcl ⟨v229, v230, v232, v233, v240, v241, v243, v244, hv, ha, hw⟩
     obtain ⟨τ, rfl⟩ := (ac (hv.at 5 rfl (hdep.1 rfl)) (ac (hv.at 6 rfl (hdep.2.1 rfl)) az)).ups
     have hw := hw.selF (i := 2) rfl hD
     refine RL.ia_rd (i := 9) trivial rfl hw rfl rfl rfl sl39 hx231 fun v248 hw => ?_
     have hw := hw.pick 11 [1, 2, 0, 4, 5, 6, 7, 8, 9, 10] (new := [bif D 2 then (pt v229 x228) else junk, bif D 3 then (pt v230 x228.Kind) else junk, pt v248 x231, bif D 8 then (pt v233 x231.Kind) else junk, bif D 14 then (pt v240 x239) else junk, bif D 15 then (pt v241 x239.Net) else junk, bif D 19 then (pt v243 x242) else junk, bif D 20 then (pt v244 x242.Net) else junk, rd v0 p0, rd v1 p1]) rfl rfl (by decide) (by decide)
     have hw := hw.altT (i := 2) (b := true) rfl rfl (junk)
     refine RL.nil ?_
     exact ⟨rfl, v229, v230, v248, v233, v240, v241, v243, v244, hv.put 7 rfl rfl, ha.up rfl, hw⟩
    ·rintro D σ w hD hdep hcl ⟨v229, v230, v232, v233, v240, v241, v243, v244, hv, ha, hw⟩
     obtain ⟨τ, rfl⟩ := (ac (hv.at 7 rfl (hdep.1 rfl)) az).ups
     have hw := hw.selT (i := 2) rfl (hdep.1 rfl)
     have hw := hw.selF (i := 3) rfl hD
     refine RL.fa_pt (i := 2) (f := fun (x : Finding) => x.Kind) trivial rfl hw rfl rfl fa96_0 fd_Finding_0 fun v249 hw => ?_
     have hw := hw.pick 11 [1, 2, 3, 0, 5, 6, 7, 8, 9, 10] (new := [bif D 2 then (pt v229 x228) else junk, bif D 3 then (pt v230 x228.Kind) else junk, pt v232 x231, pt v249 x231.Kind, bif D 14 then (pt v240 x239) else junk, bif D 15 then (pt v241 x239.Net) else junk, bif D 19 then (pt v243 x242) else junk, bif D 20 then (pt v244 x242.Net) else junk, rd v0 p0, rd v1 p1]) rfl rfl (by decide) (by decide)
     have hw := hw.altT (i := 2) (b := D 7) rfl (hdep.1 rfl) (junk)
     have hw := hw.altT (i := 3) (b := true) rfl rfl (junk)
     refine RL.nil ?_
     exact ⟨rfl, v229, v230, v232, v249, v240, v241, v243, v244, hv.put 8 rfl rfl, ha.up rfl, hw⟩
    ·rintro D σ w hD hdep hcl ⟨v229, v230, v232, v233, v240, v241, v243, v244, hv, ha, hw⟩
     obtain ⟨τ, rfl⟩ := (ac (hv.at 8 rfl (hdep.1 rfl)) az).ups
     have hw := hw.selT (i := 3) rfl (hdep.1 rfl)
     refine RL.load_pts (i := 3) (y := x231.Kind) trivial rfl hw rfl rfl ty3 ?_
     have hw := hw.altT (i := 3) (b := D 8) rfl (hdep.1 rfl) (junk)
     refine RL.nil ?_
     exact ⟨rfl, v229, v230, v232, v233, v240, v241, v243, v244, hv.put 9 rfl rfl, ha.up rfl, hw⟩
    ·rintro D σ w hD hdep hcl ⟨v229, v230, v232, v233, v240, v241, v243, v244, hv, ha, hw⟩
     obtain ⟨τ, rfl⟩ := (ac (hv.at 4 rfl (hdep.1 rfl)) (ac (hv.at 9 rfl (hdep.2.1 rfl)) az)).ups
     refine ic (x228.Kind) (x231.Kind) rfl rfl rfl rfl ?_
     refine RL.nil ?_
     exact ⟨rfl, v229, v230, v232, v233, v240, v241, v243, v244, hv.put 10 rfl rfl, ha.up rfl, hw⟩
    ·rintro D σ w hD hdep hcl ⟨v229, v230, v232, v233, v240, v241, v243, v244, hv, ha, hw⟩
     obtain ⟨τ, rfl⟩ := (ac (hv.at 10 rfl (hdep.1 rfl)) az).ups
     refine mv (vb (x228.Kind != x231.Kind)) rfl rfl ?_
     refine RL.nil ?_
     exact ⟨rfl, v229, v230, v232, v233, v240, v241, v243, v244, hv.put 11 rfl rfl, ha.up rfl, hw⟩
    ·rintro D σ w hD hdep hcl ⟨v229, v230, v232, v233, v240, v241, v243, v244, hv, ha, hw⟩
     obtain ⟨τ, rfl⟩ := (ac (hv.at 11 rfl (hdep.1 rfl)) (ac (ha.at 0 rfl) az)).ups
     refine RL.move (v := v0) ⟨_, rfl, cb hg234⟩ rfl rfl ?_
     refine RL.nil ?_
     exact ⟨rfl, v229, v230, v232, v233, v240, v241, v243, v244, hv.put 12 rfl rfl, ha.up rfl, hw⟩
    ·rintro D σ w hD hdep hcl ⟨v229, v230, v232, v233, v240, v241, v243, v244, hv, ha, hw⟩
     obtain ⟨τ, rfl⟩ := (ac (hv.at 11 rfl (hdep.1 rfl)) (ac (ha.at 2 rfl) az)).ups
     refine RL.move (v := (vi (k31 : Int))) ⟨_, rfl, cb hg234⟩ rfl rfl ?_
     refine RL.nil ?_
     exact ⟨rfl, v229, v230, v232, v233, v240, v241, v243, v244, hv.put 13 rfl rfl, ha.up rfl, hw⟩
    ·rintro D σ w hD hdep hcl ⟨v229, v230, v232, v233, v240, v241, v243, v244, hv, ha, hw⟩
     obtain ⟨τ, rfl⟩ := (ac (hv.at 11 rfl (hdep.2.2.1 rfl)) (ac (hv.at 12 rfl (hdep.1 rfl)) (ac (hv.at 13 rfl (hdep.2.1 rfl)) az))).ups
     have hw := hw.selF (i := 4) rfl hD
     refine RL.ia_rd (i := 8) ⟨_, rfl, cb hg234⟩ rfl hw rfl rfl rfl sl39 hx239 fun v250 hw => ?_
     have hw := hw.pick 11 [1, 2, 3, 4, 0, 6, 7, 8, 9, 10] (new := [bif D 2 then (pt v229 x228) else junk, bif D 3 then (pt v230 x228.Kind) else junk, bif D 7 then (pt v232 x231) else junk, bif D 8 then (pt v233 x231.Kind) else junk, pt v250 x239, bif D 15 then (pt v241 x239.Net) else junk, bif D 19 then (pt v243 x242) else junk, bif D 20 then (pt v244 x242.Net) else junk, rd v0 p0, rd v1 p1]) rfl rfl (by decide) (by decide)
     have hw := hw.altT (i := 4) (b := true) rfl rfl (junk)
     refine RL.nil ?_
     exact ⟨rfl, v229, v230, v232, v233, v250, v241, v243, v244, hv.put 14 rfl rfl, ha.up rfl, hw⟩
    ·rintro D σ w hD hdep hcl ⟨v229, v230, v232, v233, v240, v241, v243, v244, hv, ha, hw⟩
     obtain ⟨τ, rfl⟩ := (ac (hv.at 11 rfl (hdep.2.1 rfl)) (ac (hv.at 14 rfl (hdep.1 rfl)) az)).ups
     have hw := hw.selT (i := 4) rfl (hdep.1 rfl)
     have hw := hw.selF (i := 5) rfl hD
     refine RL.fa_pt (i := 4) (f := fun (x : Finding) => x.Net) ⟨_, rfl, cb hg234⟩ rfl hw rfl rfl fa96_1 fd_Finding_1 fun v251 hw => ?_
     have hw := hw.pick 11 [1, 2, 3, 4, 5, 0, 7, 8, 9, 10] (new := [bif D 2 then (pt v229 x228) else junk, bif D 3 then (pt v230 x228.Kind) else junk, bif D 7 then (pt v232 x231) else junk, bif D 8 then (pt v233 x231.Kind) else junk, pt v240 x239, pt v251 x239.Net, bif D 19 then (pt v243 x242) else junk, bif D 20 then (pt v244 x242.Net) else junk, rd v0 p0, rd v1 p1]) rfl rfl (by decide) (by decide)
     have hw := hw.altT (i := 4) (b := D 14) rfl (hdep.1 rfl) (junk)
     have hw := hw.altT (i := 5) (b := true) rfl rfl (junk)
     refine RL.nil ?_
     exact ⟨rfl, v229, v230, v232, v233, v240, v251, v243, v244, hv.put 15 rfl rfl, ha.up rfl, hw⟩
    ·rintro D σ w hD hdep hcl ⟨v229, v230, v232, v233, v240, v241, v243, v244, hv, ha, hw⟩
     obtain ⟨τ, rfl⟩ := (ac (hv.at 11 rfl (hdep.2.1 rfl)) (ac (hv.at 15 rfl (hdep.1 rfl)) az)).ups
     have hw := hw.selT (i := 5) rfl (hdep.1 rfl)
     refine RL.load_pts (i := 5) (y := x239.Net) ⟨_, rfl, cb hg234⟩ rfl hw rfl rfl ty9 ?_
     have hw := hw.altT (i := 5) (b := D 15) rfl (hdep.1 rfl) (junk)
     refine RL.nil ?_
     exact ⟨rfl, v229, v230, v232, v233, v240, v241, v243, v244, hv.put 16 rfl rfl, ha.up rfl, hw⟩
    ·rintro D σ w hD hdep hcl ⟨v229, v230, v232, v233, v240, v241, v243, v244, hv, ha, hw⟩
     obtain ⟨τ, rfl⟩ := (ac (hv.at 11 rfl (hdep.1 rfl)) (ac (ha.at 1 rfl) az)).ups
     refine RL.move (v := v1) ⟨_, rfl, cb hg234⟩ rfl rfl ?_
     refine RL.nil ?_
     exact ⟨rfl, v229, v230, v232, v233, v240, v241, v243, v244, hv.put 17 rfl rfl, ha.up rfl, hw⟩
    ·rintro D σ w hD hdep hcl ⟨v229, v230, v232, v233, v240, v241, v243, v244, hv, ha, hw⟩
     obtain ⟨τ, rfl⟩ := (ac (hv.at 11 rfl (hdep.1 rfl)) (ac (ha.at 2 rfl) az)).ups
     refine RL.move (v := (vi (k31 : Int))) ⟨_, rfl, cb hg234⟩ rfl rfl ?_
     refine RL.nil ?_
     exact ⟨rfl, v229, v230, v232, v233, v240, v241, v243, v244, hv.put 18 rfl rfl, ha.up rfl, hw⟩
    ·rintro D σ w hD hdep hcl ⟨v229, v230, v232, v233, v240, v241, v243, v244, hv, ha, hw⟩
     obtain ⟨τ, rfl⟩ := (ac (hv.at 11 rfl (hdep.2.2.1 rfl)) (ac (hv.at 17 rfl (hdep.1 rfl)) (ac (hv.at 18 rfl (hdep.2.1 rfl)) az))).ups
     have hw := hw.selF (i := 6) rfl hD
     refine RL.ia_rd (i := 9) ⟨_, rfl, cb hg234⟩ rfl hw rfl rfl rfl sl39 hx242 fun v252 hw => ?_
     have hw := hw.pick 11 [1, 2, 3, 4, 5, 6, 0, 8, 9, 10] (new := [bif D 2 then (pt v229 x228) else junk, bif D 3 then (pt v230 x228.Kind) else junk, bif D 7 then (pt v232 x231) else junk, bif D 8 then (pt v233 x231.Kind) else junk, bif D 14 then (pt v240 x239) else junk, bif D 15 then (pt v241 x239.Net) else junk, pt v252 x242, bif D 20 then (pt v244 x242.Net) else junk, rd v0 p0, rd v1 p1]) rfl rfl (by decide) (by decide)
     have hw := hw.altT (i := 6) (b := true) rfl rfl (junk)
     refine RL.nil ?_
     exact ⟨rfl, v229, v230, v232, v233, v240, v241, v252, v244, hv.put 19 rfl rfl, ha.up rfl, hw⟩
    ·rintro D σ w hD hdep hcl ⟨v229, v230, v232, v233, v240, v241, v243, v244, hv, ha, hw⟩
     obtain ⟨τ, rfl⟩ := (ac (hv.at 11 rfl (hdep.2.1 rfl)) (ac (hv.at 19 rfl (hdep.1 rfl)) az)).ups
     have hw := hw.selT (i := 6) rfl (hdep.1 rfl)
     have hw := hw.selF (i := 7) rfl hD
     refine RL.fa_pt (i := 6) (f := fun (x : Finding) => x.Net) ⟨_, rfl, cb hg234⟩ rfl hw rfl rfl fa96_1 fd_Finding_1 fun v253 hw => ?_
     have hw := hw.pick 11 [1, 2, 3, 4, 5, 6, 7, 0, 9, 10] (new := [bif D 2 then (pt v229 x228) else junk, bif D 3 then (pt v230 x228.Kind) else junk, bif D 7 then (pt v232 x231) else junk, bif D 8 then (pt v233 x231.Kind) else junk, bif D 14 then (pt v240 x239) else junk, bif D 15 then (pt v241 x239.Net) else junk, pt v243 x242, pt v253 x242.Net, rd v0 p0, rd v1 p1]) rfl rfl (by decide) (by decide)
     have hw := hw.altT (i := 6) (b := D 19) rfl (hdep.1 rfl) (junk)
     have hw := hw.altT (i := 7) (b := true) rfl rfl (junk)
     refine RL.nil ?_
     exact ⟨rfl, v229, v230, v232, v233, v240, v241, v243, v253, hv.put 20 rfl rfl, ha.up rfl, hw⟩
    ·rintro D σ w hD hdep hcl ⟨v229, v230, v232, v233, v240, v241, v243, v244, hv, ha, hw⟩
     obtain ⟨τ, rfl⟩ := (ac (hv.at 11 rfl (hdep.2.1 rfl)) (ac (hv.at 20 rfl (hdep.1 rfl)) az)).ups
     have hw := hw.selT (i := 7) rfl (hdep.1 rfl)
     refine RL.load_pts (i := 7) (y := x242.Net) ⟨_, rfl, cb hg234⟩ rfl hw rfl rfl ty9 ?_
     have hw := hw.altT (i := 7) (b := D 20) rfl (hdep.1 rfl) (junk)
     refine RL.nil ?_
     exact ⟨rfl, v229, v230, v232, v233, v240, v241, v243, v244, hv.put 21 rfl rfl, ha.up rfl, hw⟩
    ·rintro D σ w hD hdep hcl ⟨v229, v230, v232, v233, v240, v241, v243, v244, hv, ha, hw⟩
     obtain ⟨τ, rfl⟩ := (ac (hv.at 11 rfl (hdep.2.2.1 rfl)) (ac (hv.at 16 rfl (hdep.1 rfl)) (ac (hv.at 21 rfl (hdep.2.1 rfl)) az))).ups
     refine RL.scmp (a := x239.Net) (b := x242.Net) ⟨_, rfl, cb hg234⟩ rfl rfl rfl rfl ?_
     refine RL.nil ?_
     exact ⟨rfl, v229, v230, v232, v233, v240, v241, v243, v244, hv.put 22 rfl rfl, ha.up rfl, hw⟩
    ·rintro D σ w hD hdep hcl ⟨v229, v230, v232, v233, v240, v241, v243, v244, hv, ha, hw⟩
     obtain ⟨τ, rfl⟩ := (ac (hv.at 11 rfl (hdep.1 rfl)) (ac (hv.at 22 rfl (hdep.2.1 rfl)) az)).ups
     refine RL.pick (b := (x228.Kind != x231.Kind)) (v := (vb (!x239.Net.eqb x242.Net))) trivial rfl rfl (by rw [hg234]; rfl) ?_
     refine RL.nil ?_
     exact ⟨rfl, v229, v230, v232, v233, v240, v241, v243, v244, hv.put 23 rfl rfl, ha.up rfl, hw⟩
    ·rintro D σ w hD hdep hcl ⟨v229, v230, v232, v233, v240, v241, v243, v244, hv, ha, hw⟩
     obtain ⟨τ, rfl⟩ := (ac (hv.at 23 rfl (hdep.1 rfl)) az).ups
     refine mv (vb (!x239.Net.eqb x242.Net)) rfl rfl ?_
     refine RL.nil ?_
     exact ⟨rfl, v229, v230, v232, v233, v240, v241, v243, v244, hv.put 24 rfl rfl, ha.up rfl, hw⟩
    ·rintro D σ w hD hdep hcl ⟨v229, v230, v232, v233, v240, v241, v243, v244, hv, ha, hw⟩
     obtain ⟨τ, rfl⟩ := (ac (hv.at 24 rfl (hdep.1 rfl)) (ac (ha.at 0 rfl) az)).ups
     refine sk rfl (.inl (cb hg245)) rfl ?_
     refine RL.nil ?_
     exact ⟨rfl, v229, v230, v232, v233, v240, v241, v243, v244, hv.put 25 rfl rfl, ha.up rfl, hw⟩
    ·rintro D σ w hD hdep hcl ⟨v229, v230, v232, v233, v240, v241, v243, v244, hv, ha, hw⟩
     obtain ⟨τ, rfl⟩ := (ac (hv.at 24 rfl (hdep.1 rfl)) (ac (ha.at 2 rfl) az)).ups
     refine sk rfl (.inl (cb hg245)) rfl ?_
     refine RL.nil ?_
     exact ⟨rfl, v229, v230, v232, v233, v240, v241, v243, v244, hv.put 26 rfl rfl, ha.up rfl, hw⟩
    ·rintro D σ w hD hdep hcl ⟨v229, v230, v232, v233, v240, v241, v243, v244, hv, ha, hw⟩
     obtain ⟨τ, rfl⟩ := (ac (hv.at 24 rfl (hdep.2.2.1 rfl)) (ac (hv.at 25 rfl (hdep.1 rfl)) (ac (hv.at 26 rfl (hdep.2.1 rfl)) az))).ups
     refine sk rfl (.inl (cb hg245)) rfl ?_
     refine RL.nil ?_
     exact ⟨rfl, v229, v230, v232, v233, v240, v241, v243, v244, hv.put 27 rfl rfl, ha.up rfl, hw⟩
    ·rintro D σ w hD hdep hcl ⟨v229, v230, v232, v233, v240, v241, v243, v244, hv, ha, hw⟩
     obtain ⟨τ, rfl⟩ := (ac (hv.at 24 rfl (hdep.2.1 rfl)) (ac (hv.at 27 rfl (hdep.1 rfl)) az)).ups
     refine sk rfl (.inl (cb hg245)) rfl ?_
     refine RL.nil ?_
     exact ⟨rfl, v229, v230, v232, v233, v240, v241, v243, v244, hv.put 28 rfl rfl, ha.up rfl, hw⟩
    ·rintro D σ w hD hdep hcl ⟨v229, v230, v232, v233, v240, v241, v243, v244, hv, ha, hw⟩
     obtain ⟨τ, rfl⟩ := (ac (hv.at 24 rfl (hdep.2.1 rfl)) (ac (hv.at 28 rfl (hdep.1 rfl)) az)).ups
     refine sk rfl (.inl (cb hg245)) rfl ?_
     refine RL.nil ?_
     exact ⟨rfl, v229, v230, v232, v233, v240, v241, v243, v244, hv.put 29 rfl rfl, ha.up rfl, hw⟩
    ·rintro D σ w hD hdep hcl ⟨v229, v230, v232, v233, v240, v241, v243, v244, hv, ha, hw⟩
     obtain ⟨τ, rfl⟩ := (ac (hv.at 24 rfl (hdep.1 rfl)) (ac (ha.at 1 rfl) az)).ups
     refine sk rfl (.inl (cb hg245)) rfl ?_
     refine RL.nil ?_
     exact ⟨rfl, v229, v230, v232, v233, v240, v241, v243, v244, hv.put 30 rfl rfl, ha.up rfl, hw⟩
    ·rintro D σ w hD hdep hcl ⟨v229, v230, v232, v233, v240, v241, v243, v244, hv, ha, hw⟩
     obtain ⟨τ, rfl⟩ := (ac (hv.at 24 rfl (hdep.1 rfl)) (ac (ha.at 2 rfl) az)).ups
     refine sk rfl (.inl (cb hg245)) rfl ?_
     refine RL.nil ?_
     exact ⟨rfl, v229, v230, v232, v233, v240, v241, v243, v244, hv.put 31 rfl rfl, ha.up rfl, hw⟩
    ·rintro D σ w hD hdep hcl ⟨v229, v230, v232, v233, v240, v241, v243, v244, hv, ha, hw⟩
     obtain ⟨τ, rfl⟩ := (ac (hv.at 24 rfl (hdep.2.2.1 rfl)) (ac (hv.at 30 rfl (hdep.1 rfl)) (ac (hv.at 31 rfl (hdep.2.1 rfl)) az))).ups
     refine sk rfl (.inl (cb hg245)) rfl ?_
     refine RL.nil ?_
     exact ⟨rfl, v229, v230, v232, v233, v240, v241, v243, v244, hv.put 32 rfl rfl, ha.up rfl, hw⟩
    ·rintro D σ w hD hdep hcl ⟨v229, v230, v232, v233, v240, v241, v243, v244, hv, ha, hw⟩
     obtain ⟨τ, rfl⟩ := (ac (hv.at 24 rfl (hdep.2.1 rfl)) (ac (hv.at 32 rfl (hdep.1 rfl)) az)).ups
     refine sk rfl (.inl (cb hg245)) rfl ?_
     refine RL.nil ?_
     exact ⟨rfl, v229, v230, v232, v233, v240, v241, v243, v244, hv.put 33 rfl rfl, ha.up rfl, hw⟩
    ·rintro D σ w hD hdep hcl ⟨v229, v230, v232, v233, v240, v241, v243, v244, hv, ha, hw⟩
     obtain ⟨τ, rfl⟩ := (ac (hv.at 24 rfl (hdep.2.1 rfl)) (ac (hv.at 33 rfl (hdep.1 rfl)) az)).ups
     refine sk rfl (.inl (cb hg245)) rfl ?_
     refine RL.nil ?_
     exact ⟨rfl, v229, v230, v232, v233, v240, v241, v243, v244, hv.put 34 rfl rfl, ha.up rfl, hw⟩
    ·rintro D σ w hD hdep hcl ⟨v229, v230, v232, v233, v240, v241, v243, v244, hv, ha, hw⟩
     obtain ⟨τ, rfl⟩ := (ac (hv.at 24 rfl (hdep.2.2.1 rfl)) (ac (hv.at 29 rfl (hdep.1 rfl)) (ac (hv.at 34 rfl (hdep.2.1 rfl)) az))).ups
     refine sk rfl (.inl (cb hg245)) rfl ?_
     refine RL.nil ?_
     exact ⟨rfl, v229, v230, v232, v233, v240, v241, v243, v244, hv.put 35 rfl rfl, ha.up rfl, hw⟩
    ·rintro D σ w hD hdep hcl ⟨v229, v230, v232, v233, v240, v241, v243, v244, hv, ha, hw⟩
     obtain ⟨τ, rfl⟩ := (ac (hv.at 24 rfl (hdep.2.1 rfl)) (ac (hv.at 35 rfl (hdep.1 rfl)) az)).ups
     refine sk rfl (.inl (cb hg245)) rfl ?_
     refine RL.nil ?_
     exact ⟨rfl, v229, v230, v232, v233, v240, v241, v243, v244, hv.put 36 rfl rfl, ha.up rfl, hw⟩
    ·rintro D σ w hD hdep hcl ⟨v229, v230, v232, v233, v240, v241, v243, v244, hv, ha, hw⟩
     obtain ⟨τ, rfl⟩ := (ac (hv.at 24 rfl (hdep.1 rfl)) (ac (hv.at 36 rfl (hdep.2.1 rfl)) az)).ups
     refine RL.pick (b := (!x239.Net.eqb x242.Net)) (v := (vb true)) trivial rfl rfl (by rw [hg245]; rfl) ?_
     refine RL.nil ?_
     exact ⟨rfl, v229, v230, v232, v233, v240, v241, v243, v244, hv.put 37 rfl rfl, ha.up rfl, hw⟩
    rintro D σ w hall ⟨v229, v230, v232, v233, v240, v241, v243, v244, hv, ha, hw⟩
    rw [hall 2 (by decide), hall 3 (by decide), hall 7 (by decide), hall 8 (by decide), hall 14 (by decide), hall 15 (by decide), hall 19 (by decide), hall 20 (by decide)] at hw
    obtain ⟨τ, rfl⟩ := (ac (hv.at 37 rfl (hall 37 (by decide))) (ac (ha.at 0 rfl) (ac (ha.at 1 rfl) (ac (ha.at 2 rfl) (ac (ha.at 3 rfl) (ac (ha.at 4 rfl) az)))))).ups
    obtain rfl := oi hj
    exact ⟨rfl, ⟨rfl, rfl, rfl, rfl, rfl, trivial⟩, hw.pick 10 [8, 9] (new := [rd v0 p0, rd v1 p1]) rfl rfl (by decide) (by decide)⟩
   replace hj := cF hg245 hj
   obtain ⟨x254, hx254, hj⟩ := bd hj
   obtain ⟨x258, hx258, hj⟩ := bd hj
   obtain ⟨x262, hx262, hj⟩ := bd hj
   refine RC.drw mixed rfl (fun (D : Nat → Bool) (σ : Nat → Value) (w : World) => ∃ (v229 : Value) (v230 : Value) (v232 : Value) (v233 : Value) (v240 : Value) (v241 : Value) (v243 : Value) (v244 : Value) (v255 : Value) (v256 : Value) (v257 : Value) (v259 : Value) (v260 : Value) (v261 : Value), doneV D σ [(0, 16, v0), (1, 17, (vi (k31 : Int))), (2, 18, v229), (3, 19, v230), (4, 20, (vi x228.Kind)), (5, 21, v1), (6, 22, (vi (k31 : Int))), (7, 23, v232), (8, 24, v233), (9, 25, (vi x231.Kind)), (10, 26, (vb (x228.Kind != x231.Kind))), (11, 27, (vb (x228.Kind != x231.Kind))), (12, 28, v0), (13, 29, (vi (k31 : Int))), (14, 30, v240), (15, 31, v241), (16, 32, (str x239.Net)), (17, 33, v1), (18, 34, (vi (k31 : Int))), (19, 35, v243), (20, 36, v244), (21, 37, (str x242.Net)), (22, 38, (vb (!x239.Net.eqb x242.Net))), (23, 39, (vb (!x239.Net.eqb x242.Net))), (24, 40, (vb (!x239.Net.eqb x242.Net))), (25, 41, v0), (26, 42, (vi (k31 : Int))), (27, 43, v255), (28, 44, v256), (29, 45, v257), (30, 46, v1), (31, 47, (vi (k31 : Int))), (32, 48, v259), (33, 49, v260), (34, 50, v261), (35, 51, (vb x262)), (36, 52, (vb (!x262))), (37, 53, (vb (!x262)))] ∧ agree σ [(0, v0), (1, v1), (5, (vi (k31 : Int))), (12, (vi (p0.length : Int))), (13, (vi (k31 : Int)))] ∧ Holds E w ([bif D 2 then (pt v229 x228) else junk, bif D 3 then (pt v230 x228.Kind) else junk, bif D 7 then (pt v232 x231) else junk, bif D 8 then (pt v233 x231.Kind) else junk, bif D 14 then (pt v240 x239) else junk, bif D 15 then (pt v241 x239.Net) else junk, bif D 19 then (pt v243 x242) else junk, bif D 20 then (pt v244 x242.Net) else junk, bif D 27 then (pt v255 x254) else junk, bif D 28 then (pt v256 x254.Pins) else junk, bif D 29 then (rd v257 x254.Pins) else junk, bif D 32 then (pt v259 x258) else junk, bif D 33 then (pt v260 x258.Pins) else junk, bif D 34 then (rd v261 x258.Pins) else junk, rd v0 p0, rd v1 p1] ++ Γ)) ?_ ⟨?_, ?_, ?_, ?_, ?_, ?_, ?_, ?_, ?_, ?_, ?_, ?_, ?_, ?_, ?_, ?_, ?_, ?_, ?_, ?_, ?_, ?_, ?_, ?_, ?_, ?_, ?_, ?_, ?_, ?_, ?_, ?_, ?_, ?_, ?_, ?_, ?_, ?_, trivial⟩ ?_
   ·have hw := hw.drew
    have hw := hw.junk
    have hw := hw.junk
    have hw := hw.junk
    have hw := hw.junk
    have hw := hw.junk
    have hw := hw.junk
    have hw := hw.junk
    have hw := hw.junk
    have hw := hw.junk
    have hw := hw.junk
    have hw := hw.junk
    have hw := hw.junk
    have hw := hw.junk
    have hw := hw.junk
    exact ⟨undef, undef, undef, undef, undef, undef, undef, undef, undef, undef, undef, undef, undef, undef, doneV.none, ⟨rfl, rfl, rfl, rfl, rfl, trivial⟩, hw⟩
   ·rintro D σ w hD hdep hcl ⟨v229, v230, v232, v233, v240, v241, v243, v244, v255, v256, v257, v259, v260, v261, hv, ha, hw⟩
    obtain ⟨τ, rfl⟩ := (ac (ha.at 0 rfl) az).ups
    refine mv v0 rfl rfl ?_
    refine RL.nil ?_
    exact ⟨rfl, v229, v230, v232, v233, v240, v241, v243, v244, v255, v256, v257, v259, v260, v261, hv.put 0 rfl rfl, ha.up rfl, hw⟩
   ·rintro D σ w hD hdep hcl ⟨v229, v230, v232, v233, v240, v241, v243, v244, v255, v256, v257, v259, v260, v261, hv, ha, hw⟩
    obtain ⟨τ, rfl⟩ := (ac (ha.at 2 rfl) az).ups
    refine mv (vi (k31 : Int)) rfl rfl ?_
    refine RL.nil ?_
    exact ⟨rfl, v229, v230, v232, v233, v240, v241, v243, v244, v255, v256, v257, v259, v260, v261, hv.put 1 rfl rfl, ha.up rfl, hw⟩
   ·rintro D σ w hD hdep hcl ⟨v229, v230, v232, v233, v240, v241, v243, v244, v255, v256, v257, v259, v260, v261, hv, ha, hw⟩
    obtain ⟨τ, rfl⟩ := (ac (hv.at 0 rfl (hdep.1 rfl)) (ac (hv.at 1 rfl (hdep.2.1 rfl)) az)).ups
    have hw := hw.selF (i := 0) rfl hD
    refine RL.ia_rd (i := 14) trivial rfl hw rfl rfl rfl sl39 hx228 fun v263 hw => ?_
    have hw := hw.pick 17 [0, 2, 3, 4, 5, 6, 7, 8, 9, 10, 11, 12, 13, 14, 15, 16] (new := [pt v263 x228, bif D 3 then (pt v230 x228.Kind) else junk, bif D 7 then (pt v232 x231) else junk, bif D 8 then (pt v233 x231.Kind) else junk, bif D 14 then (pt v240 x239) else junk, bif D 15 then (pt v241 x239.Net) else junk, bif D 19 then (pt v243 x242) else junk, bif D 20 then (pt v244 x242.Net) else junk, bif D 27 then (pt v255 x254) else junk, bif D 28 then (pt v256 x254.Pins) else junk, bif D 29 then (rd v257 x254.Pins) else junk, bif D 32 then (pt v259 x258) else junk, bif D 33 then (pt v260 x258.Pins) else junk, bif D 34 then (rd v261 x258.Pins) else junk, rd v0 p0, rd v1 p1]) rfl rfl (by decide) (by decide)
    have hw := hw.altT (i := 0) (b := true) rfl rfl (junk)
    refine RL.nil ?_
    exact ⟨rfl, v263, v230, v232, v233, v240, v241, v243, v244, v255, v256, v257, v259, v260, v261, hv.put 2 rfl rfl, ha.up rfl, hw⟩
   ·rintro D σ w hD hdep hcl ⟨v229, v230, v232, v233, v240, v241, v243, v244, v255, v256, v257, v259, v260, v261, hv, ha, hw⟩
    obtain ⟨τ, rfl⟩ := (ac (hv.at 2 rfl (hdep.1 rfl)) az).ups
    have hw := hw.selT (i := 0) rfl (hdep.1 rfl)
    have hw := hw.selF (i := 1) rfl hD
    refine RL.fa_pt (i := 0) (f := fun (x : Finding) => x.Kind) trivial rfl hw rfl rfl fa96_0 fd_Finding_0 fun v264 hw => ?_
    have hw := hw.pick 17 [1, 0, 3, 4, 5, 6, 7, 8, 9, 10, 11, 12, 13, 14, 15, 16] (new := [pt v229 x228, pt v264 x228.Kind, bif D 7 then (pt v232 x231) else junk, bif D 8 then (pt v233 x231.Kind) else junk, bif D 14 then (pt v240 x239) else junk, bif D 15 then (pt v241 x239.Net) else junk, bif D 19 then (pt v243 x242) else junk, bif D 20 then (pt v244 x242.Net) else junk, bif D 27 then (pt v255 x254) else junk, bif D 28 then (pt v256 x254.Pins) else junk, bif D 29 then (rd v257 x254.Pins) else junk, bif D 32 then (pt v259 x258) else junk, bif D 33 then (pt v260 x258.Pins) else junk, bif D 34 then (rd v261 x258.Pins) else junk, rd v0 p0, rd v1 p1]) rfl rfl (by decide) (by decide)
    have hw := hw.altT (i := 0) (b := D 2) rfl (hdep.1 rfl) (junk)
    have hw := hw.altT (i := 1) (b := true) rfl rfl (junk)
    refine RL.nil ?_
    exact ⟨rfl, v229, v264, v232, v233, v240, v241, v243, v244, v255, v256, v257, v259, v260, v261, hv.put 3 rfl rfl, ha.up rfl, hw⟩
   ·rintro D σ w hD hdep hcl ⟨v229, v230, v232, v233, v240, v241, v243, v244, v255, v256, v257, v259, v260, v261, hv, ha, hw⟩
    obtain ⟨τ, rfl⟩ := (ac (hv.at 3 rfl (hdep.1 rfl)) az).ups
    have hw := hw.selT (i := 1) rfl (hdep.1 rfl)
    refine RL.load_pts (i := 1) (y := x228.Kind) trivial rfl hw rfl rfl ty3 ?_
    have hw := hw.altT (i := 1) (b := D 3) rfl (hdep.1 rfl) (junk)
    refine RL.nil ?_
    exact ⟨rfl, v229, v230, v232, v233, v240, v241, v243, v244, v255, v256, v257, v259, v260, v261, hv.put 4 rfl rfl, ha.up rfl, hw⟩
   ·rintro D σ w hD hdep hcl ⟨v229, v230, v232, v233, v240, v241, v243, v244, v255, v256, v257, v259, v260, v261, hv, ha, hw⟩
    obtain ⟨τ, rfl⟩ := (ac (ha.at 1 rfl) az).ups
    refine mv v1 rfl rfl ?_
    refine RL.nil ?_
    exact ⟨rfl, v229, v230, v232, v233, v240, v241, v243, v244, v255, v256, v257, v259, v260, v261, hv.put 5 rfl rfl, ha.up rfl, hw⟩
   ·rintro D σ w hD hdep hcl ⟨v229, v230, v232, v233, v240, v241, v243, v244, v255, v256, v257, v259, v260, v261, hv, ha, hw⟩
    obtain ⟨τ, rfl⟩ := (ac (ha.at 2 rfl) az).ups
    refine mv (vi (k31 : Int)) rfl rfl ?_
    refine RL.nil ?_
    exact ⟨rfl, v229, v230, v232, v233, v240, v241, v243, v244, v255, v256, v257, v259, v260, v261, hv.put 6 rfl rfl, ha.up rfl, hw⟩
   ·rintro D σ w hD hdep hcl ⟨v229, v230, v232, v233, v240, v241, v243, v244, v255, v256, v257, v259, v260, v261, hv, ha, hw⟩
    obtain ⟨τ, rfl⟩ := (ac (hv.at 5 rfl (hdep.1 rfl)) (ac (hv.at 6 rfl (hdep.2.1 rfl)) az)).ups
    have hw := hw.selF (i := 2) rfl hD
    refine RL.ia_rd (i := 15) trivial rfl hw rfl rfl rfl sl39 hx231 fun v265 hw => ?_
    have hw := hw.pick 17 [1, 2, 0, 4, 5, 6, 7, 8, 9, 10, 11, 12, 13, 14, 15, 16] (new := [bif D 2 then (pt v229 x228) else junk, bif D 3 then (pt v230 x228.Kind) else junk, pt v265 x231, bif D 8 then (pt v233 x231.Kind) else junk, bif D 14 then (pt v240 x239) else junk, bif D 15 then (pt v241 x239.Net) else junk, bif D 19 then (pt v243 x242) else junk, bif D 20 then (pt v244 x242.Net) else junk, bif D 27 then (pt v255 x254) else junk, bif D 28 then (pt v256 x254.Pins) else junk, bif D 29 then (rd v257 x254.Pins) else junk, bif D 32 then (pt v259 x258) else junk, bif D 33 then (pt v260 x258.Pins) else junk, bif D 34 then (rd v261 x258.Pins) else junk, rd v0 p0, rd v1 p1]) rfl rfl (by decide) (by decide)
    have hw := hw.altT (i := 2) (b := true) rfl rfl (junk)
    refine RL.nil ?_
    exact ⟨rfl, v229, v230, v265, v233, v240, v241, v243, v244, v255, v256, v257, v259, v260, v261, hv.put 7 rfl rfl, ha.up rfl, hw⟩
   ·rintro D σ w hD hdep hcl ⟨v229, v230, v232, v233, v240, v241, v243, v244, v255, v256, v257, v259, v260, v261, hv, ha, hw⟩
    obtain ⟨τ, rfl⟩ := (ac (hv.at 7 rfl (hdep.1 rfl)) az).ups
    have hw := hw.selT (i := 2) rfl (hdep.1 rfl)
    have hw := hw.selF (i := 3) rfl hD
    refine RL.fa_pt (i := 2) (f := fun (x : Finding) => x.Kind) trivial rfl hw rfl rfl fa96_0 fd_Finding_0 fun v266 hw => ?_
    have hw := hw.pick 17 [1, 2, 3, 0, 5, 6, 7, 8, 9, 10, 11, 12, 13, 14, 15, 16] (new := [bif D 2 then (pt v229 x228) else junk, bif D 3 then (pt v230 x228.Kind) else junk, pt v232 x231, pt v266 x231.Kind, bif D 14 then (pt v240 x239) else junk, bif D 15 then (pt v241 x239.Net) else junk, bif D 19 then (pt v243 x242) else junk, bif D 20 then (pt v244 x242.Net) else junk, bif D 27 then (pt v255 x254) else junk, bif D 28 then (pt v256 x254.Pins) else junk, bif D 29 then (rd v257 x254.Pins) else junk, bif D 32 then (pt v259 x258) else junk, bif D 33 then (pt v260 x258.Pins) else junk, bif D 34 then (rd v261 x258.Pins) else junk, rd v0 p0, rd v1 p1]) rfl rfl (by decide) (by decide)
    have hw := hw.altT (i := 2) (b := D 7) rfl (hdep.1 rfl) (junk)
    have hw := hw.altT (i := 3) (b := true) rfl rfl (junk)
    refine RL.nil ?_
    exact ⟨rfl, v229, v230, v232, v266, v240, v241, v243, v244, v255, v256, v257, v259, v260, v261, hv.put 8 rfl rfl, ha.up rfl, hw⟩
   ·rintro D σ w hD hdep hcl ⟨v229, v230, v232, v233, v240, v241, v243, v244, v255, v256, v257, v259, v260, v261, hv, ha, hw⟩
    obtain ⟨τ, rfl⟩ := (ac (hv.at 8 rfl (hdep.1 rfl)) az).ups
    have hw := hw.selT (i := 3) rfl (hdep.1 rfl)
    refine RL.load_pts (i := 3) (y := x231.Kind) trivial rfl hw rfl rfl ty3 ?_
    have hw := hw.altT (i := 3) (b := D 8) rfl (hdep.1 rfl) (junk)
    refine RL.nil ?_
    exact ⟨rfl, v229, v230, v232, v233, v240, v241, v243, v244, v255, v256, v257, v259, v260, v261, hv.put 9 rfl rfl, ha.up rfl, hw⟩
   ·rintro D σ w hD hdep hcl ⟨v229, v230, v232, v233, v240, v241, v243, v244, v255, v256, v257, v259, v260, v261, hv, ha, hw⟩
    obtain ⟨τ, rfl⟩ := (ac (hv.at 4 rfl (hdep.1 rfl)) (ac (hv.at 9 rfl (hdep.2.1 rfl)) az)).ups
    refine ic (x228.Kind) (x231.Kind) rfl rfl rfl rfl ?_
    refine RL.nil ?_
    exact ⟨rfl, v229, v230, v232, v233, v240, v241, v243, v244, v255, v256, v257, v259, v260, v261, hv.put 10 rfl rfl, ha.up rfl, hw⟩
   ·rintro D σ w hD hdep hcl ⟨v229, v230, v232, v233, v240, v241, v243, v244, v255, v256, v257, v259, v260, v261, hv, ha, hw⟩
    obtain ⟨τ, rfl⟩ := (ac (hv.at 10 rfl (hdep.1 rfl)) az).ups
    refine mv (vb (x228.Kind != x231.Kind)) rfl rfl ?_
    refine RL.nil ?_
    exact ⟨rfl, v229, v230, v232, v233, v240, v241, v243, v244, v255, v256, v257, v259, v260, v261, hv.put 11 rfl rfl, ha.up rfl, hw⟩
   ·rintro D σ w hD hdep hcl ⟨v229, v230, v232, v233, v240, v241, v243, v244, v255, v256, v257, v259, v260, v261, hv, ha, hw⟩
    obtain ⟨τ, rfl⟩ := (ac (hv.at 11 rfl (hdep.1 rfl)) (ac (ha.at 0 rfl) az)).ups
    refine RL.move (v := v0) ⟨_, rfl, cb hg234⟩ rfl rfl ?_
    refine RL.nil ?_
    exact ⟨rfl, v229, v230, v232, v233, v240, v241, v243, v244, v255, v256, v257, v259, v260, v261, hv.put 12 rfl rfl, ha.up rfl, hw⟩
   ·rintro D σ w hD hdep hcl ⟨v229, v230, v232, v233, v240, v241, v243, v244, v255, v256, v257, v259, v260, v261, hv, ha, hw⟩
    obtain ⟨τ, rfl⟩ := (ac (hv.at 11 rfl (hdep.1 rfl)) (ac (ha.at 2 rfl) az)).ups
    refine RL.move (v := (vi (k31 : Int))) ⟨_, rfl, cb hg234⟩ rfl rfl ?_
    refine RL.nil ?_
    exact ⟨rfl, v229, v230, v232, v233, v240, v241, v243, v244, v255, v256, v257, v259, v260, v261, hv.put 13 rfl rfl, ha.up rfl, hw⟩
   ·rintro D σ w hD hdep hcl ⟨v229, v230, v232, v233, v240, v241, v243, v244, v255, v256, v257, v259, v260, v261, hv, ha, hw⟩
    obtain ⟨τ, rfl⟩ := (ac (hv.at 11 rfl (hdep.2.2.1 rfl)) (ac (hv.at 12 rfl (hdep.1 rfl)) (ac (hv.at 13 rfl (hdep.2.1 rfl)) az))).ups
    have hw := hw.selF (i := 4) rfl hD
    refine RL.ia_rd (i := 14) ⟨_, rfl, cb hg234⟩ rfl hw rfl rfl rfl sl39 hx239 fun v267 hw => ?_
    have hw := hw.pick 17 [1, 2, 3, 4, 0, 6, 7, 8, 9, 10, 11, 12, 13, 14, 15, 16] (new := [bif D 2 then (pt v229 x228) else junk, bif D 3 then (pt v230 x228.Kind) else junk, bif D 7 then (pt v232 x231) else junk, bif D 8 then (pt v233 x231.Kind) else junk, pt v267 x239, bif D 15 then (pt v241 x239.Net) else junk, bif D 19 then (pt v243 x242) else junk, bif D 20 then (pt v244 x242.Net) else junk, bif D 27 then (pt v255 x254) else junk, bif D 28 then (pt v256 x254.Pins) else junk, bif D 29 then (rd v257 x254.Pins) else junk, bif D 32 then (pt v259 x258) else junk, bif D 33 then (pt v260 x258.Pins) else junk, bif D 34 then (rd v261 x258.Pins) else junk, rd v0 p0, rd v1 p1]) rfl rfl (by decide) (by decide)
    have hw := hw.altT (i := 4) (b := true) rfl rfl (junk)
    refine RL.nil ?_
    exact ⟨rfl, v229, v230, v232, v233, v267, v241, v243, v244, v255, v256, v257, v259, v260, v261, hv.put 14 rfl rfl, ha.up rfl, hw⟩
   ·rintro D σ w hD hdep hcl ⟨v229, v230, v232, v233, v240, v241, v243, v244, v255, v256, v257, v259, v260, v261, hv, ha, hw⟩
    obtain ⟨τ, rfl⟩ := (ac (hv.at 11 rfl (hdep.2.1 rfl)) (ac (hv.at 14 rfl (hdep.1 rfl)) az)).ups
    have hw := hw.selT (i := 4) rfl (hdep.1 rfl)
    have hw := hw.selF (i := 5) rfl hD
    refine RL.fa_pt (i := 4) (f := fun (x : Finding) => x.Net) ⟨_, rfl, cb hg234⟩ rfl hw rfl rfl fa96_1 fd_Finding_1 fun v268 hw => ?_
    have hw := hw.pick 17 [1, 2, 3, 4, 5, 0, 7, 8, 9, 10, 11, 12, 13, 14, 15, 16] (new := [bif D 2 then (pt v229 x228) else junk, bif D 3 then (pt v230 x228.Kind) else junk, bif D 7 then (pt v232 x231) else junk, bif D 8 then (pt v233 x231.Kind) else junk, pt v240 x239, pt v268 x239.Net, bif D 19 then (pt v243 x242) else junk, bif D 20 then (pt v244 x242.Net) else junk, bif D 27 then (pt v255 x254) else junk, bif D 28 then (pt v256 x254.Pins) else junk, bif D 29 then (rd v257 x254.Pins) else junk, bif D 32 then (pt v259 x258) else junk, bif D 33 then (pt v260 x258.Pins) else junk, bif D 34 then (rd v261 x258.Pins) else junk, rd v0 p0, rd v1 p1]) rfl rfl (by decide) (by decide)
    have hw := hw.altT (i := 4) (b := D 14) rfl (hdep.1 rfl) (junk)
    have hw := hw.altT (i := 5) (b := true) rfl rfl (junk)
    refine RL.nil ?_
    exact ⟨rfl, v229, v230, v232, v233, v240, v268, v243, v244, v255, v256, v257, v259, v260, v261, hv.put 15 rfl rfl, ha.up rfl, hw⟩
   ·rintro D σ w hD hdep hcl ⟨v229, v230, v232, v233, v240, v241, v243, v244, v255, v256, v257, v259, v260, v261, hv, ha, hw⟩
    obtain ⟨τ, rfl⟩ := (ac (hv.at 11 rfl (hdep.2.1 rfl)) (ac (hv.at 15 rfl (hdep.1 rfl)) az)).ups
    have hw := hw.selT (i := 5) rfl (hdep.1 rfl)
    refine RL.load_pts (i := 5) (y := x239.Net) ⟨_, rfl, cb hg234⟩ rfl hw rfl rfl ty9 ?_
    have hw := hw.altT (i := 5) (b := D 15) rfl (hdep.1 rfl) (junk)
    refine RL.nil ?_
    exact ⟨rfl, v229, v230, v232, v233, v240, v241, v243, v244, v255, v256, v257, v259, v260, v261, hv.put 16 rfl rfl, ha.up rfl, hw⟩
   ·rintro D σ w hD hdep hcl ⟨v229, v230, v232, v233, v240, v241, v243, v244, v255, v256, v257, v259, v260, v261, hv, ha, hw⟩
    obtain ⟨τ, rfl⟩ := (ac (hv.at 11 rfl (hdep.1 rfl)) (ac (ha.at 1 rfl) az)).ups
    refine RL.move (v := v1) ⟨_, rfl, cb hg234⟩ rfl rfl ?_
    refine RL.nil ?_
    exact ⟨rfl, v229, v230, v232, v233, v240, v241, v243, v244, v255, v256, v257, v259, v260, v261, hv.put 17 rfl rfl, ha.up rfl, hw⟩
   ·rintro D σ w hD hdep hcl ⟨v229, v230, v232, v233, v240, v241, v243, v244, v255, v256, v257, v259, v260, v261, hv, ha, hw⟩
    obtain ⟨τ, rfl⟩ := (ac (hv.at 11 rfl (hdep.1 rfl)) (ac (ha.at 2 rfl) az)).ups
    refine RL.move (v := (vi (k31 : Int))) ⟨_, rfl, cb hg234⟩ rfl rfl ?_
    refine RL.nil ?_
    exact ⟨rfl, v229, v230, v232, v233, v240, v241, v243, v244, v255, v256, v257, v259, v260, v261, hv.put 18 rfl rfl, ha.up rfl, hw⟩
   ·rintro D σ w hD hdep hcl ⟨v229, v230, v232, v233, v240, v241, v243, v244, v255, v256, v257, v259, v260, v261, hv, ha, hw⟩
    obtain ⟨τ, rfl⟩ := (ac (hv.at 11 rfl (hdep.2.2.1 rfl)) (ac (hv.at 17 rfl (hdep.1 rfl)) (ac (hv.at 18 rfl (hdep.2.1 rfl)) az))).ups
    have hw := hw.selF (i := 6) rfl hD
    refine RL.ia_rd (i := 15) ⟨_, rfl, cb hg234⟩ rfl hw rfl rfl rfl sl39 hx242 fun v269 hw => ?_
    have hw := hw.pick 17 [1, 2, 3, 4, 5, 6, 0, 8, 9, 10, 11, 12, 13, 14, 15, 16] (new := [bif D 2 then (pt v229 x228) else junk, bif D 3 then (pt v230 x228.Kind) else junk, bif D 7 then (pt v232 x231) else junk, bif D 8 then (pt v233 x231.Kind) else junk, bif D 14 then (pt v240 x239) else junk, bif D 15 then (pt v241 x239.Net) else junk, pt v269 x242, bif D 20 then (pt v244 x242.Net) else junk, bif D 27 then (pt v255 x254) else junk, bif D 28 then (pt v256 x254.Pins) else junk, bif D 29 then (rd v257 x254.Pins) else junk, bif D 32 then (pt v259 x258) else junk, bif D 33 then (pt v260 x258.Pins) else junk, bif D 34 then (rd v261 x258.Pins) else junk, rd v0 p0, rd v1 p1]) rfl rfl (by decide) (by decide)
    have hw := hw.altT (i := 6) (b := true) rfl rfl (junk)
    refine RL.nil ?_
    exact ⟨rfl, v229, v230, v232, v233, v240, v241, v269, v244, v255, v256, v257, v259, v260, v261, hv.put 19 rfl rfl, ha.up rfl, hw⟩
   ·rintro D σ w hD hdep hcl ⟨v229, v230, v232, v233, v240, v241, v243, v244, v255, v256, v257, v259, v260, v261, hv, ha, hw⟩
    obtain ⟨τ, rfl⟩ := (ac (hv.at 11 rfl (hdep.2.1 rfl)) (ac (hv.at 19 rfl (hdep.1 rfl)) az)).ups
    have hw := hw.selT (i := 6) rfl (hdep.1 rfl)
    have hw := hw.selF (i := 7) rfl hD
    refine RL.fa_pt (i := 6) (f := fun (x : Finding) => x.Net) ⟨_, rfl, cb hg234⟩ rfl hw rfl rfl fa96_1 fd_Finding_1 fun v270 hw => ?_
    have hw := hw.pick 17 [1, 2, 3, 4, 5, 6, 7, 0, 9, 10, 11, 12, 13, 14, 15, 16] (new := [bif D 2 then (pt v229 x228) else junk, bif D 3 then (pt v230 x228.Kind) else junk, bif D 7 then (pt v232 x231) else junk, bif D 8 then (pt v233 x231.Kind) else junk, bif D 14 then (pt v240 x239) else junk, bif D 15 then (pt v241 x239.Net) else junk, pt v243 x242, pt v270 x242.Net, bif D 27 then (pt v255 x254) else junk, bif D 28 then (pt v256 x254.Pins) else junk, bif D 29 then (rd v257 x254.Pins) else junk, bif D 32 then (pt v259 x258) else junk, bif D 33 then (pt v260 x258.Pins) else junk, bif D 34 then (rd v261 x258.Pins) else junk, rd v0 p0, rd v1 p1]) rfl rfl (by decide) (by decide)
    have hw := hw.altT (i := 6) (b := D 19) rfl (hdep.1 rfl) (junk)
    have hw := hw.altT (i := 7) (b := true) rfl rfl (junk)
    refine RL.nil ?_
    exact ⟨rfl, v229, v230, v232, v233, v240, v241, v243, v270, v255, v256, v257, v259, v260, v261, hv.put 20 rfl rfl, ha.up rfl, hw⟩
   ·rintro D σ w hD hdep hcl ⟨v229, v230, v232, v233, v240, v241, v243, v244, v255, v256, v257, v259, v260, v261, hv, ha, hw⟩
    obtain ⟨τ, rfl⟩ := (ac (hv.at 11 rfl (hdep.2.1 rfl)) (ac (hv.at 20 rfl (hdep.1 rfl)) az)).ups
    have hw := hw.selT (i := 7) rfl (hdep.1 rfl)
    refine RL.load_pts (i := 7) (y := x242.Net) ⟨_, rfl, cb hg234⟩ rfl hw rfl rfl ty9 ?_
    have hw := hw.altT (i := 7) (b := D 20) rfl (hdep.1 rfl) (junk)
    refine RL.nil ?_
    exact ⟨rfl, v229, v230, v232, v233, v240, v241, v243, v244, v255, v256, v257, v259, v260, v261, hv.put 21 rfl rfl, ha.up rfl, hw⟩
   ·rintro D σ w hD hdep hcl ⟨v229, v230, v232, v233, v240, v241, v243, v244, v255, v256, v257, v259, v260, v261, hv, ha, hw⟩
    obtain ⟨τ, rfl⟩ := (ac (hv.at 11 rfl (hdep.2.2.1 rfl)) (ac (hv.at 16 rfl (hdep.1 rfl)) (ac (hv.at 21 rfl (hdep.2.1 rfl)) az))).ups
    refine RL.scmp (a := x239.Net) (b := x242.Net) ⟨_, rfl, cb hg234⟩ rfl rfl rfl rfl ?_
    refine RL.nil ?_
    exact ⟨rfl, v229, v230, v232, v233, v240, v241, v243, v244, v255, v256, v257, v259, v260, v261, hv.put 22 rfl rfl, ha.up rfl, hw⟩
   ·rintro D σ w hD hdep hcl ⟨v229, v230, v232, v233, v240, v241, v243, v244, v255, v256, v257, v259, v260, v261, hv, ha, hw⟩
    obtain ⟨τ, rfl⟩ := (ac (hv.at 11 rfl (hdep.1 rfl)) (ac (hv.at 22 rfl (hdep.2.1 rfl)) az)).ups
    refine RL.pick (b := (x228.Kind != x231.Kind)) (v := (vb (!x239.Net.eqb x242.Net))) trivial rfl rfl (by rw [hg234]; rfl) ?_
    refine RL.nil ?_
    exact ⟨rfl, v229, v230, v232, v233, v240, v241, v243, v244, v255, v256, v257, v259, v260, v261, hv.put 23 rfl rfl, ha.up rfl, hw⟩
   ·rintro D σ w hD hdep hcl ⟨v229, v230, v232, v233, v240, v241, v243, v244, v255, v256, v257, v259, v260, v261, hv, ha, hw⟩
    obtain ⟨τ, rfl⟩ := (ac (hv.at 23 rfl (hdep.1 rfl)) az).ups
    refine mv (vb (!x239.Net.eqb x242.Net)) rfl rfl ?_
    refine RL.nil ?_
    exact ⟨rfl, v229, v230, v232, v233, v240, v241, v243, v244, v255, v256, v257, v259, v260, v261, hv.put 24 rfl rfl, ha.up rfl, hw⟩
   ·rintro D σ w hD hdep hcl ⟨v229, v230, v232, v233, v240, v241, v243, v244, v255, v256, v257, v259, v260, v261, hv, ha, hw⟩
    obtain ⟨τ, rfl⟩ := (ac (hv.at 24 rfl (hdep.1 rfl)) (ac (ha.at 0 rfl) az)).ups
    refine RL.move (v := v0) ⟨_, rfl, cb hg245⟩ rfl rfl ?_
    refine RL.nil ?_
    exact ⟨rfl, v229, v230, v232, v233, v240, v241, v243, v244, v255, v256, v257, v259, v260, v261, hv.put 25 rfl rfl, ha.up rfl, hw⟩
   ·rintro D σ w hD hdep hcl ⟨v229, v230, v232, v233, v240, v241, v243, v244, v255, v256, v257, v259, v260, v261, hv, ha, hw⟩
    obtain ⟨τ, rfl⟩ := (ac (hv.at 24 rfl (hdep.1 rfl)) (ac (ha.at 2 rfl) az)).ups
    refine RL.move (v := (vi (k31 : Int))) ⟨_, rfl, cb hg245⟩ rfl rfl ?_
    refine RL.nil ?_
    exact ⟨rfl, v229, v230, v232, v233, v240, v241, v243, v244, v255, v256, v257, v259, v260, v261, hv.put 26 rfl rfl, ha.up rfl, hw⟩
   ·rintro D σ w hD hdep hcl ⟨v229, v230, v232, v233, v240, v241, v243, v244, v255, v256, v257, v259, v260, v261, hv, ha, hw⟩
    obtain ⟨τ, rfl⟩ := (ac (hv.at 24 rfl (hdep.2.2.1 rfl)) (ac (hv.at 25 rfl (hdep.1 rfl)) (ac (hv.at 26 rfl (hdep.2.1 rfl)) az))).ups
    have hw := hw.selF (i := 8) rfl hD
    refine RL.ia_rd (i := 14) ⟨_, rfl, cb hg245⟩ rfl hw rfl rfl rfl sl39 hx254 fun v271 hw => ?_
    have hw := hw.pick 17 [1, 2, 3, 4, 5, 6, 7, 8, 0, 10, 11, 12, 13, 14, 15, 16] (new := [bif D 2 then (pt v229 x228) else junk, bif D 3 then (pt v230 x228.Kind) else junk, bif D 7 then (pt v232 x231) else junk, bif D 8 then (pt v233 x231.Kind) else junk, bif D 14 then (pt v240 x239) else junk, bif D 15 then (pt v241 x239.Net) else junk, bif D 19 then (pt v243 x242) else junk, bif D 20 then (pt v244 x242.Net) else junk, pt v271 x254, bif D 28 then (pt v256 x254.Pins) else junk, bif D 29 then (rd v257 x254.Pins) else junk, bif D 32 then (pt v259 x258) else junk, bif D 33 then (pt v260 x258.Pins) else junk, bif D 34 then (rd v261 x258.Pins) else junk, rd v0 p0, rd v1 p1]) rfl rfl (by decide) (by decide)
    have hw := hw.altT (i := 8) (b := true) rfl rfl (junk)
    refine RL.nil ?_
    exact ⟨rfl, v229, v230, v232, v233, v240, v241, v243, v244, v271, v256, v257, v259, v260, v261, hv.put 27 rfl rfl, ha.up rfl, hw⟩
   ·rintro D σ w hD hdep hcl ⟨v229, v230, v232, v233, v240, v241, v243, v244, v255, v256, v257, v259, v260, v261, hv, ha, hw⟩
    obtain ⟨τ, rfl⟩ := (ac (hv.at 24 rfl (hdep.2.1 rfl)) (ac (hv.at 27 rfl (hdep.1 rfl)) az)).ups
    have hw := hw.selT (i := 8) rfl (hdep.1 rfl)
    have hw := hw.selF (i := 9) rfl hD
    refine RL.fa_pt (i := 8) (f := fun (x : Finding) => x.Pins) ⟨_, rfl, cb hg245⟩ rfl hw rfl rfl fa96_2 fd_Finding_2 fun v272 hw => ?_
    have hw := hw.pick 17 [1, 2, 3, 4, 5, 6, 7, 8, 9, 0, 11, 12, 13, 14, 15, 16] (new := [bif D 2 then (pt v229 x228) else junk, bif D 3 then (pt v230 x228.Kind) else junk, bif D 7 then (pt v232 x231) else junk, bif D 8 then (pt v233 x231.Kind) else junk, bif D 14 then (pt v240 x239) else junk, bif D 15 then (pt v241 x239.Net) else junk, bif D 19 then (pt v243 x242) else junk, bif D 20 then (pt v244 x242.Net) else junk, pt v255 x254, pt v272 x254.Pins, bif D 29 then (rd v257 x254.Pins) else junk, bif D 32 then (pt v259 x258) else junk, bif D 33 then (pt v260 x258.Pins) else junk, bif D 34 then (rd v261 x258.Pins) else junk, rd v0 p0, rd v1 p1]) rfl rfl (by decide) (by decide)
    have hw := hw.altT (i := 8) (b := D 27) rfl (hdep.1 rfl) (junk)
    have hw := hw.altT (i := 9) (b := true) rfl rfl (junk)
    refine RL.nil ?_
    exact ⟨rfl, v229, v230, v232, v233, v240, v241, v243, v244, v255, v272, v257, v259, v260, v261, hv.put 28 rfl rfl, ha.up rfl, hw⟩
   ·rintro D σ w hD hdep hcl ⟨v229, v230, v232, v233, v240, v241, v243, v244, v255, v256, v257, v259, v260, v261, hv, ha, hw⟩
    obtain ⟨τ, rfl⟩ := (ac (hv.at 24 rfl (hdep.2.1 rfl)) (ac (hv.at 28 rfl (hdep.1 rfl)) az)).ups
    have hw := hw.selT (i := 9) rfl (hdep.1 rfl)
    have hw := hw.selF (i := 10) rfl hD
    refine RL.load_pt (i := 9) (x := x254.Pins) ⟨_, rfl, cb hg245⟩ rfl hw rfl rfl ty33 fun v273 hw => ?_
    have hw := hw.pick 17 [1, 2, 3, 4, 5, 6, 7, 8, 9, 10, 0, 12, 13, 14, 15, 16] (new := [bif D 2 then (pt v229 x228) else junk, bif D 3 then (pt v230 x228.Kind) else junk, bif D 7 then (pt v232 x231) else junk, bif D 8 then (pt v233 x231.Kind) else junk, bif D 14 then (pt v240 x239) else junk, bif D 15 then (pt v241 x239.Net) else junk, bif D 19 then (pt v243 x242) else junk, bif D 20 then (pt v244 x242.Net) else junk, bif D 27 then (pt v255 x254) else junk, pt v256 x254.Pins, rd v273 x254.Pins, bif D 32 then (pt v259 x258) else junk, bif D 33 then (pt v260 x258.Pins) else junk, bif D 34 then (rd v261 x258.Pins) else junk, rd v0 p0, rd v1 p1]) rfl rfl (by decide) (by decide)
    have hw := hw.altT (i := 9) (b := D 28) rfl (hdep.1 rfl) (junk)
    have hw := hw.altT (i := 10) (b := true) rfl rfl (junk)
    refine RL.nil ?_
    exact ⟨rfl, v229, v230, v232, v233, v240, v241, v243, v244, v255, v256, v273, v259, v260, v261, hv.put 29 rfl rfl, ha.up rfl, hw⟩
   ·rintro D σ w hD hdep hcl ⟨v229, v230, v232, v233, v240, v241, v243, v244, v255, v256, v257, v259, v260, v261, hv, ha, hw⟩
    obtain ⟨τ, rfl⟩ := (ac (hv.at 24 rfl (hdep.1 rfl)) (ac (ha.at 1 rfl) az)).ups
    refine RL.move (v := v1) ⟨_, rfl, cb hg245⟩ rfl rfl ?_
    refine RL.nil ?_
    exact ⟨rfl, v229, v230, v232, v233, v240, v241, v243, v244, v255, v256, v257, v259, v260, v261, hv.put 30 rfl rfl, ha.up rfl, hw⟩
   ·rintro D σ w hD hdep hcl ⟨v229, v230, v232, v233, v240, v241, v243, v244, v255, v256, v257, v259, v260, v261, hv, ha, hw⟩
    obtain ⟨τ, rfl⟩ := (ac (hv.at 24 rfl (hdep.1 rfl)) (ac (ha.at 2 rfl) az)).ups
    refine RL.move (v := (vi (k31 : Int))) ⟨_, rfl, cb hg245⟩ rfl rfl ?_
    refine RL.nil ?_
    exact ⟨rfl, v229, v230, v232, v233, v240, v241, v243, v244, v255, v256, v257, v259, v260, v261, hv.put 31 rfl rfl, ha.up rfl, hw⟩
   ·rintro D σ w hD hdep hcl ⟨v229, v230, v232, v233, v240, v241, v243, v244, v255, v256, v257, v259, v260, v261, hv, ha, hw⟩
    obtain ⟨τ, rfl⟩ := (ac (hv.at 24 rfl (hdep.2.2.1 rfl)) (ac (hv.at 30 rfl (hdep.1 rfl)) (ac (hv.at 31 rfl (hdep.2.1 rfl)) az))).ups
    have hw := hw.selF (i := 11) rfl hD
    refine RL.ia_rd (i := 15) ⟨_, rfl, cb hg245⟩ rfl hw rfl rfl rfl sl39 hx258 fun v274 hw => ?_
    have hw := hw.pick 17 [1, 2, 3, 4, 5, 6, 7, 8, 9, 10, 11, 0, 13, 14, 15, 16] (new := [bif D 2 then (pt v229 x228) else junk, bif D 3 then (pt v230 x228.Kind) else junk, bif D 7 then (pt v232 x231) else junk, bif D 8 then (pt v233 x231.Kind) else junk, bif D 14 then (pt v240 x239) else junk, bif D 15 then (pt v241 x239.Net) else junk, bif D 19 then (pt v243 x242) else junk, bif D 20 then (pt v244 x242.Net) else junk, bif D 27 then (pt v255 x254) else junk, bif D 28 then (pt v256 x254.Pins) else junk, bif D 29 then (rd v257 x254.Pins) else junk, pt v274 x258, bif D 33 then (pt v260 x258.Pins) else junk, bif D 34 then (rd v261 x258.Pins) else junk, rd v0 p0, rd v1 p1]) rfl rfl (by decide) (by decide)
    have hw := hw.altT (i := 11) (b := true) rfl rfl (junk)
    refine RL.nil ?_
    exact ⟨rfl, v229, v230, v232, v233, v240, v241, v243, v244, v255, v256, v257, v274, v260, v261, hv.put 32 rfl rfl, ha.up rfl, hw⟩
   ·rintro D σ w hD hdep hcl ⟨v229, v230, v232, v233, v240, v241, v243, v244, v255, v256, v257, v259, v260, v261, hv, ha, hw⟩
    obtain ⟨τ, rfl⟩ := (ac (hv.at 24 rfl (hdep.2.1 rfl)) (ac (hv.at 32 rfl (hdep.1 rfl)) az)).ups
    have hw := hw.selT (i := 11) rfl (hdep.1 rfl)
    have hw := hw.selF (i := 12) rfl hD
    refine RL.fa_pt (i := 11) (f := fun (x : Finding) => x.Pins) ⟨_, rfl, cb hg245⟩ rfl hw rfl rfl fa96_2 fd_Finding_2 fun v275 hw => ?_
    have hw := hw.pick 17 [1, 2, 3, 4, 5, 6, 7, 8, 9, 10, 11, 12, 0, 14, 15, 16] (new := [bif D 2 then (pt v229 x228) else junk, bif D 3 then (pt v230 x228.Kind) else junk, bif D 7 then (pt v232 x231) else junk, bif D 8 then (pt v233 x231.Kind) else junk, bif D 14 then (pt v240 x239) else junk, bif D 15 then (pt v241 x239.Net) else junk, bif D 19 then (pt v243 x242) else junk, bif D 20 then (pt v244 x242.Net) else junk, bif D 27 then (pt v255 x254) else junk, bif D 28 then (pt v256 x254.Pins) else junk, bif D 29 then (rd v257 x254.Pins) else junk, pt v259 x258, pt v275 x258.Pins, bif D 34 then (rd v261 x258.Pins) else junk, rd v0 p0, rd v1 p1]) rfl rfl (by decide) (by decide)
    have hw := hw.altT (i := 11) (b := D 32) rfl (hdep.1 rfl) (junk)
    have hw := hw.altT (i := 12) (b := true) rfl rfl (junk)
    refine RL.nil ?_
    exact ⟨rfl, v229, v230, v232, v233, v240, v241, v243, v244, v255, v256, v257, v259, v275, v261, hv.put 33 rfl rfl, ha.up rfl, hw⟩
   ·rintro D σ w hD hdep hcl ⟨v229, v230, v232, v233, v240, v241, v243, v244, v255, v256, v257, v259, v260, v261, hv, ha, hw⟩
    obtain ⟨τ, rfl⟩ := (ac (hv.at 24 rfl (hdep.2.1 rfl)) (ac (hv.at 33 rfl (hdep.1 rfl)) az)).ups
    have hw := hw.selT (i := 12) rfl (hdep.1 rfl)
    have hw := hw.selF (i := 13) rfl hD
    refine RL.load_pt (i := 12) (x := x258.Pins) ⟨_, rfl, cb hg245⟩ rfl hw rfl rfl ty33 fun v276 hw => ?_
    have hw := hw.pick 17 [1, 2, 3, 4, 5, 6, 7, 8, 9, 10, 11, 12, 13, 0, 15, 16] (new := [bif D 2 then (pt v229 x228) else junk, bif D 3 then (pt v230 x228.Kind) else junk, bif D 7 then (pt v232 x231) else junk, bif D 8 then (pt v233 x231.Kind) else junk, bif D 14 then (pt v240 x239) else junk, bif D 15 then (pt v241 x239.Net) else junk, bif D 19 then (pt v243 x242) else junk, bif D 20 then (pt v244 x242.Net) else junk, bif D 27 then (pt v255 x254) else junk, bif D 28 then (pt v256 x254.Pins) else junk, bif D 29 then (rd v257 x254.Pins) else junk, bif D 32 then (pt v259 x258) else junk, pt v260 x258.Pins, rd v276 x258.Pins, rd v0 p0, rd v1 p1]) rfl rfl (by decide) (by decide)
    have hw := hw.altT (i := 12) (b := D 33) rfl (hdep.1 rfl) (junk)
    have hw := hw.altT (i := 13) (b := true) rfl rfl (junk)
    refine RL.nil ?_
    exact ⟨rfl, v229, v230, v232, v233, v240, v241, v243, v244, v255, v256, v257, v259, v260, v276, hv.put 34 rfl rfl, ha.up rfl, hw⟩
   ·rintro D σ w hD hdep hcl ⟨v229, v230, v232, v233, v240, v241, v243, v244, v255, v256, v257, v259, v260, v261, hv, ha, hw⟩
    obtain ⟨τ, rfl⟩ := (ac (hv.at 24 rfl (hdep.2.2.1 rfl)) (ac (hv.at 29 rfl (hdep.1 rfl)) (ac (hv.at 34 rfl (hdep.2.1 rfl)) az))).ups
    have hw := hw.selT (i := 10) rfl (hdep.1 rfl)
    have hw := hw.selT (i := 13) rfl (hdep.2.1 rfl)
    refine RL.call ⟨_, rfl, cb hg245⟩ rfl fn17 [v257, v261] rfl (Calls_ret (slices_Equal_Pin_ok N  (i0 := 10) (i1 := 13) hw rfl rfl hx262) ?_)
    rintro _ w ⟨rfl, hw⟩
    have hw := hw.altT (i := 10) (b := D 29) rfl (hdep.1 rfl) (junk)
    have hw := hw.altT (i := 13) (b := D 34) rfl (hdep.2.1 rfl) (junk)
    refine RL.nil ?_
    exact ⟨rfl, v229, v230, v232, v233, v240, v241, v243, v244, v255, v256, v257, v259, v260, v261, hv.put 35 rfl rfl, ha.up rfl, hw⟩
   ·rintro D σ w hD hdep hcl ⟨v229, v230, v232, v233, v240, v241, v243, v244, v255, v256, v257, v259, v260, v261, hv, ha, hw⟩
    obtain ⟨τ, rfl⟩ := (ac (hv.at 24 rfl (hdep.2.1 rfl)) (ac (hv.at 35 rfl (hdep.1 rfl)) az)).ups
    refine RL.not (b := x262) ⟨_, rfl, cb hg245⟩ rfl rfl ?_
    refine RL.nil ?_
    exact ⟨rfl, v229, v230, v232, v233, v240, v241, v243, v244, v255, v256, v257, v259, v260, v261, hv.put 36 rfl rfl, ha.up rfl, hw⟩
   ·rintro D σ w hD hdep hcl ⟨v229, v230, v232, v233, v240, v241, v243, v244, v255, v256, v257, v259, v260, v261, hv, ha, hw⟩
    obtain ⟨τ, rfl⟩ := (ac (hv.at 24 rfl (hdep.1 rfl)) (ac (hv.at 36 rfl (hdep.2.1 rfl)) az)).ups
    refine RL.pick (b := (!x239.Net.eqb x242.Net)) (v := (vb (!x262))) trivial rfl rfl (by rw [hg245]; rfl) ?_
    refine RL.nil ?_
    exact ⟨rfl, v229, v230, v232, v233, v240, v241, v243, v244, v255, v256, v257, v259, v260, v261, hv.put 37 rfl rfl, ha.up rfl, hw⟩
   rintro D σ w hall ⟨v229, v230, v232, v233, v240, v241, v243, v244, v255, v256, v257, v259, v260, v261, hv, ha, hw⟩
   rw [hall 2 (by decide), hall 3 (by decide), hall 7 (by decide), hall 8 (by decide), hall 14 (by decide), hall 15 (by decide), hall 19 (by decide), hall 20 (by decide), hall 27 (by decide), hall 28 (by decide), hall 29 (by decide), hall 32 (by decide), hall 33 (by decide), hall 34 (by decide)] at hw
   obtain ⟨τ, rfl⟩ := (ac (hv.at 37 rfl (hall 37 (by decide))) (ac (ha.at 0 rfl) (ac (ha.at 1 rfl) (ac (ha.at 2 rfl) (ac (ha.at 3 rfl) (ac (ha.at 4 rfl) az)))))).ups
   obtain rfl := oi hj
   exact ⟨rfl, ⟨rfl, rfl, rfl, rfl, rfl, trivial⟩, hw.pick 16 [14, 15] (new := [rd v0 p0, rd v1 p1]) rfl rfl (by decide) (by decide)⟩
  rintro σ w ⟨ha, hw⟩
  obtain ⟨τ, rfl⟩ := ha.ups
  refine thenQ_n ?_
  refine RC.cond (b := s227) rfl (fun hc => ?_) (fun hc => ?_)
  rotate_left
  ·replace hb := cF hc hb
   refine RC.skip ?_
   refine blkQ_n ?_
   refine thenQ_n ?_
   refine RC.region ?_
   refine RL.inc trivial rfl hk hm rfl rfl ?_
   refine mv (vi ((k31 + 1 : Nat) : Int)) rfl rfl ?_
   refine RL.nil ?_
   obtain rfl := oi hb
   exact ⟨rfl, ⟨rfl, rfl, rfl, rfl, trivial⟩, hw.pick 2 [0, 1] (new := [rd v0 p0, rd v1 p1]) rfl rfl (by decide) (by decide)⟩
  replace hb := cT hc hb
  refine RC.sr ?_
  refine as_ (vb false) rfl rfl ?_
  refine RL.nt ?_
  refine RC.rb ?_
  refine thenQ_r ?_
  obtain rfl := oi hb
  exact ⟨rfl, fin1 rfl rfl ⟨rfl, hw.drop 2 rfl⟩⟩
 ·intro r σ w e hK
  subst e
  refine thenQ_r ?_
  obtain rfl := oi hb
  exact hK
 intro s32 σ w e hJ
 subst e
 rw [Fo.cs_go] at hb
 obtain ⟨ha, hw⟩ := hJ
 obtain ⟨τ, rfl⟩ := ha.ups
 refine thenQ_n ?_
 refine RC.sr ?_
 refine as_ (vb true) rfl rfl ?_
 refine RL.nt ?_
 refine RC.ret ?_
 obtain rfl := oi hb
 exact fin1 rfl rfl ⟨rfl, hw.drop 2 rfl⟩
def etchhouselaw2_NetlistFindingsMatchSpec_R (E : World) (Γ : List HP) (res : Bool) (v : Value) (w : World) : Prop := v = (vb res) ∧ Holds E w Γ
def etchhouselaw2_NetlistFindingsMatchSpec_K (E : World) (Γ : List HP) (r : Bool) (σ : Nat → Value) (w : World) : Prop := finQ Tryd.prog 32 Tryd.f4 (etchhouselaw2_NetlistFindingsMatchSpec_R E Γ r) .ret σ w
theorem etchhouselaw2_NetlistFindingsMatchSpec_ok (N : Nat) {E w : World} {Γ : List HP} {i0 : Nat} {v0 : Value} {p0 : (List PartType)} {i1 : Nat} {v1 : Value} {p1 : Netlist} {res : Bool} (hw : Holds E w Γ) (h0 : Γ[i0]? = some (rd v0 p0)) (h1 : Γ[i1]? = some (rd v1 p1)) (hb : etchhouselaw2_NetlistFindingsMatchSpec N p0 p1 = some res) :
    Calls Tryd.prog 4 [v0, v1].toArray w (Ret (etchhouselaw2_NetlistFindingsMatchSpec_R E Γ res)) := by
 unfold etchhouselaw2_NetlistFindingsMatchSpec at hb
 refine enter Tryd.func4 rfl rfl (Nat.le_of_ble_eq_true rfl) ?_
 have hw := hw.dup (i := i0 + 0) h0
 have hw := hw.dup (i := i1 + 1) h1
 refine RC.sr ?_
 refine RL.box_rd (i := 0) (v := v1) trivial rfl hw rfl rfl fun b31 w hw => ?_
 refine as_ (vb false) rfl rfl ?_
 refine RL.ns ?_
 refine mv v0 rfl rfl ?_
 refine RL.load_bf (i := 0) (f := (fun x => x)) trivial rfl hw rfl rfl Fd.self ty26 fun v32 hw => ?_
 obtain ⟨x33, hx33, hb⟩ := bd hb
 refine RL.call trivial rfl fn19 [v0, v32] rfl (Calls_ret (netlist_Findings_ok N  (i0 := 3) (i1 := 0) hw rfl rfl hx33) ?_)
 rintro _ w ⟨v34, rfl, hw⟩
 refine mv (.tuple #[v34, (vi x33.2)]) rfl rfl ?_
 refine RL.extract (v := v34) trivial rfl rfl rfl ?_
 refine RL.extract (v := (vi x33.2)) trivial rfl rfl rfl ?_
 refine as_ v34 rfl rfl ?_
 refine as_ (vi x33.2) rfl rfl ?_
 refine RL.ns ?_
 refine mv v0 rfl rfl ?_
 refine RL.load_bf (i := 2) (f := (fun x => x)) trivial rfl hw rfl rfl Fd.self ty26 fun v35 hw => ?_
 obtain ⟨x36, hx36, hb⟩ := bd hb
 refine RL.call trivial rfl fn20 [v0, v35] rfl (Calls_ret (etchhouseref2_Findings_ok N  (i0 := 5) (i1 := 0) hw rfl rfl hx36) ?_)
 rintro _ w ⟨v37, rfl, hw⟩
 refine mv (.tuple #[v37, (vi x36.2)]) rfl rfl ?_
 refine RL.extract (v := v37) trivial rfl rfl rfl ?_
 refine RL.extract (v := (vi x36.2)) trivial rfl rfl rfl ?_
 refine as_ v37 rfl rfl ?_
 refine as_ (vi x36.2) rfl rfl ?_
 refine RL.nq ?_
 obtain ⟨s44, hj, hb⟩ := bd hb
 refine RC.jn (fun (s44 : Bool) (σ : Nat → Value) (w : World) => agree σ [(4, (vb s44))] ∧ Holds E w ([] ++ Γ)) s44 ?_ ?_
 ·refine RC.region ?_
  refine mv (vi x33.2) rfl rfl ?_
  refine mv (vi x36.2) rfl rfl ?_
  refine ic (x33.2) (x36.2) rfl rfl rfl rfl ?_
  refine mv (vb (x33.2 == x36.2)) rfl rfl ?_
  rcases Bool.eq_false_or_eq_true (x33.2 == x36.2) with hg45 | hg45
  rotate_left
  ·replace hj := cF hg45 hj
   refine sk rfl (.inl (cb hg45)) rfl ?_
   refine sk rfl (.inl (cb hg45)) rfl ?_
   refine sk rfl (.inl (cb hg45)) rfl ?_
   refine RL.pick (b := (x33.2 == x36.2)) (v := (vb false)) trivial rfl rfl (by rw [hg45]; rfl) ?_
   refine mv (vb false) rfl rfl ?_
   refine sk rfl (.inl rfl) rfl ?_
   refine RL.pick (b := false) (v := (vb false)) trivial rfl rfl rfl ?_
   refine as_ (vb false) rfl rfl ?_
   refine RL.nil ?_
   obtain rfl := oi hj
   exact ⟨rfl, ⟨rfl, trivial⟩, hw.pick 7 [] (new := []) rfl rfl (by decide) (by decide)⟩
  replace hj := cT hg45 hj
  refine RL.move (v := v34) ⟨_, rfl, cb hg45⟩ rfl rfl ?_
  refine RL.move (v := v37) ⟨_, rfl, cb hg45⟩ rfl rfl ?_
  have hw := hw.freeze (i := 2) rfl
  have hw := hw.freeze (i := 0) rfl
  obtain ⟨x46, hx46, hj⟩ := bd hj
  refine RL.call ⟨_, rfl, cb hg45⟩ rfl fn21 [v34, v37] rfl (Calls_ret (etchhouseref2_SameFindings_ok N  (i0 := 2) (i1 := 0) hw rfl rfl hx46) ?_)
  rintro _ w ⟨rfl, hw⟩
  refine RL.pick (b := (x33.2 == x36.2)) (v := (vb x46)) trivial rfl rfl (by rw [hg45]; rfl) ?_
  refine mv (vb x46) rfl rfl ?_
  rcases Bool.eq_false_or_eq_true x46 with hg47 | hg47
  rotate_left
  ·replace hj := cF hg47 hj
   refine sk rfl (.inl (cb hg47)) rfl ?_
   refine RL.pick (b := x46) (v := (vb false)) trivial rfl rfl (by rw [hg47]; rfl) ?_
   refine as_ (vb false) rfl rfl ?_
   refine RL.nil ?_
   obtain rfl := oi hj
   exact ⟨rfl, ⟨rfl, trivial⟩, hw.pick 7 [] (new := []) rfl rfl (by decide) (by decide)⟩
  replace hj := cT hg47 hj
  obtain ⟨x48, hx48, hj⟩ := bd hj
  refine RL.call ⟨_, rfl, cb hg47⟩ rfl fn18 [] rfl (Calls_ret (etchhouselaw2_awake_ok N   hw  hx48) ?_)
  rintro _ w ⟨rfl, hw⟩
  refine RL.pick (b := x46) (v := (vb x48)) trivial rfl rfl (by rw [hg47]; rfl) ?_
  refine as_ (vb x48) rfl rfl ?_
  refine RL.nil ?_
  obtain rfl := oi hj
  exact ⟨rfl, ⟨rfl, trivial⟩, hw.pick 7 [] (new := []) rfl rfl (by decide) (by decide)⟩
 rintro σ w ⟨ha, hw⟩
 obtain ⟨τ, rfl⟩ := ha.ups
 refine thenQ_n ?_
 refine RC.ret ?_
 obtain rfl := oi hb
 exact fin1 rfl rfl ⟨rfl, hw.drop 0 rfl⟩
end Go.Gk
