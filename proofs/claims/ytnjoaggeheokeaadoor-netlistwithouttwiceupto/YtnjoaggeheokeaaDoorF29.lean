/-
  Printed by gen.py: Go functions as plain functions, and that they are.
-/
import Derived.Test.YtnjoaggeheokeaaDoorT
import Derived.Test.YtnjoaggeheokeaaDoorF8
import Derived.Test.YtnjoaggeheokeaaDoorF22
import Derived.Test.YtnjoaggeheokeaaDoorF28
set_option linter.unusedVariables false
set_option linter.unusedSimpArgs false
set_option linter.unusedSectionVars false
set_option maxRecDepth 100000
set_option maxHeartbeats 4000000

namespace Go.Gk
open Go Go.Proofs
def etchhouseref2_Below_R (E : World) (Γ : List HP) (res : Int) (v : Value) (w : World) : Prop := v = (vi res) ∧ Holds E w Γ
def etchhouseref2_Below_K (E : World) (Γ : List HP) (r : Int) (σ : Nat → Value) (w : World) : Prop := finQ Tryd.prog 14 Tryd.f29 (etchhouseref2_Below_R E Γ r) .ret σ w
theorem etchhouseref2_Below_ok (N : Nat) {E w : World} {Γ : List HP} {p0 : Int} {p1 : Int} {res : Int} (hw : Holds E w Γ)  (hb : etchhouseref2_Below N p0 p1 = some res) :
    Calls Tryd.prog 29 [(vi p0), (vi p1)].toArray w (Ret (etchhouseref2_Below_R E Γ res)) := by
 unfold etchhouseref2_Below at hb
 refine enter Tryd.func29 rfl rfl (Nat.le_of_ble_eq_true rfl) ?_
 refine RC.sr ?_
 refine as_ (vi 0) rfl rfl ?_
 refine RL.ns ?_
 refine mv (vi p0) rfl rfl ?_
 refine mv (vi p1) rfl rfl ?_
 obtain ⟨x32, hx32, hb⟩ := bd hb
 refine RL.rem (a := p0) (b := p1) trivial rfl rfl rfl (nz_ hx32) ?_
 refine as_ (vi (Int.tmod p0 p1)) rfl rfl ?_
 refine RL.nq ?_
 refine RC.sr ?_
 refine mv (vi (Int.tmod p0 p1)) rfl rfl ?_
 refine ic ((Int.tmod p0 p1)) 0 rfl rfl rfl rfl ?_
 refine RL.nt ?_
 obtain ⟨s33, hj, hb⟩ := bd hb
 refine RC.jn (fun (s33 : Int) (σ : Nat → Value) (w : World) => agree σ [(0, (vi s33))] ∧ Holds E w ([] ++ Γ)) s33 ?_ ?_
 ·refine RC.cond (b := (decide ((Int.tmod p0 p1) < 0))) rfl (fun hc => ?_) (fun hc => ?_)
  rotate_left
  ·replace hj := cF hc hj
   refine RC.skip ?_
   obtain rfl := oi hj
   exact ⟨rfl, ⟨rfl, trivial⟩, hw.pick 0 [] (new := []) rfl rfl (by decide) (by decide)⟩
  replace hj := cT hc hj
  refine RC.region ?_
  refine mv (vi (Int.tmod p0 p1)) rfl rfl ?_
  refine mv (vi p1) rfl rfl ?_
  refine RL.iar (a := (Int.tmod p0 p1)) (b := p1) trivial rfl rfl rfl rfl ?_
  refine as_ (vi (IntKind.wrap .i64 ((Int.tmod p0 p1) + p1))) rfl rfl ?_
  refine RL.nil ?_
  obtain rfl := oi hj
  exact ⟨rfl, ⟨rfl, trivial⟩, hw.pick 0 [] (new := []) rfl rfl (by decide) (by decide)⟩
 rintro σ w ⟨ha, hw⟩
 obtain ⟨τ, rfl⟩ := ha.ups
 refine thenQ_n ?_
 refine RC.sr ?_
 refine mv (vi s33) rfl rfl ?_
 refine as_ (vi s33) rfl rfl ?_
 refine RL.nt ?_
 refine RC.ret ?_
 obtain rfl := oi hb
 exact fin1 rfl rfl ⟨rfl, hw.drop 0 rfl⟩
def etchhouselaw2_NetlistWithoutTwice_R (E : World) (Γ : List HP) (res : Bool) (v : Value) (w : World) : Prop := v = (vb res) ∧ Holds E w Γ
def etchhouselaw2_NetlistWithoutTwice_K (E : World) (Γ : List HP) (r : Bool) (σ : Nat → Value) (w : World) : Prop := finQ Tryd.prog 63 Tryd.f7 (etchhouselaw2_NetlistWithoutTwice_R E Γ r) .ret σ w
theorem etchhouselaw2_NetlistWithoutTwice_ok (N : Nat) {E w : World} {Γ : List HP} {i0 : Nat} {v0 : Value} {p0 : (List PartType)} {i1 : Nat} {v1 : Value} {p1 : Netlist} {i2 : Nat} {v2 : Value} {p2 : (List Str)} {p3 : Int} {res : Bool} (hw : Holds E w Γ) (h0 : Γ[i0]? = some (rd v0 p0)) (h1 : Γ[i1]? = some (rd v1 p1)) (h2 : Γ[i2]? = some (rd v2 p2)) (hb : etchhouselaw2_NetlistWithoutTwice N p0 p1 p2 p3 = some res) :
    Calls Tryd.prog 7 [v0, v1, v2, (vi p3)].toArray w (Ret (etchhouselaw2_NetlistWithoutTwice_R E Γ res)) := by
 unfold etchhouselaw2_NetlistWithoutTwice at hb
 refine enter Tryd.func7 rfl rfl (Nat.le_of_ble_eq_true rfl) ?_
 have hw := hw.dup (i := i0 + 0) h0
 have hw := hw.dup (i := i1 + 1) h1
 have hw := hw.dup (i := i2 + 2) h2
 refine RC.sr ?_
 refine RL.box_rd (i := 1) (v := v1) trivial rfl hw rfl rfl fun b31 w hw => ?_
 refine as_ (vb false) rfl rfl ?_
 refine RL.ns ?_
 refine mv v0 rfl rfl ?_
 refine RL.load_bf (i := 0) (f := (fun x => x)) trivial rfl hw rfl rfl Fd.self ty26 fun v32 hw => ?_
 refine mv v2 rfl rfl ?_
 obtain ⟨x33, hx33, hb⟩ := bd hb
 refine RL.call trivial rfl fn28 [v0, v32, v2] rfl (Calls_ret (netlist_Without_ok N  (i0 := 4) (i1 := 0) (i2 := 2) hw rfl rfl rfl hx33) ?_)
 rintro _ w ⟨v34, rfl, hw⟩
 refine mv (.tuple #[v34, (vi x33.2)]) rfl rfl ?_
 refine RL.extract (v := v34) trivial rfl rfl rfl ?_
 refine RL.extract (v := (vi x33.2)) trivial rfl rfl rfl ?_
 refine RL.alloc trivial rfl hw ze26.z fun b35 w hw => ?_
 refine RL.store_raw (i := 0) (j := 1) trivial hw rfl rfl rfl rfl ty26 rfl fun w hw => ?_
 refine as_ (vi x33.2) rfl rfl ?_
 refine RL.nq ?_
 refine RC.sr ?_
 refine mv (vi x33.2) rfl rfl ?_
 refine ic (x33.2) 0 rfl rfl rfl rfl ?_
 refine RL.nt ?_
 refine RC.cond (b := (x33.2 != 0)) rfl (fun hc => ?_) (fun hc => ?_)
 ·replace hb := cT hc hb
  refine RC.seq ?_
  obtain ⟨s48, hj, hb⟩ := bd hb
  refine RC.jn (fun (s48 : Bool) (σ : Nat → Value) (w : World) => agree σ [(8, (vb s48))] ∧ Holds E w ([] ++ Γ)) s48 ?_ ?_
  ·refine RC.region ?_
   refine RL.fa_b trivial rfl rfl fa26_0 ?_
   refine RL.load_bf (i := 0) (f := (fun x => x.Parts)) trivial rfl hw rfl rfl fd_Netlist_0 ty23 fun v49 hw => ?_
   refine RL.len_rd (i := 0) (l := x33.1.Parts) trivial rfl hw rfl rfl un23 ?_
   refine ic ((x33.1.Parts.length : Int)) 0 rfl rfl rfl rfl ?_
   refine mv (vb ((x33.1.Parts.length : Int) == 0)) rfl rfl ?_
   rcases Bool.eq_false_or_eq_true ((x33.1.Parts.length : Int) == 0) with hg50 | hg50
   rotate_left
   ·replace hj := cF hg50 hj
    refine sk rfl (.inl (cb hg50)) rfl ?_
    refine RL.pick (b := ((x33.1.Parts.length : Int) == 0)) (v := (vb false)) trivial rfl rfl (by rw [hg50]; rfl) ?_
    refine as_ (vb false) rfl rfl ?_
    refine RL.nil ?_
    obtain rfl := oi hj
    exact ⟨rfl, ⟨rfl, trivial⟩, hw.pick 8 [] (new := []) rfl rfl (by decide) (by decide)⟩
   replace hj := cT hg50 hj
   obtain ⟨x51, hx51, hj⟩ := bd hj
   refine RL.call ⟨_, rfl, cb hg50⟩ rfl fn18 [] rfl (Calls_ret (etchhouselaw2_awake_ok N   hw  hx51) ?_)
   rintro _ w ⟨rfl, hw⟩
   refine RL.pick (b := ((x33.1.Parts.length : Int) == 0)) (v := (vb x51)) trivial rfl rfl (by rw [hg50]; rfl) ?_
   refine as_ (vb x51) rfl rfl ?_
   refine RL.nil ?_
   obtain rfl := oi hj
   exact ⟨rfl, ⟨rfl, trivial⟩, hw.pick 8 [] (new := []) rfl rfl (by decide) (by decide)⟩
  rintro σ w ⟨ha, hw⟩
  obtain ⟨τ, rfl⟩ := ha.ups
  refine thenQ_n ?_
  refine RC.rt ?_
  obtain rfl := oi hb
  exact fin1 rfl rfl ⟨rfl, hw.drop 0 rfl⟩
 replace hb := cF hc hb
 refine RC.sx ?_
 refine mv (vi p3) rfl rfl ?_
 refine mv v2 rfl rfl ?_
 refine RL.len_rd (i := 4) (l := p2) trivial rfl hw rfl rfl un55 ?_
 refine RL.iar (a := (p2.length : Int)) (b := 1) trivial rfl rfl rfl rfl ?_
 obtain ⟨x52, hx52, hb⟩ := bd hb
 refine RL.call trivial rfl fn29 [(vi p3), (vi (IntKind.wrap .i64 ((p2.length : Int) + 1)))] rfl (Calls_ret (etchhouseref2_Below_ok N (p0 := p3) (p1 := (IntKind.wrap .i64 ((p2.length : Int) + 1)))  hw  hx52) ?_)
 rintro _ w ⟨rfl, hw⟩
 refine as_ (vi x52) rfl rfl ?_
 refine RL.nq ?_
 obtain ⟨x54, hx54, hb⟩ := bd hb
 obtain ⟨x56, hx56, hb⟩ := bd hb
 refine RC.drw mixed rfl (fun (D : Nat → Bool) (σ : Nat → Value) (w : World) => ∃ (v53 : Value) (v55 : Value) (v57 : Value) (b58 : Nat), doneV D σ [(0, 34, v0), (1, 35, v53), (2, 36, v2), (3, 37, (vi x52)), (4, 38, v55), (5, 39, (.tuple #[v57, (vi x56.2)])), (6, 33, (.tuple #[v57, (vi x56.2)])), (7, 40, v57), (8, 41, (vi x56.2)), (9, 11, (vp b58 0)), (11, 10, (vi x56.2))] ∧ agree σ [(0, v0), (2, v2), (3, (vi x52)), (5, (vp b31 0)), (9, (vp b35 0))] ∧ Holds E w ([bif D 1 then (rd v53 p1) else junk, bif D 4 then (rd v55 x54) else junk, bif D 5 then (rd v57 x56.1) else junk, bif D 10 then (bx 26 b58 x56.1) else (bif D 9 then (raw 26 b58 2) else junk), bx 26 b35 x33.1, rd v34 x33.1, rd v32 p1, bx 26 b31 p1, rd v2 p2, rd v1 p1, rd v0 p0] ++ Γ)) ?_ ⟨?_, ?_, ?_, ?_, ?_, ?_, ?_, ?_, ?_, ?_, ?_, ?_, trivial⟩ ?_
 ·have hw := hw.drew
  have hw := hw.junk
  have hw := hw.junk
  have hw := hw.junk
  have hw := hw.junk
  exact ⟨undef, undef, undef, 0, doneV.none, ⟨rfl, rfl, rfl, rfl, rfl, trivial⟩, hw⟩
 ·rintro D σ w hD hdep hcl ⟨v53, v55, v57, b58, hv, ha, hw⟩
  obtain ⟨τ, rfl⟩ := (ac (ha.at 0 rfl) az).ups
  refine mv v0 rfl rfl ?_
  refine RL.nil ?_
  exact ⟨rfl, v53, v55, v57, b58, hv.put 0 rfl rfl, ha.up rfl, hw⟩
 ·rintro D σ w hD hdep hcl ⟨v53, v55, v57, b58, hv, ha, hw⟩
  obtain ⟨τ, rfl⟩ := (ac (ha.at 3 rfl) az).ups
  have hw := hw.selF (i := 0) rfl hD
  refine RL.load_bf (i := 7) (f := (fun x => x)) trivial rfl hw rfl rfl Fd.self ty26 fun v59 hw => ?_
  have hw := hw.pick 12 [0, 2, 3, 4, 5, 6, 7, 8, 9, 10, 11] (new := [rd v59 p1, bif D 4 then (rd v55 x54) else junk, bif D 5 then (rd v57 x56.1) else junk, bif D 10 then (bx 26 b58 x56.1) else (bif D 9 then (raw 26 b58 2) else junk), bx 26 b35 x33.1, rd v34 x33.1, rd v32 p1, bx 26 b31 p1, rd v2 p2, rd v1 p1, rd v0 p0]) rfl rfl (by decide) (by decide)
  have hw := hw.altT (i := 0) (b := true) rfl rfl (junk)
  refine RL.nil ?_
  exact ⟨rfl, v59, v55, v57, b58, hv.put 1 rfl rfl, ha.up rfl, hw⟩
 ·rintro D σ w hD hdep hcl ⟨v53, v55, v57, b58, hv, ha, hw⟩
  obtain ⟨τ, rfl⟩ := (ac (ha.at 1 rfl) az).ups
  refine mv v2 rfl rfl ?_
  refine RL.nil ?_
  exact ⟨rfl, v53, v55, v57, b58, hv.put 2 rfl rfl, ha.up rfl, hw⟩
 ·rintro D σ w hD hdep hcl ⟨v53, v55, v57, b58, hv, ha, hw⟩
  obtain ⟨τ, rfl⟩ := (ac (ha.at 2 rfl) az).ups
  refine mv (vi x52) rfl rfl ?_
  refine RL.nil ?_
  exact ⟨rfl, v53, v55, v57, b58, hv.put 3 rfl rfl, ha.up rfl, hw⟩
 ·rintro D σ w hD hdep hcl ⟨v53, v55, v57, b58, hv, ha, hw⟩
  obtain ⟨τ, rfl⟩ := (ac (hv.at 2 rfl (hdep.1 rfl)) (ac (hv.at 3 rfl (hdep.2.1 rfl)) az)).ups
  have hw := hw.selF (i := 1) rfl hD
  refine RL.cut (i := 8) trivial rfl hw rfl rfl sl55 (.inr ⟨rfl, rfl⟩) (.inl rfl) hx54 fun v60 hw => ?_
  have hw := hw.pick 12 [1, 0, 3, 4, 5, 6, 7, 8, 9, 10, 11] (new := [bif D 1 then (rd v53 p1) else junk, rd v60 x54, bif D 5 then (rd v57 x56.1) else junk, bif D 10 then (bx 26 b58 x56.1) else (bif D 9 then (raw 26 b58 2) else junk), bx 26 b35 x33.1, rd v34 x33.1, rd v32 p1, bx 26 b31 p1, rd v2 p2, rd v1 p1, rd v0 p0]) rfl rfl (by decide) (by decide)
  have hw := hw.altT (i := 1) (b := true) rfl rfl (junk)
  refine RL.nil ?_
  exact ⟨rfl, v53, v60, v57, b58, hv.put 4 rfl rfl, ha.up rfl, hw⟩
 ·rintro D σ w hD hdep hcl ⟨v53, v55, v57, b58, hv, ha, hw⟩
  obtain ⟨τ, rfl⟩ := (ac (hv.at 0 rfl (hdep.1 rfl)) (ac (hv.at 1 rfl (hdep.2.1 rfl)) (ac (hv.at 4 rfl (hdep.2.2.1 rfl)) az))).ups
  have hw := hw.selT (i := 0) rfl (hdep.2.1 rfl)
  have hw := hw.selT (i := 1) rfl (hdep.2.2.1 rfl)
  have hw := hw.selF (i := 2) rfl hD
  refine RL.call trivial rfl fn28 [v0, v53, v55] rfl (Calls_ret (netlist_Without_ok N  (i0 := 10) (i1 := 0) (i2 := 1) hw rfl rfl rfl hx56) ?_)
  rintro _ w ⟨v61, rfl, hw⟩
  have hw := hw.pick 12 [1, 2, 0, 4, 5, 6, 7, 8, 9, 10, 11] (new := [rd v53 p1, rd v55 x54, rd v61 x56.1, bif D 10 then (bx 26 b58 x56.1) else (bif D 9 then (raw 26 b58 2) else junk), bx 26 b35 x33.1, rd v34 x33.1, rd v32 p1, bx 26 b31 p1, rd v2 p2, rd v1 p1, rd v0 p0]) rfl rfl (by decide) (by decide)
  have hw := hw.altT (i := 0) (b := D 1) rfl (hdep.2.1 rfl) (junk)
  have hw := hw.altT (i := 1) (b := D 4) rfl (hdep.2.2.1 rfl) (junk)
  have hw := hw.altT (i := 2) (b := true) rfl rfl (junk)
  have hv := hv.re 6 rfl (v' := (.tuple #[v61, (vi x56.2)])) (fun h => ft hD ((hcl 6 _ rfl h).1 rfl))
  have hv := hv.re 7 rfl (v' := v61) (fun h => ft hD ((hcl 6 _ rfl ((hcl 7 _ rfl h).1 rfl)).1 rfl))
  refine RL.nil ?_
  exact ⟨rfl, v53, v55, v61, b58, hv.put 5 rfl rfl, ha.up rfl, hw⟩
 ·rintro D σ w hD hdep hcl ⟨v53, v55, v57, b58, hv, ha, hw⟩
  obtain ⟨τ, rfl⟩ := (ac (hv.at 5 rfl (hdep.1 rfl)) az).ups
  have hw := hw.selT (i := 2) rfl (hdep.1 rfl)
  refine mv (.tuple #[v57, (vi x56.2)]) rfl rfl ?_
  have hw := hw.altT (i := 2) (b := D 5) rfl (hdep.1 rfl) (junk)
  refine RL.nil ?_
  exact ⟨rfl, v53, v55, v57, b58, hv.put 6 rfl rfl, ha.up rfl, hw⟩
 ·rintro D σ w hD hdep hcl ⟨v53, v55, v57, b58, hv, ha, hw⟩
  obtain ⟨τ, rfl⟩ := (ac (hv.at 6 rfl (hdep.1 rfl)) az).ups
  have hw := hw.selT (i := 2) rfl ((hcl 6 _ rfl (hdep.1 rfl)).1 rfl)
  refine RL.extract (v := v57) trivial rfl rfl rfl ?_
  have hw := hw.altT (i := 2) (b := D 5) rfl ((hcl 6 _ rfl (hdep.1 rfl)).1 rfl) (junk)
  refine RL.nil ?_
  exact ⟨rfl, v53, v55, v57, b58, hv.put 7 rfl rfl, ha.up rfl, hw⟩
 ·rintro D σ w hD hdep hcl ⟨v53, v55, v57, b58, hv, ha, hw⟩
  obtain ⟨τ, rfl⟩ := (ac (hv.at 6 rfl (hdep.1 rfl)) az).ups
  have hw := hw.selT (i := 2) rfl ((hcl 6 _ rfl (hdep.1 rfl)).1 rfl)
  refine RL.extract (v := (vi x56.2)) trivial rfl rfl rfl ?_
  have hw := hw.altT (i := 2) (b := D 5) rfl ((hcl 6 _ rfl (hdep.1 rfl)).1 rfl) (junk)
  refine RL.nil ?_
  exact ⟨rfl, v53, v55, v57, b58, hv.put 8 rfl rfl, ha.up rfl, hw⟩
 ·rintro D σ w hD hdep hcl ⟨v53, v55, v57, b58, hv, ha, hw⟩
  obtain ⟨τ, rfl⟩ := (az (σ := σ)).ups
  have hw := hw.selF (i := 3) rfl (nf (fun h => ft hD ((hcl 10 _ rfl h).1 rfl)))
  have hw := hw.selF (i := 3) rfl hD
  refine RL.alloc trivial rfl hw ze26.z fun b62 w hw => ?_
  have hw := hw.pick 12 [1, 2, 3, 0, 5, 6, 7, 8, 9, 10, 11] (new := [bif D 1 then (rd v53 p1) else junk, bif D 4 then (rd v55 x54) else junk, bif D 5 then (rd v57 x56.1) else junk, raw 26 b62 2, bx 26 b35 x33.1, rd v34 x33.1, rd v32 p1, bx 26 b31 p1, rd v2 p2, rd v1 p1, rd v0 p0]) rfl rfl (by decide) (by decide)
  have hw := hw.altT (i := 3) (b := true) rfl rfl (junk)
  have hw := hw.altF (i := 3) (b := D 10) rfl (nf (fun h => ft hD ((hcl 10 _ rfl h).1 rfl))) (bx 26 b62 x56.1)
  refine RL.nil ?_
  exact ⟨rfl, v53, v55, v57, b62, hv.put 9 rfl rfl, ha.up rfl, hw⟩
 ·rintro D σ w hD hdep hcl ⟨v53, v55, v57, b58, hv, ha, hw⟩
  obtain ⟨τ, rfl⟩ := (ac (hv.at 7 rfl (hdep.2.1 rfl)) (ac (hv.at 9 rfl (hdep.1 rfl)) az)).ups
  have hw := hw.selT (i := 2) rfl (hdep.2.2.1 rfl)
  have hw := hw.selF (i := 3) rfl hD
  have hw := hw.selT (i := 3) rfl (hdep.1 rfl)
  refine RL.store_raw (i := 3) (j := 2) trivial hw rfl rfl rfl rfl ty26 rfl fun w hw => ?_
  have hw := hw.altT (i := 2) (b := D 5) rfl (hdep.2.2.1 rfl) (junk)
  have hw := hw.altT (i := 3) (b := true) rfl rfl (bif D 9 then (raw 26 b58 2) else junk)
  refine RL.nil ?_
  exact ⟨rfl, v53, v55, v57, b58, hv.no rfl, ha, hw⟩
 ·rintro D σ w hD hdep hcl ⟨v53, v55, v57, b58, hv, ha, hw⟩
  obtain ⟨τ, rfl⟩ := (ac (hv.at 8 rfl (hdep.1 rfl)) az).ups
  refine as_ (vi x56.2) rfl rfl ?_
  refine RL.nil ?_
  exact ⟨rfl, v53, v55, v57, b58, hv.put 10 rfl rfl, ha.up rfl, hw⟩
 rintro D σ w hall ⟨v53, v55, v57, b58, hv, ha, hw⟩
 rw [hall 1 (by decide), hall 4 (by decide), hall 5 (by decide), hall 9 (by decide), hall 10 (by decide)] at hw
 obtain ⟨τ, rfl⟩ := (ac (hv.at 9 rfl (hall 9 (by decide))) (ac (hv.at 10 rfl (hall 11 (by decide))) (ac (ha.at 0 rfl) (ac (ha.at 1 rfl) (ac (ha.at 2 rfl) (ac (ha.at 3 rfl) (ac (ha.at 4 rfl) az))))))).ups
 refine thenQ_n ?_
 refine RC.seq ?_
 refine RC.sr ?_
 refine mv (vi x56.2) rfl rfl ?_
 refine ic (x56.2) 0 rfl rfl rfl rfl ?_
 refine RL.nt ?_
 refine RC.cond (b := (x56.2 != 0)) rfl (fun hc => ?_) (fun hc => ?_)
 ·replace hb := cT hc hb
  refine RC.sr ?_
  refine as_ (vb false) rfl rfl ?_
  refine RL.nt ?_
  refine RC.rt ?_
  obtain rfl := oi hb
  exact fin1 rfl rfl ⟨rfl, hw.drop 11 rfl⟩
 replace hb := cF hc hb
 refine RC.ss ?_
 obtain ⟨x64, hx64, hb⟩ := bd hb
 obtain ⟨x66, hx66, hb⟩ := bd hb
 refine RC.drw mixed rfl (fun (D : Nat → Bool) (σ : Nat → Value) (w : World) => ∃ (v63 : Value) (v65 : Value) (v67 : Value), doneV D σ [(0, 45, v0), (1, 46, v63), (2, 47, v2), (3, 48, (vi x52)), (4, 49, v65), (5, 50, (.tuple #[v67, (vi x66.2)])), (6, 44, (.tuple #[v67, (vi x66.2)])), (7, 51, v67), (8, 52, (vi x66.2)), (10, 10, (vi x66.2))] ∧ agree σ [(0, v0), (2, v2), (3, (vi x52)), (9, (vp b35 0)), (11, (vp b58 0))] ∧ Holds E w ([bif D 1 then (rd v63 x56.1) else junk, bif D 4 then (rd v65 x64) else junk, bif D 5 then (rd v67 x66.1) else junk, rd v53 p1, rd v55 x54, rd v57 x56.1, bif D 9 then (bx 26 b58 x66.1) else (bx 26 b58 x56.1), bx 26 b35 x33.1, rd v34 x33.1, rd v32 p1, bx 26 b31 p1, rd v2 p2, rd v1 p1, rd v0 p0] ++ Γ)) ?_ ⟨?_, ?_, ?_, ?_, ?_, ?_, ?_, ?_, ?_, ?_, ?_, trivial⟩ ?_
 ·have hw := hw.drew
  have hw := hw.junk
  have hw := hw.junk
  have hw := hw.junk
  exact ⟨undef, undef, undef, doneV.none, ⟨rfl, rfl, rfl, rfl, rfl, trivial⟩, hw⟩
 ·rintro D σ w hD hdep hcl ⟨v63, v65, v67, hv, ha, hw⟩
  obtain ⟨τ, rfl⟩ := (ac (ha.at 0 rfl) az).ups
  refine mv v0 rfl rfl ?_
  refine RL.nil ?_
  exact ⟨rfl, v63, v65, v67, hv.put 0 rfl rfl, ha.up rfl, hw⟩
 ·rintro D σ w hD hdep hcl ⟨v63, v65, v67, hv, ha, hw⟩
  obtain ⟨τ, rfl⟩ := (ac (ha.at 4 rfl) az).ups
  have hw := hw.selF (i := 0) rfl hD
  have hw := hw.selF (i := 6) rfl (nf (fun h => ft hD ((hcl 9 _ rfl h).2.2.2.1 rfl)))
  refine RL.load_bf (i := 6) (f := (fun x => x)) trivial rfl hw rfl rfl Fd.self ty26 fun v68 hw => ?_
  have hw := hw.pick 15 [0, 2, 3, 4, 5, 6, 7, 8, 9, 10, 11, 12, 13, 14] (new := [rd v68 x56.1, bif D 4 then (rd v65 x64) else junk, bif D 5 then (rd v67 x66.1) else junk, rd v53 p1, rd v55 x54, rd v57 x56.1, bx 26 b58 x56.1, bx 26 b35 x33.1, rd v34 x33.1, rd v32 p1, bx 26 b31 p1, rd v2 p2, rd v1 p1, rd v0 p0]) rfl rfl (by decide) (by decide)
  have hw := hw.altT (i := 0) (b := true) rfl rfl (junk)
  have hw := hw.altF (i := 6) (b := D 9) rfl (nf (fun h => ft hD ((hcl 9 _ rfl h).2.2.2.1 rfl))) (bx 26 b58 x66.1)
  refine RL.nil ?_
  exact ⟨rfl, v68, v65, v67, hv.put 1 rfl rfl, ha.up rfl, hw⟩
 ·rintro D σ w hD hdep hcl ⟨v63, v65, v67, hv, ha, hw⟩
  obtain ⟨τ, rfl⟩ := (ac (ha.at 1 rfl) az).ups
  refine mv v2 rfl rfl ?_
  refine RL.nil ?_
  exact ⟨rfl, v63, v65, v67, hv.put 2 rfl rfl, ha.up rfl, hw⟩
 ·rintro D σ w hD hdep hcl ⟨v63, v65, v67, hv, ha, hw⟩
  obtain ⟨τ, rfl⟩ := (ac (ha.at 2 rfl) az).ups
  refine mv (vi x52) rfl rfl ?_
  refine RL.nil ?_
  exact ⟨rfl, v63, v65, v67, hv.put 3 rfl rfl, ha.up rfl, hw⟩
 ·rintro D σ w hD hdep hcl ⟨v63, v65, v67, hv, ha, hw⟩
  obtain ⟨τ, rfl⟩ := (ac (hv.at 2 rfl (hdep.1 rfl)) (ac (hv.at 3 rfl (hdep.2.1 rfl)) az)).ups
  have hw := hw.selF (i := 1) rfl hD
  refine RL.cut (i := 11) trivial rfl hw rfl rfl sl55 (.inl rfl) (.inr ⟨rfl, rfl⟩) hx64 fun v69 hw => ?_
  have hw := hw.pick 15 [1, 0, 3, 4, 5, 6, 7, 8, 9, 10, 11, 12, 13, 14] (new := [bif D 1 then (rd v63 x56.1) else junk, rd v69 x64, bif D 5 then (rd v67 x66.1) else junk, rd v53 p1, rd v55 x54, rd v57 x56.1, bif D 9 then (bx 26 b58 x66.1) else (bx 26 b58 x56.1), bx 26 b35 x33.1, rd v34 x33.1, rd v32 p1, bx 26 b31 p1, rd v2 p2, rd v1 p1, rd v0 p0]) rfl rfl (by decide) (by decide)
  have hw := hw.altT (i := 1) (b := true) rfl rfl (junk)
  refine RL.nil ?_
  exact ⟨rfl, v63, v69, v67, hv.put 4 rfl rfl, ha.up rfl, hw⟩
 ·rintro D σ w hD hdep hcl ⟨v63, v65, v67, hv, ha, hw⟩
  obtain ⟨τ, rfl⟩ := (ac (hv.at 0 rfl (hdep.1 rfl)) (ac (hv.at 1 rfl (hdep.2.1 rfl)) (ac (hv.at 4 rfl (hdep.2.2.1 rfl)) az))).ups
  have hw := hw.selT (i := 0) rfl (hdep.2.1 rfl)
  have hw := hw.selT (i := 1) rfl (hdep.2.2.1 rfl)
  have hw := hw.selF (i := 2) rfl hD
  refine RL.call trivial rfl fn28 [v0, v63, v65] rfl (Calls_ret (netlist_Without_ok N  (i0 := 13) (i1 := 0) (i2 := 1) hw rfl rfl rfl hx66) ?_)
  rintro _ w ⟨v70, rfl, hw⟩
  have hw := hw.pick 15 [1, 2, 0, 4, 5, 6, 7, 8, 9, 10, 11, 12, 13, 14] (new := [rd v63 x56.1, rd v65 x64, rd v70 x66.1, rd v53 p1, rd v55 x54, rd v57 x56.1, bif D 9 then (bx 26 b58 x66.1) else (bx 26 b58 x56.1), bx 26 b35 x33.1, rd v34 x33.1, rd v32 p1, bx 26 b31 p1, rd v2 p2, rd v1 p1, rd v0 p0]) rfl rfl (by decide) (by decide)
  have hw := hw.altT (i := 0) (b := D 1) rfl (hdep.2.1 rfl) (junk)
  have hw := hw.altT (i := 1) (b := D 4) rfl (hdep.2.2.1 rfl) (junk)
  have hw := hw.altT (i := 2) (b := true) rfl rfl (junk)
  have hv := hv.re 6 rfl (v' := (.tuple #[v70, (vi x66.2)])) (fun h => ft hD ((hcl 6 _ rfl h).1 rfl))
  have hv := hv.re 7 rfl (v' := v70) (fun h => ft hD ((hcl 6 _ rfl ((hcl 7 _ rfl h).1 rfl)).1 rfl))
  refine RL.nil ?_
  exact ⟨rfl, v63, v65, v70, hv.put 5 rfl rfl, ha.up rfl, hw⟩
 ·rintro D σ w hD hdep hcl ⟨v63, v65, v67, hv, ha, hw⟩
  obtain ⟨τ, rfl⟩ := (ac (hv.at 5 rfl (hdep.1 rfl)) az).ups
  have hw := hw.selT (i := 2) rfl (hdep.1 rfl)
  refine mv (.tuple #[v67, (vi x66.2)]) rfl rfl ?_
  have hw := hw.altT (i := 2) (b := D 5) rfl (hdep.1 rfl) (junk)
  refine RL.nil ?_
  exact ⟨rfl, v63, v65, v67, hv.put 6 rfl rfl, ha.up rfl, hw⟩
 ·rintro D σ w hD hdep hcl ⟨v63, v65, v67, hv, ha, hw⟩
  obtain ⟨τ, rfl⟩ := (ac (hv.at 6 rfl (hdep.1 rfl)) az).ups
  have hw := hw.selT (i := 2) rfl ((hcl 6 _ rfl (hdep.1 rfl)).1 rfl)
  refine RL.extract (v := v67) trivial rfl rfl rfl ?_
  have hw := hw.altT (i := 2) (b := D 5) rfl ((hcl 6 _ rfl (hdep.1 rfl)).1 rfl) (junk)
  refine RL.nil ?_
  exact ⟨rfl, v63, v65, v67, hv.put 7 rfl rfl, ha.up rfl, hw⟩
 ·rintro D σ w hD hdep hcl ⟨v63, v65, v67, hv, ha, hw⟩
  obtain ⟨τ, rfl⟩ := (ac (hv.at 6 rfl (hdep.1 rfl)) az).ups
  have hw := hw.selT (i := 2) rfl ((hcl 6 _ rfl (hdep.1 rfl)).1 rfl)
  refine RL.extract (v := (vi x66.2)) trivial rfl rfl rfl ?_
  have hw := hw.altT (i := 2) (b := D 5) rfl ((hcl 6 _ rfl (hdep.1 rfl)).1 rfl) (junk)
  refine RL.nil ?_
  exact ⟨rfl, v63, v65, v67, hv.put 8 rfl rfl, ha.up rfl, hw⟩
 ·rintro D σ w hD hdep hcl ⟨v63, v65, v67, hv, ha, hw⟩
  obtain ⟨τ, rfl⟩ := (ac (hv.at 7 rfl (hdep.1 rfl)) (ac (ha.at 4 rfl) az)).ups
  have hw := hw.selT (i := 2) rfl (hdep.2.1 rfl)
  have hw := hw.selF (i := 6) rfl hD
  refine RL.store_bx (i := 6) (j := 2) trivial hw rfl rfl rfl rfl ty26 fun w hw => ?_
  have hw := hw.altT (i := 2) (b := D 5) rfl (hdep.2.1 rfl) (junk)
  have hw := hw.altT (i := 6) (b := true) rfl rfl (bx 26 b58 x56.1)
  refine RL.nil ?_
  exact ⟨rfl, v63, v65, v67, hv.no rfl, ha, hw⟩
 ·rintro D σ w hD hdep hcl ⟨v63, v65, v67, hv, ha, hw⟩
  obtain ⟨τ, rfl⟩ := (ac (hv.at 8 rfl (hdep.1 rfl)) az).ups
  refine as_ (vi x66.2) rfl rfl ?_
  refine RL.nil ?_
  exact ⟨rfl, v63, v65, v67, hv.put 9 rfl rfl, ha.up rfl, hw⟩
 rintro D σ w hall ⟨v63, v65, v67, hv, ha, hw⟩
 rw [hall 1 (by decide), hall 4 (by decide), hall 5 (by decide), hall 9 (by decide)] at hw
 obtain ⟨τ, rfl⟩ := (ac (hv.at 9 rfl (hall 10 (by decide))) (ac (ha.at 0 rfl) (ac (ha.at 1 rfl) (ac (ha.at 2 rfl) (ac (ha.at 3 rfl) (ac (ha.at 4 rfl) az)))))).ups
 refine thenQ_n ?_
 refine RC.seq ?_
 obtain ⟨s81, hj, hb⟩ := bd hb
 refine RC.jn (fun (s81 : Bool) (σ : Nat → Value) (w : World) => agree σ [(8, (vb s81))] ∧ Holds E w ([] ++ Γ)) s81 ?_ ?_
 ·refine RC.region ?_
  refine mv (vi x66.2) rfl rfl ?_
  refine ic (x66.2) 0 rfl rfl rfl rfl ?_
  refine mv (vb (x66.2 == 0)) rfl rfl ?_
  rcases Bool.eq_false_or_eq_true (x66.2 == 0) with hg82 | hg82
  rotate_left
  ·replace hj := cF hg82 hj
   refine sk rfl (.inl (cb hg82)) rfl ?_
   refine sk rfl (.inl (cb hg82)) rfl ?_
   refine sk rfl (.inl (cb hg82)) rfl ?_
   refine RL.pick (b := (x66.2 == 0)) (v := (vb false)) trivial rfl rfl (by rw [hg82]; rfl) ?_
   refine mv (vb false) rfl rfl ?_
   refine sk rfl (.inl rfl) rfl ?_
   refine RL.pick (b := false) (v := (vb false)) trivial rfl rfl rfl ?_
   refine as_ (vb false) rfl rfl ?_
   refine RL.nil ?_
   obtain rfl := oi hj
   exact ⟨rfl, ⟨rfl, trivial⟩, hw.pick 14 [] (new := []) rfl rfl (by decide) (by decide)⟩
  replace hj := cT hg82 hj
  refine RL.load_bf (i := 7) (f := (fun x => x)) ⟨_, rfl, cb hg82⟩ rfl hw rfl rfl Fd.self ty26 fun v83 hw => ?_
  refine RL.load_bf (i := 7) (f := (fun x => x)) ⟨_, rfl, cb hg82⟩ rfl hw rfl rfl Fd.self ty26 fun v84 hw => ?_
  obtain ⟨x85, hx85, hj⟩ := bd hj
  refine RL.call ⟨_, rfl, cb hg82⟩ rfl fn24 [v83, v84] rfl (Calls_ret (etchhouseref2_Same_ok N  (i0 := 1) (i1 := 0) hw rfl rfl hx85) ?_)
  rintro _ w ⟨rfl, hw⟩
  refine RL.pick (b := (x66.2 == 0)) (v := (vb x85)) trivial rfl rfl (by rw [hg82]; rfl) ?_
  refine mv (vb x85) rfl rfl ?_
  rcases Bool.eq_false_or_eq_true x85 with hg86 | hg86
  rotate_left
  ·replace hj := cF hg86 hj
   refine sk rfl (.inl (cb hg86)) rfl ?_
   refine RL.pick (b := x85) (v := (vb false)) trivial rfl rfl (by rw [hg86]; rfl) ?_
   refine as_ (vb false) rfl rfl ?_
   refine RL.nil ?_
   obtain rfl := oi hj
   exact ⟨rfl, ⟨rfl, trivial⟩, hw.pick 16 [] (new := []) rfl rfl (by decide) (by decide)⟩
  replace hj := cT hg86 hj
  obtain ⟨x87, hx87, hj⟩ := bd hj
  refine RL.call ⟨_, rfl, cb hg86⟩ rfl fn18 [] rfl (Calls_ret (etchhouselaw2_awake_ok N   hw  hx87) ?_)
  rintro _ w ⟨rfl, hw⟩
  refine RL.pick (b := x85) (v := (vb x87)) trivial rfl rfl (by rw [hg86]; rfl) ?_
  refine as_ (vb x87) rfl rfl ?_
  refine RL.nil ?_
  obtain rfl := oi hj
  exact ⟨rfl, ⟨rfl, trivial⟩, hw.pick 16 [] (new := []) rfl rfl (by decide) (by decide)⟩
 rintro σ w ⟨ha, hw⟩
 obtain ⟨τ, rfl⟩ := ha.ups
 refine thenQ_n ?_
 refine RC.ret ?_
 obtain rfl := oi hb
 exact fin1 rfl rfl ⟨rfl, hw.drop 0 rfl⟩
end Go.Gk
