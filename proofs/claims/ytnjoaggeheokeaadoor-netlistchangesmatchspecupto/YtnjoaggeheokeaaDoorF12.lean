/-
  Printed by gen.py: Go functions as plain functions, and that they are.
-/
import Derived.Test.YtnjoaggeheokeaaDoorT
import Derived.Test.YtnjoaggeheokeaaDoorF2
import Derived.Test.YtnjoaggeheokeaaDoorF5
set_option linter.unusedVariables false
set_option linter.unusedSimpArgs false
set_option linter.unusedSectionVars false
set_option maxRecDepth 100000
set_option maxHeartbeats 4000000

namespace Go.Gk
open Go Go.Proofs
def netlist_checkTwo_R (E : World) (Γ : List HP) (res : Int) (v : Value) (w : World) : Prop := v = (vi res) ∧ Holds E w Γ
def netlist_checkTwo_K (E : World) (Γ : List HP) (r : Int) (σ : Nat → Value) (w : World) : Prop := finQ Tryd.prog 17 Tryd.f65 (netlist_checkTwo_R E Γ r) .ret σ w
theorem netlist_checkTwo_ok (N : Nat) {E w : World} {Γ : List HP} {i0 : Nat} {v0 : Value} {p0 : (List PartType)} {i1 : Nat} {v1 : Value} {p1 : Netlist} {i2 : Nat} {v2 : Value} {p2 : Netlist} {res : Int} (hw : Holds E w Γ) (h0 : Γ[i0]? = some (rd v0 p0)) (h1 : Γ[i1]? = some (rd v1 p1)) (h2 : Γ[i2]? = some (rd v2 p2)) (hb : netlist_checkTwo N p0 p1 p2 = some res) :
    Calls Tryd.prog 65 [v0, v1, v2].toArray w (Ret (netlist_checkTwo_R E Γ res)) := by
 unfold netlist_checkTwo at hb
 refine enter Tryd.func65 rfl rfl (Nat.le_of_ble_eq_true rfl) ?_
 have hw := hw.dup (i := i0 + 0) h0
 have hw := hw.dup (i := i1 + 1) h1
 have hw := hw.dup (i := i2 + 2) h2
 refine RC.sr ?_
 refine RL.box_rd (i := 1) (v := v1) trivial rfl hw rfl rfl fun b1 w hw => ?_
 refine RL.box_rd (i := 1) (v := v2) trivial rfl hw rfl rfl fun b2 w hw => ?_
 refine as_ (vi 0) rfl rfl ?_
 refine RL.nq ?_
 refine RC.sr ?_
 refine mv v0 rfl rfl ?_
 refine RL.load_bf (i := 1) (f := (fun x => x)) trivial rfl hw rfl rfl Fd.self ty26 fun v3 hw => ?_
 obtain ⟨x4, hx4, hb⟩ := bd hb
 refine RL.call trivial rfl fn13 [v0, v3] rfl (Calls_ret (netlist_CheckList_ok N  (i0 := 5) (i1 := 0) hw rfl rfl hx4) ?_)
 rintro _ w ⟨rfl, hw⟩
 refine as_ (vi x4) rfl rfl ?_
 refine RL.ns ?_
 refine mv (vi x4) rfl rfl ?_
 refine ic x4 0 rfl rfl rfl rfl ?_
 refine RL.nt ?_
 refine RC.cond (b := (x4 != 0)) rfl (fun hc => ?_) (fun hc => ?_)
 ·replace hb := cT hc hb
  refine RC.sr ?_
  refine mv (vi x4) rfl rfl ?_
  refine as_ (vi x4) rfl rfl ?_
  refine RL.nt ?_
  refine RC.rt ?_
  obtain rfl := oi hb
  exact fin1 rfl rfl ⟨rfl, hw.drop 6 rfl⟩
 replace hb := cF hc hb
 refine RC.sx ?_
 refine mv v0 rfl rfl ?_
 refine RL.load_bf (i := 1) (f := (fun x => x)) trivial rfl hw rfl rfl Fd.self ty26 fun v5 hw => ?_
 obtain ⟨x6, hx6, hb⟩ := bd hb
 refine RL.call trivial rfl fn13 [v0, v5] rfl (Calls_ret (netlist_CheckList_ok N  (i0 := 6) (i1 := 0) hw rfl rfl hx6) ?_)
 rintro _ w ⟨rfl, hw⟩
 refine as_ (vi x6) rfl rfl ?_
 refine RL.nt ?_
 refine RC.ret ?_
 obtain rfl := oi hb
 exact fin1 rfl rfl ⟨rfl, hw.drop 7 rfl⟩
def netlist_Changes_c1_R (E : World) (Γ : List HP) (b2 : Nat) (res : (List ListChange)) (v : Value) (w : World) : Prop := ∃ u2_0 : Value, v = .tuple #[] ∧ Holds E w (bc 48 b2 [u2_0] :: own 53 u2_0 res :: Γ)
def netlist_Changes_c1_K (E : World) (Γ : List HP) (b2 : Nat) (r : (List ListChange)) (σ : Nat → Value) (w : World) : Prop := finQ Tryd.prog 11 Tryd.f66 (netlist_Changes_c1_R E Γ b2 r) .ret σ w
theorem netlist_Changes_c1_ok (N : Nat) {E w : World} {Γ : List HP} {p0 : Int} {p1 : Str} {b2 : Nat} {v2_0 : Value} {p2_0 : (List ListChange)} {res : (List ListChange)} (hw : Holds E w (bc 48 b2 [v2_0] :: own 53 v2_0 p2_0 :: Γ))  (hb : netlist_Changes_c1 N p0 p1 p2_0 = some res) :
    Calls Tryd.prog 66 [(vi p0), (str p1), (vp b2 0)].toArray w (Ret (netlist_Changes_c1_R E Γ b2 res)) := by
 unfold netlist_Changes_c1 at hb
 refine enter Tryd.func66 rfl rfl (Nat.le_of_ble_eq_true rfl) ?_
 refine RC.region ?_
 refine RL.load_bc (i := 0) (v := v2_0) trivial rfl hw rfl rfl rfl ty48 ?_
 refine mv (vi p0) rfl rfl ?_
 refine mv (str p1) rfl rfl ?_
 have hw := hw.sc (γ := Int) p0
 have hw := hw.sc (γ := Str) p1
 refine RL.build (y := (⟨p0, p1, ⟨[]⟩⟩ : ListChange)) trivial rfl hw [(0, (vi p0)), (1, (str p1))] rfl st53 rfl (fun M hs g => by have h := z_ListChange M; exact Fills.cons (f := fun (x : ListChange) y => { x with Kind := y }) rfl h fs_ListChange_0 (by decide) (g.sat 1 _ rfl).1 fun _ h => Fills.cons (f := fun (x : ListChange) y => { x with Name := y }) rfl h fs_ListChange_1 (by decide) (g.sat 0 _ rfl).1 fun _ h => Fills.nil h) fun v1 hw => ?_
 refine RL.bslice (l := ([(⟨p0, p1, ⟨[]⟩⟩ : ListChange)] : (List ListChange))) trivial rfl hw [v1] rfl rfl rfl sl48 ze53 (fun M hs g => ⟨(g.sat 0 _ rfl).1, trivial⟩) fun v2 w hw => ?_
 have hw := hw.freeze (i := 0) rfl
 obtain ⟨x3, hx3, hb⟩ := bd hb
 refine RL.app (i := 5) (j := 0) trivial rfl hw rfl rfl rfl rfl el48 hx3 fun v4 w hw => ?_
 refine RL.store_bc (i := 4) (v := v4) trivial hw rfl rfl rfl rfl (one_own hw (i := 5) rfl) ty48 fun w hw => ?_
 refine RL.nil ?_
 obtain rfl := oi hb
 refine fin_n ?_
 exact fin0 rfl ⟨v4, rfl, hw.pick 6 [4, 5] (new := [bc 48 b2 [v4], own 53 v4 x3]) rfl rfl (by decide) (by decide)⟩
def netlist_Changes_R (E : World) (Γ : List HP) (res : (List ListChange) × Int) (v : Value) (w : World) : Prop := ∃ u0 : Value, v = .tuple #[u0, (vi res.2)] ∧ Holds E w (own 53 u0 res.1 :: Γ)
def netlist_Changes_K (E : World) (Γ : List HP) (r : (List ListChange) × Int) (σ : Nat → Value) (w : World) : Prop := finQ Tryd.prog 156 Tryd.f25 (netlist_Changes_R E Γ r) .ret σ w
theorem netlist_Changes_ok (N : Nat) {E w : World} {Γ : List HP} {i0 : Nat} {v0 : Value} {p0 : (List PartType)} {i1 : Nat} {v1 : Value} {p1 : Netlist} {i2 : Nat} {v2 : Value} {p2 : Netlist} {res : (List ListChange) × Int} (hw : Holds E w Γ) (h0 : Γ[i0]? = some (rd v0 p0)) (h1 : Γ[i1]? = some (rd v1 p1)) (h2 : Γ[i2]? = some (rd v2 p2)) (hb : netlist_Changes N p0 p1 p2 = some res) :
    Calls Tryd.prog 25 [v0, v1, v2].toArray w (Ret (netlist_Changes_R E Γ res)) := by
 unfold netlist_Changes at hb
 refine enter Tryd.func25 rfl rfl (Nat.le_of_ble_eq_true rfl) ?_
 have hw := hw.dup (i := i0 + 0) h0
 have hw := hw.dup (i := i1 + 1) h1
 have hw := hw.dup (i := i2 + 2) h2
 refine RC.sr ?_
 refine RL.box_rd (i := 1) (v := v1) trivial rfl hw rfl rfl fun b1 w hw => ?_
 refine RL.box_rd (i := 1) (v := v2) trivial rfl hw rfl rfl fun b2 w hw => ?_
 refine as_ (.slice none 0 0) rfl rfl ?_
 refine as_ (vi 0) rfl rfl ?_
 refine RL.nq ?_
 refine RC.sr ?_
 refine mv v0 rfl rfl ?_
 refine RL.load_bf (i := 1) (f := (fun x => x)) trivial rfl hw rfl rfl Fd.self ty26 fun v3 hw => ?_
 refine RL.load_bf (i := 1) (f := (fun x => x)) trivial rfl hw rfl rfl Fd.self ty26 fun v4 hw => ?_
 obtain ⟨x5, hx5, hb⟩ := bd hb
 refine RL.call trivial rfl fn65 [v0, v3, v4] rfl (Calls_ret (netlist_checkTwo_ok N  (i0 := 6) (i1 := 1) (i2 := 0) hw rfl rfl rfl hx5) ?_)
 rintro _ w ⟨rfl, hw⟩
 refine as_ (vi x5) rfl rfl ?_
 refine RL.ns ?_
 refine mv (vi x5) rfl rfl ?_
 refine ic x5 0 rfl rfl rfl rfl ?_
 refine RL.nt ?_
 refine RC.cond (b := (x5 != 0)) rfl (fun hc => ?_) (fun hc => ?_)
 ·replace hb := cT hc hb
  refine RC.sr ?_
  refine mv (vi x5) rfl rfl ?_
  refine as_ (.slice none 0 0) rfl rfl ?_
  refine as_ (vi x5) rfl rfl ?_
  refine RL.nt ?_
  refine RC.rt ?_
  obtain rfl := oi hb
  have hw := hw.own_nil ListChange 53
  exact fin2 rfl rfl rfl ⟨(.slice none 0 0), rfl, hw.pick 8 [0] (new := [own 53 (.slice none 0 0) ([] : (List ListChange))]) rfl rfl (by decide) (by decide)⟩
 replace hb := cF hc hb
 refine RC.sx ?_
 refine RL.alloc_bc trivial rfl hw zc48 rfl fun b6 w hw => ?_
 refine as_ (.slice none 0 0) rfl rfl ?_
 refine RL.ns ?_
 refine RL.makeFunc trivial rfl [(vp b6 0)] rfl ?_
 refine as_ (.func (.func 66) #[] #[(vp b6 0)]) rfl rfl ?_
 refine RL.nq ?_
 obtain ⟨x8, hx8, hb⟩ := bd hb
 obtain ⟨x11, hx11, hb⟩ := bd hb
 refine RC.drw mixed rfl (fun (D : Nat → Bool) (σ : Nat → Value) (w : World) => ∃ (v7 : Value) (v9 : Value) (v10 : Value) (v12 : Value), doneV D σ [(0, 35, v7), (1, 36, v9), (2, 37, v10), (3, 38, v12), (4, 12, v9), (5, 13, v12)] ∧ agree σ [(0, v0), (4, (vp b1 0)), (5, (vp b2 0)), (9, (vp b6 0)), (10, (.slice none 0 0)), (11, (.func (.func 66) #[] #[(vp b6 0)]))] ∧ Holds E w ([bif D 0 then (rd v7 p1) else junk, bif D 1 then (mp v9 x8) else junk, bif D 2 then (rd v10 p2) else junk, bif D 3 then (mp v12 x11) else junk, bc 48 b6 [(.slice none 0 0)], rd v4 p2, rd v3 p1, bx 26 b2 p2, bx 26 b1 p1, rd v2 p2, rd v1 p1, rd v0 p0] ++ Γ)) ?_ ⟨?_, ?_, ?_, ?_, ?_, ?_, trivial⟩ ?_
 ·have hw := hw.drew
  have hw := hw.junk
  have hw := hw.junk
  have hw := hw.junk
  have hw := hw.junk
  exact ⟨undef, undef, undef, undef, doneV.none, ⟨rfl, rfl, rfl, rfl, rfl, rfl, trivial⟩, hw⟩
 ·rintro D σ w hD hdep hcl ⟨v7, v9, v10, v12, hv, ha, hw⟩
  obtain ⟨τ, rfl⟩ := (ac (ha.at 1 rfl) az).ups
  have hw := hw.selF (i := 0) rfl hD
  refine RL.load_bf (i := 8) (f := (fun x => x)) trivial rfl hw rfl rfl Fd.self ty26 fun v13 hw => ?_
  have hw := hw.pick 13 [0, 2, 3, 4, 5, 6, 7, 8, 9, 10, 11, 12] (new := [rd v13 p1, bif D 1 then (mp v9 x8) else junk, bif D 2 then (rd v10 p2) else junk, bif D 3 then (mp v12 x11) else junk, bc 48 b6 [(.slice none 0 0)], rd v4 p2, rd v3 p1, bx 26 b2 p2, bx 26 b1 p1, rd v2 p2, rd v1 p1, rd v0 p0]) rfl rfl (by decide) (by decide)
  have hw := hw.altT (i := 0) (b := true) rfl rfl (junk)
  refine RL.nil ?_
  exact ⟨rfl, v13, v9, v10, v12, hv.put 0 rfl rfl, ha.up rfl, hw⟩
 ·rintro D σ w hD hdep hcl ⟨v7, v9, v10, v12, hv, ha, hw⟩
  obtain ⟨τ, rfl⟩ := (ac (hv.at 0 rfl (hdep.1 rfl)) az).ups
  have hw := hw.selT (i := 0) rfl (hdep.1 rfl)
  have hw := hw.selF (i := 1) rfl hD
  refine RL.call trivial rfl fn37 [v7] rfl (Calls_ret (netlist_Nets_ok N  (i0 := 0) hw rfl hx8) ?_)
  rintro v14 w hw
  have hw := hw.pick 13 [1, 0, 3, 4, 5, 6, 7, 8, 9, 10, 11, 12] (new := [rd v7 p1, mp v14 x8, bif D 2 then (rd v10 p2) else junk, bif D 3 then (mp v12 x11) else junk, bc 48 b6 [(.slice none 0 0)], rd v4 p2, rd v3 p1, bx 26 b2 p2, bx 26 b1 p1, rd v2 p2, rd v1 p1, rd v0 p0]) rfl rfl (by decide) (by decide)
  have hw := hw.altT (i := 0) (b := D 0) rfl (hdep.1 rfl) (junk)
  have hw := hw.altT (i := 1) (b := true) rfl rfl (junk)
  have hv := hv.re 4 rfl (v' := v14) (fun h => ft hD ((hcl 4 _ rfl h).1 rfl))
  refine RL.nil ?_
  exact ⟨rfl, v7, v14, v10, v12, hv.put 1 rfl rfl, ha.up rfl, hw⟩
 ·rintro D σ w hD hdep hcl ⟨v7, v9, v10, v12, hv, ha, hw⟩
  obtain ⟨τ, rfl⟩ := (ac (ha.at 2 rfl) az).ups
  have hw := hw.selF (i := 2) rfl hD
  refine RL.load_bf (i := 7) (f := (fun x => x)) trivial rfl hw rfl rfl Fd.self ty26 fun v15 hw => ?_
  have hw := hw.pick 13 [1, 2, 0, 4, 5, 6, 7, 8, 9, 10, 11, 12] (new := [bif D 0 then (rd v7 p1) else junk, bif D 1 then (mp v9 x8) else junk, rd v15 p2, bif D 3 then (mp v12 x11) else junk, bc 48 b6 [(.slice none 0 0)], rd v4 p2, rd v3 p1, bx 26 b2 p2, bx 26 b1 p1, rd v2 p2, rd v1 p1, rd v0 p0]) rfl rfl (by decide) (by decide)
  have hw := hw.altT (i := 2) (b := true) rfl rfl (junk)
  refine RL.nil ?_
  exact ⟨rfl, v7, v9, v15, v12, hv.put 2 rfl rfl, ha.up rfl, hw⟩
 ·rintro D σ w hD hdep hcl ⟨v7, v9, v10, v12, hv, ha, hw⟩
  obtain ⟨τ, rfl⟩ := (ac (hv.at 2 rfl (hdep.1 rfl)) az).ups
  have hw := hw.selT (i := 2) rfl (hdep.1 rfl)
  have hw := hw.selF (i := 3) rfl hD
  refine RL.call trivial rfl fn37 [v10] rfl (Calls_ret (netlist_Nets_ok N  (i0 := 2) hw rfl hx11) ?_)
  rintro v16 w hw
  have hw := hw.pick 13 [1, 2, 3, 0, 5, 6, 7, 8, 9, 10, 11, 12] (new := [bif D 0 then (rd v7 p1) else junk, bif D 1 then (mp v9 x8) else junk, rd v10 p2, mp v16 x11, bc 48 b6 [(.slice none 0 0)], rd v4 p2, rd v3 p1, bx 26 b2 p2, bx 26 b1 p1, rd v2 p2, rd v1 p1, rd v0 p0]) rfl rfl (by decide) (by decide)
  have hw := hw.altT (i := 2) (b := D 2) rfl (hdep.1 rfl) (junk)
  have hw := hw.altT (i := 3) (b := true) rfl rfl (junk)
  have hv := hv.re 5 rfl (v' := v16) (fun h => ft hD ((hcl 5 _ rfl h).1 rfl))
  refine RL.nil ?_
  exact ⟨rfl, v7, v9, v10, v16, hv.put 3 rfl rfl, ha.up rfl, hw⟩
 ·rintro D σ w hD hdep hcl ⟨v7, v9, v10, v12, hv, ha, hw⟩
  obtain ⟨τ, rfl⟩ := (ac (hv.at 1 rfl (hdep.1 rfl)) az).ups
  refine as_ v9 rfl rfl ?_
  refine RL.nil ?_
  exact ⟨rfl, v7, v9, v10, v12, hv.put 4 rfl rfl, ha.up rfl, hw⟩
 ·rintro D σ w hD hdep hcl ⟨v7, v9, v10, v12, hv, ha, hw⟩
  obtain ⟨τ, rfl⟩ := (ac (hv.at 3 rfl (hdep.1 rfl)) az).ups
  refine as_ v12 rfl rfl ?_
  refine RL.nil ?_
  exact ⟨rfl, v7, v9, v10, v12, hv.put 5 rfl rfl, ha.up rfl, hw⟩
 rintro D σ w hall ⟨v7, v9, v10, v12, hv, ha, hw⟩
 rw [hall 0 (by decide), hall 1 (by decide), hall 2 (by decide), hall 3 (by decide)] at hw
 obtain ⟨τ, rfl⟩ := (ac (hv.at 4 rfl (hall 4 (by decide))) (ac (hv.at 5 rfl (hall 5 (by decide))) (ac (ha.at 0 rfl) (ac (ha.at 1 rfl) (ac (ha.at 2 rfl) (ac (ha.at 3 rfl) (ac (ha.at 4 rfl) (ac (ha.at 5 rfl) az)))))))).ups
 refine thenQ_n ?_
 refine RC.seq ?_
 refine RC.sr ?_
 refine RL.fa_b trivial rfl rfl fa26_0 ?_
 refine RL.load_bf (i := 7) (f := (fun x => x.Parts)) trivial rfl hw rfl rfl fd_Netlist_0 ty23 fun v17 hw => ?_
 refine RL.len_rd (i := 0) (l := p2.Parts) trivial rfl hw rfl rfl un23 ?_
 refine mv (vi 0) rfl rfl ?_
 refine RL.nt ?_
 obtain ⟨s19, hN, hb⟩ := bd hb
 refine RC.fold (fun (k18 : Nat) (s19 : (List ListChange)) (σ : Nat → Value) (w : World) => ∃ v46 : Value, agree σ [(0, v0), (4, (vp b1 0)), (5, (vp b2 0)), (9, (vp b6 0)), (10, (.slice none 0 0)), (11, (.func (.func 66) #[] #[(vp b6 0)])), (12, v9), (13, v12), (40, v17), (41, (vi (p2.Parts.length : Int))), (42, (vi (k18 : Int)))] ∧ Holds E w ([rd v0 p0, bx 26 b1 p1, bx 26 b2 p2, bc 48 b6 [v46], own 53 v46 s19, mp v9 x8, mp v12 x11, rd v17 p2.Parts] ++ Γ)) (fun (s19 : (List ListChange)) (σ : Nat → Value) (w : World) => ∃ v47 : Value, agree σ [(0, v0), (4, (vp b1 0)), (5, (vp b2 0)), (9, (vp b6 0)), (10, (.slice none 0 0)), (11, (.func (.func 66) #[] #[(vp b6 0)])), (12, v9), (13, v12)] ∧ Holds E w ([rd v0 p0, bx 26 b1 p1, bx 26 b2 p2, bc 48 b6 [v47], own 53 v47 s19, mp v9 x8, mp v12 x11, rd v17 p2.Parts] ++ Γ)) hN ?_ ?_ ?_ ?_
 ·have hw := hw.own_nil ListChange 53
  exact ⟨(.slice none 0 0), ⟨rfl, rfl, rfl, rfl, rfl, rfl, rfl, rfl, rfl, rfl, rfl, trivial⟩, hw.pick 14 [13, 10, 9, 6, 0, 3, 5, 1] (new := [rd v0 p0, bx 26 b1 p1, bx 26 b2 p2, bc 48 b6 [(.slice none 0 0)], own 53 (.slice none 0 0) ([] : (List ListChange)), mp v9 x8, mp v12 x11, rd v17 p2.Parts]) rfl rfl (by decide) (by decide)⟩
 ·intro hm s19 σ w hI
  obtain ⟨v61, ha, hw⟩ := hI
  obtain ⟨τ, rfl⟩ := ha.ups
  refine RC.sr ?_
  refine ic ((p2.Parts.length : Int)) ((p2.Parts.length : Int)) rfl rfl rfl rfl ?_
  refine RL.nq ?_
  refine RC.cond_f dge ?_
  refine RC.ex ?_
  exact ⟨rfl, v61, ⟨rfl, rfl, rfl, rfl, rfl, rfl, rfl, rfl, trivial⟩, hw.pick 8 [0, 1, 2, 3, 4, 5, 6, 7] (new := [rd v0 p0, bx 26 b1 p1, bx 26 b2 p2, bc 48 b6 [v61], own 53 v61 s19, mp v9 x8, mp v12 x11, rd v17 p2.Parts]) rfl rfl (by decide) (by decide)⟩
 ·intro hm k18 s19 s' σ w hk hI hb
  obtain ⟨v48, ha, hw⟩ := hI
  obtain ⟨τ, rfl⟩ := ha.ups
  refine RC.sr ?_
  refine ic ((k18 : Int)) ((p2.Parts.length : Int)) rfl rfl rfl rfl ?_
  refine RL.nq ?_
  refine RC.cond_t (dlt hk) ?_
  refine RC.ss ?_
  refine RC.bs ?_
  obtain ⟨x49, hx49, hb⟩ := bd hb
  refine RL.ia_rd (i := 7) trivial rfl hw rfl rfl rfl sl23 hx49 fun v50 hw => ?_
  refine RL.load_pt (i := 0) (x := x49) trivial rfl hw rfl rfl ty87 fun v51 hw => ?_
  refine RL.alloc trivial rfl hw ze87.z fun b52 w hw => ?_
  refine RL.store_raw (i := 0) (j := 1) trivial hw rfl rfl rfl rfl ty87 rfl fun w hw => ?_
  refine RL.ns ?_
  refine RL.fa_b trivial rfl rfl fa26_0 ?_
  refine RL.load_bf (i := 4) (f := (fun x => x.Parts)) trivial rfl hw rfl rfl fd_Netlist_0 ty23 fun v53 hw => ?_
  refine RL.fa_b trivial rfl rfl fa87_0 ?_
  refine RL.load_bfs (i := 1) (f := (fun x => x.Name)) trivial rfl hw rfl rfl fd_Part_0 ty9 ?_
  obtain ⟨x54, hx54, hb⟩ := bd hb
  refine RL.call trivial rfl fn51 [v53, (str x49.Name)] rfl (Calls_ret (netlist_partAt_ok N (p1 := x49.Name) (i0 := 0) hw rfl hx54) ?_)
  rintro _ w ⟨rfl, hw⟩
  refine ic x54 0 rfl rfl rfl rfl ?_
  refine RL.nt ?_
  obtain ⟨s57, hj, hb⟩ := bd hb
  refine RC.jn (fun (s57 : (List ListChange)) (σ : Nat → Value) (w : World) => ∃ v58 : Value, agree σ [(0, v0), (4, (vp b1 0)), (5, (vp b2 0)), (9, (vp b6 0)), (10, (.slice none 0 0)), (11, (.func (.func 66) #[] #[(vp b6 0)])), (12, v9), (13, v12), (40, v17), (41, (vi (p2.Parts.length : Int))), (42, (vi (k18 : Int)))] ∧ Holds E w ([rd v0 p0, bx 26 b1 p1, bx 26 b2 p2, bc 48 b6 [v58], own 53 v58 s57, mp v9 x8, mp v12 x11, rd v17 p2.Parts] ++ Γ)) s57 ?_ ?_
  ·refine RC.cond (b := (decide (x54 < 0))) rfl (fun hc => ?_) (fun hc => ?_)
   rotate_left
   ·replace hj := cF hc hj
    refine RC.skip ?_
    obtain rfl := oi hj
    exact ⟨rfl, v48, ⟨rfl, rfl, rfl, rfl, rfl, rfl, rfl, rfl, rfl, rfl, rfl, trivial⟩, hw.pick 12 [4, 5, 6, 7, 8, 9, 10, 11] (new := [rd v0 p0, bx 26 b1 p1, bx 26 b2 p2, bc 48 b6 [v48], own 53 v48 s19, mp v9 x8, mp v12 x11, rd v17 p2.Parts]) rfl rfl (by decide) (by decide)⟩
   replace hj := cT hc hj
   refine RC.region ?_
   refine mv (.func (.func 66) #[] #[(vp b6 0)]) rfl rfl ?_
   refine RL.fa_b trivial rfl rfl fa87_0 ?_
   refine RL.load_bfs (i := 1) (f := (fun x => x.Name)) trivial rfl hw rfl rfl fd_Part_0 ty9 ?_
   have hw := hw.pull (i := 8) rfl
   have hw := hw.pull (i := 8) rfl
   obtain ⟨x59, hx59, hj⟩ := bd hj
   refine RL.callv (cap := [(vp b6 0)]) trivial rfl fn66 rfl [(vi 1), (str x49.Name)] rfl (Calls_ret (netlist_Changes_c1_ok N (p0 := 1) (p1 := x49.Name)  hw  hx59) ?_)
   rintro _ w ⟨v60, rfl, hw⟩
   refine RL.nil ?_
   obtain rfl := oi hj
   exact ⟨rfl, v60, ⟨rfl, rfl, rfl, rfl, rfl, rfl, rfl, rfl, rfl, rfl, rfl, trivial⟩, hw.pick 14 [6, 7, 8, 0, 1, 11, 12, 13] (new := [rd v0 p0, bx 26 b1 p1, bx 26 b2 p2, bc 48 b6 [v60], own 53 v60 x59, mp v9 x8, mp v12 x11, rd v17 p2.Parts]) rfl rfl (by decide) (by decide)⟩
  rintro σ w ⟨v58, ha, hw⟩
  obtain ⟨τ, rfl⟩ := ha.ups
  refine blkQ_n ?_
  refine thenQ_n ?_
  refine RC.region ?_
  refine RL.inc trivial rfl hk hm rfl rfl ?_
  refine mv (vi ((k18 + 1 : Nat) : Int)) rfl rfl ?_
  refine RL.nil ?_
  obtain rfl := oi hb
  exact ⟨rfl, v58, ⟨rfl, rfl, rfl, rfl, rfl, rfl, rfl, rfl, rfl, rfl, rfl, trivial⟩, hw.pick 8 [0, 1, 2, 3, 4, 5, 6, 7] (new := [rd v0 p0, bx 26 b1 p1, bx 26 b2 p2, bc 48 b6 [v58], own 53 v58 s57, mp v9 x8, mp v12 x11, rd v17 p2.Parts]) rfl rfl (by decide) (by decide)⟩
 intro σ w hJ
 obtain ⟨v47, ha, hw⟩ := hJ
 obtain ⟨τ, rfl⟩ := ha.ups
 refine thenQ_n ?_
 refine RC.seq ?_
 refine RC.sr ?_
 refine RL.fa_b trivial rfl rfl fa26_0 ?_
 refine RL.load_bf (i := 1) (f := (fun x => x.Parts)) trivial rfl hw rfl rfl fd_Netlist_0 ty23 fun v62 hw => ?_
 refine RL.len_rd (i := 0) (l := p1.Parts) trivial rfl hw rfl rfl un23 ?_
 refine mv (vi 0) rfl rfl ?_
 refine RL.nt ?_
 obtain ⟨s64, hN, hb⟩ := bd hb
 refine RC.fold (fun (k63 : Nat) (s64 : (List ListChange)) (σ : Nat → Value) (w : World) => ∃ v91 : Value, agree σ [(0, v0), (4, (vp b1 0)), (5, (vp b2 0)), (9, (vp b6 0)), (10, (.slice none 0 0)), (11, (.func (.func 66) #[] #[(vp b6 0)])), (12, v9), (13, v12), (58, v62), (59, (vi (p1.Parts.length : Int))), (60, (vi (k63 : Int)))] ∧ Holds E w ([rd v0 p0, bx 26 b1 p1, bx 26 b2 p2, bc 48 b6 [v91], own 53 v91 s64, mp v9 x8, mp v12 x11, rd v62 p1.Parts] ++ Γ)) (fun (s64 : (List ListChange)) (σ : Nat → Value) (w : World) => ∃ v92 : Value, agree σ [(0, v0), (4, (vp b1 0)), (5, (vp b2 0)), (9, (vp b6 0)), (10, (.slice none 0 0)), (11, (.func (.func 66) #[] #[(vp b6 0)])), (12, v9), (13, v12)] ∧ Holds E w ([rd v0 p0, bx 26 b1 p1, bx 26 b2 p2, bc 48 b6 [v92], own 53 v92 s64, mp v9 x8, mp v12 x11, rd v62 p1.Parts] ++ Γ)) hN ?_ ?_ ?_ ?_
 ·exact ⟨v47, ⟨rfl, rfl, rfl, rfl, rfl, rfl, rfl, rfl, rfl, rfl, rfl, trivial⟩, hw.pick 9 [1, 2, 3, 4, 5, 6, 7, 0] (new := [rd v0 p0, bx 26 b1 p1, bx 26 b2 p2, bc 48 b6 [v47], own 53 v47 s19, mp v9 x8, mp v12 x11, rd v62 p1.Parts]) rfl rfl (by decide) (by decide)⟩
 ·intro hm s64 σ w hI
  obtain ⟨v106, ha, hw⟩ := hI
  obtain ⟨τ, rfl⟩ := ha.ups
  refine RC.sr ?_
  refine ic ((p1.Parts.length : Int)) ((p1.Parts.length : Int)) rfl rfl rfl rfl ?_
  refine RL.nq ?_
  refine RC.cond_f dge ?_
  refine RC.ex ?_
  exact ⟨rfl, v106, ⟨rfl, rfl, rfl, rfl, rfl, rfl, rfl, rfl, trivial⟩, hw.pick 8 [0, 1, 2, 3, 4, 5, 6, 7] (new := [rd v0 p0, bx 26 b1 p1, bx 26 b2 p2, bc 48 b6 [v106], own 53 v106 s64, mp v9 x8, mp v12 x11, rd v62 p1.Parts]) rfl rfl (by decide) (by decide)⟩
 ·intro hm k63 s64 s' σ w hk hI hb
  obtain ⟨v93, ha, hw⟩ := hI
  obtain ⟨τ, rfl⟩ := ha.ups
  refine RC.sr ?_
  refine ic ((k63 : Int)) ((p1.Parts.length : Int)) rfl rfl rfl rfl ?_
  refine RL.nq ?_
  refine RC.cond_t (dlt hk) ?_
  refine RC.ss ?_
  refine RC.bs ?_
  obtain ⟨x94, hx94, hb⟩ := bd hb
  refine RL.ia_rd (i := 7) trivial rfl hw rfl rfl rfl sl23 hx94 fun v95 hw => ?_
  refine RL.load_pt (i := 0) (x := x94) trivial rfl hw rfl rfl ty87 fun v96 hw => ?_
  refine RL.alloc trivial rfl hw ze87.z fun b97 w hw => ?_
  refine RL.store_raw (i := 0) (j := 1) trivial hw rfl rfl rfl rfl ty87 rfl fun w hw => ?_
  refine RL.ns ?_
  refine RL.fa_b trivial rfl rfl fa26_0 ?_
  refine RL.load_bf (i := 5) (f := (fun x => x.Parts)) trivial rfl hw rfl rfl fd_Netlist_0 ty23 fun v98 hw => ?_
  refine RL.fa_b trivial rfl rfl fa87_0 ?_
  refine RL.load_bfs (i := 1) (f := (fun x => x.Name)) trivial rfl hw rfl rfl fd_Part_0 ty9 ?_
  obtain ⟨x99, hx99, hb⟩ := bd hb
  refine RL.call trivial rfl fn51 [v98, (str x94.Name)] rfl (Calls_ret (netlist_partAt_ok N (p1 := x94.Name) (i0 := 0) hw rfl hx99) ?_)
  rintro _ w ⟨rfl, hw⟩
  refine ic x99 0 rfl rfl rfl rfl ?_
  refine RL.nt ?_
  obtain ⟨s102, hj, hb⟩ := bd hb
  refine RC.jn (fun (s102 : (List ListChange)) (σ : Nat → Value) (w : World) => ∃ v103 : Value, agree σ [(0, v0), (4, (vp b1 0)), (5, (vp b2 0)), (9, (vp b6 0)), (10, (.slice none 0 0)), (11, (.func (.func 66) #[] #[(vp b6 0)])), (12, v9), (13, v12), (58, v62), (59, (vi (p1.Parts.length : Int))), (60, (vi (k63 : Int)))] ∧ Holds E w ([rd v0 p0, bx 26 b1 p1, bx 26 b2 p2, bc 48 b6 [v103], own 53 v103 s102, mp v9 x8, mp v12 x11, rd v62 p1.Parts] ++ Γ)) s102 ?_ ?_
  ·refine RC.cond (b := (decide (x99 < 0))) rfl (fun hc => ?_) (fun hc => ?_)
   rotate_left
   ·replace hj := cF hc hj
    refine RC.skip ?_
    obtain rfl := oi hj
    exact ⟨rfl, v93, ⟨rfl, rfl, rfl, rfl, rfl, rfl, rfl, rfl, rfl, rfl, rfl, trivial⟩, hw.pick 12 [4, 5, 6, 7, 8, 9, 10, 11] (new := [rd v0 p0, bx 26 b1 p1, bx 26 b2 p2, bc 48 b6 [v93], own 53 v93 s64, mp v9 x8, mp v12 x11, rd v62 p1.Parts]) rfl rfl (by decide) (by decide)⟩
   replace hj := cT hc hj
   refine RC.region ?_
   refine mv (.func (.func 66) #[] #[(vp b6 0)]) rfl rfl ?_
   refine RL.fa_b trivial rfl rfl fa87_0 ?_
   refine RL.load_bfs (i := 1) (f := (fun x => x.Name)) trivial rfl hw rfl rfl fd_Part_0 ty9 ?_
   have hw := hw.pull (i := 8) rfl
   have hw := hw.pull (i := 8) rfl
   obtain ⟨x104, hx104, hj⟩ := bd hj
   refine RL.callv (cap := [(vp b6 0)]) trivial rfl fn66 rfl [(vi 2), (str x94.Name)] rfl (Calls_ret (netlist_Changes_c1_ok N (p0 := 2) (p1 := x94.Name)  hw  hx104) ?_)
   rintro _ w ⟨v105, rfl, hw⟩
   refine RL.nil ?_
   obtain rfl := oi hj
   exact ⟨rfl, v105, ⟨rfl, rfl, rfl, rfl, rfl, rfl, rfl, rfl, rfl, rfl, rfl, trivial⟩, hw.pick 14 [6, 7, 8, 0, 1, 11, 12, 13] (new := [rd v0 p0, bx 26 b1 p1, bx 26 b2 p2, bc 48 b6 [v105], own 53 v105 x104, mp v9 x8, mp v12 x11, rd v62 p1.Parts]) rfl rfl (by decide) (by decide)⟩
  rintro σ w ⟨v103, ha, hw⟩
  obtain ⟨τ, rfl⟩ := ha.ups
  refine blkQ_n ?_
  refine thenQ_n ?_
  refine RC.region ?_
  refine RL.inc trivial rfl hk hm rfl rfl ?_
  refine mv (vi ((k63 + 1 : Nat) : Int)) rfl rfl ?_
  refine RL.nil ?_
  obtain rfl := oi hb
  exact ⟨rfl, v103, ⟨rfl, rfl, rfl, rfl, rfl, rfl, rfl, rfl, rfl, rfl, rfl, trivial⟩, hw.pick 8 [0, 1, 2, 3, 4, 5, 6, 7] (new := [rd v0 p0, bx 26 b1 p1, bx 26 b2 p2, bc 48 b6 [v103], own 53 v103 s102, mp v9 x8, mp v12 x11, rd v62 p1.Parts]) rfl rfl (by decide) (by decide)⟩
 intro σ w hJ
 obtain ⟨v92, ha, hw⟩ := hJ
 obtain ⟨τ, rfl⟩ := ha.ups
 refine thenQ_n ?_
 refine RC.seq ?_
 refine RC.sr ?_
 refine RL.fa_b trivial rfl rfl fa26_0 ?_
 refine RL.load_bf (i := 1) (f := (fun x => x.Parts)) trivial rfl hw rfl rfl fd_Netlist_0 ty23 fun v107 hw => ?_
 refine RL.len_rd (i := 0) (l := p1.Parts) trivial rfl hw rfl rfl un23 ?_
 refine mv (vi 0) rfl rfl ?_
 refine RL.nt ?_
 obtain ⟨s109, hN, hb⟩ := bd hb
 refine RC.fold (fun (k108 : Nat) (s109 : (List ListChange) × (List ListChange)) (σ : Nat → Value) (w : World) => ∃ v460 v461 : Value, agree σ [(0, v0), (4, (vp b1 0)), (5, (vp b2 0)), (9, (vp b6 0)), (10, v461), (11, (.func (.func 66) #[] #[(vp b6 0)])), (12, v9), (13, v12), (76, v107), (77, (vi (p1.Parts.length : Int))), (78, (vi (k108 : Int)))] ∧ Holds E w ([rd v0 p0, bx 26 b1 p1, bx 26 b2 p2, bc 48 b6 [v460], own 53 v460 s109.1, mp v9 x8, mp v12 x11, rd v107 p1.Parts, own 53 v461 s109.2] ++ Γ)) (fun (s109 : (List ListChange) × (List ListChange)) (σ : Nat → Value) (w : World) => ∃ v462 v463 : Value, agree σ [(9, (vp b6 0)), (10, v463)] ∧ Holds E w ([rd v0 p0, bx 26 b1 p1, bx 26 b2 p2, bc 48 b6 [v462], own 53 v462 s109.1, mp v9 x8, mp v12 x11, rd v107 p1.Parts, own 53 v463 s109.2] ++ Γ)) hN ?_ ?_ ?_ ?_
 ·have hw := hw.own_nil ListChange 53
  exact ⟨v92, (.slice none 0 0), ⟨rfl, rfl, rfl, rfl, rfl, rfl, rfl, rfl, rfl, rfl, rfl, trivial⟩, hw.pick 10 [2, 3, 4, 5, 6, 7, 8, 1, 0] (new := [rd v0 p0, bx 26 b1 p1, bx 26 b2 p2, bc 48 b6 [v92], own 53 v92 s64, mp v9 x8, mp v12 x11, rd v107 p1.Parts, own 53 (.slice none 0 0) ([] : (List ListChange))]) rfl rfl (by decide) (by decide)⟩
 ·intro hm s109 σ w hI
  obtain ⟨v639, v640, ha, hw⟩ := hI
  obtain ⟨τ, rfl⟩ := ha.ups
  refine RC.sr ?_
  refine ic ((p1.Parts.length : Int)) ((p1.Parts.length : Int)) rfl rfl rfl rfl ?_
  refine RL.nq ?_
  refine RC.cond_f dge ?_
  refine RC.ex ?_
  exact ⟨rfl, v639, v640, ⟨rfl, rfl, trivial⟩, hw.pick 9 [0, 1, 2, 3, 4, 5, 6, 7, 8] (new := [rd v0 p0, bx 26 b1 p1, bx 26 b2 p2, bc 48 b6 [v639], own 53 v639 s109.1, mp v9 x8, mp v12 x11, rd v107 p1.Parts, own 53 v640 s109.2]) rfl rfl (by decide) (by decide)⟩
 ·intro hm k108 s109 s' σ w hk hI hb
  obtain ⟨v464, v465, ha, hw⟩ := hI
  obtain ⟨τ, rfl⟩ := ha.ups
  refine RC.sr ?_
  refine ic ((k108 : Int)) ((p1.Parts.length : Int)) rfl rfl rfl rfl ?_
  refine RL.nq ?_
  refine RC.cond_t (dlt hk) ?_
  refine RC.ss ?_
  refine RC.bs ?_
  obtain ⟨x466, hx466, hb⟩ := bd hb
  refine RL.ia_rd (i := 7) trivial rfl hw rfl rfl rfl sl23 hx466 fun v467 hw => ?_
  refine RL.load_pt (i := 0) (x := x466) trivial rfl hw rfl rfl ty87 fun v468 hw => ?_
  refine RL.alloc trivial rfl hw ze87.z fun b469 w hw => ?_
  refine RL.store_raw (i := 0) (j := 1) trivial hw rfl rfl rfl rfl ty87 rfl fun w hw => ?_
  refine RL.ns ?_
  refine RL.fa_b trivial rfl rfl fa26_0 ?_
  refine RL.load_bf (i := 5) (f := (fun x => x.Parts)) trivial rfl hw rfl rfl fd_Netlist_0 ty23 fun v470 hw => ?_
  refine RL.fa_b trivial rfl rfl fa87_0 ?_
  refine RL.load_bfs (i := 1) (f := (fun x => x.Name)) trivial rfl hw rfl rfl fd_Part_0 ty9 ?_
  obtain ⟨x471, hx471, hb⟩ := bd hb
  refine RL.call trivial rfl fn51 [v470, (str x466.Name)] rfl (Calls_ret (netlist_partAt_ok N (p1 := x466.Name) (i0 := 0) hw rfl hx471) ?_)
  rintro _ w ⟨rfl, hw⟩
  refine as_ (vi x471) rfl rfl ?_
  refine RL.nq ?_
  refine RC.sr ?_
  refine mv (vi x471) rfl rfl ?_
  refine ic x471 0 rfl rfl rfl rfl ?_
  refine RL.nt ?_
  refine RC.cond (b := (decide (x471 < 0))) rfl (fun hc => ?_) (fun hc => ?_)
  ·replace hb := cT hc hb
   refine RC.ex ?_
   refine blkQ_e ?_
   refine thenQ_n ?_
   refine RC.region ?_
   refine RL.inc trivial rfl hk hm rfl rfl ?_
   refine mv (vi ((k108 + 1 : Nat) : Int)) rfl rfl ?_
   refine RL.nil ?_
   obtain rfl := oi hb
   exact ⟨rfl, v464, v465, ⟨rfl, rfl, rfl, rfl, rfl, rfl, rfl, rfl, rfl, rfl, rfl, trivial⟩, hw.pick 13 [4, 5, 6, 7, 8, 9, 10, 11, 12] (new := [rd v0 p0, bx 26 b1 p1, bx 26 b2 p2, bc 48 b6 [v464], own 53 v464 s109.1, mp v9 x8, mp v12 x11, rd v107 p1.Parts, own 53 v465 s109.2]) rfl rfl (by decide) (by decide)⟩
  replace hb := cF hc hb
  refine RC.ss ?_
  refine RC.seq ?_
  obtain ⟨x473, hx473, hb⟩ := bd hb
  refine RC.drw mixed rfl (fun (D : Nat → Bool) (σ : Nat → Value) (w : World) => ∃ (v472 : Value) (v474 : Value) (v475 : Value), doneV D σ [(0, 89, (vp b2 0)), (1, 90, v472), (2, 91, (vi x471)), (3, 92, v474), (4, 93, v475), (5, 94, (str x473.Type_)), (6, 95, (vp b469 1)), (7, 96, (str x466.Type_)), (8, 97, (vb (!x473.Type_.eqb x466.Type_)))] ∧ agree σ [(0, v0), (4, (vp b1 0)), (5, (vp b2 0)), (9, (vp b6 0)), (10, v465), (11, (.func (.func 66) #[] #[(vp b6 0)])), (12, v9), (13, v12), (19, (vp b469 0)), (20, (vi x471)), (76, v107), (77, (vi (p1.Parts.length : Int))), (78, (vi (k108 : Int)))] ∧ Holds E w ([bif D 1 then (rd v472 p2.Parts) else junk, bif D 3 then (pt v474 x473) else junk, bif D 4 then (pt v475 x473.Type_) else junk, rd v470 p2.Parts, bx 87 b469 x466, rd v468 x466, pt v467 x466, rd v0 p0, bx 26 b1 p1, bx 26 b2 p2, bc 48 b6 [v464], own 53 v464 s109.1, mp v9 x8, mp v12 x11, rd v107 p1.Parts, own 53 v465 s109.2] ++ Γ)) ?_ ⟨?_, ?_, ?_, ?_, ?_, ?_, ?_, ?_, ?_, trivial⟩ ?_
  ·have hw := hw.drew
   have hw := hw.junk
   have hw := hw.junk
   have hw := hw.junk
   exact ⟨undef, undef, undef, doneV.none, ⟨rfl, rfl, rfl, rfl, rfl, rfl, rfl, rfl, rfl, rfl, rfl, rfl, rfl, trivial⟩, hw⟩
  ·rintro D σ w hD hdep hcl ⟨v472, v474, v475, hv, ha, hw⟩
   obtain ⟨τ, rfl⟩ := (ac (ha.at 2 rfl) az).ups
   refine RL.fa_b trivial rfl rfl fa26_0 ?_
   refine RL.nil ?_
   exact ⟨rfl, v472, v474, v475, hv.put 0 rfl rfl, ha.up rfl, hw⟩
  ·rintro D σ w hD hdep hcl ⟨v472, v474, v475, hv, ha, hw⟩
   obtain ⟨τ, rfl⟩ := (ac (hv.at 0 rfl (hdep.1 rfl)) az).ups
   have hw := hw.selF (i := 0) rfl hD
   refine RL.load_bf (i := 9) (f := (fun x => x.Parts)) trivial rfl hw rfl rfl fd_Netlist_0 ty23 fun v476 hw => ?_
   have hw := hw.pick 17 [0, 2, 3, 4, 5, 6, 7, 8, 9, 10, 11, 12, 13, 14, 15, 16] (new := [rd v476 p2.Parts, bif D 3 then (pt v474 x473) else junk, bif D 4 then (pt v475 x473.Type_) else junk, rd v470 p2.Parts, bx 87 b469 x466, rd v468 x466, pt v467 x466, rd v0 p0, bx 26 b1 p1, bx 26 b2 p2, bc 48 b6 [v464], own 53 v464 s109.1, mp v9 x8, mp v12 x11, rd v107 p1.Parts, own 53 v465 s109.2]) rfl rfl (by decide) (by decide)
   have hw := hw.altT (i := 0) (b := true) rfl rfl (junk)
   refine RL.nil ?_
   exact ⟨rfl, v476, v474, v475, hv.put 1 rfl rfl, ha.up rfl, hw⟩
  ·rintro D σ w hD hdep hcl ⟨v472, v474, v475, hv, ha, hw⟩
   obtain ⟨τ, rfl⟩ := (ac (ha.at 9 rfl) az).ups
   refine mv (vi x471) rfl rfl ?_
   refine RL.nil ?_
   exact ⟨rfl, v472, v474, v475, hv.put 2 rfl rfl, ha.up rfl, hw⟩
  ·rintro D σ w hD hdep hcl ⟨v472, v474, v475, hv, ha, hw⟩
   obtain ⟨τ, rfl⟩ := (ac (hv.at 1 rfl (hdep.1 rfl)) (ac (hv.at 2 rfl (hdep.2.1 rfl)) az)).ups
   have hw := hw.selT (i := 0) rfl (hdep.1 rfl)
   have hw := hw.selF (i := 1) rfl hD
   refine RL.ia_rd (i := 0) trivial rfl hw rfl rfl rfl sl23 hx473 fun v477 hw => ?_
   have hw := hw.pick 17 [1, 0, 3, 4, 5, 6, 7, 8, 9, 10, 11, 12, 13, 14, 15, 16] (new := [rd v472 p2.Parts, pt v477 x473, bif D 4 then (pt v475 x473.Type_) else junk, rd v470 p2.Parts, bx 87 b469 x466, rd v468 x466, pt v467 x466, rd v0 p0, bx 26 b1 p1, bx 26 b2 p2, bc 48 b6 [v464], own 53 v464 s109.1, mp v9 x8, mp v12 x11, rd v107 p1.Parts, own 53 v465 s109.2]) rfl rfl (by decide) (by decide)
   have hw := hw.altT (i := 0) (b := D 1) rfl (hdep.1 rfl) (junk)
   have hw := hw.altT (i := 1) (b := true) rfl rfl (junk)
   refine RL.nil ?_
   exact ⟨rfl, v472, v477, v475, hv.put 3 rfl rfl, ha.up rfl, hw⟩
  ·rintro D σ w hD hdep hcl ⟨v472, v474, v475, hv, ha, hw⟩
   obtain ⟨τ, rfl⟩ := (ac (hv.at 3 rfl (hdep.1 rfl)) az).ups
   have hw := hw.selT (i := 1) rfl (hdep.1 rfl)
   have hw := hw.selF (i := 2) rfl hD
   refine RL.fa_pt (i := 1) (f := fun (x : Part) => x.Type_) trivial rfl hw rfl rfl fa87_1 fd_Part_1 fun v478 hw => ?_
   have hw := hw.pick 17 [1, 2, 0, 4, 5, 6, 7, 8, 9, 10, 11, 12, 13, 14, 15, 16] (new := [bif D 1 then (rd v472 p2.Parts) else junk, pt v474 x473, pt v478 x473.Type_, rd v470 p2.Parts, bx 87 b469 x466, rd v468 x466, pt v467 x466, rd v0 p0, bx 26 b1 p1, bx 26 b2 p2, bc 48 b6 [v464], own 53 v464 s109.1, mp v9 x8, mp v12 x11, rd v107 p1.Parts, own 53 v465 s109.2]) rfl rfl (by decide) (by decide)
   have hw := hw.altT (i := 1) (b := D 3) rfl (hdep.1 rfl) (junk)
   have hw := hw.altT (i := 2) (b := true) rfl rfl (junk)
   refine RL.nil ?_
   exact ⟨rfl, v472, v474, v478, hv.put 4 rfl rfl, ha.up rfl, hw⟩
  ·rintro D σ w hD hdep hcl ⟨v472, v474, v475, hv, ha, hw⟩
   obtain ⟨τ, rfl⟩ := (ac (hv.at 4 rfl (hdep.1 rfl)) az).ups
   have hw := hw.selT (i := 2) rfl (hdep.1 rfl)
   refine RL.load_pts (i := 2) (y := x473.Type_) trivial rfl hw rfl rfl ty9 ?_
   have hw := hw.altT (i := 2) (b := D 4) rfl (hdep.1 rfl) (junk)
   refine RL.nil ?_
   exact ⟨rfl, v472, v474, v475, hv.put 5 rfl rfl, ha.up rfl, hw⟩
  ·rintro D σ w hD hdep hcl ⟨v472, v474, v475, hv, ha, hw⟩
   obtain ⟨τ, rfl⟩ := (ac (ha.at 8 rfl) az).ups
   refine RL.fa_b trivial rfl rfl fa87_1 ?_
   refine RL.nil ?_
   exact ⟨rfl, v472, v474, v475, hv.put 6 rfl rfl, ha.up rfl, hw⟩
  ·rintro D σ w hD hdep hcl ⟨v472, v474, v475, hv, ha, hw⟩
   obtain ⟨τ, rfl⟩ := (ac (hv.at 6 rfl (hdep.1 rfl)) az).ups
   refine RL.load_bfs (i := 4) (f := (fun x => x.Type_)) trivial rfl hw rfl rfl fd_Part_1 ty9 ?_
   refine RL.nil ?_
   exact ⟨rfl, v472, v474, v475, hv.put 7 rfl rfl, ha.up rfl, hw⟩
  ·rintro D σ w hD hdep hcl ⟨v472, v474, v475, hv, ha, hw⟩
   obtain ⟨τ, rfl⟩ := (ac (hv.at 5 rfl (hdep.1 rfl)) (ac (hv.at 7 rfl (hdep.2.1 rfl)) az)).ups
   refine RL.scmp (a := x473.Type_) (b := x466.Type_) trivial rfl rfl rfl rfl ?_
   refine RL.nil ?_
   exact ⟨rfl, v472, v474, v475, hv.put 8 rfl rfl, ha.up rfl, hw⟩
  rintro D σ w hall ⟨v472, v474, v475, hv, ha, hw⟩
  rw [hall 1 (by decide), hall 3 (by decide), hall 4 (by decide)] at hw
  obtain ⟨τ, rfl⟩ := (ac (hv.at 8 rfl (hall 8 (by decide))) (ac (ha.at 0 rfl) (ac (ha.at 1 rfl) (ac (ha.at 2 rfl) (ac (ha.at 3 rfl) (ac (ha.at 4 rfl) (ac (ha.at 5 rfl) (ac (ha.at 6 rfl) (ac (ha.at 7 rfl) (ac (ha.at 8 rfl) (ac (ha.at 9 rfl) (ac (ha.at 10 rfl) (ac (ha.at 11 rfl) (ac (ha.at 12 rfl) az)))))))))))))).ups
  refine thenQ_n ?_
  refine RC.cond (b := (!x473.Type_.eqb x466.Type_)) rfl (fun hc => ?_) (fun hc => ?_)
  ·replace hb := cT hc hb
   refine RC.sr ?_
   refine mv (.func (.func 66) #[] #[(vp b6 0)]) rfl rfl ?_
   refine RL.fa_b trivial rfl rfl fa87_0 ?_
   refine RL.load_bfs (i := 4) (f := (fun x => x.Name)) trivial rfl hw rfl rfl fd_Part_0 ty9 ?_
   have hw := hw.pull (i := 11) rfl
   have hw := hw.pull (i := 11) rfl
   obtain ⟨x481, hx481, hb⟩ := bd hb
   refine RL.callv (cap := [(vp b6 0)]) trivial rfl fn66 rfl [(vi 3), (str x466.Name)] rfl (Calls_ret (netlist_Changes_c1_ok N (p0 := 3) (p1 := x466.Name)  hw  hx481) ?_)
   rintro _ w ⟨v482, rfl, hw⟩
   refine RL.nt ?_
   refine RC.ex ?_
   refine blkQ_e ?_
   refine thenQ_n ?_
   refine RC.region ?_
   refine RL.inc trivial rfl hk hm rfl rfl ?_
   refine mv (vi ((k108 + 1 : Nat) : Int)) rfl rfl ?_
   refine RL.nil ?_
   obtain rfl := oi hb
   exact ⟨rfl, v482, v465, ⟨rfl, rfl, rfl, rfl, rfl, rfl, rfl, rfl, rfl, rfl, rfl, trivial⟩, hw.pick 18 [9, 10, 11, 0, 1, 14, 15, 16, 17] (new := [rd v0 p0, bx 26 b1 p1, bx 26 b2 p2, bc 48 b6 [v482], own 53 v482 x481, mp v9 x8, mp v12 x11, rd v107 p1.Parts, own 53 v465 s109.2]) rfl rfl (by decide) (by decide)⟩
  replace hb := cF hc hb
  refine RC.sx ?_
  refine mv v0 rfl rfl ?_
  refine RL.load_bf (i := 4) (f := (fun x => x)) trivial rfl hw rfl rfl Fd.self ty87 fun v483 hw => ?_
  obtain ⟨x484, hx484, hb⟩ := bd hb
  refine RL.call trivial rfl fn67 [v0, v483] rfl (Calls_ret (netlist_pinsOf_ok N  (i0 := 8) (i1 := 0) hw rfl rfl hx484) ?_)
  rintro v485 w hw
  refine RL.len_own (i := 0) (l := x484) trivial rfl hw rfl rfl un33 ?_
  refine mv (vi 0) rfl rfl ?_
  refine RL.nt ?_
  obtain ⟨s487, hN, hb⟩ := bd hb
  refine RC.fold (fun (k486 : Nat) (s487 : (List ListChange)) (σ : Nat → Value) (w : World) => ∃ v586 : Value, agree σ [(0, v0), (4, (vp b1 0)), (5, (vp b2 0)), (9, (vp b6 0)), (10, v586), (11, (.func (.func 66) #[] #[(vp b6 0)])), (12, v9), (13, v12), (76, v107), (77, (vi (p1.Parts.length : Int))), (78, (vi (k108 : Int))), (104, v485), (105, (vi (x484.length : Int))), (106, (vi (k486 : Int)))] ∧ Holds E w ([rd v0 p0, bx 26 b1 p1, bx 26 b2 p2, bc 48 b6 [v464], own 53 v464 s109.1, mp v9 x8, mp v12 x11, rd v107 p1.Parts, own 28 v485 x484, own 53 v586 s487] ++ Γ)) (fun (s487 : (List ListChange)) (σ : Nat → Value) (w : World) => ∃ v587 : Value, agree σ [(0, v0), (4, (vp b1 0)), (5, (vp b2 0)), (9, (vp b6 0)), (10, v587), (11, (.func (.func 66) #[] #[(vp b6 0)])), (12, v9), (13, v12), (76, v107), (77, (vi (p1.Parts.length : Int))), (78, (vi (k108 : Int)))] ∧ Holds E w ([rd v0 p0, bx 26 b1 p1, bx 26 b2 p2, bc 48 b6 [v464], own 53 v464 s109.1, mp v9 x8, mp v12 x11, rd v107 p1.Parts, own 28 v485 x484, own 53 v587 s487] ++ Γ)) hN ?_ ?_ ?_ ?_
  ·exact ⟨v465, ⟨rfl, rfl, rfl, rfl, rfl, rfl, rfl, rfl, rfl, rfl, rfl, rfl, rfl, rfl, trivial⟩, hw.pick 18 [9, 10, 11, 12, 13, 14, 15, 16, 0, 17] (new := [rd v0 p0, bx 26 b1 p1, bx 26 b2 p2, bc 48 b6 [v464], own 53 v464 s109.1, mp v9 x8, mp v12 x11, rd v107 p1.Parts, own 28 v485 x484, own 53 v465 s109.2]) rfl rfl (by decide) (by decide)⟩
  ·intro hm s487 σ w hI
   obtain ⟨v637, ha, hw⟩ := hI
   obtain ⟨τ, rfl⟩ := ha.ups
   refine RC.sr ?_
   refine ic ((x484.length : Int)) ((x484.length : Int)) rfl rfl rfl rfl ?_
   refine RL.nq ?_
   refine RC.cond_f dge ?_
   refine RC.ex ?_
   exact ⟨rfl, v637, ⟨rfl, rfl, rfl, rfl, rfl, rfl, rfl, rfl, rfl, rfl, rfl, trivial⟩, hw.pick 10 [0, 1, 2, 3, 4, 5, 6, 7, 8, 9] (new := [rd v0 p0, bx 26 b1 p1, bx 26 b2 p2, bc 48 b6 [v464], own 53 v464 s109.1, mp v9 x8, mp v12 x11, rd v107 p1.Parts, own 28 v485 x484, own 53 v637 s487]) rfl rfl (by decide) (by decide)⟩
  ·intro hm k486 s487 s' σ w hk hI hb
   obtain ⟨v588, ha, hw⟩ := hI
   obtain ⟨τ, rfl⟩ := ha.ups
   refine RC.sr ?_
   refine ic ((k486 : Int)) ((x484.length : Int)) rfl rfl rfl rfl ?_
   refine RL.nq ?_
   refine RC.cond_t (dlt hk) ?_
   refine RC.ss ?_
   refine RC.bs ?_
   obtain ⟨x589, hx589, hb⟩ := bd hb
   refine RL.ia_ownA (i := 8) trivial rfl hw rfl rfl rfl sl33 hx589 ?_
   refine RL.load_el (i := 8) (f := (fun x => x)) trivial rfl hw rfl (elp hw (i := 8) rfl hx589 0) rfl (idx_some hx589).2.1 Fd.self ty28 fun v590 hw => ?_
   refine RL.alloc trivial rfl hw ze28.z fun b591 w hw => ?_
   refine RL.store_raw (i := 0) (j := 1) trivial hw rfl rfl rfl rfl ty28 rfl fun w hw => ?_
   refine RL.ns ?_
   refine mv v9 rfl rfl ?_
   refine RL.load_bf (i := 0) (f := (fun x => x)) trivial rfl hw rfl rfl Fd.self ty28 fun v592 hw => ?_
   refine RL.lookup2s (i := 8) (k := x589) trivial rfl hw rfl (key_rd hw (j := 0) rfl) rfl mt72 ?_
   refine mv (.tuple #[(vi (mget x8 x589 (0 : Int))), (vb (mhas x8 x589))]) rfl rfl ?_
   refine RL.extract (v := (vi (mget x8 x589 (0 : Int)))) trivial rfl rfl rfl ?_
   refine RL.extract (v := (vb (mhas x8 x589))) trivial rfl rfl rfl ?_
   refine as_ (vi (mget x8 x589 (0 : Int))) rfl rfl ?_
   refine as_ (vb (mhas x8 x589)) rfl rfl ?_
   refine RL.ns ?_
   refine mv v12 rfl rfl ?_
   refine RL.load_bf (i := 1) (f := (fun x => x)) trivial rfl hw rfl rfl Fd.self ty28 fun v593 hw => ?_
   refine RL.lookup2s (i := 10) (k := x589) trivial rfl hw rfl (key_rd hw (j := 0) rfl) rfl mt72 ?_
   refine mv (.tuple #[(vi (mget x11 x589 (0 : Int))), (vb (mhas x11 x589))]) rfl rfl ?_
   refine RL.extract (v := (vi (mget x11 x589 (0 : Int)))) trivial rfl rfl rfl ?_
   refine RL.extract (v := (vb (mhas x11 x589))) trivial rfl rfl rfl ?_
   refine as_ (vi (mget x11 x589 (0 : Int))) rfl rfl ?_
   refine as_ (vb (mhas x11 x589)) rfl rfl ?_
   refine RL.nq ?_
   obtain ⟨s610, hj, hb⟩ := bd hb
   refine RC.jn (fun (s610 : Bool) (σ : Nat → Value) (w : World) => agree σ [(0, v0), (4, (vp b1 0)), (5, (vp b2 0)), (9, (vp b6 0)), (10, v588), (11, (.func (.func 66) #[] #[(vp b6 0)])), (12, v9), (13, v12), (22, (vp b591 0)), (76, v107), (77, (vi (p1.Parts.length : Int))), (78, (vi (k108 : Int))), (104, v485), (105, (vi (x484.length : Int))), (106, (vi (k486 : Int))), (142, (vb s610))] ∧ Holds E w ([rd v0 p0, bx 26 b1 p1, bx 26 b2 p2, bc 48 b6 [v464], own 53 v464 s109.1, own 53 v588 s487, mp v9 x8, mp v12 x11, bx 28 b591 x589, rd v107 p1.Parts, own 28 v485 x484] ++ Γ)) s610 ?_ ?_
   ·rcases Bool.eq_false_or_eq_true ((mhas x8 x589) != (mhas x11 x589)) with hg611 | hg611
    ·replace hj := cT hg611 hj
     refine RC.drw mixed rfl (fun (D : Nat → Bool) (σ : Nat → Value) (w : World) => doneV D σ [(0, 122, (vb (mhas x8 x589))), (1, 123, (vb (mhas x11 x589))), (2, 124, (vb ((mhas x8 x589) != (mhas x11 x589)))), (3, 125, (vb ((mhas x8 x589) != (mhas x11 x589)))), (4, 126, undef), (5, 127, undef), (6, 128, undef), (7, 129, undef), (8, 130, undef), (9, 131, undef), (10, 132, undef), (11, 133, undef), (12, 134, undef), (13, 135, undef), (14, 136, undef), (15, 137, undef), (16, 138, undef), (17, 139, undef), (18, 140, undef), (19, 141, undef), (20, 142, (vb true))] ∧ agree σ [(0, v0), (4, (vp b1 0)), (5, (vp b2 0)), (9, (vp b6 0)), (10, v588), (11, (.func (.func 66) #[] #[(vp b6 0)])), (12, v9), (13, v12), (22, (vp b591 0)), (23, (vi (mget x8 x589 (0 : Int)))), (24, (vb (mhas x8 x589))), (25, (vi (mget x11 x589 (0 : Int)))), (26, (vb (mhas x11 x589))), (76, v107), (77, (vi (p1.Parts.length : Int))), (78, (vi (k108 : Int))), (104, v485), (105, (vi (x484.length : Int))), (106, (vi (k486 : Int)))] ∧ Holds E w ([rd v593 x589, rd v592 x589, bx 28 b591 x589, rd v590 x589, rd v0 p0, bx 26 b1 p1, bx 26 b2 p2, bc 48 b6 [v464], own 53 v464 s109.1, mp v9 x8, mp v12 x11, rd v107 p1.Parts, own 28 v485 x484, own 53 v588 s487] ++ Γ)) ?_ ⟨?_, ?_, ?_, ?_, ?_, ?_, ?_, ?_, ?_, ?_, ?_, ?_, ?_, ?_, ?_, ?_, ?_, ?_, ?_, ?_, ?_, trivial⟩ ?_
     ·have hw := hw.drew
      exact ⟨doneV.none, ⟨rfl, rfl, rfl, rfl, rfl, rfl, rfl, rfl, rfl, rfl, rfl, rfl, rfl, rfl, rfl, rfl, rfl, rfl, rfl, trivial⟩, hw⟩
     ·rintro D σ w hD hdep hcl ⟨hv, ha, hw⟩
      obtain ⟨τ, rfl⟩ := (ac (ha.at 10 rfl) az).ups
      refine mv (vb (mhas x8 x589)) rfl rfl ?_
      refine RL.nil ?_
      exact ⟨rfl, hv.put 0 rfl rfl, ha.up rfl, hw⟩
     ·rintro D σ w hD hdep hcl ⟨hv, ha, hw⟩
      obtain ⟨τ, rfl⟩ := (ac (ha.at 12 rfl) az).ups
      refine mv (vb (mhas x11 x589)) rfl rfl ?_
      refine RL.nil ?_
      exact ⟨rfl, hv.put 1 rfl rfl, ha.up rfl, hw⟩
     ·rintro D σ w hD hdep hcl ⟨hv, ha, hw⟩
      obtain ⟨τ, rfl⟩ := (ac (hv.at 0 rfl (hdep.1 rfl)) (ac (hv.at 1 rfl (hdep.2.1 rfl)) az)).ups
      refine RL.bcmp_ne (a := (mhas x8 x589)) (b := (mhas x11 x589)) trivial rfl rfl rfl un4 ?_
      refine RL.nil ?_
      exact ⟨rfl, hv.put 2 rfl rfl, ha.up rfl, hw⟩
     ·rintro D σ w hD hdep hcl ⟨hv, ha, hw⟩
      obtain ⟨τ, rfl⟩ := (ac (hv.at 2 rfl (hdep.1 rfl)) az).ups
      refine mv (vb ((mhas x8 x589) != (mhas x11 x589))) rfl rfl ?_
      refine RL.nil ?_
      exact ⟨rfl, hv.put 3 rfl rfl, ha.up rfl, hw⟩
     ·rintro D σ w hD hdep hcl ⟨hv, ha, hw⟩
      obtain ⟨τ, rfl⟩ := (ac (hv.at 3 rfl (hdep.1 rfl)) (ac (ha.at 10 rfl) az)).ups
      refine sk rfl (.inl (cb hg611)) rfl ?_
      refine RL.nil ?_
      exact ⟨rfl, hv.put 4 rfl rfl, ha.up rfl, hw⟩
     ·rintro D σ w hD hdep hcl ⟨hv, ha, hw⟩
      obtain ⟨τ, rfl⟩ := (ac (hv.at 3 rfl (hdep.2.1 rfl)) (ac (hv.at 4 rfl (hdep.1 rfl)) az)).ups
      refine sk rfl (.inl (cb hg611)) rfl ?_
      refine RL.nil ?_
      exact ⟨rfl, hv.put 5 rfl rfl, ha.up rfl, hw⟩
     ·rintro D σ w hD hdep hcl ⟨hv, ha, hw⟩
      obtain ⟨τ, rfl⟩ := (ac (hv.at 5 rfl (hdep.1 rfl)) (ac (ha.at 1 rfl) az)).ups
      refine sk rfl (.inr rfl) rfl ?_
      refine RL.nil ?_
      exact ⟨rfl, hv.put 6 rfl rfl, ha.up rfl, hw⟩
     ·rintro D σ w hD hdep hcl ⟨hv, ha, hw⟩
      obtain ⟨τ, rfl⟩ := (ac (hv.at 5 rfl (hdep.2.1 rfl)) (ac (hv.at 6 rfl (hdep.1 rfl)) az)).ups
      refine sk rfl (.inr rfl) rfl ?_
      refine RL.nil ?_
      exact ⟨rfl, hv.put 7 rfl rfl, ha.up rfl, hw⟩
     ·rintro D σ w hD hdep hcl ⟨hv, ha, hw⟩
      obtain ⟨τ, rfl⟩ := (ac (hv.at 5 rfl (hdep.1 rfl)) (ac (ha.at 9 rfl) az)).ups
      refine sk rfl (.inr rfl) rfl ?_
      refine RL.nil ?_
      exact ⟨rfl, hv.put 8 rfl rfl, ha.up rfl, hw⟩
     ·rintro D σ w hD hdep hcl ⟨hv, ha, hw⟩
      obtain ⟨τ, rfl⟩ := (ac (hv.at 5 rfl (hdep.2.2.1 rfl)) (ac (hv.at 7 rfl (hdep.1 rfl)) (ac (hv.at 8 rfl (hdep.2.1 rfl)) az))).ups
      refine sk rfl (.inr rfl) rfl ?_
      refine RL.nil ?_
      exact ⟨rfl, hv.put 9 rfl rfl, ha.up rfl, hw⟩
     ·rintro D σ w hD hdep hcl ⟨hv, ha, hw⟩
      obtain ⟨τ, rfl⟩ := (ac (hv.at 5 rfl (hdep.2.1 rfl)) (ac (hv.at 9 rfl (hdep.1 rfl)) az)).ups
      refine sk rfl (.inr rfl) rfl ?_
      refine RL.nil ?_
      exact ⟨rfl, hv.put 10 rfl rfl, ha.up rfl, hw⟩
     ·rintro D σ w hD hdep hcl ⟨hv, ha, hw⟩
      obtain ⟨τ, rfl⟩ := (ac (hv.at 5 rfl (hdep.2.1 rfl)) (ac (hv.at 10 rfl (hdep.1 rfl)) az)).ups
      refine sk rfl (.inr rfl) rfl ?_
      refine RL.nil ?_
      exact ⟨rfl, hv.put 11 rfl rfl, ha.up rfl, hw⟩
     ·rintro D σ w hD hdep hcl ⟨hv, ha, hw⟩
      obtain ⟨τ, rfl⟩ := (ac (hv.at 5 rfl (hdep.1 rfl)) (ac (ha.at 2 rfl) az)).ups
      refine sk rfl (.inr rfl) rfl ?_
      refine RL.nil ?_
      exact ⟨rfl, hv.put 12 rfl rfl, ha.up rfl, hw⟩
     ·rintro D σ w hD hdep hcl ⟨hv, ha, hw⟩
      obtain ⟨τ, rfl⟩ := (ac (hv.at 5 rfl (hdep.2.1 rfl)) (ac (hv.at 12 rfl (hdep.1 rfl)) az)).ups
      refine sk rfl (.inr rfl) rfl ?_
      refine RL.nil ?_
      exact ⟨rfl, hv.put 13 rfl rfl, ha.up rfl, hw⟩
     ·rintro D σ w hD hdep hcl ⟨hv, ha, hw⟩
      obtain ⟨τ, rfl⟩ := (ac (hv.at 5 rfl (hdep.1 rfl)) (ac (ha.at 11 rfl) az)).ups
      refine sk rfl (.inr rfl) rfl ?_
      refine RL.nil ?_
      exact ⟨rfl, hv.put 14 rfl rfl, ha.up rfl, hw⟩
     ·rintro D σ w hD hdep hcl ⟨hv, ha, hw⟩
      obtain ⟨τ, rfl⟩ := (ac (hv.at 5 rfl (hdep.2.2.1 rfl)) (ac (hv.at 13 rfl (hdep.1 rfl)) (ac (hv.at 14 rfl (hdep.2.1 rfl)) az))).ups
      refine sk rfl (.inr rfl) rfl ?_
      refine RL.nil ?_
      exact ⟨rfl, hv.put 15 rfl rfl, ha.up rfl, hw⟩
     ·rintro D σ w hD hdep hcl ⟨hv, ha, hw⟩
      obtain ⟨τ, rfl⟩ := (ac (hv.at 5 rfl (hdep.2.1 rfl)) (ac (hv.at 15 rfl (hdep.1 rfl)) az)).ups
      refine sk rfl (.inr rfl) rfl ?_
      refine RL.nil ?_
      exact ⟨rfl, hv.put 16 rfl rfl, ha.up rfl, hw⟩
     ·rintro D σ w hD hdep hcl ⟨hv, ha, hw⟩
      obtain ⟨τ, rfl⟩ := (ac (hv.at 5 rfl (hdep.2.1 rfl)) (ac (hv.at 16 rfl (hdep.1 rfl)) az)).ups
      refine sk rfl (.inr rfl) rfl ?_
      refine RL.nil ?_
      exact ⟨rfl, hv.put 17 rfl rfl, ha.up rfl, hw⟩
     ·rintro D σ w hD hdep hcl ⟨hv, ha, hw⟩
      obtain ⟨τ, rfl⟩ := (ac (hv.at 5 rfl (hdep.2.2.1 rfl)) (ac (hv.at 11 rfl (hdep.1 rfl)) (ac (hv.at 17 rfl (hdep.2.1 rfl)) az))).ups
      refine sk rfl (.inr rfl) rfl ?_
      refine RL.nil ?_
      exact ⟨rfl, hv.put 18 rfl rfl, ha.up rfl, hw⟩
     ·rintro D σ w hD hdep hcl ⟨hv, ha, hw⟩
      obtain ⟨τ, rfl⟩ := (ac (hv.at 3 rfl (hdep.2.2.1 rfl)) (ac (hv.at 5 rfl (hdep.1 rfl)) (ac (hv.at 18 rfl (hdep.2.1 rfl)) az))).ups
      refine sk rfl (.inl (cb hg611)) rfl ?_
      refine RL.nil ?_
      exact ⟨rfl, hv.put 19 rfl rfl, ha.up rfl, hw⟩
     ·rintro D σ w hD hdep hcl ⟨hv, ha, hw⟩
      obtain ⟨τ, rfl⟩ := (ac (hv.at 3 rfl (hdep.1 rfl)) (ac (hv.at 19 rfl (hdep.2.1 rfl)) az)).ups
      refine RL.pick (b := ((mhas x8 x589) != (mhas x11 x589))) (v := (vb true)) trivial rfl rfl (by rw [hg611]; rfl) ?_
      refine RL.nil ?_
      exact ⟨rfl, hv.put 20 rfl rfl, ha.up rfl, hw⟩
     rintro D σ w hall ⟨hv, ha, hw⟩
     obtain ⟨τ, rfl⟩ := (ac (hv.at 20 rfl (hall 20 (by decide))) (ac (ha.at 0 rfl) (ac (ha.at 1 rfl) (ac (ha.at 2 rfl) (ac (ha.at 3 rfl) (ac (ha.at 4 rfl) (ac (ha.at 5 rfl) (ac (ha.at 6 rfl) (ac (ha.at 7 rfl) (ac (ha.at 8 rfl) (ac (ha.at 9 rfl) (ac (ha.at 10 rfl) (ac (ha.at 11 rfl) (ac (ha.at 12 rfl) (ac (ha.at 13 rfl) (ac (ha.at 14 rfl) (ac (ha.at 15 rfl) (ac (ha.at 16 rfl) (ac (ha.at 17 rfl) (ac (ha.at 18 rfl) az)))))))))))))))))))).ups
     obtain rfl := oi hj
     exact ⟨rfl, ⟨rfl, rfl, rfl, rfl, rfl, rfl, rfl, rfl, rfl, rfl, rfl, rfl, rfl, rfl, rfl, rfl, trivial⟩, hw.pick 14 [4, 5, 6, 7, 8, 13, 9, 10, 2, 11, 12] (new := [rd v0 p0, bx 26 b1 p1, bx 26 b2 p2, bc 48 b6 [v464], own 53 v464 s109.1, own 53 v588 s487, mp v9 x8, mp v12 x11, bx 28 b591 x589, rd v107 p1.Parts, own 28 v485 x484]) rfl rfl (by decide) (by decide)⟩
    replace hj := cF hg611 hj
    rcases Bool.eq_false_or_eq_true (mhas x8 x589) with hg612 | hg612
    rotate_left
    ·replace hj := cF hg612 hj
     refine RC.drw mixed rfl (fun (D : Nat → Bool) (σ : Nat → Value) (w : World) => doneV D σ [(0, 122, (vb (mhas x8 x589))), (1, 123, (vb (mhas x11 x589))), (2, 124, (vb ((mhas x8 x589) != (mhas x11 x589)))), (3, 125, (vb ((mhas x8 x589) != (mhas x11 x589)))), (4, 126, (vb (mhas x8 x589))), (5, 127, (vb (mhas x8 x589))), (6, 128, undef), (7, 129, undef), (8, 130, undef), (9, 131, undef), (10, 132, undef), (11, 133, undef), (12, 134, undef), (13, 135, undef), (14, 136, undef), (15, 137, undef), (16, 138, undef), (17, 139, undef), (18, 140, undef), (19, 141, (vb false)), (20, 142, (vb false))] ∧ agree σ [(0, v0), (4, (vp b1 0)), (5, (vp b2 0)), (9, (vp b6 0)), (10, v588), (11, (.func (.func 66) #[] #[(vp b6 0)])), (12, v9), (13, v12), (22, (vp b591 0)), (23, (vi (mget x8 x589 (0 : Int)))), (24, (vb (mhas x8 x589))), (25, (vi (mget x11 x589 (0 : Int)))), (26, (vb (mhas x11 x589))), (76, v107), (77, (vi (p1.Parts.length : Int))), (78, (vi (k108 : Int))), (104, v485), (105, (vi (x484.length : Int))), (106, (vi (k486 : Int)))] ∧ Holds E w ([rd v593 x589, rd v592 x589, bx 28 b591 x589, rd v590 x589, rd v0 p0, bx 26 b1 p1, bx 26 b2 p2, bc 48 b6 [v464], own 53 v464 s109.1, mp v9 x8, mp v12 x11, rd v107 p1.Parts, own 28 v485 x484, own 53 v588 s487] ++ Γ)) ?_ ⟨?_, ?_, ?_, ?_, ?_, ?_, ?_, ?_, ?_, ?_, ?_, ?_, ?_, ?_, ?_, ?_, ?_, ?_, ?_, ?_, ?_, trivial⟩ ?_
     ·have hw := hw.drew
      exact ⟨doneV.none, ⟨rfl, rfl, rfl, rfl, rfl, rfl, rfl, rfl, rfl, rfl, rfl, rfl, rfl, rfl, rfl, rfl, rfl, rfl, rfl, trivial⟩, hw⟩
     ·rintro D σ w hD hdep hcl ⟨hv, ha, hw⟩
      obtain ⟨τ, rfl⟩ := (ac (ha.at 10 rfl) az).ups
      refine mv (vb (mhas x8 x589)) rfl rfl ?_
      refine RL.nil ?_
      exact ⟨rfl, hv.put 0 rfl rfl, ha.up rfl, hw⟩
     ·rintro D σ w hD hdep hcl ⟨hv, ha, hw⟩
      obtain ⟨τ, rfl⟩ := (ac (ha.at 12 rfl) az).ups
      refine mv (vb (mhas x11 x589)) rfl rfl ?_
      refine RL.nil ?_
      exact ⟨rfl, hv.put 1 rfl rfl, ha.up rfl, hw⟩
     ·rintro D σ w hD hdep hcl ⟨hv, ha, hw⟩
      obtain ⟨τ, rfl⟩ := (ac (hv.at 0 rfl (hdep.1 rfl)) (ac (hv.at 1 rfl (hdep.2.1 rfl)) az)).ups
      refine RL.bcmp_ne (a := (mhas x8 x589)) (b := (mhas x11 x589)) trivial rfl rfl rfl un4 ?_
      refine RL.nil ?_
      exact ⟨rfl, hv.put 2 rfl rfl, ha.up rfl, hw⟩
     ·rintro D σ w hD hdep hcl ⟨hv, ha, hw⟩
      obtain ⟨τ, rfl⟩ := (ac (hv.at 2 rfl (hdep.1 rfl)) az).ups
      refine mv (vb ((mhas x8 x589) != (mhas x11 x589))) rfl rfl ?_
      refine RL.nil ?_
      exact ⟨rfl, hv.put 3 rfl rfl, ha.up rfl, hw⟩
     ·rintro D σ w hD hdep hcl ⟨hv, ha, hw⟩
      obtain ⟨τ, rfl⟩ := (ac (hv.at 3 rfl (hdep.1 rfl)) (ac (ha.at 10 rfl) az)).ups
      refine RL.move (v := (vb (mhas x8 x589))) ⟨_, rfl, cb hg611⟩ rfl rfl ?_
      refine RL.nil ?_
      exact ⟨rfl, hv.put 4 rfl rfl, ha.up rfl, hw⟩
     ·rintro D σ w hD hdep hcl ⟨hv, ha, hw⟩
      obtain ⟨τ, rfl⟩ := (ac (hv.at 3 rfl (hdep.2.1 rfl)) (ac (hv.at 4 rfl (hdep.1 rfl)) az)).ups
      refine RL.move (v := (vb (mhas x8 x589))) ⟨_, rfl, cb hg611⟩ rfl rfl ?_
      refine RL.nil ?_
      exact ⟨rfl, hv.put 5 rfl rfl, ha.up rfl, hw⟩
     ·rintro D σ w hD hdep hcl ⟨hv, ha, hw⟩
      obtain ⟨τ, rfl⟩ := (ac (hv.at 5 rfl (hdep.1 rfl)) (ac (ha.at 1 rfl) az)).ups
      refine sk rfl (.inl (cb hg612)) rfl ?_
      refine RL.nil ?_
      exact ⟨rfl, hv.put 6 rfl rfl, ha.up rfl, hw⟩
     ·rintro D σ w hD hdep hcl ⟨hv, ha, hw⟩
      obtain ⟨τ, rfl⟩ := (ac (hv.at 5 rfl (hdep.2.1 rfl)) (ac (hv.at 6 rfl (hdep.1 rfl)) az)).ups
      refine sk rfl (.inl (cb hg612)) rfl ?_
      refine RL.nil ?_
      exact ⟨rfl, hv.put 7 rfl rfl, ha.up rfl, hw⟩
     ·rintro D σ w hD hdep hcl ⟨hv, ha, hw⟩
      obtain ⟨τ, rfl⟩ := (ac (hv.at 5 rfl (hdep.1 rfl)) (ac (ha.at 9 rfl) az)).ups
      refine sk rfl (.inl (cb hg612)) rfl ?_
      refine RL.nil ?_
      exact ⟨rfl, hv.put 8 rfl rfl, ha.up rfl, hw⟩
     ·rintro D σ w hD hdep hcl ⟨hv, ha, hw⟩
      obtain ⟨τ, rfl⟩ := (ac (hv.at 5 rfl (hdep.2.2.1 rfl)) (ac (hv.at 7 rfl (hdep.1 rfl)) (ac (hv.at 8 rfl (hdep.2.1 rfl)) az))).ups
      refine sk rfl (.inl (cb hg612)) rfl ?_
      refine RL.nil ?_
      exact ⟨rfl, hv.put 9 rfl rfl, ha.up rfl, hw⟩
     ·rintro D σ w hD hdep hcl ⟨hv, ha, hw⟩
      obtain ⟨τ, rfl⟩ := (ac (hv.at 5 rfl (hdep.2.1 rfl)) (ac (hv.at 9 rfl (hdep.1 rfl)) az)).ups
      refine sk rfl (.inl (cb hg612)) rfl ?_
      refine RL.nil ?_
      exact ⟨rfl, hv.put 10 rfl rfl, ha.up rfl, hw⟩
     ·rintro D σ w hD hdep hcl ⟨hv, ha, hw⟩
      obtain ⟨τ, rfl⟩ := (ac (hv.at 5 rfl (hdep.2.1 rfl)) (ac (hv.at 10 rfl (hdep.1 rfl)) az)).ups
      refine sk rfl (.inl (cb hg612)) rfl ?_
      refine RL.nil ?_
      exact ⟨rfl, hv.put 11 rfl rfl, ha.up rfl, hw⟩
     ·rintro D σ w hD hdep hcl ⟨hv, ha, hw⟩
      obtain ⟨τ, rfl⟩ := (ac (hv.at 5 rfl (hdep.1 rfl)) (ac (ha.at 2 rfl) az)).ups
      refine sk rfl (.inl (cb hg612)) rfl ?_
      refine RL.nil ?_
      exact ⟨rfl, hv.put 12 rfl rfl, ha.up rfl, hw⟩
     ·rintro D σ w hD hdep hcl ⟨hv, ha, hw⟩
      obtain ⟨τ, rfl⟩ := (ac (hv.at 5 rfl (hdep.2.1 rfl)) (ac (hv.at 12 rfl (hdep.1 rfl)) az)).ups
      refine sk rfl (.inl (cb hg612)) rfl ?_
      refine RL.nil ?_
      exact ⟨rfl, hv.put 13 rfl rfl, ha.up rfl, hw⟩
     ·rintro D σ w hD hdep hcl ⟨hv, ha, hw⟩
      obtain ⟨τ, rfl⟩ := (ac (hv.at 5 rfl (hdep.1 rfl)) (ac (ha.at 11 rfl) az)).ups
      refine sk rfl (.inl (cb hg612)) rfl ?_
      refine RL.nil ?_
      exact ⟨rfl, hv.put 14 rfl rfl, ha.up rfl, hw⟩
     ·rintro D σ w hD hdep hcl ⟨hv, ha, hw⟩
      obtain ⟨τ, rfl⟩ := (ac (hv.at 5 rfl (hdep.2.2.1 rfl)) (ac (hv.at 13 rfl (hdep.1 rfl)) (ac (hv.at 14 rfl (hdep.2.1 rfl)) az))).ups
      refine sk rfl (.inl (cb hg612)) rfl ?_
      refine RL.nil ?_
      exact ⟨rfl, hv.put 15 rfl rfl, ha.up rfl, hw⟩
     ·rintro D σ w hD hdep hcl ⟨hv, ha, hw⟩
      obtain ⟨τ, rfl⟩ := (ac (hv.at 5 rfl (hdep.2.1 rfl)) (ac (hv.at 15 rfl (hdep.1 rfl)) az)).ups
      refine sk rfl (.inl (cb hg612)) rfl ?_
      refine RL.nil ?_
      exact ⟨rfl, hv.put 16 rfl rfl, ha.up rfl, hw⟩
     ·rintro D σ w hD hdep hcl ⟨hv, ha, hw⟩
      obtain ⟨τ, rfl⟩ := (ac (hv.at 5 rfl (hdep.2.1 rfl)) (ac (hv.at 16 rfl (hdep.1 rfl)) az)).ups
      refine sk rfl (.inl (cb hg612)) rfl ?_
      refine RL.nil ?_
      exact ⟨rfl, hv.put 17 rfl rfl, ha.up rfl, hw⟩
     ·rintro D σ w hD hdep hcl ⟨hv, ha, hw⟩
      obtain ⟨τ, rfl⟩ := (ac (hv.at 5 rfl (hdep.2.2.1 rfl)) (ac (hv.at 11 rfl (hdep.1 rfl)) (ac (hv.at 17 rfl (hdep.2.1 rfl)) az))).ups
      refine sk rfl (.inl (cb hg612)) rfl ?_
      refine RL.nil ?_
      exact ⟨rfl, hv.put 18 rfl rfl, ha.up rfl, hw⟩
     ·rintro D σ w hD hdep hcl ⟨hv, ha, hw⟩
      obtain ⟨τ, rfl⟩ := (ac (hv.at 3 rfl (hdep.2.2.1 rfl)) (ac (hv.at 5 rfl (hdep.1 rfl)) (ac (hv.at 18 rfl (hdep.2.1 rfl)) az))).ups
      refine RL.pick (b := (mhas x8 x589)) (v := (vb false)) ⟨_, rfl, cb hg611⟩ rfl rfl (by rw [hg612]; rfl) ?_
      refine RL.nil ?_
      exact ⟨rfl, hv.put 19 rfl rfl, ha.up rfl, hw⟩
     ·rintro D σ w hD hdep hcl ⟨hv, ha, hw⟩
      obtain ⟨τ, rfl⟩ := (ac (hv.at 3 rfl (hdep.1 rfl)) (ac (hv.at 19 rfl (hdep.2.1 rfl)) az)).ups
      refine RL.pick (b := ((mhas x8 x589) != (mhas x11 x589))) (v := (vb false)) trivial rfl rfl (by rw [hg611]; rfl) ?_
      refine RL.nil ?_
      exact ⟨rfl, hv.put 20 rfl rfl, ha.up rfl, hw⟩
     rintro D σ w hall ⟨hv, ha, hw⟩
     obtain ⟨τ, rfl⟩ := (ac (hv.at 20 rfl (hall 20 (by decide))) (ac (ha.at 0 rfl) (ac (ha.at 1 rfl) (ac (ha.at 2 rfl) (ac (ha.at 3 rfl) (ac (ha.at 4 rfl) (ac (ha.at 5 rfl) (ac (ha.at 6 rfl) (ac (ha.at 7 rfl) (ac (ha.at 8 rfl) (ac (ha.at 9 rfl) (ac (ha.at 10 rfl) (ac (ha.at 11 rfl) (ac (ha.at 12 rfl) (ac (ha.at 13 rfl) (ac (ha.at 14 rfl) (ac (ha.at 15 rfl) (ac (ha.at 16 rfl) (ac (ha.at 17 rfl) (ac (ha.at 18 rfl) az)))))))))))))))))))).ups
     obtain rfl := oi hj
     exact ⟨rfl, ⟨rfl, rfl, rfl, rfl, rfl, rfl, rfl, rfl, rfl, rfl, rfl, rfl, rfl, rfl, rfl, rfl, trivial⟩, hw.pick 14 [4, 5, 6, 7, 8, 13, 9, 10, 2, 11, 12] (new := [rd v0 p0, bx 26 b1 p1, bx 26 b2 p2, bc 48 b6 [v464], own 53 v464 s109.1, own 53 v588 s487, mp v9 x8, mp v12 x11, bx 28 b591 x589, rd v107 p1.Parts, own 28 v485 x484]) rfl rfl (by decide) (by decide)⟩
    replace hj := cT hg612 hj
    obtain ⟨x614, hx614, hj⟩ := bd hj
    obtain ⟨x618, hx618, hj⟩ := bd hj
    refine RC.drw mixed rfl (fun (D : Nat → Bool) (σ : Nat → Value) (w : World) => ∃ (v613 : Value) (v615 : Value) (v616 : Value) (v617 : Value) (v619 : Value) (v620 : Value), doneV D σ [(0, 122, (vb (mhas x8 x589))), (1, 123, (vb (mhas x11 x589))), (2, 124, (vb ((mhas x8 x589) != (mhas x11 x589)))), (3, 125, (vb ((mhas x8 x589) != (mhas x11 x589)))), (4, 126, (vb (mhas x8 x589))), (5, 127, (vb (mhas x8 x589))), (6, 128, (vp b1 1)), (7, 129, v613), (8, 130, (vi (mget x8 x589 (0 : Int)))), (9, 131, v615), (10, 132, v616), (11, 133, (str x614.Name)), (12, 134, (vp b2 1)), (13, 135, v617), (14, 136, (vi (mget x11 x589 (0 : Int)))), (15, 137, v619), (16, 138, v620), (17, 139, (str x618.Name)), (18, 140, (vb (!x614.Name.eqb x618.Name))), (19, 141, (vb (!x614.Name.eqb x618.Name))), (20, 142, (vb (!x614.Name.eqb x618.Name)))] ∧ agree σ [(0, v0), (4, (vp b1 0)), (5, (vp b2 0)), (9, (vp b6 0)), (10, v588), (11, (.func (.func 66) #[] #[(vp b6 0)])), (12, v9), (13, v12), (22, (vp b591 0)), (23, (vi (mget x8 x589 (0 : Int)))), (24, (vb (mhas x8 x589))), (25, (vi (mget x11 x589 (0 : Int)))), (26, (vb (mhas x11 x589))), (76, v107), (77, (vi (p1.Parts.length : Int))), (78, (vi (k108 : Int))), (104, v485), (105, (vi (x484.length : Int))), (106, (vi (k486 : Int)))] ∧ Holds E w ([bif D 7 then (rd v613 p1.Nets) else junk, bif D 9 then (pt v615 x614) else junk, bif D 10 then (pt v616 x614.Name) else junk, bif D 13 then (rd v617 p2.Nets) else junk, bif D 15 then (pt v619 x618) else junk, bif D 16 then (pt v620 x618.Name) else junk, rd v593 x589, rd v592 x589, bx 28 b591 x589, rd v590 x589, rd v0 p0, bx 26 b1 p1, bx 26 b2 p2, bc 48 b6 [v464], own 53 v464 s109.1, mp v9 x8, mp v12 x11, rd v107 p1.Parts, own 28 v485 x484, own 53 v588 s487] ++ Γ)) ?_ ⟨?_, ?_, ?_, ?_, ?_, ?_, ?_, ?_, ?_, ?_, ?_, ?_, ?_, ?_, ?_, ?_, ?_, ?_, ?_, ?_, ?_, trivial⟩ ?_
    ·have hw := hw.drew
     have hw := hw.junk
     have hw := hw.junk
     have hw := hw.junk
     have hw := hw.junk
     have hw := hw.junk
     have hw := hw.junk
     exact ⟨undef, undef, undef, undef, undef, undef, doneV.none, ⟨rfl, rfl, rfl, rfl, rfl, rfl, rfl, rfl, rfl, rfl, rfl, rfl, rfl, rfl, rfl, rfl, rfl, rfl, rfl, trivial⟩, hw⟩
    ·rintro D σ w hD hdep hcl ⟨v613, v615, v616, v617, v619, v620, hv, ha, hw⟩
     obtain ⟨τ, rfl⟩ := (ac (ha.at 10 rfl) az).ups
     refine mv (vb (mhas x8 x589)) rfl rfl ?_
     refine RL.nil ?_
     exact ⟨rfl, v613, v615, v616, v617, v619, v620, hv.put 0 rfl rfl, ha.up rfl, hw⟩
    ·rintro D σ w hD hdep hcl ⟨v613, v615, v616, v617, v619, v620, hv, ha, hw⟩
     obtain ⟨τ, rfl⟩ := (ac (ha.at 12 rfl) az).ups
     refine mv (vb (mhas x11 x589)) rfl rfl ?_
     refine RL.nil ?_
     exact ⟨rfl, v613, v615, v616, v617, v619, v620, hv.put 1 rfl rfl, ha.up rfl, hw⟩
    ·rintro D σ w hD hdep hcl ⟨v613, v615, v616, v617, v619, v620, hv, ha, hw⟩
     obtain ⟨τ, rfl⟩ := (ac (hv.at 0 rfl (hdep.1 rfl)) (ac (hv.at 1 rfl (hdep.2.1 rfl)) az)).ups
     refine RL.bcmp_ne (a := (mhas x8 x589)) (b := (mhas x11 x589)) trivial rfl rfl rfl un4 ?_
     refine RL.nil ?_
     exact ⟨rfl, v613, v615, v616, v617, v619, v620, hv.put 2 rfl rfl, ha.up rfl, hw⟩
    ·rintro D σ w hD hdep hcl ⟨v613, v615, v616, v617, v619, v620, hv, ha, hw⟩
     obtain ⟨τ, rfl⟩ := (ac (hv.at 2 rfl (hdep.1 rfl)) az).ups
     refine mv (vb ((mhas x8 x589) != (mhas x11 x589))) rfl rfl ?_
     refine RL.nil ?_
     exact ⟨rfl, v613, v615, v616, v617, v619, v620, hv.put 3 rfl rfl, ha.up rfl, hw⟩
    ·rintro D σ w hD hdep hcl ⟨v613, v615, v616, v617, v619, v620, hv, ha, hw⟩
     obtain ⟨τ, rfl⟩ := (ac (hv.at 3 rfl (hdep.1 rfl)) (ac (ha.at 10 rfl) az)).ups
     refine RL.move (v := (vb (mhas x8 x589))) ⟨_, rfl, cb hg611⟩ rfl rfl ?_
     refine RL.nil ?_
     exact ⟨rfl, v613, v615, v616, v617, v619, v620, hv.put 4 rfl rfl, ha.up rfl, hw⟩
    ·rintro D σ w hD hdep hcl ⟨v613, v615, v616, v617, v619, v620, hv, ha, hw⟩
     obtain ⟨τ, rfl⟩ := (ac (hv.at 3 rfl (hdep.2.1 rfl)) (ac (hv.at 4 rfl (hdep.1 rfl)) az)).ups
     refine RL.move (v := (vb (mhas x8 x589))) ⟨_, rfl, cb hg611⟩ rfl rfl ?_
     refine RL.nil ?_
     exact ⟨rfl, v613, v615, v616, v617, v619, v620, hv.put 5 rfl rfl, ha.up rfl, hw⟩
    ·rintro D σ w hD hdep hcl ⟨v613, v615, v616, v617, v619, v620, hv, ha, hw⟩
     obtain ⟨τ, rfl⟩ := (ac (hv.at 5 rfl (hdep.1 rfl)) (ac (ha.at 1 rfl) az)).ups
     refine RL.fa_b ⟨_, rfl, cb hg612⟩ rfl rfl fa26_1 ?_
     refine RL.nil ?_
     exact ⟨rfl, v613, v615, v616, v617, v619, v620, hv.put 6 rfl rfl, ha.up rfl, hw⟩
    ·rintro D σ w hD hdep hcl ⟨v613, v615, v616, v617, v619, v620, hv, ha, hw⟩
     obtain ⟨τ, rfl⟩ := (ac (hv.at 5 rfl (hdep.2.1 rfl)) (ac (hv.at 6 rfl (hdep.1 rfl)) az)).ups
     have hw := hw.selF (i := 0) rfl hD
     refine RL.load_bf (i := 11) (f := (fun x => x.Nets)) ⟨_, rfl, cb hg612⟩ rfl hw rfl rfl fd_Netlist_1 ty24 fun v621 hw => ?_
     have hw := hw.pick 21 [0, 2, 3, 4, 5, 6, 7, 8, 9, 10, 11, 12, 13, 14, 15, 16, 17, 18, 19, 20] (new := [rd v621 p1.Nets, bif D 9 then (pt v615 x614) else junk, bif D 10 then (pt v616 x614.Name) else junk, bif D 13 then (rd v617 p2.Nets) else junk, bif D 15 then (pt v619 x618) else junk, bif D 16 then (pt v620 x618.Name) else junk, rd v593 x589, rd v592 x589, bx 28 b591 x589, rd v590 x589, rd v0 p0, bx 26 b1 p1, bx 26 b2 p2, bc 48 b6 [v464], own 53 v464 s109.1, mp v9 x8, mp v12 x11, rd v107 p1.Parts, own 28 v485 x484, own 53 v588 s487]) rfl rfl (by decide) (by decide)
     have hw := hw.altT (i := 0) (b := true) rfl rfl (junk)
     refine RL.nil ?_
     exact ⟨rfl, v621, v615, v616, v617, v619, v620, hv.put 7 rfl rfl, ha.up rfl, hw⟩
    ·rintro D σ w hD hdep hcl ⟨v613, v615, v616, v617, v619, v620, hv, ha, hw⟩
     obtain ⟨τ, rfl⟩ := (ac (hv.at 5 rfl (hdep.1 rfl)) (ac (ha.at 9 rfl) az)).ups
     refine RL.move (v := (vi (mget x8 x589 (0 : Int)))) ⟨_, rfl, cb hg612⟩ rfl rfl ?_
     refine RL.nil ?_
     exact ⟨rfl, v613, v615, v616, v617, v619, v620, hv.put 8 rfl rfl, ha.up rfl, hw⟩
    ·rintro D σ w hD hdep hcl ⟨v613, v615, v616, v617, v619, v620, hv, ha, hw⟩
     obtain ⟨τ, rfl⟩ := (ac (hv.at 5 rfl (hdep.2.2.1 rfl)) (ac (hv.at 7 rfl (hdep.1 rfl)) (ac (hv.at 8 rfl (hdep.2.1 rfl)) az))).ups
     have hw := hw.selT (i := 0) rfl (hdep.1 rfl)
     have hw := hw.selF (i := 1) rfl hD
     refine RL.ia_rd (i := 0) ⟨_, rfl, cb hg612⟩ rfl hw rfl rfl rfl sl24 hx614 fun v622 hw => ?_
     have hw := hw.pick 21 [1, 0, 3, 4, 5, 6, 7, 8, 9, 10, 11, 12, 13, 14, 15, 16, 17, 18, 19, 20] (new := [rd v613 p1.Nets, pt v622 x614, bif D 10 then (pt v616 x614.Name) else junk, bif D 13 then (rd v617 p2.Nets) else junk, bif D 15 then (pt v619 x618) else junk, bif D 16 then (pt v620 x618.Name) else junk, rd v593 x589, rd v592 x589, bx 28 b591 x589, rd v590 x589, rd v0 p0, bx 26 b1 p1, bx 26 b2 p2, bc 48 b6 [v464], own 53 v464 s109.1, mp v9 x8, mp v12 x11, rd v107 p1.Parts, own 28 v485 x484, own 53 v588 s487]) rfl rfl (by decide) (by decide)
     have hw := hw.altT (i := 0) (b := D 7) rfl (hdep.1 rfl) (junk)
     have hw := hw.altT (i := 1) (b := true) rfl rfl (junk)
     refine RL.nil ?_
     exact ⟨rfl, v613, v622, v616, v617, v619, v620, hv.put 9 rfl rfl, ha.up rfl, hw⟩
    ·rintro D σ w hD hdep hcl ⟨v613, v615, v616, v617, v619, v620, hv, ha, hw⟩
     obtain ⟨τ, rfl⟩ := (ac (hv.at 5 rfl (hdep.2.1 rfl)) (ac (hv.at 9 rfl (hdep.1 rfl)) az)).ups
     have hw := hw.selT (i := 1) rfl (hdep.1 rfl)
     have hw := hw.selF (i := 2) rfl hD
     refine RL.fa_pt (i := 1) (f := fun (x : Net) => x.Name) ⟨_, rfl, cb hg612⟩ rfl hw rfl rfl fa64_0 fd_Net_0 fun v623 hw => ?_
     have hw := hw.pick 21 [1, 2, 0, 4, 5, 6, 7, 8, 9, 10, 11, 12, 13, 14, 15, 16, 17, 18, 19, 20] (new := [bif D 7 then (rd v613 p1.Nets) else junk, pt v615 x614, pt v623 x614.Name, bif D 13 then (rd v617 p2.Nets) else junk, bif D 15 then (pt v619 x618) else junk, bif D 16 then (pt v620 x618.Name) else junk, rd v593 x589, rd v592 x589, bx 28 b591 x589, rd v590 x589, rd v0 p0, bx 26 b1 p1, bx 26 b2 p2, bc 48 b6 [v464], own 53 v464 s109.1, mp v9 x8, mp v12 x11, rd v107 p1.Parts, own 28 v485 x484, own 53 v588 s487]) rfl rfl (by decide) (by decide)
     have hw := hw.altT (i := 1) (b := D 9) rfl (hdep.1 rfl) (junk)
     have hw := hw.altT (i := 2) (b := true) rfl rfl (junk)
     refine RL.nil ?_
     exact ⟨rfl, v613, v615, v623, v617, v619, v620, hv.put 10 rfl rfl, ha.up rfl, hw⟩
    ·rintro D σ w hD hdep hcl ⟨v613, v615, v616, v617, v619, v620, hv, ha, hw⟩
     obtain ⟨τ, rfl⟩ := (ac (hv.at 5 rfl (hdep.2.1 rfl)) (ac (hv.at 10 rfl (hdep.1 rfl)) az)).ups
     have hw := hw.selT (i := 2) rfl (hdep.1 rfl)
     refine RL.load_pts (i := 2) (y := x614.Name) ⟨_, rfl, cb hg612⟩ rfl hw rfl rfl ty9 ?_
     have hw := hw.altT (i := 2) (b := D 10) rfl (hdep.1 rfl) (junk)
     refine RL.nil ?_
     exact ⟨rfl, v613, v615, v616, v617, v619, v620, hv.put 11 rfl rfl, ha.up rfl, hw⟩
    ·rintro D σ w hD hdep hcl ⟨v613, v615, v616, v617, v619, v620, hv, ha, hw⟩
     obtain ⟨τ, rfl⟩ := (ac (hv.at 5 rfl (hdep.1 rfl)) (ac (ha.at 2 rfl) az)).ups
     refine RL.fa_b ⟨_, rfl, cb hg612⟩ rfl rfl fa26_1 ?_
     refine RL.nil ?_
     exact ⟨rfl, v613, v615, v616, v617, v619, v620, hv.put 12 rfl rfl, ha.up rfl, hw⟩
    ·rintro D σ w hD hdep hcl ⟨v613, v615, v616, v617, v619, v620, hv, ha, hw⟩
     obtain ⟨τ, rfl⟩ := (ac (hv.at 5 rfl (hdep.2.1 rfl)) (ac (hv.at 12 rfl (hdep.1 rfl)) az)).ups
     have hw := hw.selF (i := 3) rfl hD
     refine RL.load_bf (i := 12) (f := (fun x => x.Nets)) ⟨_, rfl, cb hg612⟩ rfl hw rfl rfl fd_Netlist_1 ty24 fun v624 hw => ?_
     have hw := hw.pick 21 [1, 2, 3, 0, 5, 6, 7, 8, 9, 10, 11, 12, 13, 14, 15, 16, 17, 18, 19, 20] (new := [bif D 7 then (rd v613 p1.Nets) else junk, bif D 9 then (pt v615 x614) else junk, bif D 10 then (pt v616 x614.Name) else junk, rd v624 p2.Nets, bif D 15 then (pt v619 x618) else junk, bif D 16 then (pt v620 x618.Name) else junk, rd v593 x589, rd v592 x589, bx 28 b591 x589, rd v590 x589, rd v0 p0, bx 26 b1 p1, bx 26 b2 p2, bc 48 b6 [v464], own 53 v464 s109.1, mp v9 x8, mp v12 x11, rd v107 p1.Parts, own 28 v485 x484, own 53 v588 s487]) rfl rfl (by decide) (by decide)
     have hw := hw.altT (i := 3) (b := true) rfl rfl (junk)
     refine RL.nil ?_
     exact ⟨rfl, v613, v615, v616, v624, v619, v620, hv.put 13 rfl rfl, ha.up rfl, hw⟩
    ·rintro D σ w hD hdep hcl ⟨v613, v615, v616, v617, v619, v620, hv, ha, hw⟩
     obtain ⟨τ, rfl⟩ := (ac (hv.at 5 rfl (hdep.1 rfl)) (ac (ha.at 11 rfl) az)).ups
     refine RL.move (v := (vi (mget x11 x589 (0 : Int)))) ⟨_, rfl, cb hg612⟩ rfl rfl ?_
     refine RL.nil ?_
     exact ⟨rfl, v613, v615, v616, v617, v619, v620, hv.put 14 rfl rfl, ha.up rfl, hw⟩
    ·rintro D σ w hD hdep hcl ⟨v613, v615, v616, v617, v619, v620, hv, ha, hw⟩
     obtain ⟨τ, rfl⟩ := (ac (hv.at 5 rfl (hdep.2.2.1 rfl)) (ac (hv.at 13 rfl (hdep.1 rfl)) (ac (hv.at 14 rfl (hdep.2.1 rfl)) az))).ups
     have hw := hw.selT (i := 3) rfl (hdep.1 rfl)
     have hw := hw.selF (i := 4) rfl hD
     refine RL.ia_rd (i := 3) ⟨_, rfl, cb hg612⟩ rfl hw rfl rfl rfl sl24 hx618 fun v625 hw => ?_
     have hw := hw.pick 21 [1, 2, 3, 4, 0, 6, 7, 8, 9, 10, 11, 12, 13, 14, 15, 16, 17, 18, 19, 20] (new := [bif D 7 then (rd v613 p1.Nets) else junk, bif D 9 then (pt v615 x614) else junk, bif D 10 then (pt v616 x614.Name) else junk, rd v617 p2.Nets, pt v625 x618, bif D 16 then (pt v620 x618.Name) else junk, rd v593 x589, rd v592 x589, bx 28 b591 x589, rd v590 x589, rd v0 p0, bx 26 b1 p1, bx 26 b2 p2, bc 48 b6 [v464], own 53 v464 s109.1, mp v9 x8, mp v12 x11, rd v107 p1.Parts, own 28 v485 x484, own 53 v588 s487]) rfl rfl (by decide) (by decide)
     have hw := hw.altT (i := 3) (b := D 13) rfl (hdep.1 rfl) (junk)
     have hw := hw.altT (i := 4) (b := true) rfl rfl (junk)
     refine RL.nil ?_
     exact ⟨rfl, v613, v615, v616, v617, v625, v620, hv.put 15 rfl rfl, ha.up rfl, hw⟩
    ·rintro D σ w hD hdep hcl ⟨v613, v615, v616, v617, v619, v620, hv, ha, hw⟩
     obtain ⟨τ, rfl⟩ := (ac (hv.at 5 rfl (hdep.2.1 rfl)) (ac (hv.at 15 rfl (hdep.1 rfl)) az)).ups
     have hw := hw.selT (i := 4) rfl (hdep.1 rfl)
     have hw := hw.selF (i := 5) rfl hD
     refine RL.fa_pt (i := 4) (f := fun (x : Net) => x.Name) ⟨_, rfl, cb hg612⟩ rfl hw rfl rfl fa64_0 fd_Net_0 fun v626 hw => ?_
     have hw := hw.pick 21 [1, 2, 3, 4, 5, 0, 7, 8, 9, 10, 11, 12, 13, 14, 15, 16, 17, 18, 19, 20] (new := [bif D 7 then (rd v613 p1.Nets) else junk, bif D 9 then (pt v615 x614) else junk, bif D 10 then (pt v616 x614.Name) else junk, bif D 13 then (rd v617 p2.Nets) else junk, pt v619 x618, pt v626 x618.Name, rd v593 x589, rd v592 x589, bx 28 b591 x589, rd v590 x589, rd v0 p0, bx 26 b1 p1, bx 26 b2 p2, bc 48 b6 [v464], own 53 v464 s109.1, mp v9 x8, mp v12 x11, rd v107 p1.Parts, own 28 v485 x484, own 53 v588 s487]) rfl rfl (by decide) (by decide)
     have hw := hw.altT (i := 4) (b := D 15) rfl (hdep.1 rfl) (junk)
     have hw := hw.altT (i := 5) (b := true) rfl rfl (junk)
     refine RL.nil ?_
     exact ⟨rfl, v613, v615, v616, v617, v619, v626, hv.put 16 rfl rfl, ha.up rfl, hw⟩
    ·rintro D σ w hD hdep hcl ⟨v613, v615, v616, v617, v619, v620, hv, ha, hw⟩
     obtain ⟨τ, rfl⟩ := (ac (hv.at 5 rfl (hdep.2.1 rfl)) (ac (hv.at 16 rfl (hdep.1 rfl)) az)).ups
     have hw := hw.selT (i := 5) rfl (hdep.1 rfl)
     refine RL.load_pts (i := 5) (y := x618.Name) ⟨_, rfl, cb hg612⟩ rfl hw rfl rfl ty9 ?_
     have hw := hw.altT (i := 5) (b := D 16) rfl (hdep.1 rfl) (junk)
     refine RL.nil ?_
     exact ⟨rfl, v613, v615, v616, v617, v619, v620, hv.put 17 rfl rfl, ha.up rfl, hw⟩
    ·rintro D σ w hD hdep hcl ⟨v613, v615, v616, v617, v619, v620, hv, ha, hw⟩
     obtain ⟨τ, rfl⟩ := (ac (hv.at 5 rfl (hdep.2.2.1 rfl)) (ac (hv.at 11 rfl (hdep.1 rfl)) (ac (hv.at 17 rfl (hdep.2.1 rfl)) az))).ups
     refine RL.scmp (a := x614.Name) (b := x618.Name) ⟨_, rfl, cb hg612⟩ rfl rfl rfl rfl ?_
     refine RL.nil ?_
     exact ⟨rfl, v613, v615, v616, v617, v619, v620, hv.put 18 rfl rfl, ha.up rfl, hw⟩
    ·rintro D σ w hD hdep hcl ⟨v613, v615, v616, v617, v619, v620, hv, ha, hw⟩
     obtain ⟨τ, rfl⟩ := (ac (hv.at 3 rfl (hdep.2.2.1 rfl)) (ac (hv.at 5 rfl (hdep.1 rfl)) (ac (hv.at 18 rfl (hdep.2.1 rfl)) az))).ups
     refine RL.pick (b := (mhas x8 x589)) (v := (vb (!x614.Name.eqb x618.Name))) ⟨_, rfl, cb hg611⟩ rfl rfl (by rw [hg612]; rfl) ?_
     refine RL.nil ?_
     exact ⟨rfl, v613, v615, v616, v617, v619, v620, hv.put 19 rfl rfl, ha.up rfl, hw⟩
    ·rintro D σ w hD hdep hcl ⟨v613, v615, v616, v617, v619, v620, hv, ha, hw⟩
     obtain ⟨τ, rfl⟩ := (ac (hv.at 3 rfl (hdep.1 rfl)) (ac (hv.at 19 rfl (hdep.2.1 rfl)) az)).ups
     refine RL.pick (b := ((mhas x8 x589) != (mhas x11 x589))) (v := (vb (!x614.Name.eqb x618.Name))) trivial rfl rfl (by rw [hg611]; rfl) ?_
     refine RL.nil ?_
     exact ⟨rfl, v613, v615, v616, v617, v619, v620, hv.put 20 rfl rfl, ha.up rfl, hw⟩
    rintro D σ w hall ⟨v613, v615, v616, v617, v619, v620, hv, ha, hw⟩
    rw [hall 7 (by decide), hall 9 (by decide), hall 10 (by decide), hall 13 (by decide), hall 15 (by decide), hall 16 (by decide)] at hw
    obtain ⟨τ, rfl⟩ := (ac (hv.at 20 rfl (hall 20 (by decide))) (ac (ha.at 0 rfl) (ac (ha.at 1 rfl) (ac (ha.at 2 rfl) (ac (ha.at 3 rfl) (ac (ha.at 4 rfl) (ac (ha.at 5 rfl) (ac (ha.at 6 rfl) (ac (ha.at 7 rfl) (ac (ha.at 8 rfl) (ac (ha.at 9 rfl) (ac (ha.at 10 rfl) (ac (ha.at 11 rfl) (ac (ha.at 12 rfl) (ac (ha.at 13 rfl) (ac (ha.at 14 rfl) (ac (ha.at 15 rfl) (ac (ha.at 16 rfl) (ac (ha.at 17 rfl) (ac (ha.at 18 rfl) az)))))))))))))))))))).ups
    obtain rfl := oi hj
    exact ⟨rfl, ⟨rfl, rfl, rfl, rfl, rfl, rfl, rfl, rfl, rfl, rfl, rfl, rfl, rfl, rfl, rfl, rfl, trivial⟩, hw.pick 20 [10, 11, 12, 13, 14, 19, 15, 16, 8, 17, 18] (new := [rd v0 p0, bx 26 b1 p1, bx 26 b2 p2, bc 48 b6 [v464], own 53 v464 s109.1, own 53 v588 s487, mp v9 x8, mp v12 x11, bx 28 b591 x589, rd v107 p1.Parts, own 28 v485 x484]) rfl rfl (by decide) (by decide)⟩
   rintro σ w ⟨ha, hw⟩
   obtain ⟨τ, rfl⟩ := ha.ups
   refine thenQ_n ?_
   obtain ⟨s631, hj, hb⟩ := bd hb
   refine RC.jn (fun (s631 : (List ListChange)) (σ : Nat → Value) (w : World) => ∃ v632 : Value, agree σ [(0, v0), (4, (vp b1 0)), (5, (vp b2 0)), (9, (vp b6 0)), (10, v632), (11, (.func (.func 66) #[] #[(vp b6 0)])), (12, v9), (13, v12), (76, v107), (77, (vi (p1.Parts.length : Int))), (78, (vi (k108 : Int))), (104, v485), (105, (vi (x484.length : Int))), (106, (vi (k486 : Int)))] ∧ Holds E w ([rd v0 p0, bx 26 b1 p1, bx 26 b2 p2, bc 48 b6 [v464], own 53 v464 s109.1, mp v9 x8, mp v12 x11, rd v107 p1.Parts, own 28 v485 x484, own 53 v632 s631] ++ Γ)) s631 ?_ ?_
   ·refine RC.cond (b := s610) rfl (fun hc => ?_) (fun hc => ?_)
    rotate_left
    ·replace hj := cF hc hj
     refine RC.skip ?_
     obtain rfl := oi hj
     exact ⟨rfl, v588, ⟨rfl, rfl, rfl, rfl, rfl, rfl, rfl, rfl, rfl, rfl, rfl, rfl, rfl, rfl, trivial⟩, hw.pick 11 [0, 1, 2, 3, 4, 6, 7, 9, 10, 5] (new := [rd v0 p0, bx 26 b1 p1, bx 26 b2 p2, bc 48 b6 [v464], own 53 v464 s109.1, mp v9 x8, mp v12 x11, rd v107 p1.Parts, own 28 v485 x484, own 53 v588 s487]) rfl rfl (by decide) (by decide)⟩
    replace hj := cT hc hj
    refine RC.region ?_
    refine mv v588 rfl rfl ?_
    refine RL.fa_b trivial rfl rfl fa28_0 ?_
    refine RL.load_bfs (i := 8) (f := (fun x => x.Part)) trivial rfl hw rfl rfl fd_Pin_0 ty9 ?_
    refine RL.fa_b trivial rfl rfl fa28_1 ?_
    refine RL.load_bfs (i := 8) (f := (fun x => x.Pin)) trivial rfl hw rfl rfl fd_Pin_1 ty9 ?_
    have hw := hw.sc (γ := Int) 4
    have hw := hw.sc (γ := Str) x589.Part
    have hw := hw.sc (γ := Str) x589.Pin
    refine RL.build (y := (⟨4, x589.Part, x589.Pin⟩ : ListChange)) trivial rfl hw [(0, (vi 4)), (1, (str x589.Part)), (2, (str x589.Pin))] rfl st53 rfl (fun M hs g => by have h := z_ListChange M; exact Fills.cons (f := fun (x : ListChange) y => { x with Kind := y }) rfl h fs_ListChange_0 (by decide) (g.sat 2 _ rfl).1 fun _ h => Fills.cons (f := fun (x : ListChange) y => { x with Name := y }) rfl h fs_ListChange_1 (by decide) (g.sat 1 _ rfl).1 fun _ h => Fills.cons (f := fun (x : ListChange) y => { x with Pin := y }) rfl h fs_ListChange_2 (by decide) (g.sat 0 _ rfl).1 fun _ h => Fills.nil h) fun v633 hw => ?_
    refine RL.bslice (l := ([(⟨4, x589.Part, x589.Pin⟩ : ListChange)] : (List ListChange))) trivial rfl hw [v633] rfl rfl rfl sl48 ze53 (fun M hs g => ⟨(g.sat 0 _ rfl).1, trivial⟩) fun v634 w hw => ?_
    have hw := hw.freeze (i := 0) rfl
    obtain ⟨x635, hx635, hj⟩ := bd hj
    refine RL.app (i := 10) (j := 0) trivial rfl hw rfl rfl rfl rfl el48 hx635 fun v636 w hw => ?_
    refine as_ v636 rfl rfl ?_
    refine RL.nil ?_
    obtain rfl := oi hj
    exact ⟨rfl, v636, ⟨rfl, rfl, rfl, rfl, rfl, rfl, rfl, rfl, rfl, rfl, rfl, rfl, rfl, rfl, trivial⟩, hw.pick 16 [5, 6, 7, 8, 9, 11, 12, 14, 15, 10] (new := [rd v0 p0, bx 26 b1 p1, bx 26 b2 p2, bc 48 b6 [v464], own 53 v464 s109.1, mp v9 x8, mp v12 x11, rd v107 p1.Parts, own 28 v485 x484, own 53 v636 x635]) rfl rfl (by decide) (by decide)⟩
   rintro σ w ⟨v632, ha, hw⟩
   obtain ⟨τ, rfl⟩ := ha.ups
   refine blkQ_n ?_
   refine thenQ_n ?_
   refine RC.region ?_
   refine RL.inc trivial rfl hk hm rfl rfl ?_
   refine mv (vi ((k486 + 1 : Nat) : Int)) rfl rfl ?_
   refine RL.nil ?_
   obtain rfl := oi hb
   exact ⟨rfl, v632, ⟨rfl, rfl, rfl, rfl, rfl, rfl, rfl, rfl, rfl, rfl, rfl, rfl, rfl, rfl, trivial⟩, hw.pick 10 [0, 1, 2, 3, 4, 5, 6, 7, 8, 9] (new := [rd v0 p0, bx 26 b1 p1, bx 26 b2 p2, bc 48 b6 [v464], own 53 v464 s109.1, mp v9 x8, mp v12 x11, rd v107 p1.Parts, own 28 v485 x484, own 53 v632 s631]) rfl rfl (by decide) (by decide)⟩
  intro σ w hJ
  obtain ⟨v587, ha, hw⟩ := hJ
  obtain ⟨τ, rfl⟩ := ha.ups
  refine blkQ_n ?_
  refine thenQ_n ?_
  refine RC.region ?_
  refine RL.inc trivial rfl hk hm rfl rfl ?_
  refine mv (vi ((k108 + 1 : Nat) : Int)) rfl rfl ?_
  refine RL.nil ?_
  obtain rfl := oi hb
  exact ⟨rfl, v464, v587, ⟨rfl, rfl, rfl, rfl, rfl, rfl, rfl, rfl, rfl, rfl, rfl, trivial⟩, hw.pick 10 [0, 1, 2, 3, 4, 5, 6, 7, 9] (new := [rd v0 p0, bx 26 b1 p1, bx 26 b2 p2, bc 48 b6 [v464], own 53 v464 s109.1, mp v9 x8, mp v12 x11, rd v107 p1.Parts, own 53 v587 s487]) rfl rfl (by decide) (by decide)⟩
 intro σ w hJ
 obtain ⟨v462, v463, ha, hw⟩ := hJ
 obtain ⟨τ, rfl⟩ := ha.ups
 refine thenQ_n ?_
 refine RC.sr ?_
 refine RL.load_bc (i := 3) (v := v462) trivial rfl hw rfl rfl rfl ty48 ?_
 refine mv v463 rfl rfl ?_
 have hw := hw.freeze (i := 8) rfl
 obtain ⟨x641, hx641, hb⟩ := bd hb
 refine RL.app (i := 4) (j := 8) trivial rfl hw rfl rfl rfl rfl el48 hx641 fun v642 w hw => ?_
 refine as_ v642 rfl rfl ?_
 refine as_ (vi 0) rfl rfl ?_
 refine RL.nt ?_
 refine RC.ret ?_
 obtain rfl := oi hb
 exact fin2 rfl rfl rfl ⟨v642, rfl, hw.pick 9 [4] (new := [own 53 v642 x641]) rfl rfl (by decide) (by decide)⟩
def etchhouseref2_netName_R (E : World) (Γ : List HP) (res : Str) (v : Value) (w : World) : Prop := v = (str res) ∧ Holds E w Γ
def etchhouseref2_netName_K (E : World) (Γ : List HP) (r : Str) (σ : Nat → Value) (w : World) : Prop := finQ Tryd.prog 17 Tryd.f70 (etchhouseref2_netName_R E Γ r) .ret σ w
theorem etchhouseref2_netName_ok (N : Nat) {E w : World} {Γ : List HP} {i0 : Nat} {v0 : Value} {p0 : Netlist} {i1 : Nat} {v1 : Value} {p1 : Pin} {res : Str} (hw : Holds E w Γ) (h0 : Γ[i0]? = some (rd v0 p0)) (h1 : Γ[i1]? = some (rd v1 p1)) (hb : etchhouseref2_netName N p0 p1 = some res) :
    Calls Tryd.prog 70 [v0, v1].toArray w (Ret (etchhouseref2_netName_R E Γ res)) := by
 unfold etchhouseref2_netName at hb
 refine enter Tryd.func70 rfl rfl (Nat.le_of_ble_eq_true rfl) ?_
 have hw := hw.dup (i := i0 + 0) h0
 have hw := hw.dup (i := i1 + 1) h1
 refine RC.sr ?_
 refine RL.box_rd (i := 1) (v := v0) trivial rfl hw rfl rfl fun b1 w hw => ?_
 refine RL.box_rd (i := 1) (v := v1) trivial rfl hw rfl rfl fun b2 w hw => ?_
 refine as_ (str ⟨[]⟩) rfl rfl ?_
 refine RL.nq ?_
 refine RC.sr ?_
 refine RL.load_bf (i := 1) (f := (fun x => x)) trivial rfl hw rfl rfl Fd.self ty26 fun v3 hw => ?_
 refine RL.load_bf (i := 1) (f := (fun x => x)) trivial rfl hw rfl rfl Fd.self ty28 fun v4 hw => ?_
 obtain ⟨x5, hx5, hb⟩ := bd hb
 refine RL.call trivial rfl fn39 [v3, v4] rfl (Calls_ret (etchhouseref2_netOf_ok N  (i0 := 1) (i1 := 0) hw rfl rfl hx5) ?_)
 rintro _ w ⟨rfl, hw⟩
 refine as_ (vi x5) rfl rfl ?_
 refine RL.ns ?_
 refine mv (vi x5) rfl rfl ?_
 refine ic x5 0 rfl rfl rfl rfl ?_
 refine RL.nt ?_
 refine RC.cond (b := (decide (x5 ≥ 0))) rfl (fun hc => ?_) (fun hc => ?_)
 rotate_left
 ·replace hb := cF hc hb
  refine RC.sx ?_
  refine as_ (str ⟨[]⟩) rfl rfl ?_
  refine RL.nt ?_
  refine RC.ret ?_
  obtain rfl := oi hb
  exact fin1 rfl rfl ⟨rfl, hw.drop 6 rfl⟩
 replace hb := cT hc hb
 refine RC.sr ?_
 refine RL.fa_b trivial rfl rfl fa26_1 ?_
 refine RL.load_bf (i := 3) (f := (fun x => x.Nets)) trivial rfl hw rfl rfl fd_Netlist_1 ty24 fun v10 hw => ?_
 refine mv (vi x5) rfl rfl ?_
 obtain ⟨x11, hx11, hb⟩ := bd hb
 refine RL.ia_rd (i := 0) trivial rfl hw rfl rfl rfl sl24 hx11 fun v12 hw => ?_
 refine RL.fa_pt (i := 0) (f := fun (x : Net) => x.Name) trivial rfl hw rfl rfl fa64_0 fd_Net_0 fun v13 hw => ?_
 refine RL.load_pts (i := 0) (y := x11.Name) trivial rfl hw rfl rfl ty9 ?_
 refine as_ (str x11.Name) rfl rfl ?_
 refine RL.nt ?_
 refine RC.rt ?_
 obtain rfl := oi hb
 exact fin1 rfl rfl ⟨rfl, hw.drop 9 rfl⟩
def slices_Grow_ListChange_nil_R (E : World) (Γ : List HP) (res : (List ListChange)) (v : Value) (w : World) : Prop := Holds E w (own 53 v res :: Γ)
def slices_Grow_ListChange_nil_K (E : World) (Γ : List HP) (r : (List ListChange)) (σ : Nat → Value) (w : World) : Prop := finQ Tryd.prog 27 Tryd.f115 (slices_Grow_ListChange_nil_R E Γ r) .ret σ w
theorem slices_Grow_ListChange_nil_ok (N : Nat) {E w : World} {Γ : List HP} {p1 : Int} {res : (List ListChange)} (hw : Holds E w Γ)  (hb : slices_Grow_ListChange_nil N p1 = some res) :
    Calls Tryd.prog 115 [(.slice none 0 0), (vi p1)].toArray w (Ret (slices_Grow_ListChange_nil_R E Γ res)) := by
 unfold slices_Grow_ListChange_nil at hb
 refine enter Tryd.func115 rfl rfl (Nat.le_of_ble_eq_true rfl) ?_
 refine RC.sr ?_
 refine as_ (.slice none 0 0) rfl rfl ?_
 refine RL.nq ?_
 refine RC.sr ?_
 refine mv (vi p1) rfl rfl ?_
 refine ic p1 0 rfl rfl rfl rfl ?_
 refine RL.nt ?_
 refine RC.cond (b := (decide (p1 < 0))) rfl (fun hc => ?_) (fun hc => ?_)
 ·replace hb := cT hc hb
  cases hb
 replace hb := cF hc hb
 refine RC.ss ?_
 refine RC.sr ?_
 refine mv (vi p1) rfl rfl ?_
 refine mv (.slice none 0 0) rfl rfl ?_
 refine RL.cap_nil trivial rfl rfl un48 ?_
 refine mv (.slice none 0 0) rfl rfl ?_
 refine RL.lenl (m := 0) trivial rfl rfl un48 ?_
 refine RL.iar (a := ((0 : Nat) : Int)) (b := ((0 : Nat) : Int)) trivial rfl rfl rfl rfl ?_
 refine RL.iar (a := p1) (b := (IntKind.wrap .i64 (((0 : Nat) : Int) - ((0 : Nat) : Int)))) trivial rfl rfl rfl rfl ?_
 refine as_ (vi (IntKind.wrap .i64 (p1 - (IntKind.wrap .i64 (((0 : Nat) : Int) - ((0 : Nat) : Int)))))) rfl rfl ?_
 refine RL.ns ?_
 refine mv (vi (IntKind.wrap .i64 (p1 - (IntKind.wrap .i64 (((0 : Nat) : Int) - ((0 : Nat) : Int)))))) rfl rfl ?_
 refine ic ((IntKind.wrap .i64 (p1 - (IntKind.wrap .i64 (((0 : Nat) : Int) - ((0 : Nat) : Int)))))) 0 rfl rfl rfl rfl ?_
 refine RL.nt ?_
 obtain ⟨s5, hj, hb⟩ := bd hb
 refine RC.jn (fun (s5 : (List ListChange)) (σ : Nat → Value) (w : World) => ∃ v6 : Value, agree σ [(0, v6)] ∧ Holds E w ([own 53 v6 s5] ++ Γ)) s5 ?_ ?_
 ·refine RC.cond (b := (decide ((IntKind.wrap .i64 (p1 - (IntKind.wrap .i64 (((0 : Nat) : Int) - ((0 : Nat) : Int))))) > 0))) rfl (fun hc => ?_) (fun hc => ?_)
  rotate_left
  ·replace hj := cF hc hj
   refine RC.skip ?_
   obtain rfl := oi hj
   have hw := hw.own_nil ListChange 53
   exact ⟨rfl, (.slice none 0 0), ⟨rfl, trivial⟩, hw.pick 1 [0] (new := [own 53 (.slice none 0 0) ([] : (List ListChange))]) rfl rfl (by decide) (by decide)⟩
  replace hj := cT hc hj
  refine RC.region ?_
  refine mv (.slice none 0 0) rfl rfl ?_
  refine mv (.slice none 0 0) rfl rfl ?_
  refine RL.cap_nil trivial rfl rfl un48 ?_
  refine RL.cut_nil ListChange trivial rfl rfl sl48 (.inr ⟨rfl, rfl⟩) (.inl rfl) rfl rfl ?_
  refine mv (vi (IntKind.wrap .i64 (p1 - (IntKind.wrap .i64 (((0 : Nat) : Int) - ((0 : Nat) : Int)))))) rfl rfl ?_
  obtain ⟨x7, hx7, hj⟩ := bd hj
  refine RL.appz_nil (k := (IntKind.wrap .i64 (p1 - (IntKind.wrap .i64 (((0 : Nat) : Int) - ((0 : Nat) : Int)))))) trivial rfl hw rfl rfl el48 un3 zd53 hx7 fun v8 w hw => ?_
  refine mv (.slice none 0 0) rfl rfl ?_
  refine RL.lenl (m := 0) trivial rfl rfl un48 ?_
  obtain ⟨x9, hx9, hj⟩ := bd hj
  refine RL.cut_own (i := 0) trivial rfl hw rfl rfl sl48 (.inr ⟨rfl, rfl⟩) (.inl rfl) hx9 fun v10 hw => ?_
  refine as_ v10 rfl rfl ?_
  refine RL.nil ?_
  obtain rfl := oi hj
  exact ⟨rfl, v10, ⟨rfl, trivial⟩, hw.pick 1 [0] (new := [own 53 v10 x9]) rfl rfl (by decide) (by decide)⟩
 rintro σ w ⟨v6, ha, hw⟩
 obtain ⟨τ, rfl⟩ := ha.ups
 refine thenQ_n ?_
 refine RC.sr ?_
 refine mv v6 rfl rfl ?_
 refine as_ v6 rfl rfl ?_
 refine RL.nt ?_
 refine RC.ret ?_
 obtain rfl := oi hb
 exact fin1 rfl rfl (hw.pick 1 [0] (new := [own 53 v6 s5]) rfl rfl (by decide) (by decide))
def slices_Concat_ListChange_R (E : World) (Γ : List HP) (res : (List ListChange)) (v : Value) (w : World) : Prop := Holds E w (own 53 v res :: Γ)
def slices_Concat_ListChange_K (E : World) (Γ : List HP) (r : (List ListChange)) (σ : Nat → Value) (w : World) : Prop := finQ Tryd.prog 36 Tryd.f71 (slices_Concat_ListChange_R E Γ r) .ret σ w
theorem slices_Concat_ListChange_ok (N : Nat) {E w : World} {Γ : List HP} {i0 : Nat} {v0 : Value} {p0 : (List (List ListChange))} {res : (List ListChange)} (hw : Holds E w Γ) (h0 : Γ[i0]? = some (rd v0 p0)) (hb : slices_Concat_ListChange N p0 = some res) :
    Calls Tryd.prog 71 [v0].toArray w (Ret (slices_Concat_ListChange_R E Γ res)) := by
 unfold slices_Concat_ListChange at hb
 refine enter Tryd.func71 rfl rfl (Nat.le_of_ble_eq_true rfl) ?_
 have hw := hw.dup (i := i0 + 0) h0
 refine RC.sr ?_
 refine as_ (.slice none 0 0) rfl rfl ?_
 refine RL.ns ?_
 refine as_ (vi 0) rfl rfl ?_
 refine RL.nq ?_
 refine RC.sr ?_
 refine mv v0 rfl rfl ?_
 refine RL.len_rd (i := 0) (l := p0) trivial rfl hw rfl rfl un157 ?_
 refine mv (vi 0) rfl rfl ?_
 refine RL.nt ?_
 obtain ⟨s2, hN, hb⟩ := bd hb
 refine RC.fold (fun (k1 : Nat) (s2 : Int) (σ : Nat → Value) (w : World) => agree σ [(0, v0), (3, (vi s2)), (9, v0), (10, (vi (p0.length : Int))), (11, (vi (k1 : Int)))] ∧ Holds E w ([rd v0 p0] ++ Γ)) (fun (s2 : Int) (σ : Nat → Value) (w : World) => agree σ [(0, v0), (3, (vi s2))] ∧ Holds E w ([rd v0 p0] ++ Γ)) hN ?_ ?_ ?_ ?_
 ·exact ⟨⟨rfl, rfl, rfl, rfl, rfl, trivial⟩, hw.pick 1 [0] (new := [rd v0 p0]) rfl rfl (by decide) (by decide)⟩
 ·intro hm s2 σ w hI
  obtain ⟨ha, hw⟩ := hI
  obtain ⟨τ, rfl⟩ := ha.ups
  refine RC.sr ?_
  refine ic ((p0.length : Int)) ((p0.length : Int)) rfl rfl rfl rfl ?_
  refine RL.nq ?_
  refine RC.cond_f dge ?_
  refine RC.ex ?_
  exact ⟨rfl, ⟨rfl, rfl, trivial⟩, hw.pick 1 [0] (new := [rd v0 p0]) rfl rfl (by decide) (by decide)⟩
 ·intro hm k1 s2 s' σ w hk hI hb
  obtain ⟨ha, hw⟩ := hI
  obtain ⟨τ, rfl⟩ := ha.ups
  refine RC.sr ?_
  refine ic ((k1 : Int)) ((p0.length : Int)) rfl rfl rfl rfl ?_
  refine RL.nq ?_
  refine RC.cond_t (dlt hk) ?_
  refine RC.ss ?_
  refine RC.bs ?_
  obtain ⟨x9, hx9, hb⟩ := bd hb
  refine RL.ia_rd (i := 0) trivial rfl hw rfl rfl rfl sl157 hx9 fun v10 hw => ?_
  refine RL.load_pt (i := 0) (x := x9) trivial rfl hw rfl rfl ty48 fun v11 hw => ?_
  refine as_ v11 rfl rfl ?_
  refine RL.ns ?_
  refine mv (vi s2) rfl rfl ?_
  refine mv v11 rfl rfl ?_
  refine RL.len_rd (i := 0) (l := x9) trivial rfl hw rfl rfl un48 ?_
  refine RL.iar (a := s2) (b := (x9.length : Int)) trivial rfl rfl rfl rfl ?_
  refine as_ (vi (IntKind.wrap .i64 (s2 + (x9.length : Int)))) rfl rfl ?_
  refine RL.ns ?_
  refine mv (vi (IntKind.wrap .i64 (s2 + (x9.length : Int)))) rfl rfl ?_
  refine ic ((IntKind.wrap .i64 (s2 + (x9.length : Int)))) 0 rfl rfl rfl rfl ?_
  refine RL.nt ?_
  refine RC.cond (b := (decide ((IntKind.wrap .i64 (s2 + (x9.length : Int))) < 0))) rfl (fun hc => ?_) (fun hc => ?_)
  ·replace hb := cT hc hb
   cases hb
  replace hb := cF hc hb
  refine RC.skip ?_
  refine blkQ_n ?_
  refine thenQ_n ?_
  refine RC.region ?_
  refine RL.inc trivial rfl hk hm rfl rfl ?_
  refine mv (vi ((k1 + 1 : Nat) : Int)) rfl rfl ?_
  refine RL.nil ?_
  obtain rfl := oi hb
  exact ⟨rfl, ⟨rfl, rfl, rfl, rfl, rfl, trivial⟩, hw.pick 3 [2] (new := [rd v0 p0]) rfl rfl (by decide) (by decide)⟩
 intro σ w hJ
 obtain ⟨ha, hw⟩ := hJ
 obtain ⟨τ, rfl⟩ := ha.ups
 refine thenQ_n ?_
 refine RC.sr ?_
 refine mv (vi s2) rfl rfl ?_
 obtain ⟨x12, hx12, hb⟩ := bd hb
 refine RL.call trivial rfl fn115 [(.slice none 0 0), (vi s2)] rfl (Calls_ret (slices_Grow_ListChange_nil_ok N (p1 := s2)  hw  hx12) ?_)
 rintro v13 w hw
 refine as_ v13 rfl rfl ?_
 refine RL.nq ?_
 refine RC.sr ?_
 refine mv v0 rfl rfl ?_
 refine RL.len_rd (i := 1) (l := p0) trivial rfl hw rfl rfl un157 ?_
 refine mv (vi 0) rfl rfl ?_
 refine RL.nt ?_
 obtain ⟨s15, hN, hb⟩ := bd hb
 refine RC.fold (fun (k14 : Nat) (s15 : (List ListChange)) (σ : Nat → Value) (w : World) => ∃ v28 : Value, agree σ [(6, v28), (25, v0), (26, (vi (p0.length : Int))), (27, (vi (k14 : Int)))] ∧ Holds E w ([rd v0 p0, own 53 v28 s15] ++ Γ)) (fun (s15 : (List ListChange)) (σ : Nat → Value) (w : World) => ∃ v29 : Value, agree σ [(6, v29)] ∧ Holds E w ([rd v0 p0, own 53 v29 s15] ++ Γ)) hN ?_ ?_ ?_ ?_
 ·exact ⟨v13, ⟨rfl, rfl, rfl, rfl, trivial⟩, hw.pick 2 [1, 0] (new := [rd v0 p0, own 53 v13 x12]) rfl rfl (by decide) (by decide)⟩
 ·intro hm s15 σ w hI
  obtain ⟨v36, ha, hw⟩ := hI
  obtain ⟨τ, rfl⟩ := ha.ups
  refine RC.sr ?_
  refine ic ((p0.length : Int)) ((p0.length : Int)) rfl rfl rfl rfl ?_
  refine RL.nq ?_
  refine RC.cond_f dge ?_
  refine RC.ex ?_
  exact ⟨rfl, v36, ⟨rfl, trivial⟩, hw.pick 2 [0, 1] (new := [rd v0 p0, own 53 v36 s15]) rfl rfl (by decide) (by decide)⟩
 ·intro hm k14 s15 s' σ w hk hI hb
  obtain ⟨v30, ha, hw⟩ := hI
  obtain ⟨τ, rfl⟩ := ha.ups
  refine RC.sr ?_
  refine ic ((k14 : Int)) ((p0.length : Int)) rfl rfl rfl rfl ?_
  refine RL.nq ?_
  refine RC.cond_t (dlt hk) ?_
  refine RC.ss ?_
  refine RC.bs ?_
  obtain ⟨x31, hx31, hb⟩ := bd hb
  refine RL.ia_rd (i := 0) trivial rfl hw rfl rfl rfl sl157 hx31 fun v32 hw => ?_
  refine RL.load_pt (i := 0) (x := x31) trivial rfl hw rfl rfl ty48 fun v33 hw => ?_
  refine as_ v33 rfl rfl ?_
  refine RL.nt ?_
  refine RC.region ?_
  refine mv v30 rfl rfl ?_
  refine mv v33 rfl rfl ?_
  obtain ⟨x34, hx34, hb⟩ := bd hb
  refine RL.app (i := 3) (j := 0) trivial rfl hw rfl rfl rfl rfl el48 hx34 fun v35 w hw => ?_
  refine as_ v35 rfl rfl ?_
  refine RL.nil ?_
  refine blkQ_n ?_
  refine thenQ_n ?_
  refine RC.region ?_
  refine RL.inc trivial rfl hk hm rfl rfl ?_
  refine mv (vi ((k14 + 1 : Nat) : Int)) rfl rfl ?_
  refine RL.nil ?_
  obtain rfl := oi hb
  exact ⟨rfl, v35, ⟨rfl, rfl, rfl, rfl, trivial⟩, hw.pick 4 [2, 3] (new := [rd v0 p0, own 53 v35 x34]) rfl rfl (by decide) (by decide)⟩
 intro σ w hJ
 obtain ⟨v29, ha, hw⟩ := hJ
 obtain ⟨τ, rfl⟩ := ha.ups
 refine thenQ_n ?_
 refine RC.sr ?_
 refine mv v29 rfl rfl ?_
 refine as_ v29 rfl rfl ?_
 refine RL.nt ?_
 refine RC.ret ?_
 obtain rfl := oi hb
 exact fin1 rfl rfl (hw.pick 2 [1] (new := [own 53 v29 s15]) rfl rfl (by decide) (by decide))
end Go.Gk
