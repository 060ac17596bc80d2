/-
  Printed by gen.py: Go functions as plain functions, and that they are.
-/
import Derived.Test.YtnjoaggeheokeaaDoorT
import Derived.Test.YtnjoaggeheokeaaDoorF2
import Derived.Test.YtnjoaggeheokeaaDoorF8
import Derived.Test.YtnjoaggeheokeaaDoorF13
set_option linter.unusedVariables false
set_option linter.unusedSimpArgs false
set_option linter.unusedSectionVars false
set_option maxRecDepth 100000
set_option maxHeartbeats 4000000

namespace Go.Gk
open Go Go.Proofs
def netlist_Findings_R (E : World) (Γ : List HP) (res : (List Finding) × Int) (v : Value) (w : World) : Prop := ∃ u0 : Value, v = .tuple #[u0, (vi res.2)] ∧ Holds E w (own 96 u0 res.1 :: Γ)
def netlist_Findings_K (E : World) (Γ : List HP) (r : (List Finding) × Int) (σ : Nat → Value) (w : World) : Prop := finQ Tryd.prog 159 Tryd.f19 (netlist_Findings_R E Γ r) .ret σ w
theorem netlist_Findings_ok (N : Nat) {E w : World} {Γ : List HP} {i0 : Nat} {v0 : Value} {p0 : (List PartType)} {i1 : Nat} {v1 : Value} {p1 : Netlist} {res : (List Finding) × Int} (hw : Holds E w Γ) (h0 : Γ[i0]? = some (rd v0 p0)) (h1 : Γ[i1]? = some (rd v1 p1)) (hb : netlist_Findings N p0 p1 = some res) :
    Calls Tryd.prog 19 [v0, v1].toArray w (Ret (netlist_Findings_R E Γ res)) := by
 unfold netlist_Findings at hb
 refine enter Tryd.func19 rfl rfl (Nat.le_of_ble_eq_true rfl) ?_
 have hw := hw.dup (i := i0 + 0) h0
 have hw := hw.dup (i := i1 + 1) h1
 refine RC.sr ?_
 refine RL.box_rd (i := 1) (v := v0) trivial rfl hw rfl rfl fun b31 w hw => ?_
 have hw := hw.freeze_bx (i := 0) rfl
 refine RL.box_rd (i := 1) (v := v1) trivial rfl hw rfl rfl fun b32 w hw => ?_
 have hw := hw.freeze_bx (i := 0) rfl
 refine as_ (.slice none 0 0) rfl rfl ?_
 refine as_ (vi 0) rfl rfl ?_
 refine RL.nq ?_
 refine RC.sr ?_
 refine RL.load_pt (i := 1) (x := p0) trivial rfl hw rfl rfl ty22 fun v33 hw => ?_
 refine RL.load_pt (i := 1) (x := p1) trivial rfl hw rfl rfl ty26 fun v34 hw => ?_
 obtain ⟨x35, hx35, hb⟩ := bd hb
 refine RL.call trivial rfl fn13 [v33, v34] rfl (Calls_ret (netlist_CheckList_ok N  (i0 := 1) (i1 := 0) hw rfl rfl hx35) ?_)
 rintro _ w ⟨rfl, hw⟩
 refine as_ (vi x35) rfl rfl ?_
 refine RL.ns ?_
 refine mv (vi x35) rfl rfl ?_
 refine ic x35 0 rfl rfl rfl rfl ?_
 refine RL.nt ?_
 refine RC.cond (b := (x35 != 0)) rfl (fun hc => ?_) (fun hc => ?_)
 ·replace hb := cT hc hb
  refine RC.sr ?_
  refine mv (vi x35) rfl rfl ?_
  refine as_ (.slice none 0 0) rfl rfl ?_
  refine as_ (vi x35) rfl rfl ?_
  refine RL.nt ?_
  refine RC.rt ?_
  obtain rfl := oi hb
  have hw := hw.own_nil Finding 96
  exact fin2 rfl rfl rfl ⟨(.slice none 0 0), rfl, hw.pick 7 [0] (new := [own 96 (.slice none 0 0) ([] : (List Finding))]) rfl rfl (by decide) (by decide)⟩
 replace hb := cF hc hb
 refine RC.sx ?_
 refine RL.makeFunc trivial rfl [(vp b31 0), (vp b32 0)] rfl ?_
 refine as_ (.func (.func 49) #[] #[(vp b31 0), (vp b32 0)]) rfl rfl ?_
 refine RL.ns ?_
 refine RL.alloc_bc trivial rfl hw zc39 rfl fun b36 w hw => ?_
 refine RL.nq ?_
 refine RC.sr ?_
 refine RL.fa_pt (i := 3) (f := fun (x : Netlist) => x.Nets) trivial rfl hw rfl rfl fa26_1 fd_Netlist_1 fun v37 hw => ?_
 refine RL.load_pt (i := 0) (x := p1.Nets) trivial rfl hw rfl rfl ty24 fun v38 hw => ?_
 refine RL.len_rd (i := 0) (l := p1.Nets) trivial rfl hw rfl rfl un24 ?_
 refine mv (vi 0) rfl rfl ?_
 refine RL.nt ?_
 obtain ⟨s40, hN, hb⟩ := bd hb
 refine RC.fold (fun (k39 : Nat) (s40 : (List Finding)) (σ : Nat → Value) (w : World) => ∃ v519 : Value, agree σ [(2, (vp b31 0)), (3, (vp b32 0)), (7, (.func (.func 49) #[] #[(vp b31 0), (vp b32 0)])), (8, (vp b36 0)), (29, v38), (30, (vi (p1.Nets.length : Int))), (31, (vi (k39 : Int)))] ∧ Holds E w ([pt (vp b31 0) p0, pt (vp b32 0) p1, bc 39 b36 [v519], own 96 v519 s40, rd v38 p1.Nets] ++ Γ)) (fun (s40 : (List Finding)) (σ : Nat → Value) (w : World) => ∃ v520 : Value, agree σ [(2, (vp b31 0)), (3, (vp b32 0)), (7, (.func (.func 49) #[] #[(vp b31 0), (vp b32 0)])), (8, (vp b36 0))] ∧ Holds E w ([pt (vp b31 0) p0, pt (vp b32 0) p1, bc 39 b36 [v520], own 96 v520 s40, rd v38 p1.Nets] ++ Γ)) hN ?_ ?_ ?_ ?_
 ·have hw := hw.own_nil Finding 96
  exact ⟨(.slice none 0 0), ⟨rfl, rfl, rfl, rfl, rfl, rfl, rfl, trivial⟩, hw.pick 10 [7, 6, 3, 0, 1] (new := [pt (vp b31 0) p0, pt (vp b32 0) p1, bc 39 b36 [(.slice none 0 0)], own 96 (.slice none 0 0) ([] : (List Finding)), rd v38 p1.Nets]) rfl rfl (by decide) (by decide)⟩
 ·intro hm s40 σ w hI
  obtain ⟨v760, ha, hw⟩ := hI
  obtain ⟨τ, rfl⟩ := ha.ups
  refine RC.sr ?_
  refine ic ((p1.Nets.length : Int)) ((p1.Nets.length : Int)) rfl rfl rfl rfl ?_
  refine RL.nq ?_
  refine RC.cond_f dge ?_
  refine RC.ex ?_
  exact ⟨rfl, v760, ⟨rfl, rfl, rfl, rfl, trivial⟩, hw.pick 5 [0, 1, 2, 3, 4] (new := [pt (vp b31 0) p0, pt (vp b32 0) p1, bc 39 b36 [v760], own 96 v760 s40, rd v38 p1.Nets]) rfl rfl (by decide) (by decide)⟩
 ·intro hm k39 s40 s' σ w hk hI hb
  obtain ⟨v521, ha, hw⟩ := hI
  obtain ⟨τ, rfl⟩ := ha.ups
  refine RC.sr ?_
  refine ic ((k39 : Int)) ((p1.Nets.length : Int)) rfl rfl rfl rfl ?_
  refine RL.nq ?_
  refine RC.cond_t (dlt hk) ?_
  refine RC.ss ?_
  refine RC.bs ?_
  obtain ⟨x522, hx522, hb⟩ := bd hb
  refine RL.ia_rd (i := 4) trivial rfl hw rfl rfl rfl sl24 hx522 fun v523 hw => ?_
  refine RL.load_pt (i := 0) (x := x522) trivial rfl hw rfl rfl ty64 fun v524 hw => ?_
  refine RL.alloc_bc trivial rfl hw zc64 rfl fun b525 w hw => ?_
  refine RL.store_bcx (i := 0) (j := 1) trivial hw rfl rfl rfl rfl ty64 rfl fun w hw => ?_
  obtain ⟨cs, hcs, hw⟩ := hw.open_bx (i := 0) rfl
  obtain ⟨v526, v527, v528, rfl⟩ := len3 hcs
  have hw := hw.fld (i := 0) (k := 0) (f := fun x => x.Name) rfl fd_Net_0 rfl rfl rfl
  obtain rfl := hw.ofSc (γ := Str) (i := 0) rfl
  have hw := hw.fld (i := 1) (k := 1) (f := fun x => x.Pins) rfl fd_Net_1 rfl rfl rfl
  have hw := hw.fld (i := 2) (k := 2) (f := fun x => x.Ports) rfl fd_Net_2 rfl rfl rfl
  refine RL.ns ?_
  have hw := hw.mbag_nil Int Pin 28
  refine RL.makeMap (κ := Int) (ν := RV) trivial rfl hw fun v529 w hw => ?_
  refine RL.alloc_bc trivial rfl hw zc92 rfl fun b530 w hw => ?_
  refine RL.store_bc (i := 0) (v := v529) trivial hw rfl rfl rfl rfl (one_mp hw (i := 1) rfl) ty92 fun w hw => ?_
  refine RL.ns ?_
  refine as_ (.slice none 0 0) rfl rfl ?_
  refine RL.nq ?_
  refine RC.sr ?_
  refine RL.fa_b trivial rfl rfl fa64_1 ?_
  refine RL.load_bc (i := 7) (v := v527) trivial rfl hw rfl rfl rfl ty33 ?_
  refine RL.len_rd (i := 4) (l := x522.Pins) trivial rfl hw rfl rfl un33 ?_
  refine mv (vi 0) rfl rfl ?_
  refine RL.nt ?_
  obtain ⟨s532, hN, hb⟩ := bd hb
  refine RC.fold (fun (k531 : Nat) (s532 : (List (Int × (List Pin))) × (List Pin)) (σ : Nat → Value) (w : World) => ∃ (us583 : List (Int × RV)) (v584 : Value), agree σ [(2, (vp b31 0)), (3, (vp b32 0)), (7, (.func (.func 49) #[] #[(vp b31 0), (vp b32 0)])), (8, (vp b36 0)), (10, (vp b525 0)), (11, (vp b530 0)), (12, v584), (29, v38), (30, (vi (p1.Nets.length : Int))), (31, (vi (k39 : Int))), (37, v527), (38, (vi (x522.Pins.length : Int))), (39, (vi (k531 : Int)))] ∧ Holds E w ([pt (vp b31 0) p0, pt (vp b32 0) p1, bc 39 b36 [v521], own 96 v521 s40, bc 64 b525 [(str x522.Name), v527, v528], rd v527 x522.Pins, rd v528 x522.Ports, bc 92 b530 [v529], mp v529 us583, mbag 28 us583 s532.1 none, rd v38 p1.Nets, own 28 v584 s532.2] ++ Γ)) (fun (s532 : (List (Int × (List Pin))) × (List Pin)) (σ : Nat → Value) (w : World) => ∃ (us585 : List (Int × RV)) (v586 : Value), agree σ [(2, (vp b31 0)), (3, (vp b32 0)), (7, (.func (.func 49) #[] #[(vp b31 0), (vp b32 0)])), (8, (vp b36 0)), (10, (vp b525 0)), (11, (vp b530 0)), (12, v586), (29, v38), (30, (vi (p1.Nets.length : Int))), (31, (vi (k39 : Int)))] ∧ Holds E w ([pt (vp b31 0) p0, pt (vp b32 0) p1, bc 39 b36 [v521], own 96 v521 s40, bc 64 b525 [(str x522.Name), v527, v528], rd v527 x522.Pins, rd v528 x522.Ports, bc 92 b530 [v529], mp v529 us585, mbag 28 us585 s532.1 none, rd v38 p1.Nets, own 28 v586 s532.2] ++ Γ)) hN ?_ ?_ ?_ ?_
  ·have hw := hw.own_nil Pin 28
   exact ⟨([] : List (Int × RV)), (.slice none 0 0), ⟨rfl, rfl, rfl, rfl, rfl, rfl, rfl, rfl, rfl, rfl, rfl, rfl, rfl, trivial⟩, hw.pick 16 [11, 12, 13, 14, 8, 5, 4, 1, 2, 3, 15, 0] (new := [pt (vp b31 0) p0, pt (vp b32 0) p1, bc 39 b36 [v521], own 96 v521 s40, bc 64 b525 [(str x522.Name), v527, v528], rd v527 x522.Pins, rd v528 x522.Ports, bc 92 b530 [v529], mp v529 ([] : List (Int × RV)), mbag 28 ([] : List (Int × RV)) ([] : (List (Int × (List Pin)))) none, rd v38 p1.Nets, own 28 (.slice none 0 0) ([] : (List Pin))]) rfl rfl (by decide) (by decide)⟩
  ·intro hm s532 σ w hI
   obtain ⟨us612, v613, ha, hw⟩ := hI
   obtain ⟨τ, rfl⟩ := ha.ups
   refine RC.sr ?_
   refine ic ((x522.Pins.length : Int)) ((x522.Pins.length : Int)) rfl rfl rfl rfl ?_
   refine RL.nq ?_
   refine RC.cond_f dge ?_
   refine RC.ex ?_
   exact ⟨rfl, us612, v613, ⟨rfl, rfl, rfl, rfl, rfl, rfl, rfl, rfl, rfl, rfl, trivial⟩, hw.pick 12 [0, 1, 2, 3, 4, 5, 6, 7, 8, 9, 10, 11] (new := [pt (vp b31 0) p0, pt (vp b32 0) p1, bc 39 b36 [v521], own 96 v521 s40, bc 64 b525 [(str x522.Name), v527, v528], rd v527 x522.Pins, rd v528 x522.Ports, bc 92 b530 [v529], mp v529 us612, mbag 28 us612 s532.1 none, rd v38 p1.Nets, own 28 v613 s532.2]) rfl rfl (by decide) (by decide)⟩
  ·intro hm k531 s532 s' σ w hk hI hb
   obtain ⟨us587, v588, ha, hw⟩ := hI
   obtain ⟨τ, rfl⟩ := ha.ups
   refine RC.sr ?_
   refine ic ((k531 : Int)) ((x522.Pins.length : Int)) rfl rfl rfl rfl ?_
   refine RL.nq ?_
   refine RC.cond_t (dlt hk) ?_
   refine RC.ss ?_
   refine RC.bs ?_
   obtain ⟨x589, hx589, hb⟩ := bd hb
   refine RL.ia_rd (i := 5) trivial rfl hw rfl rfl rfl sl33 hx589 fun v590 hw => ?_
   refine RL.load_pt (i := 0) (x := x589) trivial rfl hw rfl rfl ty28 fun v591 hw => ?_
   refine RL.alloc trivial rfl hw ze28.z fun b592 w hw => ?_
   refine RL.store_raw (i := 0) (j := 1) trivial hw rfl rfl rfl rfl ty28 rfl fun w hw => ?_
   refine RL.ns ?_
   refine mv (.func (.func 49) #[] #[(vp b31 0), (vp b32 0)]) rfl rfl ?_
   refine RL.load_bf (i := 0) (f := (fun x => x)) trivial rfl hw rfl rfl Fd.self ty28 fun v593 hw => ?_
   obtain ⟨x594, hx594, hb⟩ := bd hb
   refine RL.callv (cap := [(vp b31 0), (vp b32 0)]) trivial rfl fn49 rfl [v593] rfl (Calls_ret (netlist_Findings_c1_ok N  (i0 := 0) (i1 := 4) (i2 := 5) hw rfl rfl rfl hx594) ?_)
   rintro _ w ⟨rfl, hw⟩
   refine as_ (vi x594) rfl rfl ?_
   refine RL.nq ?_
   obtain ⟨x597, hx597, hb⟩ := bd hb
   refine RC.drw mixed rfl (fun (D : Nat → Bool) (σ : Nat → Value) (w : World) => ∃ (v598 : Value) (v595 : Value) (v596 : Value), doneV D σ [(0, 46, v529), (1, 47, (vi x594)), (2, 48, v529), (3, 49, (vi x594)), (4, 50, (mget us587 x594 rvz).v), (5, 51, v595), (6, 52, v596), (7, 53, v598)] ∧ agree σ [(2, (vp b31 0)), (3, (vp b32 0)), (7, (.func (.func 49) #[] #[(vp b31 0), (vp b32 0)])), (8, (vp b36 0)), (10, (vp b525 0)), (11, (vp b530 0)), (12, v588), (14, (vp b592 0)), (15, (vi x594)), (29, v38), (30, (vi (p1.Nets.length : Int))), (31, (vi (k39 : Int))), (37, v527), (38, (vi (x522.Pins.length : Int))), (39, (vi (k531 : Int)))] ∧ Holds E w ([bif D 8 then (junk) else (bif D 7 then (own 28 v598 x597) else (bif D 4 then (own 28 (mget us587 x594 rvz).v (mget s532.1 x594 ([] : List Pin))) else junk)), bif D 5 then (rd v595 x589) else junk, bif D 7 then (rd v596 ([x589] : (List Pin))) else (bif D 6 then (own 28 v596 ([x589] : (List Pin))) else junk), rd v593 x589, bx 28 b592 x589, rd v591 x589, pt v590 x589, pt (vp b31 0) p0, pt (vp b32 0) p1, bc 39 b36 [v521], own 96 v521 s40, bc 64 b525 [(str x522.Name), v527, v528], rd v527 x522.Pins, rd v528 x522.Ports, bc 92 b530 [v529], bif D 8 then (mp v529 (mput us587 x594 (rv v598))) else (mp v529 us587), bif D 8 then (mbag 28 (mput us587 x594 (rv v598)) (mput s532.1 x594 x597) none) else (bif D 4 then (mbag 28 us587 s532.1 (some x594)) else (mbag 28 us587 s532.1 none)), rd v38 p1.Nets, own 28 v588 s532.2] ++ Γ)) ?_ ⟨?_, ?_, ?_, ?_, ?_, ?_, ?_, ?_, ?_, trivial⟩ ?_
   ·have hw := hw.drew
    have hw := hw.junk
    have hw := hw.junk
    have hw := hw.junk
    exact ⟨undef, undef, undef, doneV.none, ⟨rfl, rfl, rfl, rfl, rfl, rfl, rfl, rfl, rfl, rfl, rfl, rfl, rfl, rfl, rfl, trivial⟩, hw⟩
   ·rintro D σ w hD hdep hcl ⟨v598, v595, v596, hv, ha, hw⟩
    obtain ⟨τ, rfl⟩ := (ac (ha.at 5 rfl) az).ups
    refine RL.load_bc (i := 14) (v := v529) trivial rfl hw rfl rfl rfl ty92 ?_
    refine RL.nil ?_
    exact ⟨rfl, v598, v595, v596, hv.put 0 rfl rfl, ha.up rfl, hw⟩
   ·rintro D σ w hD hdep hcl ⟨v598, v595, v596, hv, ha, hw⟩
    obtain ⟨τ, rfl⟩ := (ac (ha.at 8 rfl) az).ups
    refine mv (vi x594) rfl rfl ?_
    refine RL.nil ?_
    exact ⟨rfl, v598, v595, v596, hv.put 1 rfl rfl, ha.up rfl, hw⟩
   ·rintro D σ w hD hdep hcl ⟨v598, v595, v596, hv, ha, hw⟩
    obtain ⟨τ, rfl⟩ := (ac (ha.at 5 rfl) az).ups
    refine RL.load_bc (i := 14) (v := v529) trivial rfl hw rfl rfl rfl ty92 ?_
    refine RL.nil ?_
    exact ⟨rfl, v598, v595, v596, hv.put 2 rfl rfl, ha.up rfl, hw⟩
   ·rintro D σ w hD hdep hcl ⟨v598, v595, v596, hv, ha, hw⟩
    obtain ⟨τ, rfl⟩ := (ac (ha.at 8 rfl) az).ups
    refine mv (vi x594) rfl rfl ?_
    refine RL.nil ?_
    exact ⟨rfl, v598, v595, v596, hv.put 3 rfl rfl, ha.up rfl, hw⟩
   ·rintro D σ w hD hdep hcl ⟨v598, v595, v596, hv, ha, hw⟩
    obtain ⟨τ, rfl⟩ := (ac (hv.at 2 rfl (hdep.1 rfl)) (ac (hv.at 3 rfl (hdep.2.1 rfl)) az)).ups
    have hw := hw.selF (i := 0) rfl (nf (fun h => ft hD ((hcl 8 _ rfl h).2.2.2.2.2.2.2.2.1 rfl)))
    have hw := hw.selF (i := 0) rfl (nf (fun h => ft hD ((hcl 7 _ rfl h).1 rfl)))
    have hw := hw.selF (i := 0) rfl hD
    have hw := hw.selF (i := 15) rfl (nf (fun h => ft hD ((hcl 8 _ rfl h).2.2.2.2.2.2.2.2.1 rfl)))
    have hw := hw.selF (i := 16) rfl (nf (fun h => ft hD ((hcl 8 _ rfl h).2.2.2.2.2.2.2.2.1 rfl)))
    have hw := hw.selF (i := 16) rfl hD
    refine RL.lookup_nest (i := 15) (b := 16) (k := x594) trivial rfl hw rfl rfl rfl rfl mtr92 fun hw => ?_
    have hw := hw.pick 20 [0, 2, 3, 4, 5, 6, 7, 8, 9, 10, 11, 12, 13, 14, 15, 16, 17, 18, 19] (new := [own 28 (mget us587 x594 rvz).v (mget s532.1 x594 ([] : List Pin)), bif D 5 then (rd v595 x589) else junk, bif D 7 then (rd v596 ([x589] : (List Pin))) else (bif D 6 then (own 28 v596 ([x589] : (List Pin))) else junk), rd v593 x589, bx 28 b592 x589, rd v591 x589, pt v590 x589, pt (vp b31 0) p0, pt (vp b32 0) p1, bc 39 b36 [v521], own 96 v521 s40, bc 64 b525 [(str x522.Name), v527, v528], rd v527 x522.Pins, rd v528 x522.Ports, bc 92 b530 [v529], mp v529 us587, mbag 28 us587 s532.1 (some x594), rd v38 p1.Nets, own 28 v588 s532.2]) rfl rfl (by decide) (by decide)
    have hw := hw.altT (i := 0) (b := true) rfl rfl (junk)
    have hw := hw.altF (i := 0) (b := D 7) rfl (nf (fun h => ft hD ((hcl 7 _ rfl h).1 rfl))) (own 28 v598 x597)
    have hw := hw.altF (i := 0) (b := D 8) rfl (nf (fun h => ft hD ((hcl 8 _ rfl h).2.2.2.2.2.2.2.2.1 rfl))) (junk)
    have hw := hw.altF (i := 15) (b := D 8) rfl (nf (fun h => ft hD ((hcl 8 _ rfl h).2.2.2.2.2.2.2.2.1 rfl))) (mp v529 (mput us587 x594 (rv v598)))
    have hw := hw.altT (i := 16) (b := true) rfl rfl (mbag 28 us587 s532.1 none)
    have hw := hw.altF (i := 16) (b := D 8) rfl (nf (fun h => ft hD ((hcl 8 _ rfl h).2.2.2.2.2.2.2.2.1 rfl))) (mbag 28 (mput us587 x594 (rv v598)) (mput s532.1 x594 x597) none)
    refine RL.nil ?_
    exact ⟨rfl, v598, v595, v596, hv.put 4 rfl rfl, ha.up rfl, hw⟩
   ·rintro D σ w hD hdep hcl ⟨v598, v595, v596, hv, ha, hw⟩
    obtain ⟨τ, rfl⟩ := (ac (ha.at 7 rfl) az).ups
    have hw := hw.selF (i := 1) rfl hD
    refine RL.load_bf (i := 4) (f := (fun x => x)) trivial rfl hw rfl rfl Fd.self ty28 fun v599 hw => ?_
    have hw := hw.pick 20 [1, 0, 3, 4, 5, 6, 7, 8, 9, 10, 11, 12, 13, 14, 15, 16, 17, 18, 19] (new := [bif D 8 then (junk) else (bif D 7 then (own 28 v598 x597) else (bif D 4 then (own 28 (mget us587 x594 rvz).v (mget s532.1 x594 ([] : List Pin))) else junk)), rd v599 x589, bif D 7 then (rd v596 ([x589] : (List Pin))) else (bif D 6 then (own 28 v596 ([x589] : (List Pin))) else junk), rd v593 x589, bx 28 b592 x589, rd v591 x589, pt v590 x589, pt (vp b31 0) p0, pt (vp b32 0) p1, bc 39 b36 [v521], own 96 v521 s40, bc 64 b525 [(str x522.Name), v527, v528], rd v527 x522.Pins, rd v528 x522.Ports, bc 92 b530 [v529], bif D 8 then (mp v529 (mput us587 x594 (rv v598))) else (mp v529 us587), bif D 8 then (mbag 28 (mput us587 x594 (rv v598)) (mput s532.1 x594 x597) none) else (bif D 4 then (mbag 28 us587 s532.1 (some x594)) else (mbag 28 us587 s532.1 none)), rd v38 p1.Nets, own 28 v588 s532.2]) rfl rfl (by decide) (by decide)
    have hw := hw.altT (i := 1) (b := true) rfl rfl (junk)
    refine RL.nil ?_
    exact ⟨rfl, v598, v599, v596, hv.put 5 rfl rfl, ha.up rfl, hw⟩
   ·rintro D σ w hD hdep hcl ⟨v598, v595, v596, hv, ha, hw⟩
    obtain ⟨τ, rfl⟩ := (ac (hv.at 5 rfl (hdep.1 rfl)) az).ups
    have hw := hw.selT (i := 1) rfl (hdep.1 rfl)
    have hw := hw.selF (i := 2) rfl (nf (fun h => ft hD ((hcl 7 _ rfl h).2.1 rfl)))
    have hw := hw.selF (i := 2) rfl hD
    refine RL.bslice (l := ([x589] : (List Pin))) trivial rfl hw [v595] rfl rfl rfl sl33 ze28 (fun M hs g => ⟨(g.sat 1 _ rfl).1, trivial⟩) fun v600 w hw => ?_
    have hw := hw.pick 20 [1, 2, 0, 4, 5, 6, 7, 8, 9, 10, 11, 12, 13, 14, 15, 16, 17, 18, 19] (new := [bif D 8 then (junk) else (bif D 7 then (own 28 v598 x597) else (bif D 4 then (own 28 (mget us587 x594 rvz).v (mget s532.1 x594 ([] : List Pin))) else junk)), rd v595 x589, own 28 v600 ([x589] : (List Pin)), rd v593 x589, bx 28 b592 x589, rd v591 x589, pt v590 x589, pt (vp b31 0) p0, pt (vp b32 0) p1, bc 39 b36 [v521], own 96 v521 s40, bc 64 b525 [(str x522.Name), v527, v528], rd v527 x522.Pins, rd v528 x522.Ports, bc 92 b530 [v529], bif D 8 then (mp v529 (mput us587 x594 (rv v598))) else (mp v529 us587), bif D 8 then (mbag 28 (mput us587 x594 (rv v598)) (mput s532.1 x594 x597) none) else (bif D 4 then (mbag 28 us587 s532.1 (some x594)) else (mbag 28 us587 s532.1 none)), rd v38 p1.Nets, own 28 v588 s532.2]) rfl rfl (by decide) (by decide)
    have hw := hw.altT (i := 1) (b := D 5) rfl (hdep.1 rfl) (junk)
    have hw := hw.altT (i := 2) (b := true) rfl rfl (junk)
    have hw := hw.altF (i := 2) (b := D 7) rfl (nf (fun h => ft hD ((hcl 7 _ rfl h).2.1 rfl))) (rd v600 ([x589] : (List Pin)))
    refine RL.nil ?_
    exact ⟨rfl, v598, v595, v600, hv.put 6 rfl rfl, ha.up rfl, hw⟩
   ·rintro D σ w hD hdep hcl ⟨v598, v595, v596, hv, ha, hw⟩
    obtain ⟨τ, rfl⟩ := (ac (hv.at 4 rfl (hdep.1 rfl)) (ac (hv.at 6 rfl (hdep.2.1 rfl)) az)).ups
    have hw := hw.selF (i := 0) rfl (nf (fun h => ft hD ((hcl 8 _ rfl h).2.2.1 rfl)))
    have hw := hw.selF (i := 0) rfl hD
    have hw := hw.selT (i := 0) rfl (hdep.1 rfl)
    have hw := hw.selF (i := 2) rfl hD
    have hw := hw.selT (i := 2) rfl (hdep.2.1 rfl)
    have hw := hw.selF (i := 15) rfl (nf (fun h => ft hD ((hcl 8 _ rfl h).2.2.1 rfl)))
    have hw := hw.selF (i := 16) rfl (nf (fun h => ft hD ((hcl 8 _ rfl h).2.2.1 rfl)))
    have hw := hw.selT (i := 16) rfl (hdep.1 rfl)
    have hw := hw.freeze (i := 2) rfl
    refine RL.app (i := 0) (j := 2) trivial rfl hw rfl rfl rfl rfl el33 hx597 fun v601 w hw => ?_
    have hw := hw.altT (i := 0) (b := true) rfl rfl (bif D 4 then (own 28 (mget us587 x594 rvz).v (mget s532.1 x594 ([] : List Pin))) else junk)
    have hw := hw.altF (i := 0) (b := D 8) rfl (nf (fun h => ft hD ((hcl 8 _ rfl h).2.2.1 rfl))) (junk)
    have hw := hw.altT (i := 2) (b := true) rfl rfl (bif D 6 then (own 28 v596 ([x589] : (List Pin))) else junk)
    have hw := hw.altF (i := 15) (b := D 8) rfl (nf (fun h => ft hD ((hcl 8 _ rfl h).2.2.1 rfl))) (mp v529 (mput us587 x594 (rv v601)))
    have hw := hw.altT (i := 16) (b := D 4) rfl (hdep.1 rfl) (mbag 28 us587 s532.1 none)
    have hw := hw.altF (i := 16) (b := D 8) rfl (nf (fun h => ft hD ((hcl 8 _ rfl h).2.2.1 rfl))) (mbag 28 (mput us587 x594 (rv v601)) (mput s532.1 x594 x597) none)
    refine RL.nil ?_
    exact ⟨rfl, v601, v595, v596, hv.put 7 rfl rfl, ha.up rfl, hw⟩
   ·rintro D σ w hD hdep hcl ⟨v598, v595, v596, hv, ha, hw⟩
    obtain ⟨τ, rfl⟩ := (ac (hv.at 0 rfl (hdep.1 rfl)) (ac (hv.at 1 rfl (hdep.2.1 rfl)) (ac (hv.at 7 rfl (hdep.2.2.1 rfl)) az))).ups
    have hw := hw.selF (i := 0) rfl hD
    have hw := hw.selT (i := 0) rfl (hdep.2.2.1 rfl)
    have hw := hw.selF (i := 15) rfl hD
    have hw := hw.selF (i := 16) rfl hD
    have hw := hw.selT (i := 16) rfl (hdep.2.2.2.2.2.2.2.2.1 rfl)
    refine RL.mapUpdate_nest (i := 15) (b := 16) (o := 0) (k := x594) trivial hw rfl rfl rfl rfl rfl (.inr rfl) rfl (by decide) (by decide) (by decide) mtr92 fun w hw => ?_
    have hw := hw.altT (i := 0) (b := true) rfl rfl (bif D 7 then (own 28 v598 x597) else (bif D 4 then (own 28 (mget us587 x594 rvz).v (mget s532.1 x594 ([] : List Pin))) else junk))
    have hw := hw.altT (i := 15) (b := true) rfl rfl (mp v529 us587)
    have hw := hw.altT (i := 16) (b := true) rfl rfl (bif D 4 then (mbag 28 us587 s532.1 (some x594)) else (mbag 28 us587 s532.1 none))
    refine RL.nil ?_
    exact ⟨rfl, v598, v595, v596, hv.no rfl, ha, hw⟩
   rintro D σ w hall ⟨v598, v595, v596, hv, ha, hw⟩
   rw [hall 4 (by decide), hall 5 (by decide), hall 6 (by decide), hall 7 (by decide), hall 8 (by decide)] at hw
   obtain ⟨τ, rfl⟩ := (ac (ha.at 0 rfl) (ac (ha.at 1 rfl) (ac (ha.at 2 rfl) (ac (ha.at 3 rfl) (ac (ha.at 4 rfl) (ac (ha.at 5 rfl) (ac (ha.at 6 rfl) (ac (ha.at 7 rfl) (ac (ha.at 8 rfl) (ac (ha.at 9 rfl) (ac (ha.at 10 rfl) (ac (ha.at 11 rfl) (ac (ha.at 12 rfl) (ac (ha.at 13 rfl) (ac (ha.at 14 rfl) az))))))))))))))).ups
   refine thenQ_n ?_
   refine RC.sr ?_
   refine mv (vi x594) rfl rfl ?_
   refine ic x594 2 rfl rfl rfl rfl ?_
   refine mv (vb (x594 == 2)) rfl rfl ?_
   refine RL.gs (c := true) (b := (x594 == 2)) (v := (vi x594)) rfl rfl rfl (gs_move rfl (fun _ => rfl)) ?_
   refine RL.gs (c := true) (b := (x594 == 2)) (v := (vb (x594 == 5))) rfl rfl rfl (gs_icmp (bop := .eql) (K := .i64) (a := x594) (b := 5) rfl (fun h => by exact (cv_t h : cv (true && ((x594 == 2) == false)) (vi x594) = (vi x594))) (fun _ => rfl) rfl) ?_
   refine RL.pick (b := (x594 == 2)) (v := (vb ((x594 == 2) || (x594 == 5)))) trivial rfl rfl (pk_or (c := true) rfl) ?_
   refine RL.nt ?_
   obtain ⟨s606, hj, hb⟩ := bd hb
   refine RC.jn (fun (s606 : (List Pin)) (σ : Nat → Value) (w : World) => ∃ v607 : Value, agree σ [(2, (vp b31 0)), (3, (vp b32 0)), (7, (.func (.func 49) #[] #[(vp b31 0), (vp b32 0)])), (8, (vp b36 0)), (10, (vp b525 0)), (11, (vp b530 0)), (12, v607), (29, v38), (30, (vi (p1.Nets.length : Int))), (31, (vi (k39 : Int))), (37, v527), (38, (vi (x522.Pins.length : Int))), (39, (vi (k531 : Int)))] ∧ Holds E w ([pt (vp b31 0) p0, pt (vp b32 0) p1, bc 39 b36 [v521], own 96 v521 s40, bc 64 b525 [(str x522.Name), v527, v528], rd v527 x522.Pins, rd v528 x522.Ports, bc 92 b530 [v529], mp v529 (mput us587 x594 (rv v598)), mbag 28 (mput us587 x594 (rv v598)) (mput s532.1 x594 x597) none, rd v38 p1.Nets, own 28 v607 s606] ++ Γ)) s606 ?_ ?_
   ·refine RC.cond (b := ((x594 == 2) || (x594 == 5))) rfl (fun hc => ?_) (fun hc => ?_)
    rotate_left
    ·replace hj := cF hc hj
     refine RC.skip ?_
     obtain rfl := oi hj
     exact ⟨rfl, v588, ⟨rfl, rfl, rfl, rfl, rfl, rfl, rfl, rfl, rfl, rfl, rfl, rfl, rfl, trivial⟩, hw.pick 19 [7, 8, 9, 10, 11, 12, 13, 14, 15, 16, 17, 18] (new := [pt (vp b31 0) p0, pt (vp b32 0) p1, bc 39 b36 [v521], own 96 v521 s40, bc 64 b525 [(str x522.Name), v527, v528], rd v527 x522.Pins, rd v528 x522.Ports, bc 92 b530 [v529], mp v529 (mput us587 x594 (rv v598)), mbag 28 (mput us587 x594 (rv v598)) (mput s532.1 x594 x597) none, rd v38 p1.Nets, own 28 v588 s532.2]) rfl rfl (by decide) (by decide)⟩
    replace hj := cT hc hj
    refine RC.region ?_
    refine mv v588 rfl rfl ?_
    refine RL.load_bf (i := 4) (f := (fun x => x)) trivial rfl hw rfl rfl Fd.self ty28 fun v608 hw => ?_
    refine RL.bslice (l := ([x589] : (List Pin))) trivial rfl hw [v608] rfl rfl rfl sl33 ze28 (fun M hs g => ⟨(g.sat 0 _ rfl).1, trivial⟩) fun v609 w hw => ?_
    have hw := hw.freeze (i := 0) rfl
    obtain ⟨x610, hx610, hj⟩ := bd hj
    refine RL.app (i := 20) (j := 0) trivial rfl hw rfl rfl rfl rfl el33 hx610 fun v611 w hw => ?_
    refine as_ v611 rfl rfl ?_
    refine RL.nil ?_
    obtain rfl := oi hj
    exact ⟨rfl, v611, ⟨rfl, rfl, rfl, rfl, rfl, rfl, rfl, rfl, rfl, rfl, rfl, rfl, rfl, trivial⟩, hw.pick 21 [9, 10, 11, 12, 13, 14, 15, 16, 17, 18, 19, 20] (new := [pt (vp b31 0) p0, pt (vp b32 0) p1, bc 39 b36 [v521], own 96 v521 s40, bc 64 b525 [(str x522.Name), v527, v528], rd v527 x522.Pins, rd v528 x522.Ports, bc 92 b530 [v529], mp v529 (mput us587 x594 (rv v598)), mbag 28 (mput us587 x594 (rv v598)) (mput s532.1 x594 x597) none, rd v38 p1.Nets, own 28 v611 x610]) rfl rfl (by decide) (by decide)⟩
   rintro σ w ⟨v607, ha, hw⟩
   obtain ⟨τ, rfl⟩ := ha.ups
   refine blkQ_n ?_
   refine thenQ_n ?_
   refine RC.region ?_
   refine RL.inc trivial rfl hk hm rfl rfl ?_
   refine mv (vi ((k531 + 1 : Nat) : Int)) rfl rfl ?_
   refine RL.nil ?_
   obtain rfl := oi hb
   exact ⟨rfl, (mput us587 x594 (rv v598)), v607, ⟨rfl, rfl, rfl, rfl, rfl, rfl, rfl, rfl, rfl, rfl, rfl, rfl, rfl, trivial⟩, hw.pick 12 [0, 1, 2, 3, 4, 5, 6, 7, 8, 9, 10, 11] (new := [pt (vp b31 0) p0, pt (vp b32 0) p1, bc 39 b36 [v521], own 96 v521 s40, bc 64 b525 [(str x522.Name), v527, v528], rd v527 x522.Pins, rd v528 x522.Ports, bc 92 b530 [v529], mp v529 (mput us587 x594 (rv v598)), mbag 28 (mput us587 x594 (rv v598)) (mput s532.1 x594 x597) none, rd v38 p1.Nets, own 28 v607 s606]) rfl rfl (by decide) (by decide)⟩
  intro σ w hJ
  obtain ⟨us585, v586, ha, hw⟩ := hJ
  obtain ⟨τ, rfl⟩ := ha.ups
  refine thenQ_n ?_
  refine RC.sr ?_
  refine RL.makeFunc trivial rfl [(vp b530 0)] rfl ?_
  refine as_ (.func (.func 53) #[] #[(vp b530 0)]) rfl rfl ?_
  refine RL.ns ?_
  have hw := hw.close_bc (i := 4) (x := (⟨x522.Name, x522.Pins, x522.Ports⟩ : Net)) rfl (fun M hs g => ⟨[(str x522.Name)], [v527, v528], rfl, rfl, ⟨[v527], [v528], rfl, (rd_one rfl (g.sat 5 _ rfl).1), (rd_one rfl (g.sat 6 _ rfl).1)⟩⟩)
  have hw := hw.freeze_bx (i := 4) rfl
  refine RL.makeFunc trivial rfl [(vp b36 0), (vp b525 0)] rfl ?_
  refine as_ (.func (.func 54) #[] #[(vp b36 0), (vp b525 0)]) rfl rfl ?_
  refine RL.nq ?_
  obtain ⟨s631, hj, hb⟩ := bd hb
  refine RC.jn (fun (s631 : (List Finding) × (List Pin)) (σ : Nat → Value) (w : World) => ∃ v632 v633 : Value, agree σ [(2, (vp b31 0)), (3, (vp b32 0)), (7, (.func (.func 49) #[] #[(vp b31 0), (vp b32 0)])), (8, (vp b36 0)), (10, (vp b525 0)), (11, (vp b530 0)), (12, v633), (16, (.func (.func 53) #[] #[(vp b530 0)])), (17, (.func (.func 54) #[] #[(vp b36 0), (vp b525 0)])), (29, v38), (30, (vi (p1.Nets.length : Int))), (31, (vi (k39 : Int)))] ∧ Holds E w ([pt (vp b31 0) p0, pt (vp b32 0) p1, bc 39 b36 [v632], own 96 v632 s631.1, pt (vp b525 0) (⟨x522.Name, x522.Pins, x522.Ports⟩ : Net), bc 92 b530 [v529], mp v529 s532.1, rd v38 p1.Nets, rd v633 s631.2] ++ Γ)) s631 ?_ ?_
  ·refine RC.region ?_
   refine mv (.func (.func 54) #[] #[(vp b36 0), (vp b525 0)]) rfl rfl ?_
   refine mv (.func (.func 53) #[] #[(vp b530 0)]) rfl rfl ?_
   have hw := hw.mnest_fz (b := 9) (j := 8) rfl rfl (by decide)
   have hw := hw.pull (i := 8) rfl
   have hw := hw.pull (i := 8) rfl
   obtain ⟨x634, hx634, hj⟩ := bd hj
   refine RL.callv (cap := [(vp b530 0)]) trivial rfl fn53 rfl [(vi 2)] rfl (Calls_ret (netlist_Findings_c2_ok N (p0 := 2)  hw  hx634) ?_)
   rintro _ w ⟨rfl, hw⟩
   refine ic x634 1 rfl rfl rfl rfl ?_
   refine mv (vb (decide (x634 > 1))) rfl rfl ?_
   rcases Bool.eq_false_or_eq_true (decide (x634 > 1)) with hg635 | hg635
   ·replace hj := cT hg635 hj
    refine sk rfl (.inl (cb hg635)) rfl ?_
    refine sk rfl (.inl (cb hg635)) rfl ?_
    refine sk rfl (.inl (cb hg635)) rfl ?_
    refine sk rfl (.inl (cb hg635)) rfl ?_
    refine sk rfl (.inr rfl) rfl ?_
    refine sk rfl (.inr rfl) rfl ?_
    refine sk rfl (.inr rfl) rfl ?_
    refine sk rfl (.inl (cb hg635)) rfl ?_
    refine RL.pick (b := (decide (x634 > 1))) (v := (vb true)) trivial rfl rfl (by rw [hg635]; rfl) ?_
    refine mv v586 rfl rfl ?_
    have hw := hw.freeze (i := 13) rfl
    have hw := hw.pull (i := 5) rfl
    have hw := hw.pull (i := 5) rfl
    obtain ⟨x636, hx636, hj⟩ := bd hj
    refine RL.callv (cap := [(vp b36 0), (vp b525 0)]) trivial rfl fn54 rfl [(vb true), (vi 1), v586] rfl (Calls_ret (netlist_Findings_c3_ok N (p0 := true) (p1 := 1) (i2 := 13) (i4 := 6) hw rfl rfl hx636) ?_)
    rintro _ w ⟨v637, rfl, hw⟩
    refine RL.nil ?_
    obtain rfl := oi hj
    exact ⟨rfl, v637, v586, ⟨rfl, rfl, rfl, rfl, rfl, rfl, rfl, rfl, rfl, rfl, rfl, rfl, trivial⟩, hw.pick 16 [4, 5, 0, 1, 8, 2, 3, 14, 15] (new := [pt (vp b31 0) p0, pt (vp b32 0) p1, bc 39 b36 [v637], own 96 v637 x636, pt (vp b525 0) (⟨x522.Name, x522.Pins, x522.Ports⟩ : Net), bc 92 b530 [v529], mp v529 s532.1, rd v38 p1.Nets, rd v586 s532.2]) rfl rfl (by decide) (by decide)⟩
   replace hj := cF hg635 hj
   refine RL.move (v := (.func (.func 53) #[] #[(vp b530 0)])) ⟨_, rfl, cb hg635⟩ rfl rfl ?_
   have hw := hw.pull (i := 1) rfl
   have hw := hw.pull (i := 1) rfl
   obtain ⟨x638, hx638, hj⟩ := bd hj
   refine RL.callv (cap := [(vp b530 0)]) ⟨_, rfl, cb hg635⟩ rfl fn53 rfl [(vi 2)] rfl (Calls_ret (netlist_Findings_c2_ok N (p0 := 2)  hw  hx638) ?_)
   rintro _ w ⟨rfl, hw⟩
   refine RL.icmp (a := x638) (b := 0) ⟨_, rfl, cb hg635⟩ rfl rfl rfl rfl ?_
   refine RL.move (v := (vb (decide (x638 > 0)))) ⟨_, rfl, cb hg635⟩ rfl rfl ?_
   rcases Bool.eq_false_or_eq_true (decide (x638 > 0)) with hg639 | hg639
   rotate_left
   ·replace hj := cF hg639 hj
    refine sk rfl (.inl (cb hg639)) rfl ?_
    refine sk rfl (.inl (cb hg639)) rfl ?_
    refine sk rfl (.inl (cb hg639)) rfl ?_
    refine RL.pick (b := (decide (x638 > 0))) (v := (vb false)) ⟨_, rfl, cb hg635⟩ rfl rfl (by rw [hg639]; rfl) ?_
    refine RL.pick (b := (decide (x634 > 1))) (v := (vb false)) trivial rfl rfl (by rw [hg635]; rfl) ?_
    refine mv v586 rfl rfl ?_
    have hw := hw.freeze (i := 15) rfl
    have hw := hw.pull (i := 7) rfl
    have hw := hw.pull (i := 7) rfl
    obtain ⟨x643, hx643, hj⟩ := bd hj
    refine RL.callv (cap := [(vp b36 0), (vp b525 0)]) trivial rfl fn54 rfl [(vb false), (vi 1), v586] rfl (Calls_ret (netlist_Findings_c3_ok N (p0 := false) (p1 := 1) (i2 := 15) (i4 := 8) hw rfl rfl hx643) ?_)
    rintro _ w ⟨v644, rfl, hw⟩
    refine RL.nil ?_
    obtain rfl := oi hj
    exact ⟨rfl, v644, v586, ⟨rfl, rfl, rfl, rfl, rfl, rfl, rfl, rfl, rfl, rfl, rfl, rfl, trivial⟩, hw.pick 18 [6, 7, 0, 1, 10, 2, 3, 16, 17] (new := [pt (vp b31 0) p0, pt (vp b32 0) p1, bc 39 b36 [v644], own 96 v644 x643, pt (vp b525 0) (⟨x522.Name, x522.Pins, x522.Ports⟩ : Net), bc 92 b530 [v529], mp v529 s532.1, rd v38 p1.Nets, rd v586 s532.2]) rfl rfl (by decide) (by decide)⟩
   replace hj := cT hg639 hj
   refine RL.move (v := (.func (.func 53) #[] #[(vp b530 0)])) ⟨_, rfl, cb hg639⟩ rfl rfl ?_
   have hw := hw.pull (i := 1) rfl
   have hw := hw.pull (i := 1) rfl
   obtain ⟨x640, hx640, hj⟩ := bd hj
   refine RL.callv (cap := [(vp b530 0)]) ⟨_, rfl, cb hg639⟩ rfl fn53 rfl [(vi 5)] rfl (Calls_ret (netlist_Findings_c2_ok N (p0 := 5)  hw  hx640) ?_)
   rintro _ w ⟨rfl, hw⟩
   refine RL.icmp (a := x640) (b := 0) ⟨_, rfl, cb hg639⟩ rfl rfl rfl rfl ?_
   refine RL.pick (b := (decide (x638 > 0))) (v := (vb (decide (x640 > 0)))) ⟨_, rfl, cb hg635⟩ rfl rfl (by rw [hg639]; rfl) ?_
   refine RL.pick (b := (decide (x634 > 1))) (v := (vb (decide (x640 > 0)))) trivial rfl rfl (by rw [hg635]; rfl) ?_
   refine mv v586 rfl rfl ?_
   have hw := hw.freeze (i := 17) rfl
   have hw := hw.pull (i := 9) rfl
   have hw := hw.pull (i := 9) rfl
   obtain ⟨x641, hx641, hj⟩ := bd hj
   refine RL.callv (cap := [(vp b36 0), (vp b525 0)]) trivial rfl fn54 rfl [(vb (decide (x640 > 0))), (vi 1), v586] rfl (Calls_ret (netlist_Findings_c3_ok N (p0 := (decide (x640 > 0))) (p1 := 1) (i2 := 17) (i4 := 10) hw rfl rfl hx641) ?_)
   rintro _ w ⟨v642, rfl, hw⟩
   refine RL.nil ?_
   obtain rfl := oi hj
   exact ⟨rfl, v642, v586, ⟨rfl, rfl, rfl, rfl, rfl, rfl, rfl, rfl, rfl, rfl, rfl, rfl, trivial⟩, hw.pick 20 [8, 9, 0, 1, 12, 2, 3, 18, 19] (new := [pt (vp b31 0) p0, pt (vp b32 0) p1, bc 39 b36 [v642], own 96 v642 x641, pt (vp b525 0) (⟨x522.Name, x522.Pins, x522.Ports⟩ : Net), bc 92 b530 [v529], mp v529 s532.1, rd v38 p1.Nets, rd v586 s532.2]) rfl rfl (by decide) (by decide)⟩
  rintro σ w ⟨v632, v633, ha, hw⟩
  obtain ⟨τ, rfl⟩ := ha.ups
  refine thenQ_n ?_
  refine RC.seq ?_
  obtain ⟨s660, hj, hb⟩ := bd hb
  refine RC.jn (fun (s660 : (List Finding)) (σ : Nat → Value) (w : World) => ∃ v661 : Value, agree σ [(2, (vp b31 0)), (3, (vp b32 0)), (7, (.func (.func 49) #[] #[(vp b31 0), (vp b32 0)])), (8, (vp b36 0)), (10, (vp b525 0)), (11, (vp b530 0)), (16, (.func (.func 53) #[] #[(vp b530 0)])), (17, (.func (.func 54) #[] #[(vp b36 0), (vp b525 0)])), (29, v38), (30, (vi (p1.Nets.length : Int))), (31, (vi (k39 : Int)))] ∧ Holds E w ([pt (vp b31 0) p0, pt (vp b32 0) p1, bc 39 b36 [v661], own 96 v661 s660, pt (vp b525 0) (⟨x522.Name, x522.Pins, x522.Ports⟩ : Net), bc 92 b530 [v529], mp v529 s532.1, rd v38 p1.Nets] ++ Γ)) s660 ?_ ?_
  ·obtain ⟨x662, hx662, hj⟩ := bd hj
   rcases Bool.eq_false_or_eq_true (decide (x662 > 0)) with hg663 | hg663
   rotate_left
   ·replace hj := cF hg663 hj
    obtain ⟨x672, hx672, hj⟩ := bd hj
    refine RC.drw mixed rfl (fun (D : Nat → Bool) (σ : Nat → Value) (w : World) => ∃ (v671 : Value) (v673 : Value), doneV D σ [(0, 83, (.func (.func 54) #[] #[(vp b36 0), (vp b525 0)])), (1, 84, (.func (.func 53) #[] #[(vp b530 0)])), (2, 85, (vi x662)), (3, 86, (vb (decide (x662 > 0)))), (4, 87, (vb (decide (x662 > 0)))), (5, 88, undef), (6, 89, undef), (7, 90, undef), (8, 91, undef), (9, 92, undef), (10, 93, undef), (11, 94, undef), (12, 95, undef), (13, 96, undef), (14, 97, (vb false)), (15, 98, v529), (16, 99, v671)] ∧ agree σ [(2, (vp b31 0)), (3, (vp b32 0)), (7, (.func (.func 49) #[] #[(vp b31 0), (vp b32 0)])), (8, (vp b36 0)), (10, (vp b525 0)), (11, (vp b530 0)), (12, v633), (16, (.func (.func 53) #[] #[(vp b530 0)])), (17, (.func (.func 54) #[] #[(vp b36 0), (vp b525 0)])), (29, v38), (30, (vi (p1.Nets.length : Int))), (31, (vi (k39 : Int)))] ∧ Holds E w ([bif D 16 then (rd v671 (mget s532.1 1 ([] : (List Pin)))) else junk, pt (vp b31 0) p0, pt (vp b32 0) p1, bif D 17 then (bc 39 b36 [v673]) else (bc 39 b36 [v632]), bif D 17 then (own 96 v673 x672) else (own 96 v632 s631.1), pt (vp b525 0) (⟨x522.Name, x522.Pins, x522.Ports⟩ : Net), bc 92 b530 [v529], mp v529 s532.1, rd v38 p1.Nets, rd v633 s631.2] ++ Γ)) ?_ ⟨?_, ?_, ?_, ?_, ?_, ?_, ?_, ?_, ?_, ?_, ?_, ?_, ?_, ?_, ?_, ?_, ?_, ?_, trivial⟩ ?_
    ·have hw := hw.drew
     have hw := hw.junk
     exact ⟨undef, undef, doneV.none, ⟨rfl, rfl, rfl, rfl, rfl, rfl, rfl, rfl, rfl, rfl, rfl, rfl, trivial⟩, hw⟩
    ·rintro D σ w hD hdep hcl ⟨v671, v673, hv, ha, hw⟩
     obtain ⟨τ, rfl⟩ := (ac (ha.at 8 rfl) az).ups
     refine mv (.func (.func 54) #[] #[(vp b36 0), (vp b525 0)]) rfl rfl ?_
     refine RL.nil ?_
     exact ⟨rfl, v671, v673, hv.put 0 rfl rfl, ha.up rfl, hw⟩
    ·rintro D σ w hD hdep hcl ⟨v671, v673, hv, ha, hw⟩
     obtain ⟨τ, rfl⟩ := (ac (ha.at 7 rfl) az).ups
     refine mv (.func (.func 53) #[] #[(vp b530 0)]) rfl rfl ?_
     refine RL.nil ?_
     exact ⟨rfl, v671, v673, hv.put 1 rfl rfl, ha.up rfl, hw⟩
    ·rintro D σ w hD hdep hcl ⟨v671, v673, hv, ha, hw⟩
     obtain ⟨τ, rfl⟩ := (ac (hv.at 1 rfl (hdep.1 rfl)) az).ups
     have hw := hw.pull (i := 7) rfl
     have hw := hw.pull (i := 7) rfl
     refine RL.callv (cap := [(vp b530 0)]) trivial rfl fn53 rfl [(vi 1)] rfl (Calls_ret (netlist_Findings_c2_ok N (p0 := 1)  hw  hx662) ?_)
     rintro _ w ⟨rfl, hw⟩
     have hw := hw.pick 12 [2, 3, 4, 5, 6, 7, 0, 1, 10, 11] (new := [bif D 16 then (rd v671 (mget s532.1 1 ([] : (List Pin)))) else junk, pt (vp b31 0) p0, pt (vp b32 0) p1, bif D 17 then (bc 39 b36 [v673]) else (bc 39 b36 [v632]), bif D 17 then (own 96 v673 x672) else (own 96 v632 s631.1), pt (vp b525 0) (⟨x522.Name, x522.Pins, x522.Ports⟩ : Net), bc 92 b530 [v529], mp v529 s532.1, rd v38 p1.Nets, rd v633 s631.2]) rfl rfl (by decide) (by decide)
     refine RL.nil ?_
     exact ⟨rfl, v671, v673, hv.put 2 rfl rfl, ha.up rfl, hw⟩
    ·rintro D σ w hD hdep hcl ⟨v671, v673, hv, ha, hw⟩
     obtain ⟨τ, rfl⟩ := (ac (hv.at 2 rfl (hdep.1 rfl)) az).ups
     refine ic x662 0 rfl rfl rfl rfl ?_
     refine RL.nil ?_
     exact ⟨rfl, v671, v673, hv.put 3 rfl rfl, ha.up rfl, hw⟩
    ·rintro D σ w hD hdep hcl ⟨v671, v673, hv, ha, hw⟩
     obtain ⟨τ, rfl⟩ := (ac (hv.at 3 rfl (hdep.1 rfl)) az).ups
     refine mv (vb (decide (x662 > 0))) rfl rfl ?_
     refine RL.nil ?_
     exact ⟨rfl, v671, v673, hv.put 4 rfl rfl, ha.up rfl, hw⟩
    ·rintro D σ w hD hdep hcl ⟨v671, v673, hv, ha, hw⟩
     obtain ⟨τ, rfl⟩ := (ac (hv.at 4 rfl (hdep.1 rfl)) (ac (ha.at 6 rfl) az)).ups
     refine sk rfl (.inl (cb hg663)) rfl ?_
     refine RL.nil ?_
     exact ⟨rfl, v671, v673, hv.put 5 rfl rfl, ha.up rfl, hw⟩
    ·rintro D σ w hD hdep hcl ⟨v671, v673, hv, ha, hw⟩
     obtain ⟨τ, rfl⟩ := (ac (hv.at 4 rfl (hdep.2.1 rfl)) (ac (hv.at 5 rfl (hdep.1 rfl)) az)).ups
     refine sk rfl (.inl (cb hg663)) rfl ?_
     refine RL.nil ?_
     exact ⟨rfl, v671, v673, hv.put 6 rfl rfl, ha.up rfl, hw⟩
    ·rintro D σ w hD hdep hcl ⟨v671, v673, hv, ha, hw⟩
     obtain ⟨τ, rfl⟩ := (ac (hv.at 4 rfl (hdep.1 rfl)) (ac (ha.at 7 rfl) az)).ups
     refine sk rfl (.inl (cb hg663)) rfl ?_
     refine RL.nil ?_
     exact ⟨rfl, v671, v673, hv.put 7 rfl rfl, ha.up rfl, hw⟩
    ·rintro D σ w hD hdep hcl ⟨v671, v673, hv, ha, hw⟩
     obtain ⟨τ, rfl⟩ := (ac (hv.at 4 rfl (hdep.2.1 rfl)) (ac (hv.at 7 rfl (hdep.1 rfl)) az)).ups
     refine sk rfl (.inl (cb hg663)) rfl ?_
     refine RL.nil ?_
     exact ⟨rfl, v671, v673, hv.put 8 rfl rfl, ha.up rfl, hw⟩
    ·rintro D σ w hD hdep hcl ⟨v671, v673, hv, ha, hw⟩
     obtain ⟨τ, rfl⟩ := (ac (hv.at 4 rfl (hdep.2.2.1 rfl)) (ac (hv.at 6 rfl (hdep.1 rfl)) (ac (hv.at 8 rfl (hdep.2.1 rfl)) az))).ups
     refine sk rfl (.inl (cb hg663)) rfl ?_
     refine RL.nil ?_
     exact ⟨rfl, v671, v673, hv.put 9 rfl rfl, ha.up rfl, hw⟩
    ·rintro D σ w hD hdep hcl ⟨v671, v673, hv, ha, hw⟩
     obtain ⟨τ, rfl⟩ := (ac (hv.at 4 rfl (hdep.1 rfl)) (ac (ha.at 7 rfl) az)).ups
     refine sk rfl (.inl (cb hg663)) rfl ?_
     refine RL.nil ?_
     exact ⟨rfl, v671, v673, hv.put 10 rfl rfl, ha.up rfl, hw⟩
    ·rintro D σ w hD hdep hcl ⟨v671, v673, hv, ha, hw⟩
     obtain ⟨τ, rfl⟩ := (ac (hv.at 4 rfl (hdep.2.2.1 rfl)) (ac (hv.at 10 rfl (hdep.1 rfl)) az)).ups
     refine sk rfl (.inl (cb hg663)) rfl ?_
     refine RL.nil ?_
     exact ⟨rfl, v671, v673, hv.put 11 rfl rfl, ha.up rfl, hw⟩
    ·rintro D σ w hD hdep hcl ⟨v671, v673, hv, ha, hw⟩
     obtain ⟨τ, rfl⟩ := (ac (hv.at 4 rfl (hdep.2.2.1 rfl)) (ac (hv.at 9 rfl (hdep.1 rfl)) (ac (hv.at 11 rfl (hdep.2.1 rfl)) az))).ups
     refine sk rfl (.inl (cb hg663)) rfl ?_
     refine RL.nil ?_
     exact ⟨rfl, v671, v673, hv.put 12 rfl rfl, ha.up rfl, hw⟩
    ·rintro D σ w hD hdep hcl ⟨v671, v673, hv, ha, hw⟩
     obtain ⟨τ, rfl⟩ := (ac (hv.at 4 rfl (hdep.2.1 rfl)) (ac (hv.at 12 rfl (hdep.1 rfl)) az)).ups
     refine sk rfl (.inl (cb hg663)) rfl ?_
     refine RL.nil ?_
     exact ⟨rfl, v671, v673, hv.put 13 rfl rfl, ha.up rfl, hw⟩
    ·rintro D σ w hD hdep hcl ⟨v671, v673, hv, ha, hw⟩
     obtain ⟨τ, rfl⟩ := (ac (hv.at 4 rfl (hdep.1 rfl)) (ac (hv.at 13 rfl (hdep.2.1 rfl)) az)).ups
     refine RL.pick (b := (decide (x662 > 0))) (v := (vb false)) trivial rfl rfl (by rw [hg663]; rfl) ?_
     refine RL.nil ?_
     exact ⟨rfl, v671, v673, hv.put 14 rfl rfl, ha.up rfl, hw⟩
    ·rintro D σ w hD hdep hcl ⟨v671, v673, hv, ha, hw⟩
     obtain ⟨τ, rfl⟩ := (ac (ha.at 5 rfl) az).ups
     refine RL.load_bc (i := 6) (v := v529) trivial rfl hw rfl rfl rfl ty92 ?_
     refine RL.nil ?_
     exact ⟨rfl, v671, v673, hv.put 15 rfl rfl, ha.up rfl, hw⟩
    ·rintro D σ w hD hdep hcl ⟨v671, v673, hv, ha, hw⟩
     obtain ⟨τ, rfl⟩ := (ac (hv.at 15 rfl (hdep.1 rfl)) az).ups
     have hw := hw.selF (i := 0) rfl hD
     refine RL.lookup1 (i := 7) (k := 1) trivial rfl hw rfl rfl rfl mt92 fun v674 hw => ?_
     have hw := hw.pick 11 [0, 2, 3, 4, 5, 6, 7, 8, 9, 10] (new := [rd v674 (mget s532.1 1 ([] : (List Pin))), pt (vp b31 0) p0, pt (vp b32 0) p1, bif D 17 then (bc 39 b36 [v673]) else (bc 39 b36 [v632]), bif D 17 then (own 96 v673 x672) else (own 96 v632 s631.1), pt (vp b525 0) (⟨x522.Name, x522.Pins, x522.Ports⟩ : Net), bc 92 b530 [v529], mp v529 s532.1, rd v38 p1.Nets, rd v633 s631.2]) rfl rfl (by decide) (by decide)
     have hw := hw.altT (i := 0) (b := true) rfl rfl (junk)
     refine RL.nil ?_
     exact ⟨rfl, v674, v673, hv.put 16 rfl rfl, ha.up rfl, hw⟩
    ·rintro D σ w hD hdep hcl ⟨v671, v673, hv, ha, hw⟩
     obtain ⟨τ, rfl⟩ := (ac (hv.at 0 rfl (hdep.1 rfl)) (ac (hv.at 14 rfl (hdep.2.1 rfl)) (ac (hv.at 16 rfl (hdep.2.2.1 rfl)) az))).ups
     have hw := hw.selT (i := 0) rfl (hdep.2.2.1 rfl)
     have hw := hw.selF (i := 3) rfl hD
     have hw := hw.selF (i := 4) rfl hD
     have hw := hw.pull (i := 4) rfl
     have hw := hw.pull (i := 4) rfl
     refine RL.callv (cap := [(vp b36 0), (vp b525 0)]) trivial rfl fn54 rfl [(vb false), (vi 2), v671] rfl (Calls_ret (netlist_Findings_c3_ok N (p0 := false) (p1 := 2) (i2 := 0) (i4 := 5) hw rfl rfl hx672) ?_)
     rintro _ w ⟨v675, rfl, hw⟩
     have hw := hw.pick 12 [2, 3, 4, 0, 1, 7, 8, 9, 10, 11] (new := [rd v671 (mget s532.1 1 ([] : (List Pin))), pt (vp b31 0) p0, pt (vp b32 0) p1, bc 39 b36 [v675], own 96 v675 x672, pt (vp b525 0) (⟨x522.Name, x522.Pins, x522.Ports⟩ : Net), bc 92 b530 [v529], mp v529 s532.1, rd v38 p1.Nets, rd v633 s631.2]) rfl rfl (by decide) (by decide)
     have hw := hw.altT (i := 0) (b := D 16) rfl (hdep.2.2.1 rfl) (junk)
     have hw := hw.altT (i := 3) (b := true) rfl rfl (bc 39 b36 [v632])
     have hw := hw.altT (i := 4) (b := true) rfl rfl (own 96 v632 s631.1)
     refine RL.nil ?_
     exact ⟨rfl, v671, v675, hv.up rfl, ha.up rfl, hw⟩
    rintro D σ w hall ⟨v671, v673, hv, ha, hw⟩
    rw [hall 16 (by decide), hall 17 (by decide)] at hw
    obtain ⟨τ, rfl⟩ := (ac (ha.at 0 rfl) (ac (ha.at 1 rfl) (ac (ha.at 2 rfl) (ac (ha.at 3 rfl) (ac (ha.at 4 rfl) (ac (ha.at 5 rfl) (ac (ha.at 6 rfl) (ac (ha.at 7 rfl) (ac (ha.at 8 rfl) (ac (ha.at 9 rfl) (ac (ha.at 10 rfl) (ac (ha.at 11 rfl) az)))))))))))).ups
    obtain rfl := oi hj
    exact ⟨rfl, v673, ⟨rfl, rfl, rfl, rfl, rfl, rfl, rfl, rfl, rfl, rfl, rfl, trivial⟩, hw.pick 10 [1, 2, 3, 4, 5, 6, 7, 8] (new := [pt (vp b31 0) p0, pt (vp b32 0) p1, bc 39 b36 [v673], own 96 v673 x672, pt (vp b525 0) (⟨x522.Name, x522.Pins, x522.Ports⟩ : Net), bc 92 b530 [v529], mp v529 s532.1, rd v38 p1.Nets]) rfl rfl (by decide) (by decide)⟩
   replace hj := cT hg663 hj
   obtain ⟨x664, hx664, hj⟩ := bd hj
   obtain ⟨x665, hx665, hj⟩ := bd hj
   obtain ⟨x667, hx667, hj⟩ := bd hj
   refine RC.drw mixed rfl (fun (D : Nat → Bool) (σ : Nat → Value) (w : World) => ∃ (v666 : Value) (v668 : Value), doneV D σ [(0, 83, (.func (.func 54) #[] #[(vp b36 0), (vp b525 0)])), (1, 84, (.func (.func 53) #[] #[(vp b530 0)])), (2, 85, (vi x662)), (3, 86, (vb (decide (x662 > 0)))), (4, 87, (vb (decide (x662 > 0)))), (5, 88, v633), (6, 89, (vi (s631.2.length : Int))), (7, 90, (.func (.func 53) #[] #[(vp b530 0)])), (8, 91, (vi x664)), (9, 92, (vi (IntKind.wrap .i64 ((s631.2.length : Int) + x664)))), (10, 93, (.func (.func 53) #[] #[(vp b530 0)])), (11, 94, (vi x665)), (12, 95, (vi (IntKind.wrap .i64 ((IntKind.wrap .i64 ((s631.2.length : Int) + x664)) + x665)))), (13, 96, (vb ((IntKind.wrap .i64 ((IntKind.wrap .i64 ((s631.2.length : Int) + x664)) + x665)) == 0))), (14, 97, (vb ((IntKind.wrap .i64 ((IntKind.wrap .i64 ((s631.2.length : Int) + x664)) + x665)) == 0))), (15, 98, v529), (16, 99, v666)] ∧ agree σ [(2, (vp b31 0)), (3, (vp b32 0)), (7, (.func (.func 49) #[] #[(vp b31 0), (vp b32 0)])), (8, (vp b36 0)), (10, (vp b525 0)), (11, (vp b530 0)), (12, v633), (16, (.func (.func 53) #[] #[(vp b530 0)])), (17, (.func (.func 54) #[] #[(vp b36 0), (vp b525 0)])), (29, v38), (30, (vi (p1.Nets.length : Int))), (31, (vi (k39 : Int)))] ∧ Holds E w ([bif D 16 then (rd v666 (mget s532.1 1 ([] : (List Pin)))) else junk, pt (vp b31 0) p0, pt (vp b32 0) p1, bif D 17 then (bc 39 b36 [v668]) else (bc 39 b36 [v632]), bif D 17 then (own 96 v668 x667) else (own 96 v632 s631.1), pt (vp b525 0) (⟨x522.Name, x522.Pins, x522.Ports⟩ : Net), bc 92 b530 [v529], mp v529 s532.1, rd v38 p1.Nets, rd v633 s631.2] ++ Γ)) ?_ ⟨?_, ?_, ?_, ?_, ?_, ?_, ?_, ?_, ?_, ?_, ?_, ?_, ?_, ?_, ?_, ?_, ?_, ?_, trivial⟩ ?_
   ·have hw := hw.drew
    have hw := hw.junk
    exact ⟨undef, undef, doneV.none, ⟨rfl, rfl, rfl, rfl, rfl, rfl, rfl, rfl, rfl, rfl, rfl, rfl, trivial⟩, hw⟩
   ·rintro D σ w hD hdep hcl ⟨v666, v668, hv, ha, hw⟩
    obtain ⟨τ, rfl⟩ := (ac (ha.at 8 rfl) az).ups
    refine mv (.func (.func 54) #[] #[(vp b36 0), (vp b525 0)]) rfl rfl ?_
    refine RL.nil ?_
    exact ⟨rfl, v666, v668, hv.put 0 rfl rfl, ha.up rfl, hw⟩
   ·rintro D σ w hD hdep hcl ⟨v666, v668, hv, ha, hw⟩
    obtain ⟨τ, rfl⟩ := (ac (ha.at 7 rfl) az).ups
    refine mv (.func (.func 53) #[] #[(vp b530 0)]) rfl rfl ?_
    refine RL.nil ?_
    exact ⟨rfl, v666, v668, hv.put 1 rfl rfl, ha.up rfl, hw⟩
   ·rintro D σ w hD hdep hcl ⟨v666, v668, hv, ha, hw⟩
    obtain ⟨τ, rfl⟩ := (ac (hv.at 1 rfl (hdep.1 rfl)) az).ups
    have hw := hw.pull (i := 7) rfl
    have hw := hw.pull (i := 7) rfl
    refine RL.callv (cap := [(vp b530 0)]) trivial rfl fn53 rfl [(vi 1)] rfl (Calls_ret (netlist_Findings_c2_ok N (p0 := 1)  hw  hx662) ?_)
    rintro _ w ⟨rfl, hw⟩
    have hw := hw.pick 12 [2, 3, 4, 5, 6, 7, 0, 1, 10, 11] (new := [bif D 16 then (rd v666 (mget s532.1 1 ([] : (List Pin)))) else junk, pt (vp b31 0) p0, pt (vp b32 0) p1, bif D 17 then (bc 39 b36 [v668]) else (bc 39 b36 [v632]), bif D 17 then (own 96 v668 x667) else (own 96 v632 s631.1), pt (vp b525 0) (⟨x522.Name, x522.Pins, x522.Ports⟩ : Net), bc 92 b530 [v529], mp v529 s532.1, rd v38 p1.Nets, rd v633 s631.2]) rfl rfl (by decide) (by decide)
    refine RL.nil ?_
    exact ⟨rfl, v666, v668, hv.put 2 rfl rfl, ha.up rfl, hw⟩
   ·rintro D σ w hD hdep hcl ⟨v666, v668, hv, ha, hw⟩
    obtain ⟨τ, rfl⟩ := (ac (hv.at 2 rfl (hdep.1 rfl)) az).ups
    refine ic x662 0 rfl rfl rfl rfl ?_
    refine RL.nil ?_
    exact ⟨rfl, v666, v668, hv.put 3 rfl rfl, ha.up rfl, hw⟩
   ·rintro D σ w hD hdep hcl ⟨v666, v668, hv, ha, hw⟩
    obtain ⟨τ, rfl⟩ := (ac (hv.at 3 rfl (hdep.1 rfl)) az).ups
    refine mv (vb (decide (x662 > 0))) rfl rfl ?_
    refine RL.nil ?_
    exact ⟨rfl, v666, v668, hv.put 4 rfl rfl, ha.up rfl, hw⟩
   ·rintro D σ w hD hdep hcl ⟨v666, v668, hv, ha, hw⟩
    obtain ⟨τ, rfl⟩ := (ac (hv.at 4 rfl (hdep.1 rfl)) (ac (ha.at 6 rfl) az)).ups
    refine RL.move (v := v633) ⟨_, rfl, cb hg663⟩ rfl rfl ?_
    refine RL.nil ?_
    exact ⟨rfl, v666, v668, hv.put 5 rfl rfl, ha.up rfl, hw⟩
   ·rintro D σ w hD hdep hcl ⟨v666, v668, hv, ha, hw⟩
    obtain ⟨τ, rfl⟩ := (ac (hv.at 4 rfl (hdep.2.1 rfl)) (ac (hv.at 5 rfl (hdep.1 rfl)) az)).ups
    refine RL.len_rd (i := 9) (l := s631.2) ⟨_, rfl, cb hg663⟩ rfl hw rfl rfl un33 ?_
    refine RL.nil ?_
    exact ⟨rfl, v666, v668, hv.put 6 rfl rfl, ha.up rfl, hw⟩
   ·rintro D σ w hD hdep hcl ⟨v666, v668, hv, ha, hw⟩
    obtain ⟨τ, rfl⟩ := (ac (hv.at 4 rfl (hdep.1 rfl)) (ac (ha.at 7 rfl) az)).ups
    refine RL.move (v := (.func (.func 53) #[] #[(vp b530 0)])) ⟨_, rfl, cb hg663⟩ rfl rfl ?_
    refine RL.nil ?_
    exact ⟨rfl, v666, v668, hv.put 7 rfl rfl, ha.up rfl, hw⟩
   ·rintro D σ w hD hdep hcl ⟨v666, v668, hv, ha, hw⟩
    obtain ⟨τ, rfl⟩ := (ac (hv.at 4 rfl (hdep.2.1 rfl)) (ac (hv.at 7 rfl (hdep.1 rfl)) az)).ups
    have hw := hw.pull (i := 7) rfl
    have hw := hw.pull (i := 7) rfl
    refine RL.callv (cap := [(vp b530 0)]) ⟨_, rfl, cb hg663⟩ rfl fn53 rfl [(vi 3)] rfl (Calls_ret (netlist_Findings_c2_ok N (p0 := 3)  hw  hx664) ?_)
    rintro _ w ⟨rfl, hw⟩
    have hw := hw.pick 12 [2, 3, 4, 5, 6, 7, 0, 1, 10, 11] (new := [bif D 16 then (rd v666 (mget s532.1 1 ([] : (List Pin)))) else junk, pt (vp b31 0) p0, pt (vp b32 0) p1, bif D 17 then (bc 39 b36 [v668]) else (bc 39 b36 [v632]), bif D 17 then (own 96 v668 x667) else (own 96 v632 s631.1), pt (vp b525 0) (⟨x522.Name, x522.Pins, x522.Ports⟩ : Net), bc 92 b530 [v529], mp v529 s532.1, rd v38 p1.Nets, rd v633 s631.2]) rfl rfl (by decide) (by decide)
    refine RL.nil ?_
    exact ⟨rfl, v666, v668, hv.put 8 rfl rfl, ha.up rfl, hw⟩
   ·rintro D σ w hD hdep hcl ⟨v666, v668, hv, ha, hw⟩
    obtain ⟨τ, rfl⟩ := (ac (hv.at 4 rfl (hdep.2.2.1 rfl)) (ac (hv.at 6 rfl (hdep.1 rfl)) (ac (hv.at 8 rfl (hdep.2.1 rfl)) az))).ups
    refine RL.iar (a := (s631.2.length : Int)) (b := x664) ⟨_, rfl, cb hg663⟩ rfl rfl rfl rfl ?_
    refine RL.nil ?_
    exact ⟨rfl, v666, v668, hv.put 9 rfl rfl, ha.up rfl, hw⟩
   ·rintro D σ w hD hdep hcl ⟨v666, v668, hv, ha, hw⟩
    obtain ⟨τ, rfl⟩ := (ac (hv.at 4 rfl (hdep.1 rfl)) (ac (ha.at 7 rfl) az)).ups
    refine RL.move (v := (.func (.func 53) #[] #[(vp b530 0)])) ⟨_, rfl, cb hg663⟩ rfl rfl ?_
    refine RL.nil ?_
    exact ⟨rfl, v666, v668, hv.put 10 rfl rfl, ha.up rfl, hw⟩
   ·rintro D σ w hD hdep hcl ⟨v666, v668, hv, ha, hw⟩
    obtain ⟨τ, rfl⟩ := (ac (hv.at 4 rfl (hdep.2.2.1 rfl)) (ac (hv.at 10 rfl (hdep.1 rfl)) az)).ups
    have hw := hw.pull (i := 7) rfl
    have hw := hw.pull (i := 7) rfl
    refine RL.callv (cap := [(vp b530 0)]) ⟨_, rfl, cb hg663⟩ rfl fn53 rfl [(vi 6)] rfl (Calls_ret (netlist_Findings_c2_ok N (p0 := 6)  hw  hx665) ?_)
    rintro _ w ⟨rfl, hw⟩
    have hw := hw.pick 12 [2, 3, 4, 5, 6, 7, 0, 1, 10, 11] (new := [bif D 16 then (rd v666 (mget s532.1 1 ([] : (List Pin)))) else junk, pt (vp b31 0) p0, pt (vp b32 0) p1, bif D 17 then (bc 39 b36 [v668]) else (bc 39 b36 [v632]), bif D 17 then (own 96 v668 x667) else (own 96 v632 s631.1), pt (vp b525 0) (⟨x522.Name, x522.Pins, x522.Ports⟩ : Net), bc 92 b530 [v529], mp v529 s532.1, rd v38 p1.Nets, rd v633 s631.2]) rfl rfl (by decide) (by decide)
    refine RL.nil ?_
    exact ⟨rfl, v666, v668, hv.put 11 rfl rfl, ha.up rfl, hw⟩
   ·rintro D σ w hD hdep hcl ⟨v666, v668, hv, ha, hw⟩
    obtain ⟨τ, rfl⟩ := (ac (hv.at 4 rfl (hdep.2.2.1 rfl)) (ac (hv.at 9 rfl (hdep.1 rfl)) (ac (hv.at 11 rfl (hdep.2.1 rfl)) az))).ups
    refine RL.iar (a := (IntKind.wrap .i64 ((s631.2.length : Int) + x664))) (b := x665) ⟨_, rfl, cb hg663⟩ rfl rfl rfl rfl ?_
    refine RL.nil ?_
    exact ⟨rfl, v666, v668, hv.put 12 rfl rfl, ha.up rfl, hw⟩
   ·rintro D σ w hD hdep hcl ⟨v666, v668, hv, ha, hw⟩
    obtain ⟨τ, rfl⟩ := (ac (hv.at 4 rfl (hdep.2.1 rfl)) (ac (hv.at 12 rfl (hdep.1 rfl)) az)).ups
    refine RL.icmp (a := (IntKind.wrap .i64 ((IntKind.wrap .i64 ((s631.2.length : Int) + x664)) + x665))) (b := 0) ⟨_, rfl, cb hg663⟩ rfl rfl rfl rfl ?_
    refine RL.nil ?_
    exact ⟨rfl, v666, v668, hv.put 13 rfl rfl, ha.up rfl, hw⟩
   ·rintro D σ w hD hdep hcl ⟨v666, v668, hv, ha, hw⟩
    obtain ⟨τ, rfl⟩ := (ac (hv.at 4 rfl (hdep.1 rfl)) (ac (hv.at 13 rfl (hdep.2.1 rfl)) az)).ups
    refine RL.pick (b := (decide (x662 > 0))) (v := (vb ((IntKind.wrap .i64 ((IntKind.wrap .i64 ((s631.2.length : Int) + x664)) + x665)) == 0))) trivial rfl rfl (by rw [hg663]; rfl) ?_
    refine RL.nil ?_
    exact ⟨rfl, v666, v668, hv.put 14 rfl rfl, ha.up rfl, hw⟩
   ·rintro D σ w hD hdep hcl ⟨v666, v668, hv, ha, hw⟩
    obtain ⟨τ, rfl⟩ := (ac (ha.at 5 rfl) az).ups
    refine RL.load_bc (i := 6) (v := v529) trivial rfl hw rfl rfl rfl ty92 ?_
    refine RL.nil ?_
    exact ⟨rfl, v666, v668, hv.put 15 rfl rfl, ha.up rfl, hw⟩
   ·rintro D σ w hD hdep hcl ⟨v666, v668, hv, ha, hw⟩
    obtain ⟨τ, rfl⟩ := (ac (hv.at 15 rfl (hdep.1 rfl)) az).ups
    have hw := hw.selF (i := 0) rfl hD
    refine RL.lookup1 (i := 7) (k := 1) trivial rfl hw rfl rfl rfl mt92 fun v669 hw => ?_
    have hw := hw.pick 11 [0, 2, 3, 4, 5, 6, 7, 8, 9, 10] (new := [rd v669 (mget s532.1 1 ([] : (List Pin))), pt (vp b31 0) p0, pt (vp b32 0) p1, bif D 17 then (bc 39 b36 [v668]) else (bc 39 b36 [v632]), bif D 17 then (own 96 v668 x667) else (own 96 v632 s631.1), pt (vp b525 0) (⟨x522.Name, x522.Pins, x522.Ports⟩ : Net), bc 92 b530 [v529], mp v529 s532.1, rd v38 p1.Nets, rd v633 s631.2]) rfl rfl (by decide) (by decide)
    have hw := hw.altT (i := 0) (b := true) rfl rfl (junk)
    refine RL.nil ?_
    exact ⟨rfl, v669, v668, hv.put 16 rfl rfl, ha.up rfl, hw⟩
   ·rintro D σ w hD hdep hcl ⟨v666, v668, hv, ha, hw⟩
    obtain ⟨τ, rfl⟩ := (ac (hv.at 0 rfl (hdep.1 rfl)) (ac (hv.at 14 rfl (hdep.2.1 rfl)) (ac (hv.at 16 rfl (hdep.2.2.1 rfl)) az))).ups
    have hw := hw.selT (i := 0) rfl (hdep.2.2.1 rfl)
    have hw := hw.selF (i := 3) rfl hD
    have hw := hw.selF (i := 4) rfl hD
    have hw := hw.pull (i := 4) rfl
    have hw := hw.pull (i := 4) rfl
    refine RL.callv (cap := [(vp b36 0), (vp b525 0)]) trivial rfl fn54 rfl [(vb ((IntKind.wrap .i64 ((IntKind.wrap .i64 ((s631.2.length : Int) + x664)) + x665)) == 0)), (vi 2), v666] rfl (Calls_ret (netlist_Findings_c3_ok N (p0 := ((IntKind.wrap .i64 ((IntKind.wrap .i64 ((s631.2.length : Int) + x664)) + x665)) == 0)) (p1 := 2) (i2 := 0) (i4 := 5) hw rfl rfl hx667) ?_)
    rintro _ w ⟨v670, rfl, hw⟩
    have hw := hw.pick 12 [2, 3, 4, 0, 1, 7, 8, 9, 10, 11] (new := [rd v666 (mget s532.1 1 ([] : (List Pin))), pt (vp b31 0) p0, pt (vp b32 0) p1, bc 39 b36 [v670], own 96 v670 x667, pt (vp b525 0) (⟨x522.Name, x522.Pins, x522.Ports⟩ : Net), bc 92 b530 [v529], mp v529 s532.1, rd v38 p1.Nets, rd v633 s631.2]) rfl rfl (by decide) (by decide)
    have hw := hw.altT (i := 0) (b := D 16) rfl (hdep.2.2.1 rfl) (junk)
    have hw := hw.altT (i := 3) (b := true) rfl rfl (bc 39 b36 [v632])
    have hw := hw.altT (i := 4) (b := true) rfl rfl (own 96 v632 s631.1)
    refine RL.nil ?_
    exact ⟨rfl, v666, v670, hv.up rfl, ha.up rfl, hw⟩
   rintro D σ w hall ⟨v666, v668, hv, ha, hw⟩
   rw [hall 16 (by decide), hall 17 (by decide)] at hw
   obtain ⟨τ, rfl⟩ := (ac (ha.at 0 rfl) (ac (ha.at 1 rfl) (ac (ha.at 2 rfl) (ac (ha.at 3 rfl) (ac (ha.at 4 rfl) (ac (ha.at 5 rfl) (ac (ha.at 6 rfl) (ac (ha.at 7 rfl) (ac (ha.at 8 rfl) (ac (ha.at 9 rfl) (ac (ha.at 10 rfl) (ac (ha.at 11 rfl) az)))))))))))).ups
   obtain rfl := oi hj
   exact ⟨rfl, v668, ⟨rfl, rfl, rfl, rfl, rfl, rfl, rfl, rfl, rfl, rfl, rfl, trivial⟩, hw.pick 10 [1, 2, 3, 4, 5, 6, 7, 8] (new := [pt (vp b31 0) p0, pt (vp b32 0) p1, bc 39 b36 [v668], own 96 v668 x667, pt (vp b525 0) (⟨x522.Name, x522.Pins, x522.Ports⟩ : Net), bc 92 b530 [v529], mp v529 s532.1, rd v38 p1.Nets]) rfl rfl (by decide) (by decide)⟩
  rintro σ w ⟨v661, ha, hw⟩
  obtain ⟨τ, rfl⟩ := ha.ups
  refine thenQ_n ?_
  refine RC.seq ?_
  obtain ⟨s690, hj, hb⟩ := bd hb
  refine RC.jn (fun (s690 : (List Finding)) (σ : Nat → Value) (w : World) => ∃ v691 : Value, agree σ [(2, (vp b31 0)), (3, (vp b32 0)), (7, (.func (.func 49) #[] #[(vp b31 0), (vp b32 0)])), (8, (vp b36 0)), (10, (vp b525 0)), (11, (vp b530 0)), (16, (.func (.func 53) #[] #[(vp b530 0)])), (17, (.func (.func 54) #[] #[(vp b36 0), (vp b525 0)])), (29, v38), (30, (vi (p1.Nets.length : Int))), (31, (vi (k39 : Int)))] ∧ Holds E w ([pt (vp b31 0) p0, pt (vp b32 0) p1, bc 39 b36 [v691], own 96 v691 s690, pt (vp b525 0) (⟨x522.Name, x522.Pins, x522.Ports⟩ : Net), bc 92 b530 [v529], mp v529 s532.1, rd v38 p1.Nets] ++ Γ)) s690 ?_ ?_
  ·obtain ⟨x692, hx692, hj⟩ := bd hj
   rcases Bool.eq_false_or_eq_true (decide (x692 > 0)) with hg693 | hg693
   rotate_left
   ·replace hj := cF hg693 hj
    obtain ⟨x701, hx701, hj⟩ := bd hj
    refine RC.drw mixed rfl (fun (D : Nat → Bool) (σ : Nat → Value) (w : World) => ∃ (v700 : Value) (v702 : Value), doneV D σ [(0, 101, (.func (.func 54) #[] #[(vp b36 0), (vp b525 0)])), (1, 102, (.func (.func 53) #[] #[(vp b530 0)])), (2, 103, (vi x692)), (3, 104, (vb (decide (x692 > 0)))), (4, 105, (vb (decide (x692 > 0)))), (5, 106, undef), (6, 107, undef), (7, 108, undef), (8, 109, (vb false)), (9, 110, v529), (10, 111, v700)] ∧ agree σ [(2, (vp b31 0)), (3, (vp b32 0)), (7, (.func (.func 49) #[] #[(vp b31 0), (vp b32 0)])), (8, (vp b36 0)), (10, (vp b525 0)), (11, (vp b530 0)), (16, (.func (.func 53) #[] #[(vp b530 0)])), (17, (.func (.func 54) #[] #[(vp b36 0), (vp b525 0)])), (29, v38), (30, (vi (p1.Nets.length : Int))), (31, (vi (k39 : Int)))] ∧ Holds E w ([bif D 10 then (rd v700 (mget s532.1 4 ([] : (List Pin)))) else junk, pt (vp b31 0) p0, pt (vp b32 0) p1, bif D 11 then (bc 39 b36 [v702]) else (bc 39 b36 [v661]), bif D 11 then (own 96 v702 x701) else (own 96 v661 s660), pt (vp b525 0) (⟨x522.Name, x522.Pins, x522.Ports⟩ : Net), bc 92 b530 [v529], mp v529 s532.1, rd v38 p1.Nets] ++ Γ)) ?_ ⟨?_, ?_, ?_, ?_, ?_, ?_, ?_, ?_, ?_, ?_, ?_, ?_, trivial⟩ ?_
    ·have hw := hw.drew
     have hw := hw.junk
     exact ⟨undef, undef, doneV.none, ⟨rfl, rfl, rfl, rfl, rfl, rfl, rfl, rfl, rfl, rfl, rfl, trivial⟩, hw⟩
    ·rintro D σ w hD hdep hcl ⟨v700, v702, hv, ha, hw⟩
     obtain ⟨τ, rfl⟩ := (ac (ha.at 7 rfl) az).ups
     refine mv (.func (.func 54) #[] #[(vp b36 0), (vp b525 0)]) rfl rfl ?_
     refine RL.nil ?_
     exact ⟨rfl, v700, v702, hv.put 0 rfl rfl, ha.up rfl, hw⟩
    ·rintro D σ w hD hdep hcl ⟨v700, v702, hv, ha, hw⟩
     obtain ⟨τ, rfl⟩ := (ac (ha.at 6 rfl) az).ups
     refine mv (.func (.func 53) #[] #[(vp b530 0)]) rfl rfl ?_
     refine RL.nil ?_
     exact ⟨rfl, v700, v702, hv.put 1 rfl rfl, ha.up rfl, hw⟩
    ·rintro D σ w hD hdep hcl ⟨v700, v702, hv, ha, hw⟩
     obtain ⟨τ, rfl⟩ := (ac (hv.at 1 rfl (hdep.1 rfl)) az).ups
     have hw := hw.pull (i := 7) rfl
     have hw := hw.pull (i := 7) rfl
     refine RL.callv (cap := [(vp b530 0)]) trivial rfl fn53 rfl [(vi 4)] rfl (Calls_ret (netlist_Findings_c2_ok N (p0 := 4)  hw  hx692) ?_)
     rintro _ w ⟨rfl, hw⟩
     have hw := hw.pick 11 [2, 3, 4, 5, 6, 7, 0, 1, 10] (new := [bif D 10 then (rd v700 (mget s532.1 4 ([] : (List Pin)))) else junk, pt (vp b31 0) p0, pt (vp b32 0) p1, bif D 11 then (bc 39 b36 [v702]) else (bc 39 b36 [v661]), bif D 11 then (own 96 v702 x701) else (own 96 v661 s660), pt (vp b525 0) (⟨x522.Name, x522.Pins, x522.Ports⟩ : Net), bc 92 b530 [v529], mp v529 s532.1, rd v38 p1.Nets]) rfl rfl (by decide) (by decide)
     refine RL.nil ?_
     exact ⟨rfl, v700, v702, hv.put 2 rfl rfl, ha.up rfl, hw⟩
    ·rintro D σ w hD hdep hcl ⟨v700, v702, hv, ha, hw⟩
     obtain ⟨τ, rfl⟩ := (ac (hv.at 2 rfl (hdep.1 rfl)) az).ups
     refine ic x692 0 rfl rfl rfl rfl ?_
     refine RL.nil ?_
     exact ⟨rfl, v700, v702, hv.put 3 rfl rfl, ha.up rfl, hw⟩
    ·rintro D σ w hD hdep hcl ⟨v700, v702, hv, ha, hw⟩
     obtain ⟨τ, rfl⟩ := (ac (hv.at 3 rfl (hdep.1 rfl)) az).ups
     refine mv (vb (decide (x692 > 0))) rfl rfl ?_
     refine RL.nil ?_
     exact ⟨rfl, v700, v702, hv.put 4 rfl rfl, ha.up rfl, hw⟩
    ·rintro D σ w hD hdep hcl ⟨v700, v702, hv, ha, hw⟩
     obtain ⟨τ, rfl⟩ := (ac (hv.at 4 rfl (hdep.1 rfl)) (ac (ha.at 6 rfl) az)).ups
     refine sk rfl (.inl (cb hg693)) rfl ?_
     refine RL.nil ?_
     exact ⟨rfl, v700, v702, hv.put 5 rfl rfl, ha.up rfl, hw⟩
    ·rintro D σ w hD hdep hcl ⟨v700, v702, hv, ha, hw⟩
     obtain ⟨τ, rfl⟩ := (ac (hv.at 4 rfl (hdep.2.1 rfl)) (ac (hv.at 5 rfl (hdep.1 rfl)) az)).ups
     refine sk rfl (.inl (cb hg693)) rfl ?_
     refine RL.nil ?_
     exact ⟨rfl, v700, v702, hv.put 6 rfl rfl, ha.up rfl, hw⟩
    ·rintro D σ w hD hdep hcl ⟨v700, v702, hv, ha, hw⟩
     obtain ⟨τ, rfl⟩ := (ac (hv.at 4 rfl (hdep.2.1 rfl)) (ac (hv.at 6 rfl (hdep.1 rfl)) az)).ups
     refine sk rfl (.inl (cb hg693)) rfl ?_
     refine RL.nil ?_
     exact ⟨rfl, v700, v702, hv.put 7 rfl rfl, ha.up rfl, hw⟩
    ·rintro D σ w hD hdep hcl ⟨v700, v702, hv, ha, hw⟩
     obtain ⟨τ, rfl⟩ := (ac (hv.at 4 rfl (hdep.1 rfl)) (ac (hv.at 7 rfl (hdep.2.1 rfl)) az)).ups
     refine RL.pick (b := (decide (x692 > 0))) (v := (vb false)) trivial rfl rfl (by rw [hg693]; rfl) ?_
     refine RL.nil ?_
     exact ⟨rfl, v700, v702, hv.put 8 rfl rfl, ha.up rfl, hw⟩
    ·rintro D σ w hD hdep hcl ⟨v700, v702, hv, ha, hw⟩
     obtain ⟨τ, rfl⟩ := (ac (ha.at 5 rfl) az).ups
     refine RL.load_bc (i := 6) (v := v529) trivial rfl hw rfl rfl rfl ty92 ?_
     refine RL.nil ?_
     exact ⟨rfl, v700, v702, hv.put 9 rfl rfl, ha.up rfl, hw⟩
    ·rintro D σ w hD hdep hcl ⟨v700, v702, hv, ha, hw⟩
     obtain ⟨τ, rfl⟩ := (ac (hv.at 9 rfl (hdep.1 rfl)) az).ups
     have hw := hw.selF (i := 0) rfl hD
     refine RL.lookup1 (i := 7) (k := 4) trivial rfl hw rfl rfl rfl mt92 fun v703 hw => ?_
     have hw := hw.pick 10 [0, 2, 3, 4, 5, 6, 7, 8, 9] (new := [rd v703 (mget s532.1 4 ([] : (List Pin))), pt (vp b31 0) p0, pt (vp b32 0) p1, bif D 11 then (bc 39 b36 [v702]) else (bc 39 b36 [v661]), bif D 11 then (own 96 v702 x701) else (own 96 v661 s660), pt (vp b525 0) (⟨x522.Name, x522.Pins, x522.Ports⟩ : Net), bc 92 b530 [v529], mp v529 s532.1, rd v38 p1.Nets]) rfl rfl (by decide) (by decide)
     have hw := hw.altT (i := 0) (b := true) rfl rfl (junk)
     refine RL.nil ?_
     exact ⟨rfl, v703, v702, hv.put 10 rfl rfl, ha.up rfl, hw⟩
    ·rintro D σ w hD hdep hcl ⟨v700, v702, hv, ha, hw⟩
     obtain ⟨τ, rfl⟩ := (ac (hv.at 0 rfl (hdep.1 rfl)) (ac (hv.at 8 rfl (hdep.2.1 rfl)) (ac (hv.at 10 rfl (hdep.2.2.1 rfl)) az))).ups
     have hw := hw.selT (i := 0) rfl (hdep.2.2.1 rfl)
     have hw := hw.selF (i := 3) rfl hD
     have hw := hw.selF (i := 4) rfl hD
     have hw := hw.pull (i := 4) rfl
     have hw := hw.pull (i := 4) rfl
     refine RL.callv (cap := [(vp b36 0), (vp b525 0)]) trivial rfl fn54 rfl [(vb false), (vi 3), v700] rfl (Calls_ret (netlist_Findings_c3_ok N (p0 := false) (p1 := 3) (i2 := 0) (i4 := 5) hw rfl rfl hx701) ?_)
     rintro _ w ⟨v704, rfl, hw⟩
     have hw := hw.pick 11 [2, 3, 4, 0, 1, 7, 8, 9, 10] (new := [rd v700 (mget s532.1 4 ([] : (List Pin))), pt (vp b31 0) p0, pt (vp b32 0) p1, bc 39 b36 [v704], own 96 v704 x701, pt (vp b525 0) (⟨x522.Name, x522.Pins, x522.Ports⟩ : Net), bc 92 b530 [v529], mp v529 s532.1, rd v38 p1.Nets]) rfl rfl (by decide) (by decide)
     have hw := hw.altT (i := 0) (b := D 10) rfl (hdep.2.2.1 rfl) (junk)
     have hw := hw.altT (i := 3) (b := true) rfl rfl (bc 39 b36 [v661])
     have hw := hw.altT (i := 4) (b := true) rfl rfl (own 96 v661 s660)
     refine RL.nil ?_
     exact ⟨rfl, v700, v704, hv.up rfl, ha.up rfl, hw⟩
    rintro D σ w hall ⟨v700, v702, hv, ha, hw⟩
    rw [hall 10 (by decide), hall 11 (by decide)] at hw
    obtain ⟨τ, rfl⟩ := (ac (ha.at 0 rfl) (ac (ha.at 1 rfl) (ac (ha.at 2 rfl) (ac (ha.at 3 rfl) (ac (ha.at 4 rfl) (ac (ha.at 5 rfl) (ac (ha.at 6 rfl) (ac (ha.at 7 rfl) (ac (ha.at 8 rfl) (ac (ha.at 9 rfl) (ac (ha.at 10 rfl) az))))))))))).ups
    obtain rfl := oi hj
    exact ⟨rfl, v702, ⟨rfl, rfl, rfl, rfl, rfl, rfl, rfl, rfl, rfl, rfl, rfl, trivial⟩, hw.pick 9 [1, 2, 3, 4, 5, 6, 7, 8] (new := [pt (vp b31 0) p0, pt (vp b32 0) p1, bc 39 b36 [v702], own 96 v702 x701, pt (vp b525 0) (⟨x522.Name, x522.Pins, x522.Ports⟩ : Net), bc 92 b530 [v529], mp v529 s532.1, rd v38 p1.Nets]) rfl rfl (by decide) (by decide)⟩
   replace hj := cT hg693 hj
   obtain ⟨x694, hx694, hj⟩ := bd hj
   obtain ⟨x696, hx696, hj⟩ := bd hj
   refine RC.drw mixed rfl (fun (D : Nat → Bool) (σ : Nat → Value) (w : World) => ∃ (v695 : Value) (v697 : Value), doneV D σ [(0, 101, (.func (.func 54) #[] #[(vp b36 0), (vp b525 0)])), (1, 102, (.func (.func 53) #[] #[(vp b530 0)])), (2, 103, (vi x692)), (3, 104, (vb (decide (x692 > 0)))), (4, 105, (vb (decide (x692 > 0)))), (5, 106, (.func (.func 53) #[] #[(vp b530 0)])), (6, 107, (vi x694)), (7, 108, (vb (x694 == 0))), (8, 109, (vb (x694 == 0))), (9, 110, v529), (10, 111, v695)] ∧ agree σ [(2, (vp b31 0)), (3, (vp b32 0)), (7, (.func (.func 49) #[] #[(vp b31 0), (vp b32 0)])), (8, (vp b36 0)), (10, (vp b525 0)), (11, (vp b530 0)), (16, (.func (.func 53) #[] #[(vp b530 0)])), (17, (.func (.func 54) #[] #[(vp b36 0), (vp b525 0)])), (29, v38), (30, (vi (p1.Nets.length : Int))), (31, (vi (k39 : Int)))] ∧ Holds E w ([bif D 10 then (rd v695 (mget s532.1 4 ([] : (List Pin)))) else junk, pt (vp b31 0) p0, pt (vp b32 0) p1, bif D 11 then (bc 39 b36 [v697]) else (bc 39 b36 [v661]), bif D 11 then (own 96 v697 x696) else (own 96 v661 s660), pt (vp b525 0) (⟨x522.Name, x522.Pins, x522.Ports⟩ : Net), bc 92 b530 [v529], mp v529 s532.1, rd v38 p1.Nets] ++ Γ)) ?_ ⟨?_, ?_, ?_, ?_, ?_, ?_, ?_, ?_, ?_, ?_, ?_, ?_, trivial⟩ ?_
   ·have hw := hw.drew
    have hw := hw.junk
    exact ⟨undef, undef, doneV.none, ⟨rfl, rfl, rfl, rfl, rfl, rfl, rfl, rfl, rfl, rfl, rfl, trivial⟩, hw⟩
   ·rintro D σ w hD hdep hcl ⟨v695, v697, hv, ha, hw⟩
    obtain ⟨τ, rfl⟩ := (ac (ha.at 7 rfl) az).ups
    refine mv (.func (.func 54) #[] #[(vp b36 0), (vp b525 0)]) rfl rfl ?_
    refine RL.nil ?_
    exact ⟨rfl, v695, v697, hv.put 0 rfl rfl, ha.up rfl, hw⟩
   ·rintro D σ w hD hdep hcl ⟨v695, v697, hv, ha, hw⟩
    obtain ⟨τ, rfl⟩ := (ac (ha.at 6 rfl) az).ups
    refine mv (.func (.func 53) #[] #[(vp b530 0)]) rfl rfl ?_
    refine RL.nil ?_
    exact ⟨rfl, v695, v697, hv.put 1 rfl rfl, ha.up rfl, hw⟩
   ·rintro D σ w hD hdep hcl ⟨v695, v697, hv, ha, hw⟩
    obtain ⟨τ, rfl⟩ := (ac (hv.at 1 rfl (hdep.1 rfl)) az).ups
    have hw := hw.pull (i := 7) rfl
    have hw := hw.pull (i := 7) rfl
    refine RL.callv (cap := [(vp b530 0)]) trivial rfl fn53 rfl [(vi 4)] rfl (Calls_ret (netlist_Findings_c2_ok N (p0 := 4)  hw  hx692) ?_)
    rintro _ w ⟨rfl, hw⟩
    have hw := hw.pick 11 [2, 3, 4, 5, 6, 7, 0, 1, 10] (new := [bif D 10 then (rd v695 (mget s532.1 4 ([] : (List Pin)))) else junk, pt (vp b31 0) p0, pt (vp b32 0) p1, bif D 11 then (bc 39 b36 [v697]) else (bc 39 b36 [v661]), bif D 11 then (own 96 v697 x696) else (own 96 v661 s660), pt (vp b525 0) (⟨x522.Name, x522.Pins, x522.Ports⟩ : Net), bc 92 b530 [v529], mp v529 s532.1, rd v38 p1.Nets]) rfl rfl (by decide) (by decide)
    refine RL.nil ?_
    exact ⟨rfl, v695, v697, hv.put 2 rfl rfl, ha.up rfl, hw⟩
   ·rintro D σ w hD hdep hcl ⟨v695, v697, hv, ha, hw⟩
    obtain ⟨τ, rfl⟩ := (ac (hv.at 2 rfl (hdep.1 rfl)) az).ups
    refine ic x692 0 rfl rfl rfl rfl ?_
    refine RL.nil ?_
    exact ⟨rfl, v695, v697, hv.put 3 rfl rfl, ha.up rfl, hw⟩
   ·rintro D σ w hD hdep hcl ⟨v695, v697, hv, ha, hw⟩
    obtain ⟨τ, rfl⟩ := (ac (hv.at 3 rfl (hdep.1 rfl)) az).ups
    refine mv (vb (decide (x692 > 0))) rfl rfl ?_
    refine RL.nil ?_
    exact ⟨rfl, v695, v697, hv.put 4 rfl rfl, ha.up rfl, hw⟩
   ·rintro D σ w hD hdep hcl ⟨v695, v697, hv, ha, hw⟩
    obtain ⟨τ, rfl⟩ := (ac (hv.at 4 rfl (hdep.1 rfl)) (ac (ha.at 6 rfl) az)).ups
    refine RL.move (v := (.func (.func 53) #[] #[(vp b530 0)])) ⟨_, rfl, cb hg693⟩ rfl rfl ?_
    refine RL.nil ?_
    exact ⟨rfl, v695, v697, hv.put 5 rfl rfl, ha.up rfl, hw⟩
   ·rintro D σ w hD hdep hcl ⟨v695, v697, hv, ha, hw⟩
    obtain ⟨τ, rfl⟩ := (ac (hv.at 4 rfl (hdep.2.1 rfl)) (ac (hv.at 5 rfl (hdep.1 rfl)) az)).ups
    have hw := hw.pull (i := 7) rfl
    have hw := hw.pull (i := 7) rfl
    refine RL.callv (cap := [(vp b530 0)]) ⟨_, rfl, cb hg693⟩ rfl fn53 rfl [(vi 5)] rfl (Calls_ret (netlist_Findings_c2_ok N (p0 := 5)  hw  hx694) ?_)
    rintro _ w ⟨rfl, hw⟩
    have hw := hw.pick 11 [2, 3, 4, 5, 6, 7, 0, 1, 10] (new := [bif D 10 then (rd v695 (mget s532.1 4 ([] : (List Pin)))) else junk, pt (vp b31 0) p0, pt (vp b32 0) p1, bif D 11 then (bc 39 b36 [v697]) else (bc 39 b36 [v661]), bif D 11 then (own 96 v697 x696) else (own 96 v661 s660), pt (vp b525 0) (⟨x522.Name, x522.Pins, x522.Ports⟩ : Net), bc 92 b530 [v529], mp v529 s532.1, rd v38 p1.Nets]) rfl rfl (by decide) (by decide)
    refine RL.nil ?_
    exact ⟨rfl, v695, v697, hv.put 6 rfl rfl, ha.up rfl, hw⟩
   ·rintro D σ w hD hdep hcl ⟨v695, v697, hv, ha, hw⟩
    obtain ⟨τ, rfl⟩ := (ac (hv.at 4 rfl (hdep.2.1 rfl)) (ac (hv.at 6 rfl (hdep.1 rfl)) az)).ups
    refine RL.icmp (a := x694) (b := 0) ⟨_, rfl, cb hg693⟩ rfl rfl rfl rfl ?_
    refine RL.nil ?_
    exact ⟨rfl, v695, v697, hv.put 7 rfl rfl, ha.up rfl, hw⟩
   ·rintro D σ w hD hdep hcl ⟨v695, v697, hv, ha, hw⟩
    obtain ⟨τ, rfl⟩ := (ac (hv.at 4 rfl (hdep.1 rfl)) (ac (hv.at 7 rfl (hdep.2.1 rfl)) az)).ups
    refine RL.pick (b := (decide (x692 > 0))) (v := (vb (x694 == 0))) trivial rfl rfl (by rw [hg693]; rfl) ?_
    refine RL.nil ?_
    exact ⟨rfl, v695, v697, hv.put 8 rfl rfl, ha.up rfl, hw⟩
   ·rintro D σ w hD hdep hcl ⟨v695, v697, hv, ha, hw⟩
    obtain ⟨τ, rfl⟩ := (ac (ha.at 5 rfl) az).ups
    refine RL.load_bc (i := 6) (v := v529) trivial rfl hw rfl rfl rfl ty92 ?_
    refine RL.nil ?_
    exact ⟨rfl, v695, v697, hv.put 9 rfl rfl, ha.up rfl, hw⟩
   ·rintro D σ w hD hdep hcl ⟨v695, v697, hv, ha, hw⟩
    obtain ⟨τ, rfl⟩ := (ac (hv.at 9 rfl (hdep.1 rfl)) az).ups
    have hw := hw.selF (i := 0) rfl hD
    refine RL.lookup1 (i := 7) (k := 4) trivial rfl hw rfl rfl rfl mt92 fun v698 hw => ?_
    have hw := hw.pick 10 [0, 2, 3, 4, 5, 6, 7, 8, 9] (new := [rd v698 (mget s532.1 4 ([] : (List Pin))), pt (vp b31 0) p0, pt (vp b32 0) p1, bif D 11 then (bc 39 b36 [v697]) else (bc 39 b36 [v661]), bif D 11 then (own 96 v697 x696) else (own 96 v661 s660), pt (vp b525 0) (⟨x522.Name, x522.Pins, x522.Ports⟩ : Net), bc 92 b530 [v529], mp v529 s532.1, rd v38 p1.Nets]) rfl rfl (by decide) (by decide)
    have hw := hw.altT (i := 0) (b := true) rfl rfl (junk)
    refine RL.nil ?_
    exact ⟨rfl, v698, v697, hv.put 10 rfl rfl, ha.up rfl, hw⟩
   ·rintro D σ w hD hdep hcl ⟨v695, v697, hv, ha, hw⟩
    obtain ⟨τ, rfl⟩ := (ac (hv.at 0 rfl (hdep.1 rfl)) (ac (hv.at 8 rfl (hdep.2.1 rfl)) (ac (hv.at 10 rfl (hdep.2.2.1 rfl)) az))).ups
    have hw := hw.selT (i := 0) rfl (hdep.2.2.1 rfl)
    have hw := hw.selF (i := 3) rfl hD
    have hw := hw.selF (i := 4) rfl hD
    have hw := hw.pull (i := 4) rfl
    have hw := hw.pull (i := 4) rfl
    refine RL.callv (cap := [(vp b36 0), (vp b525 0)]) trivial rfl fn54 rfl [(vb (x694 == 0)), (vi 3), v695] rfl (Calls_ret (netlist_Findings_c3_ok N (p0 := (x694 == 0)) (p1 := 3) (i2 := 0) (i4 := 5) hw rfl rfl hx696) ?_)
    rintro _ w ⟨v699, rfl, hw⟩
    have hw := hw.pick 11 [2, 3, 4, 0, 1, 7, 8, 9, 10] (new := [rd v695 (mget s532.1 4 ([] : (List Pin))), pt (vp b31 0) p0, pt (vp b32 0) p1, bc 39 b36 [v699], own 96 v699 x696, pt (vp b525 0) (⟨x522.Name, x522.Pins, x522.Ports⟩ : Net), bc 92 b530 [v529], mp v529 s532.1, rd v38 p1.Nets]) rfl rfl (by decide) (by decide)
    have hw := hw.altT (i := 0) (b := D 10) rfl (hdep.2.2.1 rfl) (junk)
    have hw := hw.altT (i := 3) (b := true) rfl rfl (bc 39 b36 [v661])
    have hw := hw.altT (i := 4) (b := true) rfl rfl (own 96 v661 s660)
    refine RL.nil ?_
    exact ⟨rfl, v695, v699, hv.up rfl, ha.up rfl, hw⟩
   rintro D σ w hall ⟨v695, v697, hv, ha, hw⟩
   rw [hall 10 (by decide), hall 11 (by decide)] at hw
   obtain ⟨τ, rfl⟩ := (ac (ha.at 0 rfl) (ac (ha.at 1 rfl) (ac (ha.at 2 rfl) (ac (ha.at 3 rfl) (ac (ha.at 4 rfl) (ac (ha.at 5 rfl) (ac (ha.at 6 rfl) (ac (ha.at 7 rfl) (ac (ha.at 8 rfl) (ac (ha.at 9 rfl) (ac (ha.at 10 rfl) az))))))))))).ups
   obtain rfl := oi hj
   exact ⟨rfl, v697, ⟨rfl, rfl, rfl, rfl, rfl, rfl, rfl, rfl, rfl, rfl, rfl, trivial⟩, hw.pick 9 [1, 2, 3, 4, 5, 6, 7, 8] (new := [pt (vp b31 0) p0, pt (vp b32 0) p1, bc 39 b36 [v697], own 96 v697 x696, pt (vp b525 0) (⟨x522.Name, x522.Pins, x522.Ports⟩ : Net), bc 92 b530 [v529], mp v529 s532.1, rd v38 p1.Nets]) rfl rfl (by decide) (by decide)⟩
  rintro σ w ⟨v691, ha, hw⟩
  obtain ⟨τ, rfl⟩ := ha.ups
  refine thenQ_n ?_
  refine RC.seq ?_
  obtain ⟨x705, hx705, hb⟩ := bd hb
  obtain ⟨x707, hx707, hb⟩ := bd hb
  refine RC.drw mixed rfl (fun (D : Nat → Bool) (σ : Nat → Value) (w : World) => ∃ (v706 : Value) (v708 : Value), doneV D σ [(0, 113, (.func (.func 54) #[] #[(vp b36 0), (vp b525 0)])), (1, 114, (.func (.func 53) #[] #[(vp b530 0)])), (2, 115, (vi x705)), (3, 116, (vb (decide (x705 > 0)))), (4, 117, v529), (5, 118, v706)] ∧ agree σ [(2, (vp b31 0)), (3, (vp b32 0)), (7, (.func (.func 49) #[] #[(vp b31 0), (vp b32 0)])), (8, (vp b36 0)), (10, (vp b525 0)), (11, (vp b530 0)), (16, (.func (.func 53) #[] #[(vp b530 0)])), (17, (.func (.func 54) #[] #[(vp b36 0), (vp b525 0)])), (29, v38), (30, (vi (p1.Nets.length : Int))), (31, (vi (k39 : Int)))] ∧ Holds E w ([bif D 5 then (rd v706 (mget s532.1 7 ([] : (List Pin)))) else junk, pt (vp b31 0) p0, pt (vp b32 0) p1, bif D 6 then (bc 39 b36 [v708]) else (bc 39 b36 [v691]), bif D 6 then (own 96 v708 x707) else (own 96 v691 s690), pt (vp b525 0) (⟨x522.Name, x522.Pins, x522.Ports⟩ : Net), bc 92 b530 [v529], mp v529 s532.1, rd v38 p1.Nets] ++ Γ)) ?_ ⟨?_, ?_, ?_, ?_, ?_, ?_, ?_, trivial⟩ ?_
  ·have hw := hw.drew
   have hw := hw.junk
   exact ⟨undef, undef, doneV.none, ⟨rfl, rfl, rfl, rfl, rfl, rfl, rfl, rfl, rfl, rfl, rfl, trivial⟩, hw⟩
  ·rintro D σ w hD hdep hcl ⟨v706, v708, hv, ha, hw⟩
   obtain ⟨τ, rfl⟩ := (ac (ha.at 7 rfl) az).ups
   refine mv (.func (.func 54) #[] #[(vp b36 0), (vp b525 0)]) rfl rfl ?_
   refine RL.nil ?_
   exact ⟨rfl, v706, v708, hv.put 0 rfl rfl, ha.up rfl, hw⟩
  ·rintro D σ w hD hdep hcl ⟨v706, v708, hv, ha, hw⟩
   obtain ⟨τ, rfl⟩ := (ac (ha.at 6 rfl) az).ups
   refine mv (.func (.func 53) #[] #[(vp b530 0)]) rfl rfl ?_
   refine RL.nil ?_
   exact ⟨rfl, v706, v708, hv.put 1 rfl rfl, ha.up rfl, hw⟩
  ·rintro D σ w hD hdep hcl ⟨v706, v708, hv, ha, hw⟩
   obtain ⟨τ, rfl⟩ := (ac (hv.at 1 rfl (hdep.1 rfl)) az).ups
   have hw := hw.pull (i := 7) rfl
   have hw := hw.pull (i := 7) rfl
   refine RL.callv (cap := [(vp b530 0)]) trivial rfl fn53 rfl [(vi 7)] rfl (Calls_ret (netlist_Findings_c2_ok N (p0 := 7)  hw  hx705) ?_)
   rintro _ w ⟨rfl, hw⟩
   have hw := hw.pick 11 [2, 3, 4, 5, 6, 7, 0, 1, 10] (new := [bif D 5 then (rd v706 (mget s532.1 7 ([] : (List Pin)))) else junk, pt (vp b31 0) p0, pt (vp b32 0) p1, bif D 6 then (bc 39 b36 [v708]) else (bc 39 b36 [v691]), bif D 6 then (own 96 v708 x707) else (own 96 v691 s690), pt (vp b525 0) (⟨x522.Name, x522.Pins, x522.Ports⟩ : Net), bc 92 b530 [v529], mp v529 s532.1, rd v38 p1.Nets]) rfl rfl (by decide) (by decide)
   refine RL.nil ?_
   exact ⟨rfl, v706, v708, hv.put 2 rfl rfl, ha.up rfl, hw⟩
  ·rintro D σ w hD hdep hcl ⟨v706, v708, hv, ha, hw⟩
   obtain ⟨τ, rfl⟩ := (ac (hv.at 2 rfl (hdep.1 rfl)) az).ups
   refine ic x705 0 rfl rfl rfl rfl ?_
   refine RL.nil ?_
   exact ⟨rfl, v706, v708, hv.put 3 rfl rfl, ha.up rfl, hw⟩
  ·rintro D σ w hD hdep hcl ⟨v706, v708, hv, ha, hw⟩
   obtain ⟨τ, rfl⟩ := (ac (ha.at 5 rfl) az).ups
   refine RL.load_bc (i := 6) (v := v529) trivial rfl hw rfl rfl rfl ty92 ?_
   refine RL.nil ?_
   exact ⟨rfl, v706, v708, hv.put 4 rfl rfl, ha.up rfl, hw⟩
  ·rintro D σ w hD hdep hcl ⟨v706, v708, hv, ha, hw⟩
   obtain ⟨τ, rfl⟩ := (ac (hv.at 4 rfl (hdep.1 rfl)) az).ups
   have hw := hw.selF (i := 0) rfl hD
   refine RL.lookup1 (i := 7) (k := 7) trivial rfl hw rfl rfl rfl mt92 fun v709 hw => ?_
   have hw := hw.pick 10 [0, 2, 3, 4, 5, 6, 7, 8, 9] (new := [rd v709 (mget s532.1 7 ([] : (List Pin))), pt (vp b31 0) p0, pt (vp b32 0) p1, bif D 6 then (bc 39 b36 [v708]) else (bc 39 b36 [v691]), bif D 6 then (own 96 v708 x707) else (own 96 v691 s690), pt (vp b525 0) (⟨x522.Name, x522.Pins, x522.Ports⟩ : Net), bc 92 b530 [v529], mp v529 s532.1, rd v38 p1.Nets]) rfl rfl (by decide) (by decide)
   have hw := hw.altT (i := 0) (b := true) rfl rfl (junk)
   refine RL.nil ?_
   exact ⟨rfl, v709, v708, hv.put 5 rfl rfl, ha.up rfl, hw⟩
  ·rintro D σ w hD hdep hcl ⟨v706, v708, hv, ha, hw⟩
   obtain ⟨τ, rfl⟩ := (ac (hv.at 0 rfl (hdep.1 rfl)) (ac (hv.at 3 rfl (hdep.2.1 rfl)) (ac (hv.at 5 rfl (hdep.2.2.1 rfl)) az))).ups
   have hw := hw.selT (i := 0) rfl (hdep.2.2.1 rfl)
   have hw := hw.selF (i := 3) rfl hD
   have hw := hw.selF (i := 4) rfl hD
   have hw := hw.pull (i := 4) rfl
   have hw := hw.pull (i := 4) rfl
   refine RL.callv (cap := [(vp b36 0), (vp b525 0)]) trivial rfl fn54 rfl [(vb (decide (x705 > 0))), (vi 4), v706] rfl (Calls_ret (netlist_Findings_c3_ok N (p0 := (decide (x705 > 0))) (p1 := 4) (i2 := 0) (i4 := 5) hw rfl rfl hx707) ?_)
   rintro _ w ⟨v710, rfl, hw⟩
   have hw := hw.pick 11 [2, 3, 4, 0, 1, 7, 8, 9, 10] (new := [rd v706 (mget s532.1 7 ([] : (List Pin))), pt (vp b31 0) p0, pt (vp b32 0) p1, bc 39 b36 [v710], own 96 v710 x707, pt (vp b525 0) (⟨x522.Name, x522.Pins, x522.Ports⟩ : Net), bc 92 b530 [v529], mp v529 s532.1, rd v38 p1.Nets]) rfl rfl (by decide) (by decide)
   have hw := hw.altT (i := 0) (b := D 5) rfl (hdep.2.2.1 rfl) (junk)
   have hw := hw.altT (i := 3) (b := true) rfl rfl (bc 39 b36 [v691])
   have hw := hw.altT (i := 4) (b := true) rfl rfl (own 96 v691 s690)
   refine RL.nil ?_
   exact ⟨rfl, v706, v710, hv.up rfl, ha.up rfl, hw⟩
  rintro D σ w hall ⟨v706, v708, hv, ha, hw⟩
  rw [hall 5 (by decide), hall 6 (by decide)] at hw
  obtain ⟨τ, rfl⟩ := (ac (ha.at 0 rfl) (ac (ha.at 1 rfl) (ac (ha.at 2 rfl) (ac (ha.at 3 rfl) (ac (ha.at 4 rfl) (ac (ha.at 5 rfl) (ac (ha.at 6 rfl) (ac (ha.at 7 rfl) (ac (ha.at 8 rfl) (ac (ha.at 9 rfl) (ac (ha.at 10 rfl) az))))))))))).ups
  refine thenQ_n ?_
  obtain ⟨s735, hj, hb⟩ := bd hb
  refine RC.jn (fun (s735 : (List Finding)) (σ : Nat → Value) (w : World) => ∃ v736 : Value, agree σ [(2, (vp b31 0)), (3, (vp b32 0)), (7, (.func (.func 49) #[] #[(vp b31 0), (vp b32 0)])), (8, (vp b36 0)), (29, v38), (30, (vi (p1.Nets.length : Int))), (31, (vi (k39 : Int)))] ∧ Holds E w ([pt (vp b31 0) p0, pt (vp b32 0) p1, bc 39 b36 [v736], own 96 v736 s735, rd v38 p1.Nets] ++ Γ)) s735 ?_ ?_
  ·rcases Bool.eq_false_or_eq_true (((((⟨x522.Name, x522.Pins, x522.Ports⟩ : Net).Pins).length : Nat) : Int) == 1) with hg739 | hg739
   rotate_left
   ·replace hj := cF hg739 hj
    obtain ⟨x752, hx752, hj⟩ := bd hj
    refine RC.drw mixed rfl (fun (D : Nat → Bool) (σ : Nat → Value) (w : World) => ∃ (v737 : Value) (v738 : Value) (v750 : Value) (v751 : Value) (v753 : Value), doneV D σ [(0, 120, (.func (.func 54) #[] #[(vp b36 0), (vp b525 0)])), (1, 121, v737), (2, 122, v738), (3, 123, (vi ((((⟨x522.Name, x522.Pins, x522.Ports⟩ : Net).Pins).length : Nat) : Int))), (4, 124, (vb (((((⟨x522.Name, x522.Pins, x522.Ports⟩ : Net).Pins).length : Nat) : Int) == 1))), (5, 125, (vb (((((⟨x522.Name, x522.Pins, x522.Ports⟩ : Net).Pins).length : Nat) : Int) == 1))), (6, 126, undef), (7, 127, undef), (8, 128, undef), (9, 129, (vb false)), (10, 130, v750), (11, 131, v751)] ∧ agree σ [(2, (vp b31 0)), (3, (vp b32 0)), (7, (.func (.func 49) #[] #[(vp b31 0), (vp b32 0)])), (8, (vp b36 0)), (10, (vp b525 0)), (16, (.func (.func 53) #[] #[(vp b530 0)])), (17, (.func (.func 54) #[] #[(vp b36 0), (vp b525 0)])), (29, v38), (30, (vi (p1.Nets.length : Int))), (31, (vi (k39 : Int)))] ∧ Holds E w ([bif D 1 then (pt v737 (⟨x522.Name, x522.Pins, x522.Ports⟩ : Net).Pins) else junk, bif D 2 then (rd v738 (⟨x522.Name, x522.Pins, x522.Ports⟩ : Net).Pins) else junk, bif D 10 then (pt v750 (⟨x522.Name, x522.Pins, x522.Ports⟩ : Net).Pins) else junk, bif D 11 then (rd v751 (⟨x522.Name, x522.Pins, x522.Ports⟩ : Net).Pins) else junk, rd v706 (mget s532.1 7 ([] : (List Pin))), pt (vp b31 0) p0, pt (vp b32 0) p1, bif D 12 then (bc 39 b36 [v753]) else (bc 39 b36 [v708]), bif D 12 then (own 96 v753 x752) else (own 96 v708 x707), pt (vp b525 0) (⟨x522.Name, x522.Pins, x522.Ports⟩ : Net), bc 92 b530 [v529], mp v529 s532.1, rd v38 p1.Nets] ++ Γ)) ?_ ⟨?_, ?_, ?_, ?_, ?_, ?_, ?_, ?_, ?_, ?_, ?_, ?_, ?_, trivial⟩ ?_
    ·have hw := hw.drew
     have hw := hw.junk
     have hw := hw.junk
     have hw := hw.junk
     have hw := hw.junk
     exact ⟨undef, undef, undef, undef, undef, doneV.none, ⟨rfl, rfl, rfl, rfl, rfl, rfl, rfl, rfl, rfl, rfl, trivial⟩, hw⟩
    ·rintro D σ w hD hdep hcl ⟨v737, v738, v750, v751, v753, hv, ha, hw⟩
     obtain ⟨τ, rfl⟩ := (ac (ha.at 6 rfl) az).ups
     refine mv (.func (.func 54) #[] #[(vp b36 0), (vp b525 0)]) rfl rfl ?_
     refine RL.nil ?_
     exact ⟨rfl, v737, v738, v750, v751, v753, hv.put 0 rfl rfl, ha.up rfl, hw⟩
    ·rintro D σ w hD hdep hcl ⟨v737, v738, v750, v751, v753, hv, ha, hw⟩
     obtain ⟨τ, rfl⟩ := (ac (ha.at 4 rfl) az).ups
     have hw := hw.selF (i := 0) rfl hD
     refine RL.fa_pt (i := 9) (f := fun (x : Net) => x.Pins) trivial rfl hw rfl rfl fa64_1 fd_Net_1 fun v754 hw => ?_
     have hw := hw.pick 14 [0, 2, 3, 4, 5, 6, 7, 8, 9, 10, 11, 12, 13] (new := [pt v754 (⟨x522.Name, x522.Pins, x522.Ports⟩ : Net).Pins, bif D 2 then (rd v738 (⟨x522.Name, x522.Pins, x522.Ports⟩ : Net).Pins) else junk, bif D 10 then (pt v750 (⟨x522.Name, x522.Pins, x522.Ports⟩ : Net).Pins) else junk, bif D 11 then (rd v751 (⟨x522.Name, x522.Pins, x522.Ports⟩ : Net).Pins) else junk, rd v706 (mget s532.1 7 ([] : (List Pin))), pt (vp b31 0) p0, pt (vp b32 0) p1, bif D 12 then (bc 39 b36 [v753]) else (bc 39 b36 [v708]), bif D 12 then (own 96 v753 x752) else (own 96 v708 x707), pt (vp b525 0) (⟨x522.Name, x522.Pins, x522.Ports⟩ : Net), bc 92 b530 [v529], mp v529 s532.1, rd v38 p1.Nets]) rfl rfl (by decide) (by decide)
     have hw := hw.altT (i := 0) (b := true) rfl rfl (junk)
     refine RL.nil ?_
     exact ⟨rfl, v754, v738, v750, v751, v753, hv.put 1 rfl rfl, ha.up rfl, hw⟩
    ·rintro D σ w hD hdep hcl ⟨v737, v738, v750, v751, v753, hv, ha, hw⟩
     obtain ⟨τ, rfl⟩ := (ac (hv.at 1 rfl (hdep.1 rfl)) az).ups
     have hw := hw.selT (i := 0) rfl (hdep.1 rfl)
     have hw := hw.selF (i := 1) rfl hD
     refine RL.load_pt (i := 0) (x := (⟨x522.Name, x522.Pins, x522.Ports⟩ : Net).Pins) trivial rfl hw rfl rfl ty33 fun v755 hw => ?_
     have hw := hw.pick 14 [1, 0, 3, 4, 5, 6, 7, 8, 9, 10, 11, 12, 13] (new := [pt v737 (⟨x522.Name, x522.Pins, x522.Ports⟩ : Net).Pins, rd v755 (⟨x522.Name, x522.Pins, x522.Ports⟩ : Net).Pins, bif D 10 then (pt v750 (⟨x522.Name, x522.Pins, x522.Ports⟩ : Net).Pins) else junk, bif D 11 then (rd v751 (⟨x522.Name, x522.Pins, x522.Ports⟩ : Net).Pins) else junk, rd v706 (mget s532.1 7 ([] : (List Pin))), pt (vp b31 0) p0, pt (vp b32 0) p1, bif D 12 then (bc 39 b36 [v753]) else (bc 39 b36 [v708]), bif D 12 then (own 96 v753 x752) else (own 96 v708 x707), pt (vp b525 0) (⟨x522.Name, x522.Pins, x522.Ports⟩ : Net), bc 92 b530 [v529], mp v529 s532.1, rd v38 p1.Nets]) rfl rfl (by decide) (by decide)
     have hw := hw.altT (i := 0) (b := D 1) rfl (hdep.1 rfl) (junk)
     have hw := hw.altT (i := 1) (b := true) rfl rfl (junk)
     refine RL.nil ?_
     exact ⟨rfl, v737, v755, v750, v751, v753, hv.put 2 rfl rfl, ha.up rfl, hw⟩
    ·rintro D σ w hD hdep hcl ⟨v737, v738, v750, v751, v753, hv, ha, hw⟩
     obtain ⟨τ, rfl⟩ := (ac (hv.at 2 rfl (hdep.1 rfl)) az).ups
     have hw := hw.selT (i := 1) rfl (hdep.1 rfl)
     refine RL.len_rd (i := 1) (l := (⟨x522.Name, x522.Pins, x522.Ports⟩ : Net).Pins) trivial rfl hw rfl rfl un33 ?_
     have hw := hw.altT (i := 1) (b := D 2) rfl (hdep.1 rfl) (junk)
     refine RL.nil ?_
     exact ⟨rfl, v737, v738, v750, v751, v753, hv.put 3 rfl rfl, ha.up rfl, hw⟩
    ·rintro D σ w hD hdep hcl ⟨v737, v738, v750, v751, v753, hv, ha, hw⟩
     obtain ⟨τ, rfl⟩ := (ac (hv.at 3 rfl (hdep.1 rfl)) az).ups
     refine ic (((((⟨x522.Name, x522.Pins, x522.Ports⟩ : Net).Pins).length : Nat) : Int)) 1 rfl rfl rfl rfl ?_
     refine RL.nil ?_
     exact ⟨rfl, v737, v738, v750, v751, v753, hv.put 4 rfl rfl, ha.up rfl, hw⟩
    ·rintro D σ w hD hdep hcl ⟨v737, v738, v750, v751, v753, hv, ha, hw⟩
     obtain ⟨τ, rfl⟩ := (ac (hv.at 4 rfl (hdep.1 rfl)) az).ups
     refine mv (vb (((((⟨x522.Name, x522.Pins, x522.Ports⟩ : Net).Pins).length : Nat) : Int) == 1)) rfl rfl ?_
     refine RL.nil ?_
     exact ⟨rfl, v737, v738, v750, v751, v753, hv.put 5 rfl rfl, ha.up rfl, hw⟩
    ·rintro D σ w hD hdep hcl ⟨v737, v738, v750, v751, v753, hv, ha, hw⟩
     obtain ⟨τ, rfl⟩ := (ac (hv.at 5 rfl (hdep.1 rfl)) (ac (ha.at 5 rfl) az)).ups
     refine sk rfl (.inl (cb hg739)) rfl ?_
     refine RL.nil ?_
     exact ⟨rfl, v737, v738, v750, v751, v753, hv.put 6 rfl rfl, ha.up rfl, hw⟩
    ·rintro D σ w hD hdep hcl ⟨v737, v738, v750, v751, v753, hv, ha, hw⟩
     obtain ⟨τ, rfl⟩ := (ac (hv.at 5 rfl (hdep.2.1 rfl)) (ac (hv.at 6 rfl (hdep.1 rfl)) az)).ups
     refine sk rfl (.inl (cb hg739)) rfl ?_
     refine RL.nil ?_
     exact ⟨rfl, v737, v738, v750, v751, v753, hv.put 7 rfl rfl, ha.up rfl, hw⟩
    ·rintro D σ w hD hdep hcl ⟨v737, v738, v750, v751, v753, hv, ha, hw⟩
     obtain ⟨τ, rfl⟩ := (ac (hv.at 5 rfl (hdep.2.1 rfl)) (ac (hv.at 7 rfl (hdep.1 rfl)) az)).ups
     refine sk rfl (.inl (cb hg739)) rfl ?_
     refine RL.nil ?_
     exact ⟨rfl, v737, v738, v750, v751, v753, hv.put 8 rfl rfl, ha.up rfl, hw⟩
    ·rintro D σ w hD hdep hcl ⟨v737, v738, v750, v751, v753, hv, ha, hw⟩
     obtain ⟨τ, rfl⟩ := (ac (hv.at 5 rfl (hdep.1 rfl)) (ac (hv.at 8 rfl (hdep.2.1 rfl)) az)).ups
     refine RL.pick (b := (((((⟨x522.Name, x522.Pins, x522.Ports⟩ : Net).Pins).length : Nat) : Int) == 1)) (v := (vb false)) trivial rfl rfl (by rw [hg739]; rfl) ?_
     refine RL.nil ?_
     exact ⟨rfl, v737, v738, v750, v751, v753, hv.put 9 rfl rfl, ha.up rfl, hw⟩
    ·rintro D σ w hD hdep hcl ⟨v737, v738, v750, v751, v753, hv, ha, hw⟩
     obtain ⟨τ, rfl⟩ := (ac (ha.at 4 rfl) az).ups
     have hw := hw.selF (i := 2) rfl hD
     refine RL.fa_pt (i := 9) (f := fun (x : Net) => x.Pins) trivial rfl hw rfl rfl fa64_1 fd_Net_1 fun v756 hw => ?_
     have hw := hw.pick 14 [1, 2, 0, 4, 5, 6, 7, 8, 9, 10, 11, 12, 13] (new := [bif D 1 then (pt v737 (⟨x522.Name, x522.Pins, x522.Ports⟩ : Net).Pins) else junk, bif D 2 then (rd v738 (⟨x522.Name, x522.Pins, x522.Ports⟩ : Net).Pins) else junk, pt v756 (⟨x522.Name, x522.Pins, x522.Ports⟩ : Net).Pins, bif D 11 then (rd v751 (⟨x522.Name, x522.Pins, x522.Ports⟩ : Net).Pins) else junk, rd v706 (mget s532.1 7 ([] : (List Pin))), pt (vp b31 0) p0, pt (vp b32 0) p1, bif D 12 then (bc 39 b36 [v753]) else (bc 39 b36 [v708]), bif D 12 then (own 96 v753 x752) else (own 96 v708 x707), pt (vp b525 0) (⟨x522.Name, x522.Pins, x522.Ports⟩ : Net), bc 92 b530 [v529], mp v529 s532.1, rd v38 p1.Nets]) rfl rfl (by decide) (by decide)
     have hw := hw.altT (i := 2) (b := true) rfl rfl (junk)
     refine RL.nil ?_
     exact ⟨rfl, v737, v738, v756, v751, v753, hv.put 10 rfl rfl, ha.up rfl, hw⟩
    ·rintro D σ w hD hdep hcl ⟨v737, v738, v750, v751, v753, hv, ha, hw⟩
     obtain ⟨τ, rfl⟩ := (ac (hv.at 10 rfl (hdep.1 rfl)) az).ups
     have hw := hw.selT (i := 2) rfl (hdep.1 rfl)
     have hw := hw.selF (i := 3) rfl hD
     refine RL.load_pt (i := 2) (x := (⟨x522.Name, x522.Pins, x522.Ports⟩ : Net).Pins) trivial rfl hw rfl rfl ty33 fun v757 hw => ?_
     have hw := hw.pick 14 [1, 2, 3, 0, 5, 6, 7, 8, 9, 10, 11, 12, 13] (new := [bif D 1 then (pt v737 (⟨x522.Name, x522.Pins, x522.Ports⟩ : Net).Pins) else junk, bif D 2 then (rd v738 (⟨x522.Name, x522.Pins, x522.Ports⟩ : Net).Pins) else junk, pt v750 (⟨x522.Name, x522.Pins, x522.Ports⟩ : Net).Pins, rd v757 (⟨x522.Name, x522.Pins, x522.Ports⟩ : Net).Pins, rd v706 (mget s532.1 7 ([] : (List Pin))), pt (vp b31 0) p0, pt (vp b32 0) p1, bif D 12 then (bc 39 b36 [v753]) else (bc 39 b36 [v708]), bif D 12 then (own 96 v753 x752) else (own 96 v708 x707), pt (vp b525 0) (⟨x522.Name, x522.Pins, x522.Ports⟩ : Net), bc 92 b530 [v529], mp v529 s532.1, rd v38 p1.Nets]) rfl rfl (by decide) (by decide)
     have hw := hw.altT (i := 2) (b := D 10) rfl (hdep.1 rfl) (junk)
     have hw := hw.altT (i := 3) (b := true) rfl rfl (junk)
     refine RL.nil ?_
     exact ⟨rfl, v737, v738, v750, v757, v753, hv.put 11 rfl rfl, ha.up rfl, hw⟩
    ·rintro D σ w hD hdep hcl ⟨v737, v738, v750, v751, v753, hv, ha, hw⟩
     obtain ⟨τ, rfl⟩ := (ac (hv.at 0 rfl (hdep.1 rfl)) (ac (hv.at 9 rfl (hdep.2.1 rfl)) (ac (hv.at 11 rfl (hdep.2.2.1 rfl)) az))).ups
     have hw := hw.selT (i := 3) rfl (hdep.2.2.1 rfl)
     have hw := hw.selF (i := 7) rfl hD
     have hw := hw.selF (i := 8) rfl hD
     have hw := hw.pull (i := 8) rfl
     have hw := hw.pull (i := 8) rfl
     refine RL.callv (cap := [(vp b36 0), (vp b525 0)]) trivial rfl fn54 rfl [(vb false), (vi 5), v751] rfl (Calls_ret (netlist_Findings_c3_ok N (p0 := false) (p1 := 5) (i2 := 3) (i4 := 9) hw rfl rfl hx752) ?_)
     rintro _ w ⟨v758, rfl, hw⟩
     have hw := hw.pick 15 [2, 3, 4, 5, 6, 7, 8, 0, 1, 11, 12, 13, 14] (new := [bif D 1 then (pt v737 (⟨x522.Name, x522.Pins, x522.Ports⟩ : Net).Pins) else junk, bif D 2 then (rd v738 (⟨x522.Name, x522.Pins, x522.Ports⟩ : Net).Pins) else junk, bif D 10 then (pt v750 (⟨x522.Name, x522.Pins, x522.Ports⟩ : Net).Pins) else junk, rd v751 (⟨x522.Name, x522.Pins, x522.Ports⟩ : Net).Pins, rd v706 (mget s532.1 7 ([] : (List Pin))), pt (vp b31 0) p0, pt (vp b32 0) p1, bc 39 b36 [v758], own 96 v758 x752, pt (vp b525 0) (⟨x522.Name, x522.Pins, x522.Ports⟩ : Net), bc 92 b530 [v529], mp v529 s532.1, rd v38 p1.Nets]) rfl rfl (by decide) (by decide)
     have hw := hw.altT (i := 3) (b := D 11) rfl (hdep.2.2.1 rfl) (junk)
     have hw := hw.altT (i := 7) (b := true) rfl rfl (bc 39 b36 [v708])
     have hw := hw.altT (i := 8) (b := true) rfl rfl (own 96 v708 x707)
     refine RL.nil ?_
     exact ⟨rfl, v737, v738, v750, v751, v758, hv.up rfl, ha.up rfl, hw⟩
    rintro D σ w hall ⟨v737, v738, v750, v751, v753, hv, ha, hw⟩
    rw [hall 1 (by decide), hall 2 (by decide), hall 10 (by decide), hall 11 (by decide), hall 12 (by decide)] at hw
    obtain ⟨τ, rfl⟩ := (ac (ha.at 0 rfl) (ac (ha.at 1 rfl) (ac (ha.at 2 rfl) (ac (ha.at 3 rfl) (ac (ha.at 4 rfl) (ac (ha.at 5 rfl) (ac (ha.at 6 rfl) (ac (ha.at 7 rfl) (ac (ha.at 8 rfl) (ac (ha.at 9 rfl) az)))))))))).ups
    obtain rfl := oi hj
    exact ⟨rfl, v753, ⟨rfl, rfl, rfl, rfl, rfl, rfl, rfl, trivial⟩, hw.pick 13 [5, 6, 7, 8, 12] (new := [pt (vp b31 0) p0, pt (vp b32 0) p1, bc 39 b36 [v753], own 96 v753 x752, rd v38 p1.Nets]) rfl rfl (by decide) (by decide)⟩
   replace hj := cT hg739 hj
   obtain ⟨x740, hx740, hj⟩ := bd hj
   obtain ⟨x743, hx743, hj⟩ := bd hj
   refine RC.drw mixed rfl (fun (D : Nat → Bool) (σ : Nat → Value) (w : World) => ∃ (v737 : Value) (v738 : Value) (v741 : Value) (v742 : Value) (v744 : Value), doneV D σ [(0, 120, (.func (.func 54) #[] #[(vp b36 0), (vp b525 0)])), (1, 121, v737), (2, 122, v738), (3, 123, (vi ((((⟨x522.Name, x522.Pins, x522.Ports⟩ : Net).Pins).length : Nat) : Int))), (4, 124, (vb (((((⟨x522.Name, x522.Pins, x522.Ports⟩ : Net).Pins).length : Nat) : Int) == 1))), (5, 125, (vb (((((⟨x522.Name, x522.Pins, x522.Ports⟩ : Net).Pins).length : Nat) : Int) == 1))), (6, 126, (.func (.func 53) #[] #[(vp b530 0)])), (7, 127, (vi x740)), (8, 128, (vb (x740 == 0))), (9, 129, (vb (x740 == 0))), (10, 130, v741), (11, 131, v742)] ∧ agree σ [(2, (vp b31 0)), (3, (vp b32 0)), (7, (.func (.func 49) #[] #[(vp b31 0), (vp b32 0)])), (8, (vp b36 0)), (10, (vp b525 0)), (16, (.func (.func 53) #[] #[(vp b530 0)])), (17, (.func (.func 54) #[] #[(vp b36 0), (vp b525 0)])), (29, v38), (30, (vi (p1.Nets.length : Int))), (31, (vi (k39 : Int)))] ∧ Holds E w ([bif D 1 then (pt v737 (⟨x522.Name, x522.Pins, x522.Ports⟩ : Net).Pins) else junk, bif D 2 then (rd v738 (⟨x522.Name, x522.Pins, x522.Ports⟩ : Net).Pins) else junk, bif D 10 then (pt v741 (⟨x522.Name, x522.Pins, x522.Ports⟩ : Net).Pins) else junk, bif D 11 then (rd v742 (⟨x522.Name, x522.Pins, x522.Ports⟩ : Net).Pins) else junk, rd v706 (mget s532.1 7 ([] : (List Pin))), pt (vp b31 0) p0, pt (vp b32 0) p1, bif D 12 then (bc 39 b36 [v744]) else (bc 39 b36 [v708]), bif D 12 then (own 96 v744 x743) else (own 96 v708 x707), pt (vp b525 0) (⟨x522.Name, x522.Pins, x522.Ports⟩ : Net), bc 92 b530 [v529], mp v529 s532.1, rd v38 p1.Nets] ++ Γ)) ?_ ⟨?_, ?_, ?_, ?_, ?_, ?_, ?_, ?_, ?_, ?_, ?_, ?_, ?_, trivial⟩ ?_
   ·have hw := hw.drew
    have hw := hw.junk
    have hw := hw.junk
    have hw := hw.junk
    have hw := hw.junk
    exact ⟨undef, undef, undef, undef, undef, doneV.none, ⟨rfl, rfl, rfl, rfl, rfl, rfl, rfl, rfl, rfl, rfl, trivial⟩, hw⟩
   ·rintro D σ w hD hdep hcl ⟨v737, v738, v741, v742, v744, hv, ha, hw⟩
    obtain ⟨τ, rfl⟩ := (ac (ha.at 6 rfl) az).ups
    refine mv (.func (.func 54) #[] #[(vp b36 0), (vp b525 0)]) rfl rfl ?_
    refine RL.nil ?_
    exact ⟨rfl, v737, v738, v741, v742, v744, hv.put 0 rfl rfl, ha.up rfl, hw⟩
   ·rintro D σ w hD hdep hcl ⟨v737, v738, v741, v742, v744, hv, ha, hw⟩
    obtain ⟨τ, rfl⟩ := (ac (ha.at 4 rfl) az).ups
    have hw := hw.selF (i := 0) rfl hD
    refine RL.fa_pt (i := 9) (f := fun (x : Net) => x.Pins) trivial rfl hw rfl rfl fa64_1 fd_Net_1 fun v745 hw => ?_
    have hw := hw.pick 14 [0, 2, 3, 4, 5, 6, 7, 8, 9, 10, 11, 12, 13] (new := [pt v745 (⟨x522.Name, x522.Pins, x522.Ports⟩ : Net).Pins, bif D 2 then (rd v738 (⟨x522.Name, x522.Pins, x522.Ports⟩ : Net).Pins) else junk, bif D 10 then (pt v741 (⟨x522.Name, x522.Pins, x522.Ports⟩ : Net).Pins) else junk, bif D 11 then (rd v742 (⟨x522.Name, x522.Pins, x522.Ports⟩ : Net).Pins) else junk, rd v706 (mget s532.1 7 ([] : (List Pin))), pt (vp b31 0) p0, pt (vp b32 0) p1, bif D 12 then (bc 39 b36 [v744]) else (bc 39 b36 [v708]), bif D 12 then (own 96 v744 x743) else (own 96 v708 x707), pt (vp b525 0) (⟨x522.Name, x522.Pins, x522.Ports⟩ : Net), bc 92 b530 [v529], mp v529 s532.1, rd v38 p1.Nets]) rfl rfl (by decide) (by decide)
    have hw := hw.altT (i := 0) (b := true) rfl rfl (junk)
    refine RL.nil ?_
    exact ⟨rfl, v745, v738, v741, v742, v744, hv.put 1 rfl rfl, ha.up rfl, hw⟩
   ·rintro D σ w hD hdep hcl ⟨v737, v738, v741, v742, v744, hv, ha, hw⟩
    obtain ⟨τ, rfl⟩ := (ac (hv.at 1 rfl (hdep.1 rfl)) az).ups
    have hw := hw.selT (i := 0) rfl (hdep.1 rfl)
    have hw := hw.selF (i := 1) rfl hD
    refine RL.load_pt (i := 0) (x := (⟨x522.Name, x522.Pins, x522.Ports⟩ : Net).Pins) trivial rfl hw rfl rfl ty33 fun v746 hw => ?_
    have hw := hw.pick 14 [1, 0, 3, 4, 5, 6, 7, 8, 9, 10, 11, 12, 13] (new := [pt v737 (⟨x522.Name, x522.Pins, x522.Ports⟩ : Net).Pins, rd v746 (⟨x522.Name, x522.Pins, x522.Ports⟩ : Net).Pins, bif D 10 then (pt v741 (⟨x522.Name, x522.Pins, x522.Ports⟩ : Net).Pins) else junk, bif D 11 then (rd v742 (⟨x522.Name, x522.Pins, x522.Ports⟩ : Net).Pins) else junk, rd v706 (mget s532.1 7 ([] : (List Pin))), pt (vp b31 0) p0, pt (vp b32 0) p1, bif D 12 then (bc 39 b36 [v744]) else (bc 39 b36 [v708]), bif D 12 then (own 96 v744 x743) else (own 96 v708 x707), pt (vp b525 0) (⟨x522.Name, x522.Pins, x522.Ports⟩ : Net), bc 92 b530 [v529], mp v529 s532.1, rd v38 p1.Nets]) rfl rfl (by decide) (by decide)
    have hw := hw.altT (i := 0) (b := D 1) rfl (hdep.1 rfl) (junk)
    have hw := hw.altT (i := 1) (b := true) rfl rfl (junk)
    refine RL.nil ?_
    exact ⟨rfl, v737, v746, v741, v742, v744, hv.put 2 rfl rfl, ha.up rfl, hw⟩
   ·rintro D σ w hD hdep hcl ⟨v737, v738, v741, v742, v744, hv, ha, hw⟩
    obtain ⟨τ, rfl⟩ := (ac (hv.at 2 rfl (hdep.1 rfl)) az).ups
    have hw := hw.selT (i := 1) rfl (hdep.1 rfl)
    refine RL.len_rd (i := 1) (l := (⟨x522.Name, x522.Pins, x522.Ports⟩ : Net).Pins) trivial rfl hw rfl rfl un33 ?_
    have hw := hw.altT (i := 1) (b := D 2) rfl (hdep.1 rfl) (junk)
    refine RL.nil ?_
    exact ⟨rfl, v737, v738, v741, v742, v744, hv.put 3 rfl rfl, ha.up rfl, hw⟩
   ·rintro D σ w hD hdep hcl ⟨v737, v738, v741, v742, v744, hv, ha, hw⟩
    obtain ⟨τ, rfl⟩ := (ac (hv.at 3 rfl (hdep.1 rfl)) az).ups
    refine ic (((((⟨x522.Name, x522.Pins, x522.Ports⟩ : Net).Pins).length : Nat) : Int)) 1 rfl rfl rfl rfl ?_
    refine RL.nil ?_
    exact ⟨rfl, v737, v738, v741, v742, v744, hv.put 4 rfl rfl, ha.up rfl, hw⟩
   ·rintro D σ w hD hdep hcl ⟨v737, v738, v741, v742, v744, hv, ha, hw⟩
    obtain ⟨τ, rfl⟩ := (ac (hv.at 4 rfl (hdep.1 rfl)) az).ups
    refine mv (vb (((((⟨x522.Name, x522.Pins, x522.Ports⟩ : Net).Pins).length : Nat) : Int) == 1)) rfl rfl ?_
    refine RL.nil ?_
    exact ⟨rfl, v737, v738, v741, v742, v744, hv.put 5 rfl rfl, ha.up rfl, hw⟩
   ·rintro D σ w hD hdep hcl ⟨v737, v738, v741, v742, v744, hv, ha, hw⟩
    obtain ⟨τ, rfl⟩ := (ac (hv.at 5 rfl (hdep.1 rfl)) (ac (ha.at 5 rfl) az)).ups
    refine RL.move (v := (.func (.func 53) #[] #[(vp b530 0)])) ⟨_, rfl, cb hg739⟩ rfl rfl ?_
    refine RL.nil ?_
    exact ⟨rfl, v737, v738, v741, v742, v744, hv.put 6 rfl rfl, ha.up rfl, hw⟩
   ·rintro D σ w hD hdep hcl ⟨v737, v738, v741, v742, v744, hv, ha, hw⟩
    obtain ⟨τ, rfl⟩ := (ac (hv.at 5 rfl (hdep.2.1 rfl)) (ac (hv.at 6 rfl (hdep.1 rfl)) az)).ups
    have hw := hw.pull (i := 11) rfl
    have hw := hw.pull (i := 11) rfl
    refine RL.callv (cap := [(vp b530 0)]) ⟨_, rfl, cb hg739⟩ rfl fn53 rfl [(vi 7)] rfl (Calls_ret (netlist_Findings_c2_ok N (p0 := 7)  hw  hx740) ?_)
    rintro _ w ⟨rfl, hw⟩
    have hw := hw.pick 15 [2, 3, 4, 5, 6, 7, 8, 9, 10, 11, 0, 1, 14] (new := [bif D 1 then (pt v737 (⟨x522.Name, x522.Pins, x522.Ports⟩ : Net).Pins) else junk, bif D 2 then (rd v738 (⟨x522.Name, x522.Pins, x522.Ports⟩ : Net).Pins) else junk, bif D 10 then (pt v741 (⟨x522.Name, x522.Pins, x522.Ports⟩ : Net).Pins) else junk, bif D 11 then (rd v742 (⟨x522.Name, x522.Pins, x522.Ports⟩ : Net).Pins) else junk, rd v706 (mget s532.1 7 ([] : (List Pin))), pt (vp b31 0) p0, pt (vp b32 0) p1, bif D 12 then (bc 39 b36 [v744]) else (bc 39 b36 [v708]), bif D 12 then (own 96 v744 x743) else (own 96 v708 x707), pt (vp b525 0) (⟨x522.Name, x522.Pins, x522.Ports⟩ : Net), bc 92 b530 [v529], mp v529 s532.1, rd v38 p1.Nets]) rfl rfl (by decide) (by decide)
    refine RL.nil ?_
    exact ⟨rfl, v737, v738, v741, v742, v744, hv.put 7 rfl rfl, ha.up rfl, hw⟩
   ·rintro D σ w hD hdep hcl ⟨v737, v738, v741, v742, v744, hv, ha, hw⟩
    obtain ⟨τ, rfl⟩ := (ac (hv.at 5 rfl (hdep.2.1 rfl)) (ac (hv.at 7 rfl (hdep.1 rfl)) az)).ups
    refine RL.icmp (a := x740) (b := 0) ⟨_, rfl, cb hg739⟩ rfl rfl rfl rfl ?_
    refine RL.nil ?_
    exact ⟨rfl, v737, v738, v741, v742, v744, hv.put 8 rfl rfl, ha.up rfl, hw⟩
   ·rintro D σ w hD hdep hcl ⟨v737, v738, v741, v742, v744, hv, ha, hw⟩
    obtain ⟨τ, rfl⟩ := (ac (hv.at 5 rfl (hdep.1 rfl)) (ac (hv.at 8 rfl (hdep.2.1 rfl)) az)).ups
    refine RL.pick (b := (((((⟨x522.Name, x522.Pins, x522.Ports⟩ : Net).Pins).length : Nat) : Int) == 1)) (v := (vb (x740 == 0))) trivial rfl rfl (by rw [hg739]; rfl) ?_
    refine RL.nil ?_
    exact ⟨rfl, v737, v738, v741, v742, v744, hv.put 9 rfl rfl, ha.up rfl, hw⟩
   ·rintro D σ w hD hdep hcl ⟨v737, v738, v741, v742, v744, hv, ha, hw⟩
    obtain ⟨τ, rfl⟩ := (ac (ha.at 4 rfl) az).ups
    have hw := hw.selF (i := 2) rfl hD
    refine RL.fa_pt (i := 9) (f := fun (x : Net) => x.Pins) trivial rfl hw rfl rfl fa64_1 fd_Net_1 fun v747 hw => ?_
    have hw := hw.pick 14 [1, 2, 0, 4, 5, 6, 7, 8, 9, 10, 11, 12, 13] (new := [bif D 1 then (pt v737 (⟨x522.Name, x522.Pins, x522.Ports⟩ : Net).Pins) else junk, bif D 2 then (rd v738 (⟨x522.Name, x522.Pins, x522.Ports⟩ : Net).Pins) else junk, pt v747 (⟨x522.Name, x522.Pins, x522.Ports⟩ : Net).Pins, bif D 11 then (rd v742 (⟨x522.Name, x522.Pins, x522.Ports⟩ : Net).Pins) else junk, rd v706 (mget s532.1 7 ([] : (List Pin))), pt (vp b31 0) p0, pt (vp b32 0) p1, bif D 12 then (bc 39 b36 [v744]) else (bc 39 b36 [v708]), bif D 12 then (own 96 v744 x743) else (own 96 v708 x707), pt (vp b525 0) (⟨x522.Name, x522.Pins, x522.Ports⟩ : Net), bc 92 b530 [v529], mp v529 s532.1, rd v38 p1.Nets]) rfl rfl (by decide) (by decide)
    have hw := hw.altT (i := 2) (b := true) rfl rfl (junk)
    refine RL.nil ?_
    exact ⟨rfl, v737, v738, v747, v742, v744, hv.put 10 rfl rfl, ha.up rfl, hw⟩
   ·rintro D σ w hD hdep hcl ⟨v737, v738, v741, v742, v744, hv, ha, hw⟩
    obtain ⟨τ, rfl⟩ := (ac (hv.at 10 rfl (hdep.1 rfl)) az).ups
    have hw := hw.selT (i := 2) rfl (hdep.1 rfl)
    have hw := hw.selF (i := 3) rfl hD
    refine RL.load_pt (i := 2) (x := (⟨x522.Name, x522.Pins, x522.Ports⟩ : Net).Pins) trivial rfl hw rfl rfl ty33 fun v748 hw => ?_
    have hw := hw.pick 14 [1, 2, 3, 0, 5, 6, 7, 8, 9, 10, 11, 12, 13] (new := [bif D 1 then (pt v737 (⟨x522.Name, x522.Pins, x522.Ports⟩ : Net).Pins) else junk, bif D 2 then (rd v738 (⟨x522.Name, x522.Pins, x522.Ports⟩ : Net).Pins) else junk, pt v741 (⟨x522.Name, x522.Pins, x522.Ports⟩ : Net).Pins, rd v748 (⟨x522.Name, x522.Pins, x522.Ports⟩ : Net).Pins, rd v706 (mget s532.1 7 ([] : (List Pin))), pt (vp b31 0) p0, pt (vp b32 0) p1, bif D 12 then (bc 39 b36 [v744]) else (bc 39 b36 [v708]), bif D 12 then (own 96 v744 x743) else (own 96 v708 x707), pt (vp b525 0) (⟨x522.Name, x522.Pins, x522.Ports⟩ : Net), bc 92 b530 [v529], mp v529 s532.1, rd v38 p1.Nets]) rfl rfl (by decide) (by decide)
    have hw := hw.altT (i := 2) (b := D 10) rfl (hdep.1 rfl) (junk)
    have hw := hw.altT (i := 3) (b := true) rfl rfl (junk)
    refine RL.nil ?_
    exact ⟨rfl, v737, v738, v741, v748, v744, hv.put 11 rfl rfl, ha.up rfl, hw⟩
   ·rintro D σ w hD hdep hcl ⟨v737, v738, v741, v742, v744, hv, ha, hw⟩
    obtain ⟨τ, rfl⟩ := (ac (hv.at 0 rfl (hdep.1 rfl)) (ac (hv.at 9 rfl (hdep.2.1 rfl)) (ac (hv.at 11 rfl (hdep.2.2.1 rfl)) az))).ups
    have hw := hw.selT (i := 3) rfl (hdep.2.2.1 rfl)
    have hw := hw.selF (i := 7) rfl hD
    have hw := hw.selF (i := 8) rfl hD
    have hw := hw.pull (i := 8) rfl
    have hw := hw.pull (i := 8) rfl
    refine RL.callv (cap := [(vp b36 0), (vp b525 0)]) trivial rfl fn54 rfl [(vb (x740 == 0)), (vi 5), v742] rfl (Calls_ret (netlist_Findings_c3_ok N (p0 := (x740 == 0)) (p1 := 5) (i2 := 3) (i4 := 9) hw rfl rfl hx743) ?_)
    rintro _ w ⟨v749, rfl, hw⟩
    have hw := hw.pick 15 [2, 3, 4, 5, 6, 7, 8, 0, 1, 11, 12, 13, 14] (new := [bif D 1 then (pt v737 (⟨x522.Name, x522.Pins, x522.Ports⟩ : Net).Pins) else junk, bif D 2 then (rd v738 (⟨x522.Name, x522.Pins, x522.Ports⟩ : Net).Pins) else junk, bif D 10 then (pt v741 (⟨x522.Name, x522.Pins, x522.Ports⟩ : Net).Pins) else junk, rd v742 (⟨x522.Name, x522.Pins, x522.Ports⟩ : Net).Pins, rd v706 (mget s532.1 7 ([] : (List Pin))), pt (vp b31 0) p0, pt (vp b32 0) p1, bc 39 b36 [v749], own 96 v749 x743, pt (vp b525 0) (⟨x522.Name, x522.Pins, x522.Ports⟩ : Net), bc 92 b530 [v529], mp v529 s532.1, rd v38 p1.Nets]) rfl rfl (by decide) (by decide)
    have hw := hw.altT (i := 3) (b := D 11) rfl (hdep.2.2.1 rfl) (junk)
    have hw := hw.altT (i := 7) (b := true) rfl rfl (bc 39 b36 [v708])
    have hw := hw.altT (i := 8) (b := true) rfl rfl (own 96 v708 x707)
    refine RL.nil ?_
    exact ⟨rfl, v737, v738, v741, v742, v749, hv.up rfl, ha.up rfl, hw⟩
   rintro D σ w hall ⟨v737, v738, v741, v742, v744, hv, ha, hw⟩
   rw [hall 1 (by decide), hall 2 (by decide), hall 10 (by decide), hall 11 (by decide), hall 12 (by decide)] at hw
   obtain ⟨τ, rfl⟩ := (ac (ha.at 0 rfl) (ac (ha.at 1 rfl) (ac (ha.at 2 rfl) (ac (ha.at 3 rfl) (ac (ha.at 4 rfl) (ac (ha.at 5 rfl) (ac (ha.at 6 rfl) (ac (ha.at 7 rfl) (ac (ha.at 8 rfl) (ac (ha.at 9 rfl) az)))))))))).ups
   obtain rfl := oi hj
   exact ⟨rfl, v744, ⟨rfl, rfl, rfl, rfl, rfl, rfl, rfl, trivial⟩, hw.pick 13 [5, 6, 7, 8, 12] (new := [pt (vp b31 0) p0, pt (vp b32 0) p1, bc 39 b36 [v744], own 96 v744 x743, rd v38 p1.Nets]) rfl rfl (by decide) (by decide)⟩
  rintro σ w ⟨v736, ha, hw⟩
  obtain ⟨τ, rfl⟩ := ha.ups
  refine blkQ_n ?_
  refine thenQ_n ?_
  refine RC.region ?_
  refine RL.inc trivial rfl hk hm rfl rfl ?_
  refine mv (vi ((k39 + 1 : Nat) : Int)) rfl rfl ?_
  refine RL.nil ?_
  obtain rfl := oi hb
  exact ⟨rfl, v736, ⟨rfl, rfl, rfl, rfl, rfl, rfl, rfl, trivial⟩, hw.pick 5 [0, 1, 2, 3, 4] (new := [pt (vp b31 0) p0, pt (vp b32 0) p1, bc 39 b36 [v736], own 96 v736 s735, rd v38 p1.Nets]) rfl rfl (by decide) (by decide)⟩
 intro σ w hJ
 obtain ⟨v520, ha, hw⟩ := hJ
 obtain ⟨τ, rfl⟩ := ha.ups
 refine thenQ_n ?_
 refine RC.seq ?_
 refine RC.sr ?_
 refine RL.load_pt (i := 0) (x := p0) trivial rfl hw rfl rfl ty22 fun v761 hw => ?_
 refine RL.load_pt (i := 2) (x := p1) trivial rfl hw rfl rfl ty26 fun v762 hw => ?_
 obtain ⟨x763, hx763, hb⟩ := bd hb
 refine RL.call trivial rfl fn47 [v761, v762] rfl (Calls_ret (netlist_LooseOf_ok N  (i0 := 1) (i1 := 0) hw rfl rfl hx763) ?_)
 rintro v764 w hw
 refine RL.len_own (i := 0) (l := x763) trivial rfl hw rfl rfl un33 ?_
 refine mv (vi 0) rfl rfl ?_
 refine RL.nt ?_
 obtain ⟨s766, hN, hb⟩ := bd hb
 refine RC.fold (fun (k765 : Nat) (s766 : (List Finding)) (σ : Nat → Value) (w : World) => ∃ v807 : Value, agree σ [(7, (.func (.func 49) #[] #[(vp b31 0), (vp b32 0)])), (8, (vp b36 0)), (136, v764), (137, (vi (x763.length : Int))), (138, (vi (k765 : Int)))] ∧ Holds E w ([pt (vp b31 0) p0, pt (vp b32 0) p1, bc 39 b36 [v807], own 96 v807 s766, own 28 v764 x763] ++ Γ)) (fun (s766 : (List Finding)) (σ : Nat → Value) (w : World) => ∃ v808 : Value, agree σ [(8, (vp b36 0))] ∧ Holds E w ([pt (vp b31 0) p0, pt (vp b32 0) p1, bc 39 b36 [v808], own 96 v808 s766, own 28 v764 x763] ++ Γ)) hN ?_ ?_ ?_ ?_
 ·exact ⟨v520, ⟨rfl, rfl, rfl, rfl, rfl, trivial⟩, hw.pick 8 [3, 4, 5, 6, 0] (new := [pt (vp b31 0) p0, pt (vp b32 0) p1, bc 39 b36 [v520], own 96 v520 s40, own 28 v764 x763]) rfl rfl (by decide) (by decide)⟩
 ·intro hm s766 σ w hI
  obtain ⟨v829, ha, hw⟩ := hI
  obtain ⟨τ, rfl⟩ := ha.ups
  refine RC.sr ?_
  refine ic ((x763.length : Int)) ((x763.length : Int)) rfl rfl rfl rfl ?_
  refine RL.nq ?_
  refine RC.cond_f dge ?_
  refine RC.ex ?_
  exact ⟨rfl, v829, ⟨rfl, trivial⟩, hw.pick 5 [0, 1, 2, 3, 4] (new := [pt (vp b31 0) p0, pt (vp b32 0) p1, bc 39 b36 [v829], own 96 v829 s766, own 28 v764 x763]) rfl rfl (by decide) (by decide)⟩
 ·intro hm k765 s766 s' σ w hk hI hb
  obtain ⟨v809, ha, hw⟩ := hI
  obtain ⟨τ, rfl⟩ := ha.ups
  refine RC.sr ?_
  refine ic ((k765 : Int)) ((x763.length : Int)) rfl rfl rfl rfl ?_
  refine RL.nq ?_
  refine RC.cond_t (dlt hk) ?_
  refine RC.ss ?_
  refine RC.bs ?_
  obtain ⟨x810, hx810, hb⟩ := bd hb
  refine RL.ia_ownA (i := 4) trivial rfl hw rfl rfl rfl sl33 hx810 ?_
  refine RL.load_el (i := 4) (f := (fun x => x)) trivial rfl hw rfl (elp hw (i := 4) rfl hx810 0) rfl (idx_some hx810).2.1 Fd.self ty28 fun v811 hw => ?_
  refine RL.alloc trivial rfl hw ze28.z fun b812 w hw => ?_
  refine RL.store_raw (i := 0) (j := 1) trivial hw rfl rfl rfl rfl ty28 rfl fun w hw => ?_
  refine RL.ns ?_
  refine mv (.func (.func 49) #[] #[(vp b31 0), (vp b32 0)]) rfl rfl ?_
  refine RL.load_bf (i := 0) (f := (fun x => x)) trivial rfl hw rfl rfl Fd.self ty28 fun v813 hw => ?_
  obtain ⟨x814, hx814, hb⟩ := bd hb
  refine RL.callv (cap := [(vp b31 0), (vp b32 0)]) trivial rfl fn49 rfl [v813] rfl (Calls_ret (netlist_Findings_c1_ok N  (i0 := 0) (i1 := 3) (i2 := 4) hw rfl rfl rfl hx814) ?_)
  rintro _ w ⟨rfl, hw⟩
  refine as_ (vi x814) rfl rfl ?_
  refine RL.ns ?_
  refine mv (vi x814) rfl rfl ?_
  refine ic x814 7 rfl rfl rfl rfl ?_
  refine mv (vb (x814 != 7)) rfl rfl ?_
  refine RL.gs (c := true) (b := (x814 != 7)) (v := (vi x814)) rfl rfl rfl (gs_move rfl (fun _ => rfl)) ?_
  refine RL.gs (c := true) (b := (x814 != 7)) (v := (vb (x814 != 6))) rfl rfl rfl (gs_icmp (bop := .neq) (K := .i64) (a := x814) (b := 6) rfl (fun h => by exact (cv_t h : cv (true && ((x814 != 7) == true)) (vi x814) = (vi x814))) (fun _ => rfl) rfl) ?_
  refine RL.pick (b := (x814 != 7)) (v := (vb ((x814 != 7) && (x814 != 6)))) trivial rfl rfl (pk_and (c := true) rfl) ?_
  refine RL.nt ?_
  obtain ⟨s821, hj, hb⟩ := bd hb
  refine RC.jn (fun (s821 : (List Finding)) (σ : Nat → Value) (w : World) => ∃ v822 : Value, agree σ [(7, (.func (.func 49) #[] #[(vp b31 0), (vp b32 0)])), (8, (vp b36 0)), (136, v764), (137, (vi (x763.length : Int))), (138, (vi (k765 : Int)))] ∧ Holds E w ([pt (vp b31 0) p0, pt (vp b32 0) p1, bc 39 b36 [v822], own 96 v822 s821, own 28 v764 x763] ++ Γ)) s821 ?_ ?_
  ·refine RC.cond (b := ((x814 != 7) && (x814 != 6))) rfl (fun hc => ?_) (fun hc => ?_)
   rotate_left
   ·replace hj := cF hc hj
    refine RC.skip ?_
    obtain rfl := oi hj
    exact ⟨rfl, v809, ⟨rfl, rfl, rfl, rfl, rfl, trivial⟩, hw.pick 8 [3, 4, 5, 6, 7] (new := [pt (vp b31 0) p0, pt (vp b32 0) p1, bc 39 b36 [v809], own 96 v809 s766, own 28 v764 x763]) rfl rfl (by decide) (by decide)⟩
   replace hj := cT hc hj
   refine RC.region ?_
   refine RL.load_bc (i := 5) (v := v809) trivial rfl hw rfl rfl rfl ty39 ?_
   refine RL.load_bf (i := 1) (f := (fun x => x)) trivial rfl hw rfl rfl Fd.self ty28 fun v823 hw => ?_
   refine RL.bslice (l := ([x810] : (List Pin))) trivial rfl hw [v823] rfl rfl rfl sl33 ze28 (fun M hs g => ⟨(g.sat 0 _ rfl).1, trivial⟩) fun v824 w hw => ?_
   have hw := hw.sc (γ := Int) 6
   have hw := hw.freeze (i := 1) rfl
   refine RL.build (y := (⟨6, ⟨[]⟩, ([x810] : (List Pin))⟩ : Finding)) trivial rfl hw [(0, (vi 6)), (2, v824)] rfl st96 rfl (fun M hs g => by have h := z_Finding M; exact Fills.cons (f := fun (x : Finding) y => { x with Kind := y }) rfl h fs_Finding_0 (by decide) (g.sat 0 _ rfl).1 fun _ h => Fills.cons (f := fun (x : Finding) y => { x with Pins := y }) rfl h fs_Finding_2 (by decide) (g.sat 1 _ rfl).1 fun _ h => Fills.nil h) fun v825 hw => ?_
   refine RL.bslice (l := ([(⟨6, ⟨[]⟩, ([x810] : (List Pin))⟩ : Finding)] : (List Finding))) trivial rfl hw [v825] rfl rfl rfl sl39 ze96 (fun M hs g => ⟨(g.sat 0 _ rfl).1, trivial⟩) fun v826 w hw => ?_
   have hw := hw.freeze (i := 0) rfl
   obtain ⟨x827, hx827, hj⟩ := bd hj
   refine RL.app (i := 11) (j := 0) trivial rfl hw rfl rfl rfl rfl el39 hx827 fun v828 w hw => ?_
   refine RL.store_bc (i := 10) (v := v828) trivial hw rfl rfl rfl rfl (one_own hw (i := 11) rfl) ty39 fun w hw => ?_
   refine RL.nil ?_
   obtain rfl := oi hj
   exact ⟨rfl, v828, ⟨rfl, rfl, rfl, rfl, rfl, trivial⟩, hw.pick 13 [8, 9, 10, 11, 12] (new := [pt (vp b31 0) p0, pt (vp b32 0) p1, bc 39 b36 [v828], own 96 v828 x827, own 28 v764 x763]) rfl rfl (by decide) (by decide)⟩
  rintro σ w ⟨v822, ha, hw⟩
  obtain ⟨τ, rfl⟩ := ha.ups
  refine blkQ_n ?_
  refine thenQ_n ?_
  refine RC.region ?_
  refine RL.inc trivial rfl hk hm rfl rfl ?_
  refine mv (vi ((k765 + 1 : Nat) : Int)) rfl rfl ?_
  refine RL.nil ?_
  obtain rfl := oi hb
  exact ⟨rfl, v822, ⟨rfl, rfl, rfl, rfl, rfl, trivial⟩, hw.pick 5 [0, 1, 2, 3, 4] (new := [pt (vp b31 0) p0, pt (vp b32 0) p1, bc 39 b36 [v822], own 96 v822 s821, own 28 v764 x763]) rfl rfl (by decide) (by decide)⟩
 intro σ w hJ
 obtain ⟨v808, ha, hw⟩ := hJ
 obtain ⟨τ, rfl⟩ := ha.ups
 refine thenQ_n ?_
 refine RC.sr ?_
 refine RL.load_bc (i := 2) (v := v808) trivial rfl hw rfl rfl rfl ty39 ?_
 refine as_ v808 rfl rfl ?_
 refine as_ (vi 0) rfl rfl ?_
 refine RL.nt ?_
 refine RC.ret ?_
 obtain rfl := oi hb
 exact fin2 rfl rfl rfl ⟨v808, rfl, hw.pick 5 [3] (new := [own 96 v808 s766]) rfl rfl (by decide) (by decide)⟩
end Go.Gk
