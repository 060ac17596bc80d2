/-
  Printed by gen.py: Go functions as plain functions, and that they are.
-/
import Derived.Test.YtghiafpkpfipgaaGreatDoorT
import Derived.Test.YtghiafpkpfipgaaGreatDoorS
import Derived.Test.YtghiafpkpfipgaaGreatDoorF1
import Derived.Test.YtghiafpkpfipgaaGreatDoorF3
set_option linter.unusedVariables false
set_option linter.unusedSimpArgs false
set_option linter.unusedSectionVars false
set_option maxRecDepth 100000
set_option maxHeartbeats 4000000

namespace Go.Gk
open Go Go.Proofs
def etchhouseref2_checkType_R (E : World) (Γ : List HP) (res : Int) (v : Value) (w : World) : Prop := v = (vi res) ∧ Holds E w Γ
def etchhouseref2_checkType_K (E : World) (Γ : List HP) (r : Int) (σ : Nat → Value) (w : World) : Prop := finQ Tryz.prog 99 Tryz.f61 (etchhouseref2_checkType_R E Γ r) .ret σ w
theorem etchhouseref2_checkType_ok (N : Nat) {E w : World} {Γ : List HP} {i0 : Nat} {v0 : Value} {p0 : PartType} {res : Int} (hw : Holds E w Γ) (h0 : Γ[i0]? = some (rd v0 p0)) (hb : etchhouseref2_checkType N p0 = some res) :
    Calls Tryz.prog 61 [v0].toArray w (Ret (etchhouseref2_checkType_R E Γ res)) := by
 unfold etchhouseref2_checkType at hb
 refine enter Tryz.func61 rfl rfl (Nat.le_of_ble_eq_true rfl) ?_
 have hw := hw.dup (i := i0 + 0) h0
 refine RC.sr ?_
 refine RL.box_rd (i := 0) (v := v0) trivial rfl hw rfl rfl fun b31 w hw => ?_
 refine as_ (vi 0) rfl rfl ?_
 refine RL.nq ?_
 refine RC.bs ?_
 refine RL.fa_b trivial rfl rfl fa58_0 ?_
 refine RL.load_bfs (i := 0) (f := (fun x => x.Name)) trivial rfl hw rfl rfl fd_PartType_0 ty9 ?_
 obtain ⟨x32, hx32, hb⟩ := bd hb
 refine RL.call trivial rfl fn87 [(str p0.Name)] rfl (Calls_ret (etchhouseref2_IsWord_ok N (p0 := p0.Name)  hw  hx32) ?_)
 rintro _ w ⟨rfl, hw⟩
 refine RL.not (b := x32) trivial rfl rfl ?_
 refine as_ (vb (!x32)) rfl rfl ?_
 refine RL.nt ?_
 refine RC.cond (b := (!x32)) rfl (fun hc => ?_) (fun hc => ?_)
 ·replace hb := cT hc hb
  refine RC.sr ?_
  refine as_ (vi 5) rfl rfl ?_
  refine RL.nt ?_
  refine RC.rb ?_
  refine thenQ_r ?_
  obtain rfl := oi hb
  exact fin1 rfl rfl ⟨rfl, hw.drop 2 rfl⟩
 replace hb := cF hc hb
 refine RC.sr ?_
 refine RL.fa_b trivial rfl rfl fa58_1 ?_
 refine RL.load_bf (i := 0) (f := (fun x => x.Pins)) trivial rfl hw rfl rfl fd_PartType_1 ty56 fun v36 hw => ?_
 refine RL.len_rd (i := 0) (l := p0.Pins) trivial rfl hw rfl rfl un56 ?_
 refine ic ((p0.Pins.length : Int)) 0 rfl rfl rfl rfl ?_
 refine as_ (vb ((p0.Pins.length : Int) == 0)) rfl rfl ?_
 refine RL.nt ?_
 refine RC.cond (b := ((p0.Pins.length : Int) == 0)) rfl (fun hc => ?_) (fun hc => ?_)
 ·replace hb := cT hc hb
  refine RC.sr ?_
  refine as_ (vi 9) rfl rfl ?_
  refine RL.nt ?_
  refine RC.rb ?_
  refine thenQ_r ?_
  obtain rfl := oi hb
  exact fin1 rfl rfl ⟨rfl, hw.drop 3 rfl⟩
 replace hb := cF hc hb
 refine RC.sr ?_
 refine RL.fa_b trivial rfl rfl fa58_1 ?_
 refine RL.load_bf (i := 1) (f := (fun x => x.Pins)) trivial rfl hw rfl rfl fd_PartType_1 ty56 fun v38 hw => ?_
 refine RL.len_rd (i := 0) (l := p0.Pins) trivial rfl hw rfl rfl un56 ?_
 refine ic ((p0.Pins.length : Int)) 200 rfl rfl rfl rfl ?_
 refine as_ (vb (decide ((p0.Pins.length : Int) > 200))) rfl rfl ?_
 refine RL.nt ?_
 refine RC.cond (b := (decide ((p0.Pins.length : Int) > 200))) rfl (fun hc => ?_) (fun hc => ?_)
 ·replace hb := cT hc hb
  refine RC.sr ?_
  refine as_ (vi 2) rfl rfl ?_
  refine RL.nt ?_
  refine RC.rb ?_
  refine thenQ_r ?_
  obtain rfl := oi hb
  exact fin1 rfl rfl ⟨rfl, hw.drop 4 rfl⟩
 replace hb := cF hc hb
 refine RC.skip ?_
 refine blkQ_n ?_
 refine thenQ_n ?_
 refine RC.seq ?_
 refine RC.sr ?_
 refine RL.fa_b trivial rfl rfl fa58_1 ?_
 refine RL.load_bf (i := 2) (f := (fun x => x.Pins)) trivial rfl hw rfl rfl fd_PartType_1 ty56 fun v39 hw => ?_
 refine RL.len_rd (i := 0) (l := p0.Pins) trivial rfl hw rfl rfl un56 ?_
 refine mv (vi 0) rfl rfl ?_
 refine RL.nt ?_
 obtain ⟨o376, hN, hb⟩ := bd hb
 refine RC.range (fun (k40 : Nat) (s41 : Unit) (σ : Nat → Value) (w : World) => agree σ [(1, (vp b31 0)), (25, v39), (26, (vi (p0.Pins.length : Int))), (27, (vi (k40 : Int)))] ∧ Holds E w ([bx 58 b31 p0, rd v39 p0.Pins] ++ Γ)) (fun (s41 : Unit) (σ : Nat → Value) (w : World) => agree σ [(1, (vp b31 0))] ∧ Holds E w ([bx 58 b31 p0, rd v39 p0.Pins] ++ Γ)) (etchhouseref2_checkType_K E Γ) hN ?_ ?_ ?_ ?_ ?_ 
 ·exact ⟨⟨rfl, rfl, rfl, rfl, trivial⟩, hw.pick 5 [3, 0] (new := [bx 58 b31 p0, rd v39 p0.Pins]) rfl rfl (by decide) (by decide)⟩
 ·intro hm s41 σ w hI
  obtain ⟨ha, hw⟩ := hI
  obtain ⟨τ, rfl⟩ := ha.ups
  refine RC.sr ?_
  refine ic ((p0.Pins.length : Int)) ((p0.Pins.length : Int)) rfl rfl rfl rfl ?_
  refine RL.nq ?_
  refine RC.cond_f dge ?_
  refine RC.ex ?_
  exact ⟨rfl, ⟨rfl, trivial⟩, hw.pick 2 [0, 1] (new := [bx 58 b31 p0, rd v39 p0.Pins]) rfl rfl (by decide) (by decide)⟩
 ·intro hm k40 s41 fl σ w hk hI hb
  obtain ⟨ha, hw⟩ := hI
  obtain ⟨τ, rfl⟩ := ha.ups
  refine RC.sr ?_
  refine ic ((k40 : Int)) ((p0.Pins.length : Int)) rfl rfl rfl rfl ?_
  refine RL.nq ?_
  refine RC.cond_t (dlt hk) ?_
  refine RC.ss ?_
  refine RC.bs ?_
  refine mv (vi (k40 : Int)) rfl rfl ?_
  obtain ⟨x189, hx189, hb⟩ := bd hb
  refine RL.ia_rd (i := 1) trivial rfl hw rfl rfl rfl sl56 hx189 fun v190 hw => ?_
  refine RL.load_pt (i := 0) (x := x189) trivial rfl hw rfl rfl ty55 fun v191 hw => ?_
  refine RL.alloc trivial rfl hw ze55.z fun b192 w hw => ?_
  refine as_ (vi (k40 : Int)) rfl rfl ?_
  refine RL.store_raw (i := 0) (j := 1) trivial hw rfl rfl rfl rfl ty55 rfl fun w hw => ?_
  refine RL.nt ?_
  refine RC.bs ?_
  refine RL.fa_b trivial rfl rfl fa55_0 ?_
  refine RL.load_bfs (i := 0) (f := (fun x => x.Name)) trivial rfl hw rfl rfl fd_PinType_0 ty9 ?_
  obtain ⟨x193, hx193, hb⟩ := bd hb
  refine RL.call trivial rfl fn87 [(str x189.Name)] rfl (Calls_ret (etchhouseref2_IsWord_ok N (p0 := x189.Name)  hw  hx193) ?_)
  rintro _ w ⟨rfl, hw⟩
  refine RL.not (b := x193) trivial rfl rfl ?_
  refine as_ (vb (!x193)) rfl rfl ?_
  refine RL.nt ?_
  refine RC.cond (b := (!x193)) rfl (fun hc => ?_) (fun hc => ?_)
  ·replace hb := cT hc hb
   refine RC.sr ?_
   refine as_ (vi 5) rfl rfl ?_
   refine RL.nt ?_
   refine RC.rb ?_
   refine blkQ_r ?_
   refine thenQ_r ?_
   obtain rfl := oi hb
   exact ⟨rfl, fin1 rfl rfl ⟨rfl, hw.drop 5 rfl⟩⟩
  replace hb := cF hc hb
  refine RC.sr ?_
  refine RL.fa_b trivial rfl rfl fa55_1 ?_
  refine RL.load_bfs (i := 0) (f := (fun x => x.Kind)) trivial rfl hw rfl rfl fd_PinType_1 ty3 ?_
  obtain ⟨x265, hx265, hb⟩ := bd hb
  refine RL.call trivial rfl fn88 [(vi x189.Kind), (vi 1), (vi 7)] rfl (Calls_ret (etchhouseref2_within_ok N (p0 := x189.Kind) (p1 := 1) (p2 := 7)  hw  hx265) ?_)
  rintro _ w ⟨rfl, hw⟩
  refine RL.not (b := x265) trivial rfl rfl ?_
  refine as_ (vb (!x265)) rfl rfl ?_
  refine RL.nt ?_
  refine RC.cond (b := (!x265)) rfl (fun hc => ?_) (fun hc => ?_)
  ·replace hb := cT hc hb
   refine RC.sr ?_
   refine as_ (vi 4) rfl rfl ?_
   refine RL.nt ?_
   refine RC.rb ?_
   refine blkQ_r ?_
   refine thenQ_r ?_
   obtain rfl := oi hb
   exact ⟨rfl, fin1 rfl rfl ⟨rfl, hw.drop 5 rfl⟩⟩
  replace hb := cF hc hb
  refine RC.sr ?_
  refine RL.fa_b trivial rfl rfl fa55_2 ?_
  refine RL.load_bfs (i := 0) (f := (fun x => x.Group)) trivial rfl hw rfl rfl fd_PinType_2 ty3 ?_
  obtain ⟨x301, hx301, hb⟩ := bd hb
  refine RL.call trivial rfl fn88 [(vi x189.Group), (vi 0), (vi 200)] rfl (Calls_ret (etchhouseref2_within_ok N (p0 := x189.Group) (p1 := 0) (p2 := 200)  hw  hx301) ?_)
  rintro _ w ⟨rfl, hw⟩
  refine RL.not (b := x301) trivial rfl rfl ?_
  refine as_ (vb (!x301)) rfl rfl ?_
  refine RL.nt ?_
  refine RC.cond (b := (!x301)) rfl (fun hc => ?_) (fun hc => ?_)
  ·replace hb := cT hc hb
   refine RC.sr ?_
   refine as_ (vi 1) rfl rfl ?_
   refine RL.nt ?_
   refine RC.rb ?_
   refine blkQ_r ?_
   refine thenQ_r ?_
   obtain rfl := oi hb
   exact ⟨rfl, fin1 rfl rfl ⟨rfl, hw.drop 5 rfl⟩⟩
  replace hb := cF hc hb
  refine RC.seq ?_
  obtain ⟨s327, hj, hb⟩ := bd hb
  refine RC.jn (fun (s327 : Bool) (σ : Nat → Value) (w : World) => agree σ [(1, (vp b31 0)), (25, v39), (26, (vi (p0.Pins.length : Int))), (27, (vi (k40 : Int))), (47, (vb s327))] ∧ Holds E w ([bx 58 b31 p0, rd v39 p0.Pins] ++ Γ)) s327 ?_ ?_
  ·rcases Bool.eq_false_or_eq_true (decide ((k40 : Int) > 0)) with hg328 | hg328
   rotate_left
   ·replace hj := cF hg328 hj
    refine RC.drw mixed rfl (fun (D : Nat → Bool) (σ : Nat → Value) (w : World) => doneV D σ [(0, 48, (vi (k40 : Int))), (1, 49, (vb (decide ((k40 : Int) > 0)))), (2, 50, (vb (decide ((k40 : Int) > 0)))), (3, 51, undef), (4, 52, undef), (5, 53, undef), (6, 54, undef), (7, 55, undef), (8, 56, undef), (9, 57, undef), (10, 58, undef), (11, 59, undef), (12, 60, undef), (13, 61, (vb false)), (14, 47, (vb false))] ∧ agree σ [(1, (vp b31 0)), (3, (vi (k40 : Int))), (4, (vp b192 0)), (25, v39), (26, (vi (p0.Pins.length : Int))), (27, (vi (k40 : Int)))] ∧ Holds E w ([bx 55 b192 x189, rd v191 x189, pt v190 x189, bx 58 b31 p0, rd v39 p0.Pins] ++ Γ)) ?_ ⟨?_, ?_, ?_, ?_, ?_, ?_, ?_, ?_, ?_, ?_, ?_, ?_, ?_, ?_, ?_, trivial⟩ ?_
    ·have hw := hw.drew
     exact ⟨doneV.none, ⟨rfl, rfl, rfl, rfl, rfl, rfl, trivial⟩, hw⟩
    ·rintro D σ w hD hdep hcl ⟨hv, ha, hw⟩
     obtain ⟨τ, rfl⟩ := (ac (ha.at 1 rfl) az).ups
     refine mv (vi (k40 : Int)) rfl rfl ?_
     refine RL.nil ?_
     exact ⟨rfl, hv.put 0 rfl rfl, ha.up rfl, hw⟩
    ·rintro D σ w hD hdep hcl ⟨hv, ha, hw⟩
     obtain ⟨τ, rfl⟩ := (ac (hv.at 0 rfl (hdep.1 rfl)) az).ups
     refine ic ((k40 : Int)) 0 rfl rfl rfl rfl ?_
     refine RL.nil ?_
     exact ⟨rfl, hv.put 1 rfl rfl, ha.up rfl, hw⟩
    ·rintro D σ w hD hdep hcl ⟨hv, ha, hw⟩
     obtain ⟨τ, rfl⟩ := (ac (hv.at 1 rfl (hdep.1 rfl)) az).ups
     refine mv (vb (decide ((k40 : Int) > 0))) rfl rfl ?_
     refine RL.nil ?_
     exact ⟨rfl, hv.put 2 rfl rfl, ha.up rfl, hw⟩
    ·rintro D σ w hD hdep hcl ⟨hv, ha, hw⟩
     obtain ⟨τ, rfl⟩ := (ac (hv.at 2 rfl (hdep.1 rfl)) (ac (ha.at 2 rfl) az)).ups
     refine sk rfl (.inl (cb hg328)) rfl ?_
     refine RL.nil ?_
     exact ⟨rfl, hv.put 3 rfl rfl, ha.up rfl, hw⟩
    ·rintro D σ w hD hdep hcl ⟨hv, ha, hw⟩
     obtain ⟨τ, rfl⟩ := (ac (hv.at 2 rfl (hdep.2.1 rfl)) (ac (hv.at 3 rfl (hdep.1 rfl)) az)).ups
     refine sk rfl (.inl (cb hg328)) rfl ?_
     refine RL.nil ?_
     exact ⟨rfl, hv.put 4 rfl rfl, ha.up rfl, hw⟩
    ·rintro D σ w hD hdep hcl ⟨hv, ha, hw⟩
     obtain ⟨τ, rfl⟩ := (ac (hv.at 2 rfl (hdep.1 rfl)) (ac (ha.at 0 rfl) az)).ups
     refine sk rfl (.inl (cb hg328)) rfl ?_
     refine RL.nil ?_
     exact ⟨rfl, hv.put 5 rfl rfl, ha.up rfl, hw⟩
    ·rintro D σ w hD hdep hcl ⟨hv, ha, hw⟩
     obtain ⟨τ, rfl⟩ := (ac (hv.at 2 rfl (hdep.2.1 rfl)) (ac (hv.at 5 rfl (hdep.1 rfl)) az)).ups
     refine sk rfl (.inl (cb hg328)) rfl ?_
     refine RL.nil ?_
     exact ⟨rfl, hv.put 6 rfl rfl, ha.up rfl, hw⟩
    ·rintro D σ w hD hdep hcl ⟨hv, ha, hw⟩
     obtain ⟨τ, rfl⟩ := (ac (hv.at 2 rfl (hdep.1 rfl)) (ac (ha.at 1 rfl) az)).ups
     refine sk rfl (.inl (cb hg328)) rfl ?_
     refine RL.nil ?_
     exact ⟨rfl, hv.put 7 rfl rfl, ha.up rfl, hw⟩
    ·rintro D σ w hD hdep hcl ⟨hv, ha, hw⟩
     obtain ⟨τ, rfl⟩ := (ac (hv.at 2 rfl (hdep.2.1 rfl)) (ac (hv.at 7 rfl (hdep.1 rfl)) az)).ups
     refine sk rfl (.inl (cb hg328)) rfl ?_
     refine RL.nil ?_
     exact ⟨rfl, hv.put 8 rfl rfl, ha.up rfl, hw⟩
    ·rintro D σ w hD hdep hcl ⟨hv, ha, hw⟩
     obtain ⟨τ, rfl⟩ := (ac (hv.at 2 rfl (hdep.2.2.1 rfl)) (ac (hv.at 6 rfl (hdep.1 rfl)) (ac (hv.at 8 rfl (hdep.2.1 rfl)) az))).ups
     refine sk rfl (.inl (cb hg328)) rfl ?_
     refine RL.nil ?_
     exact ⟨rfl, hv.put 9 rfl rfl, ha.up rfl, hw⟩
    ·rintro D σ w hD hdep hcl ⟨hv, ha, hw⟩
     obtain ⟨τ, rfl⟩ := (ac (hv.at 2 rfl (hdep.2.1 rfl)) (ac (hv.at 9 rfl (hdep.1 rfl)) az)).ups
     refine sk rfl (.inl (cb hg328)) rfl ?_
     refine RL.nil ?_
     exact ⟨rfl, hv.put 10 rfl rfl, ha.up rfl, hw⟩
    ·rintro D σ w hD hdep hcl ⟨hv, ha, hw⟩
     obtain ⟨τ, rfl⟩ := (ac (hv.at 2 rfl (hdep.2.1 rfl)) (ac (hv.at 10 rfl (hdep.1 rfl)) az)).ups
     refine sk rfl (.inl (cb hg328)) rfl ?_
     refine RL.nil ?_
     exact ⟨rfl, hv.put 11 rfl rfl, ha.up rfl, hw⟩
    ·rintro D σ w hD hdep hcl ⟨hv, ha, hw⟩
     obtain ⟨τ, rfl⟩ := (ac (hv.at 2 rfl (hdep.2.2.1 rfl)) (ac (hv.at 4 rfl (hdep.1 rfl)) (ac (hv.at 11 rfl (hdep.2.1 rfl)) az))).ups
     refine sk rfl (.inl (cb hg328)) rfl ?_
     refine RL.nil ?_
     exact ⟨rfl, hv.put 12 rfl rfl, ha.up rfl, hw⟩
    ·rintro D σ w hD hdep hcl ⟨hv, ha, hw⟩
     obtain ⟨τ, rfl⟩ := (ac (hv.at 2 rfl (hdep.1 rfl)) (ac (hv.at 12 rfl (hdep.2.1 rfl)) az)).ups
     refine RL.pick (b := (decide ((k40 : Int) > 0))) (v := (vb false)) trivial rfl rfl (by rw [hg328]; rfl) ?_
     refine RL.nil ?_
     exact ⟨rfl, hv.put 13 rfl rfl, ha.up rfl, hw⟩
    ·rintro D σ w hD hdep hcl ⟨hv, ha, hw⟩
     obtain ⟨τ, rfl⟩ := (ac (hv.at 13 rfl (hdep.1 rfl)) az).ups
     refine as_ (vb false) rfl rfl ?_
     refine RL.nil ?_
     exact ⟨rfl, hv.put 14 rfl rfl, ha.up rfl, hw⟩
    rintro D σ w hall ⟨hv, ha, hw⟩
    obtain ⟨τ, rfl⟩ := (ac (hv.at 14 rfl (hall 14 (by decide))) (ac (ha.at 0 rfl) (ac (ha.at 1 rfl) (ac (ha.at 2 rfl) (ac (ha.at 3 rfl) (ac (ha.at 4 rfl) (ac (ha.at 5 rfl) az))))))).ups
    obtain rfl := oi hj
    exact ⟨rfl, ⟨rfl, rfl, rfl, rfl, rfl, trivial⟩, hw.pick 5 [3, 4] (new := [bx 58 b31 p0, rd v39 p0.Pins]) rfl rfl (by decide) (by decide)⟩
   replace hj := cT hg328 hj
   obtain ⟨x330, hx330, hj⟩ := bd hj
   refine RC.drw mixed rfl (fun (D : Nat → Bool) (σ : Nat → Value) (w : World) => ∃ (v329 : Value) (v331 : Value) (v332 : Value), doneV D σ [(0, 48, (vi (k40 : Int))), (1, 49, (vb (decide ((k40 : Int) > 0)))), (2, 50, (vb (decide ((k40 : Int) > 0)))), (3, 51, (vp b192 0)), (4, 52, (str x189.Name)), (5, 53, (vp b31 1)), (6, 54, v329), (7, 55, (vi (k40 : Int))), (8, 56, (vi (IntKind.wrap .i64 ((k40 : Int) - 1)))), (9, 57, v331), (10, 58, v332), (11, 59, (str x330.Name)), (12, 60, (vb (x189.Name.ltb x330.Name || x189.Name.eqb x330.Name))), (13, 61, (vb (x189.Name.ltb x330.Name || x189.Name.eqb x330.Name))), (14, 47, (vb (x189.Name.ltb x330.Name || x189.Name.eqb x330.Name)))] ∧ agree σ [(1, (vp b31 0)), (3, (vi (k40 : Int))), (4, (vp b192 0)), (25, v39), (26, (vi (p0.Pins.length : Int))), (27, (vi (k40 : Int)))] ∧ Holds E w ([bif D 6 then (rd v329 p0.Pins) else junk, bif D 9 then (pt v331 x330) else junk, bif D 10 then (pt v332 x330.Name) else junk, bx 55 b192 x189, rd v191 x189, pt v190 x189, bx 58 b31 p0, rd v39 p0.Pins] ++ Γ)) ?_ ⟨?_, ?_, ?_, ?_, ?_, ?_, ?_, ?_, ?_, ?_, ?_, ?_, ?_, ?_, ?_, trivial⟩ ?_
   ·have hw := hw.drew
    have hw := hw.junk
    have hw := hw.junk
    have hw := hw.junk
    exact ⟨undef, undef, undef, doneV.none, ⟨rfl, rfl, rfl, rfl, rfl, rfl, trivial⟩, hw⟩
   ·rintro D σ w hD hdep hcl ⟨v329, v331, v332, hv, ha, hw⟩
    obtain ⟨τ, rfl⟩ := (ac (ha.at 1 rfl) az).ups
    refine mv (vi (k40 : Int)) rfl rfl ?_
    refine RL.nil ?_
    exact ⟨rfl, v329, v331, v332, hv.put 0 rfl rfl, ha.up rfl, hw⟩
   ·rintro D σ w hD hdep hcl ⟨v329, v331, v332, hv, ha, hw⟩
    obtain ⟨τ, rfl⟩ := (ac (hv.at 0 rfl (hdep.1 rfl)) az).ups
    refine ic ((k40 : Int)) 0 rfl rfl rfl rfl ?_
    refine RL.nil ?_
    exact ⟨rfl, v329, v331, v332, hv.put 1 rfl rfl, ha.up rfl, hw⟩
   ·rintro D σ w hD hdep hcl ⟨v329, v331, v332, hv, ha, hw⟩
    obtain ⟨τ, rfl⟩ := (ac (hv.at 1 rfl (hdep.1 rfl)) az).ups
    refine mv (vb (decide ((k40 : Int) > 0))) rfl rfl ?_
    refine RL.nil ?_
    exact ⟨rfl, v329, v331, v332, hv.put 2 rfl rfl, ha.up rfl, hw⟩
   ·rintro D σ w hD hdep hcl ⟨v329, v331, v332, hv, ha, hw⟩
    obtain ⟨τ, rfl⟩ := (ac (hv.at 2 rfl (hdep.1 rfl)) (ac (ha.at 2 rfl) az)).ups
    refine RL.fa_b ⟨_, rfl, cb hg328⟩ rfl rfl fa55_0 ?_
    refine RL.nil ?_
    exact ⟨rfl, v329, v331, v332, hv.put 3 rfl rfl, ha.up rfl, hw⟩
   ·rintro D σ w hD hdep hcl ⟨v329, v331, v332, hv, ha, hw⟩
    obtain ⟨τ, rfl⟩ := (ac (hv.at 2 rfl (hdep.2.1 rfl)) (ac (hv.at 3 rfl (hdep.1 rfl)) az)).ups
    refine RL.load_bfs (i := 3) (f := (fun x => x.Name)) ⟨_, rfl, cb hg328⟩ rfl hw rfl rfl fd_PinType_0 ty9 ?_
    refine RL.nil ?_
    exact ⟨rfl, v329, v331, v332, hv.put 4 rfl rfl, ha.up rfl, hw⟩
   ·rintro D σ w hD hdep hcl ⟨v329, v331, v332, hv, ha, hw⟩
    obtain ⟨τ, rfl⟩ := (ac (hv.at 2 rfl (hdep.1 rfl)) (ac (ha.at 0 rfl) az)).ups
    refine RL.fa_b ⟨_, rfl, cb hg328⟩ rfl rfl fa58_1 ?_
    refine RL.nil ?_
    exact ⟨rfl, v329, v331, v332, hv.put 5 rfl rfl, ha.up rfl, hw⟩
   ·rintro D σ w hD hdep hcl ⟨v329, v331, v332, hv, ha, hw⟩
    obtain ⟨τ, rfl⟩ := (ac (hv.at 2 rfl (hdep.2.1 rfl)) (ac (hv.at 5 rfl (hdep.1 rfl)) az)).ups
    have hw := hw.selF (i := 0) rfl hD
    refine RL.load_bf (i := 6) (f := (fun x => x.Pins)) ⟨_, rfl, cb hg328⟩ rfl hw rfl rfl fd_PartType_1 ty56 fun v333 hw => ?_
    have hw := hw.pick 9 [0, 2, 3, 4, 5, 6, 7, 8] (new := [rd v333 p0.Pins, bif D 9 then (pt v331 x330) else junk, bif D 10 then (pt v332 x330.Name) else junk, bx 55 b192 x189, rd v191 x189, pt v190 x189, bx 58 b31 p0, rd v39 p0.Pins]) rfl rfl (by decide) (by decide)
    have hw := hw.altT (i := 0) (b := true) rfl rfl (junk)
    refine RL.nil ?_
    exact ⟨rfl, v333, v331, v332, hv.put 6 rfl rfl, ha.up rfl, hw⟩
   ·rintro D σ w hD hdep hcl ⟨v329, v331, v332, hv, ha, hw⟩
    obtain ⟨τ, rfl⟩ := (ac (hv.at 2 rfl (hdep.1 rfl)) (ac (ha.at 1 rfl) az)).ups
    refine RL.move (v := (vi (k40 : Int))) ⟨_, rfl, cb hg328⟩ rfl rfl ?_
    refine RL.nil ?_
    exact ⟨rfl, v329, v331, v332, hv.put 7 rfl rfl, ha.up rfl, hw⟩
   ·rintro D σ w hD hdep hcl ⟨v329, v331, v332, hv, ha, hw⟩
    obtain ⟨τ, rfl⟩ := (ac (hv.at 2 rfl (hdep.2.1 rfl)) (ac (hv.at 7 rfl (hdep.1 rfl)) az)).ups
    refine RL.iar (a := (k40 : Int)) (b := 1) ⟨_, rfl, cb hg328⟩ rfl rfl rfl rfl ?_
    refine RL.nil ?_
    exact ⟨rfl, v329, v331, v332, hv.put 8 rfl rfl, ha.up rfl, hw⟩
   ·rintro D σ w hD hdep hcl ⟨v329, v331, v332, hv, ha, hw⟩
    obtain ⟨τ, rfl⟩ := (ac (hv.at 2 rfl (hdep.2.2.1 rfl)) (ac (hv.at 6 rfl (hdep.1 rfl)) (ac (hv.at 8 rfl (hdep.2.1 rfl)) az))).ups
    have hw := hw.selT (i := 0) rfl (hdep.1 rfl)
    have hw := hw.selF (i := 1) rfl hD
    refine RL.ia_rd (i := 0) ⟨_, rfl, cb hg328⟩ rfl hw rfl rfl rfl sl56 hx330 fun v334 hw => ?_
    have hw := hw.pick 9 [1, 0, 3, 4, 5, 6, 7, 8] (new := [rd v329 p0.Pins, pt v334 x330, bif D 10 then (pt v332 x330.Name) else junk, bx 55 b192 x189, rd v191 x189, pt v190 x189, bx 58 b31 p0, rd v39 p0.Pins]) rfl rfl (by decide) (by decide)
    have hw := hw.altT (i := 0) (b := D 6) rfl (hdep.1 rfl) (junk)
    have hw := hw.altT (i := 1) (b := true) rfl rfl (junk)
    refine RL.nil ?_
    exact ⟨rfl, v329, v334, v332, hv.put 9 rfl rfl, ha.up rfl, hw⟩
   ·rintro D σ w hD hdep hcl ⟨v329, v331, v332, hv, ha, hw⟩
    obtain ⟨τ, rfl⟩ := (ac (hv.at 2 rfl (hdep.2.1 rfl)) (ac (hv.at 9 rfl (hdep.1 rfl)) az)).ups
    have hw := hw.selT (i := 1) rfl (hdep.1 rfl)
    have hw := hw.selF (i := 2) rfl hD
    refine RL.fa_pt (i := 1) (f := fun (x : PinType) => x.Name) ⟨_, rfl, cb hg328⟩ rfl hw rfl rfl fa55_0 fd_PinType_0 fun v335 hw => ?_
    have hw := hw.pick 9 [1, 2, 0, 4, 5, 6, 7, 8] (new := [bif D 6 then (rd v329 p0.Pins) else junk, pt v331 x330, pt v335 x330.Name, bx 55 b192 x189, rd v191 x189, pt v190 x189, bx 58 b31 p0, rd v39 p0.Pins]) rfl rfl (by decide) (by decide)
    have hw := hw.altT (i := 1) (b := D 9) rfl (hdep.1 rfl) (junk)
    have hw := hw.altT (i := 2) (b := true) rfl rfl (junk)
    refine RL.nil ?_
    exact ⟨rfl, v329, v331, v335, hv.put 10 rfl rfl, ha.up rfl, hw⟩
   ·rintro D σ w hD hdep hcl ⟨v329, v331, v332, hv, ha, hw⟩
    obtain ⟨τ, rfl⟩ := (ac (hv.at 2 rfl (hdep.2.1 rfl)) (ac (hv.at 10 rfl (hdep.1 rfl)) az)).ups
    have hw := hw.selT (i := 2) rfl (hdep.1 rfl)
    refine RL.load_pts (i := 2) (y := x330.Name) ⟨_, rfl, cb hg328⟩ rfl hw rfl rfl ty9 ?_
    have hw := hw.altT (i := 2) (b := D 10) rfl (hdep.1 rfl) (junk)
    refine RL.nil ?_
    exact ⟨rfl, v329, v331, v332, hv.put 11 rfl rfl, ha.up rfl, hw⟩
   ·rintro D σ w hD hdep hcl ⟨v329, v331, v332, hv, ha, hw⟩
    obtain ⟨τ, rfl⟩ := (ac (hv.at 2 rfl (hdep.2.2.1 rfl)) (ac (hv.at 4 rfl (hdep.1 rfl)) (ac (hv.at 11 rfl (hdep.2.1 rfl)) az))).ups
    refine RL.scmp (a := x189.Name) (b := x330.Name) ⟨_, rfl, cb hg328⟩ rfl rfl rfl rfl ?_
    refine RL.nil ?_
    exact ⟨rfl, v329, v331, v332, hv.put 12 rfl rfl, ha.up rfl, hw⟩
   ·rintro D σ w hD hdep hcl ⟨v329, v331, v332, hv, ha, hw⟩
    obtain ⟨τ, rfl⟩ := (ac (hv.at 2 rfl (hdep.1 rfl)) (ac (hv.at 12 rfl (hdep.2.1 rfl)) az)).ups
    refine RL.pick (b := (decide ((k40 : Int) > 0))) (v := (vb (x189.Name.ltb x330.Name || x189.Name.eqb x330.Name))) trivial rfl rfl (by rw [hg328]; rfl) ?_
    refine RL.nil ?_
    exact ⟨rfl, v329, v331, v332, hv.put 13 rfl rfl, ha.up rfl, hw⟩
   ·rintro D σ w hD hdep hcl ⟨v329, v331, v332, hv, ha, hw⟩
    obtain ⟨τ, rfl⟩ := (ac (hv.at 13 rfl (hdep.1 rfl)) az).ups
    refine as_ (vb (x189.Name.ltb x330.Name || x189.Name.eqb x330.Name)) rfl rfl ?_
    refine RL.nil ?_
    exact ⟨rfl, v329, v331, v332, hv.put 14 rfl rfl, ha.up rfl, hw⟩
   rintro D σ w hall ⟨v329, v331, v332, hv, ha, hw⟩
   rw [hall 6 (by decide), hall 9 (by decide), hall 10 (by decide)] at hw
   obtain ⟨τ, rfl⟩ := (ac (hv.at 14 rfl (hall 14 (by decide))) (ac (ha.at 0 rfl) (ac (ha.at 1 rfl) (ac (ha.at 2 rfl) (ac (ha.at 3 rfl) (ac (ha.at 4 rfl) (ac (ha.at 5 rfl) az))))))).ups
   obtain rfl := oi hj
   exact ⟨rfl, ⟨rfl, rfl, rfl, rfl, rfl, trivial⟩, hw.pick 8 [6, 7] (new := [bx 58 b31 p0, rd v39 p0.Pins]) rfl rfl (by decide) (by decide)⟩
  rintro σ w ⟨ha, hw⟩
  obtain ⟨τ, rfl⟩ := ha.ups
  refine thenQ_n ?_
  refine RC.cond (b := s327) rfl (fun hc => ?_) (fun hc => ?_)
  rotate_left
  ·replace hb := cF hc hb
   refine RC.skip ?_
   refine blkQ_n ?_
   refine blkQ_n ?_
   refine thenQ_n ?_
   refine RC.region ?_
   refine RL.inc trivial rfl hk hm rfl rfl ?_
   refine mv (vi ((k40 + 1 : Nat) : Int)) rfl rfl ?_
   refine RL.nil ?_
   obtain rfl := oi hb
   exact ⟨rfl, ⟨rfl, rfl, rfl, rfl, trivial⟩, hw.pick 2 [0, 1] (new := [bx 58 b31 p0, rd v39 p0.Pins]) rfl rfl (by decide) (by decide)⟩
  replace hb := cT hc hb
  refine RC.sr ?_
  refine as_ (vi 8) rfl rfl ?_
  refine RL.nt ?_
  refine RC.rb ?_
  refine blkQ_r ?_
  refine thenQ_r ?_
  obtain rfl := oi hb
  exact ⟨rfl, fin1 rfl rfl ⟨rfl, hw.drop 2 rfl⟩⟩
 ·intro r σ w e hK
  subst e
  refine thenQ_r ?_
  obtain rfl := oi hb
  exact hK
 intro s41 σ w e hJ
 subst e
 rw [Fo.cs_go] at hb
 obtain ⟨ha, hw⟩ := hJ
 obtain ⟨τ, rfl⟩ := ha.ups
 refine thenQ_n ?_
 refine RC.seq ?_
 refine RC.sr ?_
 refine RL.fa_b trivial rfl rfl fa58_1 ?_
 refine RL.load_bf (i := 0) (f := (fun x => x.Pins)) trivial rfl hw rfl rfl fd_PartType_1 ty56 fun v336 hw => ?_
 refine RL.len_rd (i := 0) (l := p0.Pins) trivial rfl hw rfl rfl un56 ?_
 refine mv (vi 0) rfl rfl ?_
 refine RL.nt ?_
 obtain ⟨o375, hN, hb⟩ := bd hb
 refine RC.range (fun (k337 : Nat) (s338 : Unit) (σ : Nat → Value) (w : World) => agree σ [(1, (vp b31 0)), (64, v336), (65, (vi (p0.Pins.length : Int))), (66, (vi (k337 : Int)))] ∧ Holds E w ([bx 58 b31 p0, rd v336 p0.Pins] ++ Γ)) (fun (s338 : Unit) (σ : Nat → Value) (w : World) => agree σ [] ∧ Holds E w ([bx 58 b31 p0, rd v336 p0.Pins] ++ Γ)) (etchhouseref2_checkType_K E Γ) hN ?_ ?_ ?_ ?_ ?_ 
 ·exact ⟨⟨rfl, rfl, rfl, rfl, trivial⟩, hw.pick 3 [1, 0] (new := [bx 58 b31 p0, rd v336 p0.Pins]) rfl rfl (by decide) (by decide)⟩
 ·intro hm s338 σ w hI
  obtain ⟨ha, hw⟩ := hI
  obtain ⟨τ, rfl⟩ := ha.ups
  refine RC.sr ?_
  refine ic ((p0.Pins.length : Int)) ((p0.Pins.length : Int)) rfl rfl rfl rfl ?_
  refine RL.nq ?_
  refine RC.cond_f dge ?_
  refine RC.ex ?_
  exact ⟨rfl, trivial, hw.pick 2 [0, 1] (new := [bx 58 b31 p0, rd v336 p0.Pins]) rfl rfl (by decide) (by decide)⟩
 ·intro hm k337 s338 fl σ w hk hI hb
  obtain ⟨ha, hw⟩ := hI
  obtain ⟨τ, rfl⟩ := ha.ups
  refine RC.sr ?_
  refine ic ((k337 : Int)) ((p0.Pins.length : Int)) rfl rfl rfl rfl ?_
  refine RL.nq ?_
  refine RC.cond_t (dlt hk) ?_
  refine RC.ss ?_
  refine RC.bs ?_
  refine mv (vi (k337 : Int)) rfl rfl ?_
  obtain ⟨x357, hx357, hb⟩ := bd hb
  refine RL.ia_rd (i := 1) trivial rfl hw rfl rfl rfl sl56 hx357 fun v358 hw => ?_
  refine RL.load_pt (i := 0) (x := x357) trivial rfl hw rfl rfl ty55 fun v359 hw => ?_
  refine RL.alloc trivial rfl hw ze55.z fun b360 w hw => ?_
  refine as_ (vi (k337 : Int)) rfl rfl ?_
  refine RL.store_raw (i := 0) (j := 1) trivial hw rfl rfl rfl rfl ty55 rfl fun w hw => ?_
  refine RL.ns ?_
  refine RL.fa_b trivial rfl rfl fa58_1 ?_
  refine RL.load_bf (i := 3) (f := (fun x => x.Pins)) trivial rfl hw rfl rfl fd_PartType_1 ty56 fun v361 hw => ?_
  refine mv (vi (k337 : Int)) rfl rfl ?_
  obtain ⟨x362, hx362, hb⟩ := bd hb
  refine RL.cut (i := 0) trivial rfl hw rfl rfl sl56 (.inr ⟨rfl, rfl⟩) (.inl rfl) hx362 fun v363 hw => ?_
  refine RL.len_rd (i := 0) (l := x362) trivial rfl hw rfl rfl un56 ?_
  refine mv (vi 0) rfl rfl ?_
  refine RL.nt ?_
  obtain ⟨o374, hN, hb⟩ := bd hb
  refine RC.range (fun (k364 : Nat) (s365 : Unit) (σ : Nat → Value) (w : World) => agree σ [(1, (vp b31 0)), (6, (vp b360 0)), (64, v336), (65, (vi (p0.Pins.length : Int))), (66, (vi (k337 : Int))), (74, v363), (75, (vi (x362.length : Int))), (76, (vi (k364 : Int)))] ∧ Holds E w ([bx 58 b31 p0, bx 55 b360 x357, rd v336 p0.Pins, rd v363 x362] ++ Γ)) (fun (s365 : Unit) (σ : Nat → Value) (w : World) => agree σ [(1, (vp b31 0)), (64, v336), (65, (vi (p0.Pins.length : Int))), (66, (vi (k337 : Int)))] ∧ Holds E w ([bx 58 b31 p0, bx 55 b360 x357, rd v336 p0.Pins, rd v363 x362] ++ Γ)) (etchhouseref2_checkType_K E Γ) hN ?_ ?_ ?_ ?_ ?_ 
  ·exact ⟨⟨rfl, rfl, rfl, rfl, rfl, rfl, rfl, rfl, trivial⟩, hw.pick 7 [5, 2, 6, 0] (new := [bx 58 b31 p0, bx 55 b360 x357, rd v336 p0.Pins, rd v363 x362]) rfl rfl (by decide) (by decide)⟩
  ·intro hm s365 σ w hI
   obtain ⟨ha, hw⟩ := hI
   obtain ⟨τ, rfl⟩ := ha.ups
   refine RC.sr ?_
   refine ic ((x362.length : Int)) ((x362.length : Int)) rfl rfl rfl rfl ?_
   refine RL.nq ?_
   refine RC.cond_f dge ?_
   refine RC.ex ?_
   exact ⟨rfl, ⟨rfl, rfl, rfl, rfl, trivial⟩, hw.pick 4 [0, 1, 2, 3] (new := [bx 58 b31 p0, bx 55 b360 x357, rd v336 p0.Pins, rd v363 x362]) rfl rfl (by decide) (by decide)⟩
  ·intro hm k364 s365 fl σ w hk hI hb
   obtain ⟨ha, hw⟩ := hI
   obtain ⟨τ, rfl⟩ := ha.ups
   refine RC.sr ?_
   refine ic ((k364 : Int)) ((x362.length : Int)) rfl rfl rfl rfl ?_
   refine RL.nq ?_
   refine RC.cond_t (dlt hk) ?_
   refine RC.ss ?_
   refine RC.bs ?_
   obtain ⟨x370, hx370, hb⟩ := bd hb
   refine RL.ia_rd (i := 3) trivial rfl hw rfl rfl rfl sl56 hx370 fun v371 hw => ?_
   refine RL.load_pt (i := 0) (x := x370) trivial rfl hw rfl rfl ty55 fun v372 hw => ?_
   refine RL.alloc trivial rfl hw ze55.z fun b373 w hw => ?_
   refine RL.store_raw (i := 0) (j := 1) trivial hw rfl rfl rfl rfl ty55 rfl fun w hw => ?_
   refine RL.ns ?_
   refine RL.fa_b trivial rfl rfl fa55_2 ?_
   refine RL.load_bfs (i := 4) (f := (fun x => x.Group)) trivial rfl hw rfl rfl fd_PinType_2 ty3 ?_
   refine ic (x357.Group) 0 rfl rfl rfl rfl ?_
   refine mv (vb (decide (x357.Group > 0))) rfl rfl ?_
   refine RL.gs (c := true) (b := (decide (x357.Group > 0))) (v := (vp b360 2)) rfl rfl rfl (gs_fa_b rfl (fun _ => rfl) fa55_2) ?_
   refine RL.gs (c := true) (b := (decide (x357.Group > 0))) (v := (vi x357.Group)) rfl rfl rfl (gs_load_bfs (i := 4) (f := (fun x => x.Group)) rfl hw (fun h => by exact (cv_t h : cv (true && ((decide (x357.Group > 0)) == true)) (vp b360 2) = (vp b360 2))) rfl fd_PinType_2 ty3) ?_
   refine RL.gs (c := true) (b := (decide (x357.Group > 0))) (v := (vp b373 2)) rfl rfl rfl (gs_fa_b rfl (fun _ => rfl) fa55_2) ?_
   refine RL.gs (c := true) (b := (decide (x357.Group > 0))) (v := (vi x370.Group)) rfl rfl rfl (gs_load_bfs (i := 0) (f := (fun x => x.Group)) rfl hw (fun h => by exact (cv_t h : cv (true && ((decide (x357.Group > 0)) == true)) (vp b373 2) = (vp b373 2))) rfl fd_PinType_2 ty3) ?_
   refine RL.gs (c := true) (b := (decide (x357.Group > 0))) (v := (vb (x357.Group == x370.Group))) rfl rfl rfl (gs_icmp (bop := .eql) (K := .i64) (a := x357.Group) (b := x370.Group) rfl (fun h => by exact (cv_t h : cv (true && ((decide (x357.Group > 0)) == true)) (vi x357.Group) = (vi x357.Group))) (fun h => by exact (cv_t h : cv (true && ((decide (x357.Group > 0)) == true)) (vi x370.Group) = (vi x370.Group))) rfl) ?_
   refine RL.pick (b := (decide (x357.Group > 0))) (v := (vb ((decide (x357.Group > 0)) && (x357.Group == x370.Group)))) trivial rfl rfl (pk_and (c := true) rfl) ?_
   refine mv (vb ((decide (x357.Group > 0)) && (x357.Group == x370.Group))) rfl rfl ?_
   refine RL.gs (c := true) (b := ((decide (x357.Group > 0)) && (x357.Group == x370.Group))) (v := (vp b360 1)) rfl rfl rfl (gs_fa_b rfl (fun _ => rfl) fa55_1) ?_
   refine RL.gs (c := true) (b := ((decide (x357.Group > 0)) && (x357.Group == x370.Group))) (v := (vi x357.Kind)) rfl rfl rfl (gs_load_bfs (i := 4) (f := (fun x => x.Kind)) rfl hw (fun h => by exact (cv_t h : cv (true && (((decide (x357.Group > 0)) && (x357.Group == x370.Group)) == true)) (vp b360 1) = (vp b360 1))) rfl fd_PinType_1 ty3) ?_
   refine RL.gs (c := true) (b := ((decide (x357.Group > 0)) && (x357.Group == x370.Group))) (v := (vp b373 1)) rfl rfl rfl (gs_fa_b rfl (fun _ => rfl) fa55_1) ?_
   refine RL.gs (c := true) (b := ((decide (x357.Group > 0)) && (x357.Group == x370.Group))) (v := (vi x370.Kind)) rfl rfl rfl (gs_load_bfs (i := 0) (f := (fun x => x.Kind)) rfl hw (fun h => by exact (cv_t h : cv (true && (((decide (x357.Group > 0)) && (x357.Group == x370.Group)) == true)) (vp b373 1) = (vp b373 1))) rfl fd_PinType_1 ty3) ?_
   refine RL.gs (c := true) (b := ((decide (x357.Group > 0)) && (x357.Group == x370.Group))) (v := (vb (x357.Kind != x370.Kind))) rfl rfl rfl (gs_icmp (bop := .neq) (K := .i64) (a := x357.Kind) (b := x370.Kind) rfl (fun h => by exact (cv_t h : cv (true && (((decide (x357.Group > 0)) && (x357.Group == x370.Group)) == true)) (vi x357.Kind) = (vi x357.Kind))) (fun h => by exact (cv_t h : cv (true && (((decide (x357.Group > 0)) && (x357.Group == x370.Group)) == true)) (vi x370.Kind) = (vi x370.Kind))) rfl) ?_
   refine RL.pick (b := ((decide (x357.Group > 0)) && (x357.Group == x370.Group))) (v := (vb (((decide (x357.Group > 0)) && (x357.Group == x370.Group)) && (x357.Kind != x370.Kind)))) trivial rfl rfl (pk_and (c := true) rfl) ?_
   refine RL.nt ?_
   refine RC.cond (b := (((decide (x357.Group > 0)) && (x357.Group == x370.Group)) && (x357.Kind != x370.Kind))) rfl (fun hc => ?_) (fun hc => ?_)
   rotate_left
   ·replace hb := cF hc hb
    refine RC.skip ?_
    refine blkQ_n ?_
    refine thenQ_n ?_
    refine RC.region ?_
    refine RL.inc trivial rfl hk hm rfl rfl ?_
    refine mv (vi ((k364 + 1 : Nat) : Int)) rfl rfl ?_
    refine RL.nil ?_
    obtain rfl := oi hb
    exact ⟨rfl, ⟨rfl, rfl, rfl, rfl, rfl, rfl, rfl, rfl, trivial⟩, hw.pick 7 [3, 4, 5, 6] (new := [bx 58 b31 p0, bx 55 b360 x357, rd v336 p0.Pins, rd v363 x362]) rfl rfl (by decide) (by decide)⟩
   replace hb := cT hc hb
   refine RC.sr ?_
   refine as_ (vi 12) rfl rfl ?_
   refine RL.nt ?_
   refine RC.rb ?_
   refine thenQ_r ?_
   obtain rfl := oi hb
   exact ⟨rfl, fin1 rfl rfl ⟨rfl, hw.drop 7 rfl⟩⟩
  ·intro r σ w e hK
   subst e
   refine blkQ_r ?_
   refine thenQ_r ?_
   obtain rfl := oi hb
   exact ⟨rfl, hK⟩
  intro s365 σ w e hJ
  subst e
  rw [Fo.cs_go] at hb
  obtain ⟨ha, hw⟩ := hJ
  obtain ⟨τ, rfl⟩ := ha.ups
  refine blkQ_n ?_
  refine thenQ_n ?_
  refine RC.region ?_
  refine RL.inc trivial rfl hk hm rfl rfl ?_
  refine mv (vi ((k337 + 1 : Nat) : Int)) rfl rfl ?_
  refine RL.nil ?_
  obtain rfl := oi hb
  exact ⟨rfl, ⟨rfl, rfl, rfl, rfl, trivial⟩, hw.pick 4 [0, 2] (new := [bx 58 b31 p0, rd v336 p0.Pins]) rfl rfl (by decide) (by decide)⟩
 ·intro r σ w e hK
  subst e
  refine thenQ_r ?_
  obtain rfl := oi hb
  exact hK
 intro s338 σ w e hJ
 subst e
 rw [Fo.cs_go] at hb
 obtain ⟨ha, hw⟩ := hJ
 obtain ⟨τ, rfl⟩ := ha.ups
 refine thenQ_n ?_
 refine RC.sr ?_
 refine as_ (vi 0) rfl rfl ?_
 refine RL.nt ?_
 refine RC.ret ?_
 obtain rfl := oi hb
 exact fin1 rfl rfl ⟨rfl, hw.drop 2 rfl⟩
def etchhouseref2_CheckTypes_R (E : World) (Γ : List HP) (res : Int) (v : Value) (w : World) : Prop := v = (vi res) ∧ Holds E w Γ
def etchhouseref2_CheckTypes_K (E : World) (Γ : List HP) (r : Int) (σ : Nat → Value) (w : World) : Prop := finQ Tryz.prog 35 Tryz.f36 (etchhouseref2_CheckTypes_R E Γ r) .ret σ w
theorem etchhouseref2_CheckTypes_ok (N : Nat) {E w : World} {Γ : List HP} {i0 : Nat} {v0 : Value} {p0 : (List PartType)} {res : Int} (hw : Holds E w Γ) (h0 : Γ[i0]? = some (rd v0 p0)) (hb : etchhouseref2_CheckTypes N p0 = some res) :
    Calls Tryz.prog 36 [v0].toArray w (Ret (etchhouseref2_CheckTypes_R E Γ res)) := by
 unfold etchhouseref2_CheckTypes at hb
 refine enter Tryz.func36 rfl rfl (Nat.le_of_ble_eq_true rfl) ?_
 have hw := hw.dup (i := i0 + 0) h0
 refine RC.sr ?_
 refine as_ (vi 0) rfl rfl ?_
 refine RL.nq ?_
 refine RC.sr ?_
 refine mv v0 rfl rfl ?_
 refine RL.len_rd (i := 0) (l := p0) trivial rfl hw rfl rfl un22 ?_
 refine ic ((p0.length : Int)) 200 rfl rfl rfl rfl ?_
 refine RL.nt ?_
 refine RC.cond (b := (decide ((p0.length : Int) > 200))) rfl (fun hc => ?_) (fun hc => ?_)
 ·replace hb := cT hc hb
  refine RC.sr ?_
  refine as_ (vi 2) rfl rfl ?_
  refine RL.nt ?_
  refine RC.rt ?_
  obtain rfl := oi hb
  exact fin1 rfl rfl ⟨rfl, hw.drop 1 rfl⟩
 replace hb := cF hc hb
 refine RC.ss ?_
 refine RC.sr ?_
 refine mv v0 rfl rfl ?_
 refine RL.len_rd (i := 0) (l := p0) trivial rfl hw rfl rfl un22 ?_
 refine mv (vi 0) rfl rfl ?_
 refine RL.nt ?_
 obtain ⟨o71, hN, hb⟩ := bd hb
 refine RC.range (fun (k31 : Nat) (s32 : Unit) (σ : Nat → Value) (w : World) => agree σ [(0, v0), (9, v0), (10, (vi (p0.length : Int))), (11, (vi (k31 : Int)))] ∧ Holds E w ([rd v0 p0] ++ Γ)) (fun (s32 : Unit) (σ : Nat → Value) (w : World) => agree σ [] ∧ Holds E w ([rd v0 p0] ++ Γ)) (etchhouseref2_CheckTypes_K E Γ) hN ?_ ?_ ?_ ?_ ?_ 
 ·exact ⟨⟨rfl, rfl, rfl, rfl, trivial⟩, hw.pick 1 [0] (new := [rd v0 p0]) rfl rfl (by decide) (by decide)⟩
 ·intro hm s32 σ w hI
  obtain ⟨ha, hw⟩ := hI
  obtain ⟨τ, rfl⟩ := ha.ups
  refine RC.sr ?_
  refine ic ((p0.length : Int)) ((p0.length : Int)) rfl rfl rfl rfl ?_
  refine RL.nq ?_
  refine RC.cond_f dge ?_
  refine RC.ex ?_
  exact ⟨rfl, trivial, hw.pick 1 [0] (new := [rd v0 p0]) rfl rfl (by decide) (by decide)⟩
 ·intro hm k31 s32 fl σ w hk hI hb
  obtain ⟨ha, hw⟩ := hI
  obtain ⟨τ, rfl⟩ := ha.ups
  refine RC.sr ?_
  refine ic ((k31 : Int)) ((p0.length : Int)) rfl rfl rfl rfl ?_
  refine RL.nq ?_
  refine RC.cond_t (dlt hk) ?_
  refine RC.ss ?_
  refine RC.bs ?_
  refine mv (vi (k31 : Int)) rfl rfl ?_
  obtain ⟨x52, hx52, hb⟩ := bd hb
  refine RL.ia_rd (i := 0) trivial rfl hw rfl rfl rfl sl22 hx52 fun v53 hw => ?_
  refine RL.load_pt (i := 0) (x := x52) trivial rfl hw rfl rfl ty58 fun v54 hw => ?_
  refine RL.alloc trivial rfl hw ze58.z fun b55 w hw => ?_
  refine as_ (vi (k31 : Int)) rfl rfl ?_
  refine RL.store_raw (i := 0) (j := 1) trivial hw rfl rfl rfl rfl ty58 rfl fun w hw => ?_
  refine RL.nq ?_
  refine RC.sr ?_
  refine RL.load_bf (i := 0) (f := (fun x => x)) trivial rfl hw rfl rfl Fd.self ty58 fun v56 hw => ?_
  obtain ⟨x57, hx57, hb⟩ := bd hb
  refine RL.call trivial rfl fn61 [v56] rfl (Calls_ret (etchhouseref2_checkType_ok N  (i0 := 0) hw rfl hx57) ?_)
  rintro _ w ⟨rfl, hw⟩
  refine as_ (vi x57) rfl rfl ?_
  refine RL.ns ?_
  refine mv (vi x57) rfl rfl ?_
  refine ic x57 0 rfl rfl rfl rfl ?_
  refine RL.nt ?_
  refine RC.cond (b := (x57 != 0)) rfl (fun hc => ?_) (fun hc => ?_)
  ·replace hb := cT hc hb
   refine RC.sr ?_
   refine mv (vi x57) rfl rfl ?_
   refine as_ (vi x57) rfl rfl ?_
   refine RL.nt ?_
   refine RC.rt ?_
   refine blkQ_r ?_
   refine thenQ_r ?_
   obtain rfl := oi hb
   exact ⟨rfl, fin1 rfl rfl ⟨rfl, hw.drop 5 rfl⟩⟩
  replace hb := cF hc hb
  refine RC.ss ?_
  obtain ⟨s64, hj, hb⟩ := bd hb
  refine RC.jn (fun (s64 : Bool) (σ : Nat → Value) (w : World) => agree σ [(0, v0), (9, v0), (10, (vi (p0.length : Int))), (11, (vi (k31 : Int))), (33, (vb s64))] ∧ Holds E w ([rd v0 p0] ++ Γ)) s64 ?_ ?_
  ·rcases Bool.eq_false_or_eq_true (decide ((k31 : Int) > 0)) with hg65 | hg65
   rotate_left
   ·replace hj := cF hg65 hj
    refine RC.drw mixed rfl (fun (D : Nat → Bool) (σ : Nat → Value) (w : World) => doneV D σ [(0, 21, (vi (k31 : Int))), (1, 22, (vb (decide ((k31 : Int) > 0)))), (2, 23, (vb (decide ((k31 : Int) > 0)))), (3, 24, undef), (4, 25, undef), (5, 26, undef), (6, 27, undef), (7, 28, undef), (8, 29, undef), (9, 30, undef), (10, 31, undef), (11, 32, undef), (12, 33, (vb false))] ∧ agree σ [(0, v0), (3, (vi (k31 : Int))), (4, (vp b55 0)), (9, v0), (10, (vi (p0.length : Int))), (11, (vi (k31 : Int)))] ∧ Holds E w ([rd v56 x52, bx 58 b55 x52, rd v54 x52, pt v53 x52, rd v0 p0] ++ Γ)) ?_ ⟨?_, ?_, ?_, ?_, ?_, ?_, ?_, ?_, ?_, ?_, ?_, ?_, ?_, trivial⟩ ?_
    ·have hw := hw.drew
     exact ⟨doneV.none, ⟨rfl, rfl, rfl, rfl, rfl, rfl, trivial⟩, hw⟩
    ·rintro D σ w hD hdep hcl ⟨hv, ha, hw⟩
     obtain ⟨τ, rfl⟩ := (ac (ha.at 1 rfl) az).ups
     refine mv (vi (k31 : Int)) rfl rfl ?_
     refine RL.nil ?_
     exact ⟨rfl, hv.put 0 rfl rfl, ha.up rfl, hw⟩
    ·rintro D σ w hD hdep hcl ⟨hv, ha, hw⟩
     obtain ⟨τ, rfl⟩ := (ac (hv.at 0 rfl (hdep.1 rfl)) az).ups
     refine ic ((k31 : Int)) 0 rfl rfl rfl rfl ?_
     refine RL.nil ?_
     exact ⟨rfl, hv.put 1 rfl rfl, ha.up rfl, hw⟩
    ·rintro D σ w hD hdep hcl ⟨hv, ha, hw⟩
     obtain ⟨τ, rfl⟩ := (ac (hv.at 1 rfl (hdep.1 rfl)) az).ups
     refine mv (vb (decide ((k31 : Int) > 0))) rfl rfl ?_
     refine RL.nil ?_
     exact ⟨rfl, hv.put 2 rfl rfl, ha.up rfl, hw⟩
    ·rintro D σ w hD hdep hcl ⟨hv, ha, hw⟩
     obtain ⟨τ, rfl⟩ := (ac (hv.at 2 rfl (hdep.1 rfl)) (ac (ha.at 2 rfl) az)).ups
     refine sk rfl (.inl (cb hg65)) rfl ?_
     refine RL.nil ?_
     exact ⟨rfl, hv.put 3 rfl rfl, ha.up rfl, hw⟩
    ·rintro D σ w hD hdep hcl ⟨hv, ha, hw⟩
     obtain ⟨τ, rfl⟩ := (ac (hv.at 2 rfl (hdep.2.1 rfl)) (ac (hv.at 3 rfl (hdep.1 rfl)) az)).ups
     refine sk rfl (.inl (cb hg65)) rfl ?_
     refine RL.nil ?_
     exact ⟨rfl, hv.put 4 rfl rfl, ha.up rfl, hw⟩
    ·rintro D σ w hD hdep hcl ⟨hv, ha, hw⟩
     obtain ⟨τ, rfl⟩ := (ac (hv.at 2 rfl (hdep.1 rfl)) (ac (ha.at 0 rfl) az)).ups
     refine sk rfl (.inl (cb hg65)) rfl ?_
     refine RL.nil ?_
     exact ⟨rfl, hv.put 5 rfl rfl, ha.up rfl, hw⟩
    ·rintro D σ w hD hdep hcl ⟨hv, ha, hw⟩
     obtain ⟨τ, rfl⟩ := (ac (hv.at 2 rfl (hdep.1 rfl)) (ac (ha.at 1 rfl) az)).ups
     refine sk rfl (.inl (cb hg65)) rfl ?_
     refine RL.nil ?_
     exact ⟨rfl, hv.put 6 rfl rfl, ha.up rfl, hw⟩
    ·rintro D σ w hD hdep hcl ⟨hv, ha, hw⟩
     obtain ⟨τ, rfl⟩ := (ac (hv.at 2 rfl (hdep.2.1 rfl)) (ac (hv.at 6 rfl (hdep.1 rfl)) az)).ups
     refine sk rfl (.inl (cb hg65)) rfl ?_
     refine RL.nil ?_
     exact ⟨rfl, hv.put 7 rfl rfl, ha.up rfl, hw⟩
    ·rintro D σ w hD hdep hcl ⟨hv, ha, hw⟩
     obtain ⟨τ, rfl⟩ := (ac (hv.at 2 rfl (hdep.2.2.1 rfl)) (ac (hv.at 5 rfl (hdep.1 rfl)) (ac (hv.at 7 rfl (hdep.2.1 rfl)) az))).ups
     refine sk rfl (.inl (cb hg65)) rfl ?_
     refine RL.nil ?_
     exact ⟨rfl, hv.put 8 rfl rfl, ha.up rfl, hw⟩
    ·rintro D σ w hD hdep hcl ⟨hv, ha, hw⟩
     obtain ⟨τ, rfl⟩ := (ac (hv.at 2 rfl (hdep.2.1 rfl)) (ac (hv.at 8 rfl (hdep.1 rfl)) az)).ups
     refine sk rfl (.inl (cb hg65)) rfl ?_
     refine RL.nil ?_
     exact ⟨rfl, hv.put 9 rfl rfl, ha.up rfl, hw⟩
    ·rintro D σ w hD hdep hcl ⟨hv, ha, hw⟩
     obtain ⟨τ, rfl⟩ := (ac (hv.at 2 rfl (hdep.2.1 rfl)) (ac (hv.at 9 rfl (hdep.1 rfl)) az)).ups
     refine sk rfl (.inl (cb hg65)) rfl ?_
     refine RL.nil ?_
     exact ⟨rfl, hv.put 10 rfl rfl, ha.up rfl, hw⟩
    ·rintro D σ w hD hdep hcl ⟨hv, ha, hw⟩
     obtain ⟨τ, rfl⟩ := (ac (hv.at 2 rfl (hdep.2.2.1 rfl)) (ac (hv.at 4 rfl (hdep.1 rfl)) (ac (hv.at 10 rfl (hdep.2.1 rfl)) az))).ups
     refine sk rfl (.inl (cb hg65)) rfl ?_
     refine RL.nil ?_
     exact ⟨rfl, hv.put 11 rfl rfl, ha.up rfl, hw⟩
    ·rintro D σ w hD hdep hcl ⟨hv, ha, hw⟩
     obtain ⟨τ, rfl⟩ := (ac (hv.at 2 rfl (hdep.1 rfl)) (ac (hv.at 11 rfl (hdep.2.1 rfl)) az)).ups
     refine RL.pick (b := (decide ((k31 : Int) > 0))) (v := (vb false)) trivial rfl rfl (by rw [hg65]; rfl) ?_
     refine RL.nil ?_
     exact ⟨rfl, hv.put 12 rfl rfl, ha.up rfl, hw⟩
    rintro D σ w hall ⟨hv, ha, hw⟩
    obtain ⟨τ, rfl⟩ := (ac (hv.at 12 rfl (hall 12 (by decide))) (ac (ha.at 0 rfl) (ac (ha.at 1 rfl) (ac (ha.at 2 rfl) (ac (ha.at 3 rfl) (ac (ha.at 4 rfl) (ac (ha.at 5 rfl) az))))))).ups
    obtain rfl := oi hj
    exact ⟨rfl, ⟨rfl, rfl, rfl, rfl, rfl, trivial⟩, hw.pick 5 [4] (new := [rd v0 p0]) rfl rfl (by decide) (by decide)⟩
   replace hj := cT hg65 hj
   obtain ⟨x66, hx66, hj⟩ := bd hj
   refine RC.drw mixed rfl (fun (D : Nat → Bool) (σ : Nat → Value) (w : World) => ∃ (v67 : Value) (v68 : Value), doneV D σ [(0, 21, (vi (k31 : Int))), (1, 22, (vb (decide ((k31 : Int) > 0)))), (2, 23, (vb (decide ((k31 : Int) > 0)))), (3, 24, (vp b55 0)), (4, 25, (str x52.Name)), (5, 26, v0), (6, 27, (vi (k31 : Int))), (7, 28, (vi (IntKind.wrap .i64 ((k31 : Int) - 1)))), (8, 29, v67), (9, 30, v68), (10, 31, (str x66.Name)), (11, 32, (vb (x52.Name.ltb x66.Name || x52.Name.eqb x66.Name))), (12, 33, (vb (x52.Name.ltb x66.Name || x52.Name.eqb x66.Name)))] ∧ agree σ [(0, v0), (3, (vi (k31 : Int))), (4, (vp b55 0)), (9, v0), (10, (vi (p0.length : Int))), (11, (vi (k31 : Int)))] ∧ Holds E w ([bif D 8 then (pt v67 x66) else junk, bif D 9 then (pt v68 x66.Name) else junk, rd v56 x52, bx 58 b55 x52, rd v54 x52, pt v53 x52, rd v0 p0] ++ Γ)) ?_ ⟨?_, ?_, ?_, ?_, ?_, ?_, ?_, ?_, ?_, ?_, ?_, ?_, ?_, trivial⟩ ?_
   ·have hw := hw.drew
    have hw := hw.junk
    have hw := hw.junk
    exact ⟨undef, undef, doneV.none, ⟨rfl, rfl, rfl, rfl, rfl, rfl, trivial⟩, hw⟩
   ·rintro D σ w hD hdep hcl ⟨v67, v68, hv, ha, hw⟩
    obtain ⟨τ, rfl⟩ := (ac (ha.at 1 rfl) az).ups
    refine mv (vi (k31 : Int)) rfl rfl ?_
    refine RL.nil ?_
    exact ⟨rfl, v67, v68, hv.put 0 rfl rfl, ha.up rfl, hw⟩
   ·rintro D σ w hD hdep hcl ⟨v67, v68, hv, ha, hw⟩
    obtain ⟨τ, rfl⟩ := (ac (hv.at 0 rfl (hdep.1 rfl)) az).ups
    refine ic ((k31 : Int)) 0 rfl rfl rfl rfl ?_
    refine RL.nil ?_
    exact ⟨rfl, v67, v68, hv.put 1 rfl rfl, ha.up rfl, hw⟩
   ·rintro D σ w hD hdep hcl ⟨v67, v68, hv, ha, hw⟩
    obtain ⟨τ, rfl⟩ := (ac (hv.at 1 rfl (hdep.1 rfl)) az).ups
    refine mv (vb (decide ((k31 : Int) > 0))) rfl rfl ?_
    refine RL.nil ?_
    exact ⟨rfl, v67, v68, hv.put 2 rfl rfl, ha.up rfl, hw⟩
   ·rintro D σ w hD hdep hcl ⟨v67, v68, hv, ha, hw⟩
    obtain ⟨τ, rfl⟩ := (ac (hv.at 2 rfl (hdep.1 rfl)) (ac (ha.at 2 rfl) az)).ups
    refine RL.fa_b ⟨_, rfl, cb hg65⟩ rfl rfl fa58_0 ?_
    refine RL.nil ?_
    exact ⟨rfl, v67, v68, hv.put 3 rfl rfl, ha.up rfl, hw⟩
   ·rintro D σ w hD hdep hcl ⟨v67, v68, hv, ha, hw⟩
    obtain ⟨τ, rfl⟩ := (ac (hv.at 2 rfl (hdep.2.1 rfl)) (ac (hv.at 3 rfl (hdep.1 rfl)) az)).ups
    refine RL.load_bfs (i := 3) (f := (fun x => x.Name)) ⟨_, rfl, cb hg65⟩ rfl hw rfl rfl fd_PartType_0 ty9 ?_
    refine RL.nil ?_
    exact ⟨rfl, v67, v68, hv.put 4 rfl rfl, ha.up rfl, hw⟩
   ·rintro D σ w hD hdep hcl ⟨v67, v68, hv, ha, hw⟩
    obtain ⟨τ, rfl⟩ := (ac (hv.at 2 rfl (hdep.1 rfl)) (ac (ha.at 0 rfl) az)).ups
    refine RL.move (v := v0) ⟨_, rfl, cb hg65⟩ rfl rfl ?_
    refine RL.nil ?_
    exact ⟨rfl, v67, v68, hv.put 5 rfl rfl, ha.up rfl, hw⟩
   ·rintro D σ w hD hdep hcl ⟨v67, v68, hv, ha, hw⟩
    obtain ⟨τ, rfl⟩ := (ac (hv.at 2 rfl (hdep.1 rfl)) (ac (ha.at 1 rfl) az)).ups
    refine RL.move (v := (vi (k31 : Int))) ⟨_, rfl, cb hg65⟩ rfl rfl ?_
    refine RL.nil ?_
    exact ⟨rfl, v67, v68, hv.put 6 rfl rfl, ha.up rfl, hw⟩
   ·rintro D σ w hD hdep hcl ⟨v67, v68, hv, ha, hw⟩
    obtain ⟨τ, rfl⟩ := (ac (hv.at 2 rfl (hdep.2.1 rfl)) (ac (hv.at 6 rfl (hdep.1 rfl)) az)).ups
    refine RL.iar (a := (k31 : Int)) (b := 1) ⟨_, rfl, cb hg65⟩ rfl rfl rfl rfl ?_
    refine RL.nil ?_
    exact ⟨rfl, v67, v68, hv.put 7 rfl rfl, ha.up rfl, hw⟩
   ·rintro D σ w hD hdep hcl ⟨v67, v68, hv, ha, hw⟩
    obtain ⟨τ, rfl⟩ := (ac (hv.at 2 rfl (hdep.2.2.1 rfl)) (ac (hv.at 5 rfl (hdep.1 rfl)) (ac (hv.at 7 rfl (hdep.2.1 rfl)) az))).ups
    have hw := hw.selF (i := 0) rfl hD
    refine RL.ia_rd (i := 6) ⟨_, rfl, cb hg65⟩ rfl hw rfl rfl rfl sl22 hx66 fun v69 hw => ?_
    have hw := hw.pick 8 [0, 2, 3, 4, 5, 6, 7] (new := [pt v69 x66, bif D 9 then (pt v68 x66.Name) else junk, rd v56 x52, bx 58 b55 x52, rd v54 x52, pt v53 x52, rd v0 p0]) rfl rfl (by decide) (by decide)
    have hw := hw.altT (i := 0) (b := true) rfl rfl (junk)
    refine RL.nil ?_
    exact ⟨rfl, v69, v68, hv.put 8 rfl rfl, ha.up rfl, hw⟩
   ·rintro D σ w hD hdep hcl ⟨v67, v68, hv, ha, hw⟩
    obtain ⟨τ, rfl⟩ := (ac (hv.at 2 rfl (hdep.2.1 rfl)) (ac (hv.at 8 rfl (hdep.1 rfl)) az)).ups
    have hw := hw.selT (i := 0) rfl (hdep.1 rfl)
    have hw := hw.selF (i := 1) rfl hD
    refine RL.fa_pt (i := 0) (f := fun (x : PartType) => x.Name) ⟨_, rfl, cb hg65⟩ rfl hw rfl rfl fa58_0 fd_PartType_0 fun v70 hw => ?_
    have hw := hw.pick 8 [1, 0, 3, 4, 5, 6, 7] (new := [pt v67 x66, pt v70 x66.Name, rd v56 x52, bx 58 b55 x52, rd v54 x52, pt v53 x52, rd v0 p0]) rfl rfl (by decide) (by decide)
    have hw := hw.altT (i := 0) (b := D 8) rfl (hdep.1 rfl) (junk)
    have hw := hw.altT (i := 1) (b := true) rfl rfl (junk)
    refine RL.nil ?_
    exact ⟨rfl, v67, v70, hv.put 9 rfl rfl, ha.up rfl, hw⟩
   ·rintro D σ w hD hdep hcl ⟨v67, v68, hv, ha, hw⟩
    obtain ⟨τ, rfl⟩ := (ac (hv.at 2 rfl (hdep.2.1 rfl)) (ac (hv.at 9 rfl (hdep.1 rfl)) az)).ups
    have hw := hw.selT (i := 1) rfl (hdep.1 rfl)
    refine RL.load_pts (i := 1) (y := x66.Name) ⟨_, rfl, cb hg65⟩ rfl hw rfl rfl ty9 ?_
    have hw := hw.altT (i := 1) (b := D 9) rfl (hdep.1 rfl) (junk)
    refine RL.nil ?_
    exact ⟨rfl, v67, v68, hv.put 10 rfl rfl, ha.up rfl, hw⟩
   ·rintro D σ w hD hdep hcl ⟨v67, v68, hv, ha, hw⟩
    obtain ⟨τ, rfl⟩ := (ac (hv.at 2 rfl (hdep.2.2.1 rfl)) (ac (hv.at 4 rfl (hdep.1 rfl)) (ac (hv.at 10 rfl (hdep.2.1 rfl)) az))).ups
    refine RL.scmp (a := x52.Name) (b := x66.Name) ⟨_, rfl, cb hg65⟩ rfl rfl rfl rfl ?_
    refine RL.nil ?_
    exact ⟨rfl, v67, v68, hv.put 11 rfl rfl, ha.up rfl, hw⟩
   ·rintro D σ w hD hdep hcl ⟨v67, v68, hv, ha, hw⟩
    obtain ⟨τ, rfl⟩ := (ac (hv.at 2 rfl (hdep.1 rfl)) (ac (hv.at 11 rfl (hdep.2.1 rfl)) az)).ups
    refine RL.pick (b := (decide ((k31 : Int) > 0))) (v := (vb (x52.Name.ltb x66.Name || x52.Name.eqb x66.Name))) trivial rfl rfl (by rw [hg65]; rfl) ?_
    refine RL.nil ?_
    exact ⟨rfl, v67, v68, hv.put 12 rfl rfl, ha.up rfl, hw⟩
   rintro D σ w hall ⟨v67, v68, hv, ha, hw⟩
   rw [hall 8 (by decide), hall 9 (by decide)] at hw
   obtain ⟨τ, rfl⟩ := (ac (hv.at 12 rfl (hall 12 (by decide))) (ac (ha.at 0 rfl) (ac (ha.at 1 rfl) (ac (ha.at 2 rfl) (ac (ha.at 3 rfl) (ac (ha.at 4 rfl) (ac (ha.at 5 rfl) az))))))).ups
   obtain rfl := oi hj
   exact ⟨rfl, ⟨rfl, rfl, rfl, rfl, rfl, trivial⟩, hw.pick 7 [6] (new := [rd v0 p0]) rfl rfl (by decide) (by decide)⟩
  rintro σ w ⟨ha, hw⟩
  obtain ⟨τ, rfl⟩ := ha.ups
  refine thenQ_n ?_
  refine RC.cond (b := s64) rfl (fun hc => ?_) (fun hc => ?_)
  rotate_left
  ·replace hb := cF hc hb
   refine RC.skip ?_
   refine blkQ_n ?_
   refine thenQ_n ?_
   refine RC.region ?_
   refine RL.inc trivial rfl hk hm rfl rfl ?_
   refine mv (vi ((k31 + 1 : Nat) : Int)) rfl rfl ?_
   refine RL.nil ?_
   obtain rfl := oi hb
   exact ⟨rfl, ⟨rfl, rfl, rfl, rfl, trivial⟩, hw.pick 1 [0] (new := [rd v0 p0]) rfl rfl (by decide) (by decide)⟩
  replace hb := cT hc hb
  refine RC.sr ?_
  refine as_ (vi 8) rfl rfl ?_
  refine RL.nt ?_
  refine RC.rb ?_
  refine thenQ_r ?_
  obtain rfl := oi hb
  exact ⟨rfl, fin1 rfl rfl ⟨rfl, hw.drop 1 rfl⟩⟩
 ·intro r σ w e hK
  subst e
  refine thenQ_r ?_
  obtain rfl := oi hb
  exact hK
 intro s32 σ w e hJ
 subst e
 rw [Fo.cs_go] at hb
 obtain ⟨ha, hw⟩ := hJ
 obtain ⟨τ, rfl⟩ := ha.ups
 refine thenQ_n ?_
 refine RC.sr ?_
 refine as_ (vi 0) rfl rfl ?_
 refine RL.nt ?_
 refine RC.ret ?_
 obtain rfl := oi hb
 exact fin1 rfl rfl ⟨rfl, hw.drop 1 rfl⟩
def etchhouseref2_IsPath_R (E : World) (Γ : List HP) (res : Bool) (v : Value) (w : World) : Prop := v = (vb res) ∧ Holds E w Γ
def etchhouseref2_IsPath_K (E : World) (Γ : List HP) (r : Bool) (σ : Nat → Value) (w : World) : Prop := finQ Tryz.prog 19 Tryz.f62 (etchhouseref2_IsPath_R E Γ r) .ret σ w
theorem etchhouseref2_IsPath_ok (N : Nat) {E w : World} {Γ : List HP} {p0 : Str} {res : Bool} (hw : Holds E w Γ)  (hb : etchhouseref2_IsPath N p0 = some res) :
    Calls Tryz.prog 62 [(str p0)].toArray w (Ret (etchhouseref2_IsPath_R E Γ res)) := by
 unfold etchhouseref2_IsPath at hb
 refine enter Tryz.func62 rfl rfl (Nat.le_of_ble_eq_true rfl) ?_
 refine RC.sr ?_
 refine as_ (vb false) rfl rfl ?_
 refine RL.nq ?_
 refine RC.sr ?_
 refine mv (str p0) rfl rfl ?_
 obtain ⟨x31, hx31, hb⟩ := bd hb
 refine RL.call trivial rfl fn46 [(str p0), (str ⟨[47]⟩)] rfl (Calls_ret (strings_Split_ok N (p0 := p0) (p1 := ⟨[47]⟩)  hw  hx31) ?_)
 rintro v32 w hw
 refine RL.len_own (i := 0) (l := x31) trivial rfl hw rfl rfl un36 ?_
 refine mv (vi 0) rfl rfl ?_
 refine RL.nt ?_
 obtain ⟨o39, hN, hb⟩ := bd hb
 refine RC.range (fun (k33 : Nat) (s34 : Unit) (σ : Nat → Value) (w : World) => agree σ [(0, (str p0)), (6, v32), (7, (vi (x31.length : Int))), (8, (vi (k33 : Int)))] ∧ Holds E w ([own 9 v32 x31] ++ Γ)) (fun (s34 : Unit) (σ : Nat → Value) (w : World) => agree σ [(0, (str p0))] ∧ Holds E w ([own 9 v32 x31] ++ Γ)) (etchhouseref2_IsPath_K E Γ) hN ?_ ?_ ?_ ?_ ?_ 
 ·exact ⟨⟨rfl, rfl, rfl, rfl, trivial⟩, hw.pick 1 [0] (new := [own 9 v32 x31]) rfl rfl (by decide) (by decide)⟩
 ·intro hm s34 σ w hI
  obtain ⟨ha, hw⟩ := hI
  obtain ⟨τ, rfl⟩ := ha.ups
  refine RC.sr ?_
  refine ic ((x31.length : Int)) ((x31.length : Int)) rfl rfl rfl rfl ?_
  refine RL.nq ?_
  refine RC.cond_f dge ?_
  refine RC.ex ?_
  exact ⟨rfl, ⟨rfl, trivial⟩, hw.pick 1 [0] (new := [own 9 v32 x31]) rfl rfl (by decide) (by decide)⟩
 ·intro hm k33 s34 fl σ w hk hI hb
  obtain ⟨ha, hw⟩ := hI
  obtain ⟨τ, rfl⟩ := ha.ups
  refine RC.sr ?_
  refine ic ((k33 : Int)) ((x31.length : Int)) rfl rfl rfl rfl ?_
  refine RL.nq ?_
  refine RC.cond_t (dlt hk) ?_
  refine RC.ss ?_
  refine RC.bs ?_
  obtain ⟨x37, hx37, hb⟩ := bd hb
  refine RL.ia_ownA (i := 0) trivial rfl hw rfl rfl rfl sl36 hx37 ?_
  refine RL.load_els (i := 0) (f := (fun x => x)) trivial rfl hw rfl (elp hw (i := 0) rfl hx37 0) rfl (idx_some hx37).2.1 Fd.self ty9 ?_
  refine as_ (str x37) rfl rfl ?_
  refine RL.ns ?_
  refine mv (str x37) rfl rfl ?_
  obtain ⟨x38, hx38, hb⟩ := bd hb
  refine RL.call trivial rfl fn87 [(str x37)] rfl (Calls_ret (etchhouseref2_IsWord_ok N (p0 := x37)  hw  hx38) ?_)
  rintro _ w ⟨rfl, hw⟩
  refine RL.not (b := x38) trivial rfl rfl ?_
  refine RL.nt ?_
  refine RC.cond (b := (!x38)) rfl (fun hc => ?_) (fun hc => ?_)
  rotate_left
  ·replace hb := cF hc hb
   refine RC.skip ?_
   refine blkQ_n ?_
   refine thenQ_n ?_
   refine RC.region ?_
   refine RL.inc trivial rfl hk hm rfl rfl ?_
   refine mv (vi ((k33 + 1 : Nat) : Int)) rfl rfl ?_
   refine RL.nil ?_
   obtain rfl := oi hb
   exact ⟨rfl, ⟨rfl, rfl, rfl, rfl, trivial⟩, hw.pick 1 [0] (new := [own 9 v32 x31]) rfl rfl (by decide) (by decide)⟩
  replace hb := cT hc hb
  refine RC.sr ?_
  refine as_ (vb false) rfl rfl ?_
  refine RL.nt ?_
  refine RC.rb ?_
  refine thenQ_r ?_
  obtain rfl := oi hb
  exact ⟨rfl, fin1 rfl rfl ⟨rfl, hw.drop 1 rfl⟩⟩
 ·intro r σ w e hK
  subst e
  refine thenQ_r ?_
  obtain rfl := oi hb
  exact hK
 intro s34 σ w e hJ
 subst e
 rw [Fo.cs_go] at hb
 obtain ⟨ha, hw⟩ := hJ
 obtain ⟨τ, rfl⟩ := ha.ups
 refine thenQ_n ?_
 refine RC.sr ?_
 refine mv (str p0) rfl rfl ?_
 refine RL.lens (s := p0) trivial rfl rfl un9 ?_
 refine ic ((p0.toL.length : Int)) 200 rfl rfl rfl rfl ?_
 refine as_ (vb (decide ((p0.toL.length : Int) ≤ 200))) rfl rfl ?_
 refine RL.nt ?_
 refine RC.ret ?_
 obtain rfl := oi hb
 exact fin1 rfl rfl ⟨rfl, hw.drop 1 rfl⟩
def etchhouseref2_typeOf_R (E : World) (Γ : List HP) (res : Int) (v : Value) (w : World) : Prop := v = (vi res) ∧ Holds E w Γ
def etchhouseref2_typeOf_K (E : World) (Γ : List HP) (r : Int) (σ : Nat → Value) (w : World) : Prop := finQ Tryz.prog 20 Tryz.f63 (etchhouseref2_typeOf_R E Γ r) .ret σ w
theorem etchhouseref2_typeOf_ok (N : Nat) {E w : World} {Γ : List HP} {i0 : Nat} {v0 : Value} {p0 : (List PartType)} {p1 : Str} {res : Int} (hw : Holds E w Γ) (h0 : Γ[i0]? = some (rd v0 p0)) (hb : etchhouseref2_typeOf N p0 p1 = some res) :
    Calls Tryz.prog 63 [v0, (str p1)].toArray w (Ret (etchhouseref2_typeOf_R E Γ res)) := by
 unfold etchhouseref2_typeOf at hb
 refine enter Tryz.func63 rfl rfl (Nat.le_of_ble_eq_true rfl) ?_
 have hw := hw.dup (i := i0 + 0) h0
 refine RC.sr ?_
 refine as_ (vi 0) rfl rfl ?_
 refine RL.nq ?_
 refine RC.sr ?_
 refine mv v0 rfl rfl ?_
 refine RL.len_rd (i := 0) (l := p0) trivial rfl hw rfl rfl un22 ?_
 refine mv (vi 0) rfl rfl ?_
 refine RL.nt ?_
 obtain ⟨o41, hN, hb⟩ := bd hb
 refine RC.range (fun (k31 : Nat) (s32 : Unit) (σ : Nat → Value) (w : World) => agree σ [(1, (str p1)), (7, v0), (8, (vi (p0.length : Int))), (9, (vi (k31 : Int)))] ∧ Holds E w ([rd v0 p0] ++ Γ)) (fun (s32 : Unit) (σ : Nat → Value) (w : World) => agree σ [] ∧ Holds E w ([rd v0 p0] ++ Γ)) (etchhouseref2_typeOf_K E Γ) hN ?_ ?_ ?_ ?_ ?_ 
 ·exact ⟨⟨rfl, rfl, rfl, rfl, trivial⟩, hw.pick 1 [0] (new := [rd v0 p0]) rfl rfl (by decide) (by decide)⟩
 ·intro hm s32 σ w hI
  obtain ⟨ha, hw⟩ := hI
  obtain ⟨τ, rfl⟩ := ha.ups
  refine RC.sr ?_
  refine ic ((p0.length : Int)) ((p0.length : Int)) rfl rfl rfl rfl ?_
  refine RL.nq ?_
  refine RC.cond_f dge ?_
  refine RC.ex ?_
  exact ⟨rfl, trivial, hw.pick 1 [0] (new := [rd v0 p0]) rfl rfl (by decide) (by decide)⟩
 ·intro hm k31 s32 fl σ w hk hI hb
  obtain ⟨ha, hw⟩ := hI
  obtain ⟨τ, rfl⟩ := ha.ups
  refine RC.sr ?_
  refine ic ((k31 : Int)) ((p0.length : Int)) rfl rfl rfl rfl ?_
  refine RL.nq ?_
  refine RC.cond_t (dlt hk) ?_
  refine RC.ss ?_
  refine RC.bs ?_
  refine mv (vi (k31 : Int)) rfl rfl ?_
  obtain ⟨x37, hx37, hb⟩ := bd hb
  refine RL.ia_rd (i := 0) trivial rfl hw rfl rfl rfl sl22 hx37 fun v38 hw => ?_
  refine RL.load_pt (i := 0) (x := x37) trivial rfl hw rfl rfl ty58 fun v39 hw => ?_
  refine RL.alloc trivial rfl hw ze58.z fun b40 w hw => ?_
  refine as_ (vi (k31 : Int)) rfl rfl ?_
  refine RL.store_raw (i := 0) (j := 1) trivial hw rfl rfl rfl rfl ty58 rfl fun w hw => ?_
  refine RL.ns ?_
  refine RL.fa_b trivial rfl rfl fa58_0 ?_
  refine RL.load_bfs (i := 0) (f := (fun x => x.Name)) trivial rfl hw rfl rfl fd_PartType_0 ty9 ?_
  refine mv (str p1) rfl rfl ?_
  refine RL.scmp (a := x37.Name) (b := p1) trivial rfl rfl rfl rfl ?_
  refine RL.nt ?_
  refine RC.cond (b := (x37.Name.eqb p1)) rfl (fun hc => ?_) (fun hc => ?_)
  rotate_left
  ·replace hb := cF hc hb
   refine RC.skip ?_
   refine blkQ_n ?_
   refine thenQ_n ?_
   refine RC.region ?_
   refine RL.inc trivial rfl hk hm rfl rfl ?_
   refine mv (vi ((k31 + 1 : Nat) : Int)) rfl rfl ?_
   refine RL.nil ?_
   obtain rfl := oi hb
   exact ⟨rfl, ⟨rfl, rfl, rfl, rfl, trivial⟩, hw.pick 4 [3] (new := [rd v0 p0]) rfl rfl (by decide) (by decide)⟩
  replace hb := cT hc hb
  refine RC.sr ?_
  refine mv (vi (k31 : Int)) rfl rfl ?_
  refine as_ (vi (k31 : Int)) rfl rfl ?_
  refine RL.nt ?_
  refine RC.rb ?_
  refine thenQ_r ?_
  obtain rfl := oi hb
  exact ⟨rfl, fin1 rfl rfl ⟨rfl, hw.drop 4 rfl⟩⟩
 ·intro r σ w e hK
  subst e
  refine thenQ_r ?_
  obtain rfl := oi hb
  exact hK
 intro s32 σ w e hJ
 subst e
 rw [Fo.cs_go] at hb
 obtain ⟨ha, hw⟩ := hJ
 obtain ⟨τ, rfl⟩ := ha.ups
 refine thenQ_n ?_
 refine RC.sr ?_
 refine as_ (vi (-1)) rfl rfl ?_
 refine RL.nt ?_
 refine RC.ret ?_
 obtain rfl := oi hb
 exact fin1 rfl rfl ⟨rfl, hw.drop 1 rfl⟩
def etchhouseref2_partOf_R (E : World) (Γ : List HP) (res : Int) (v : Value) (w : World) : Prop := v = (vi res) ∧ Holds E w Γ
def etchhouseref2_partOf_K (E : World) (Γ : List HP) (r : Int) (σ : Nat → Value) (w : World) : Prop := finQ Tryz.prog 20 Tryz.f89 (etchhouseref2_partOf_R E Γ r) .ret σ w
theorem etchhouseref2_partOf_ok (N : Nat) {E w : World} {Γ : List HP} {i0 : Nat} {v0 : Value} {p0 : (List Part)} {p1 : Str} {res : Int} (hw : Holds E w Γ) (h0 : Γ[i0]? = some (rd v0 p0)) (hb : etchhouseref2_partOf N p0 p1 = some res) :
    Calls Tryz.prog 89 [v0, (str p1)].toArray w (Ret (etchhouseref2_partOf_R E Γ res)) := by
 unfold etchhouseref2_partOf at hb
 refine enter Tryz.func89 rfl rfl (Nat.le_of_ble_eq_true rfl) ?_
 have hw := hw.dup (i := i0 + 0) h0
 refine RC.sr ?_
 refine as_ (vi 0) rfl rfl ?_
 refine RL.nq ?_
 refine RC.sr ?_
 refine mv v0 rfl rfl ?_
 refine RL.len_rd (i := 0) (l := p0) trivial rfl hw rfl rfl un23 ?_
 refine mv (vi 0) rfl rfl ?_
 refine RL.nt ?_
 obtain ⟨o41, hN, hb⟩ := bd hb
 refine RC.range (fun (k31 : Nat) (s32 : Unit) (σ : Nat → Value) (w : World) => agree σ [(1, (str p1)), (7, v0), (8, (vi (p0.length : Int))), (9, (vi (k31 : Int)))] ∧ Holds E w ([rd v0 p0] ++ Γ)) (fun (s32 : Unit) (σ : Nat → Value) (w : World) => agree σ [] ∧ Holds E w ([rd v0 p0] ++ Γ)) (etchhouseref2_partOf_K E Γ) hN ?_ ?_ ?_ ?_ ?_ 
 ·exact ⟨⟨rfl, rfl, rfl, rfl, trivial⟩, hw.pick 1 [0] (new := [rd v0 p0]) rfl rfl (by decide) (by decide)⟩
 ·intro hm s32 σ w hI
  obtain ⟨ha, hw⟩ := hI
  obtain ⟨τ, rfl⟩ := ha.ups
  refine RC.sr ?_
  refine ic ((p0.length : Int)) ((p0.length : Int)) rfl rfl rfl rfl ?_
  refine RL.nq ?_
  refine RC.cond_f dge ?_
  refine RC.ex ?_
  exact ⟨rfl, trivial, hw.pick 1 [0] (new := [rd v0 p0]) rfl rfl (by decide) (by decide)⟩
 ·intro hm k31 s32 fl σ w hk hI hb
  obtain ⟨ha, hw⟩ := hI
  obtain ⟨τ, rfl⟩ := ha.ups
  refine RC.sr ?_
  refine ic ((k31 : Int)) ((p0.length : Int)) rfl rfl rfl rfl ?_
  refine RL.nq ?_
  refine RC.cond_t (dlt hk) ?_
  refine RC.ss ?_
  refine RC.bs ?_
  refine mv (vi (k31 : Int)) rfl rfl ?_
  obtain ⟨x37, hx37, hb⟩ := bd hb
  refine RL.ia_rd (i := 0) trivial rfl hw rfl rfl rfl sl23 hx37 fun v38 hw => ?_
  refine RL.load_pt (i := 0) (x := x37) trivial rfl hw rfl rfl ty48 fun v39 hw => ?_
  refine RL.alloc trivial rfl hw ze48.z fun b40 w hw => ?_
  refine as_ (vi (k31 : Int)) rfl rfl ?_
  refine RL.store_raw (i := 0) (j := 1) trivial hw rfl rfl rfl rfl ty48 rfl fun w hw => ?_
  refine RL.ns ?_
  refine RL.fa_b trivial rfl rfl fa48_0 ?_
  refine RL.load_bfs (i := 0) (f := (fun x => x.Name)) trivial rfl hw rfl rfl fd_Part_0 ty9 ?_
  refine mv (str p1) rfl rfl ?_
  refine RL.scmp (a := x37.Name) (b := p1) trivial rfl rfl rfl rfl ?_
  refine RL.nt ?_
  refine RC.cond (b := (x37.Name.eqb p1)) rfl (fun hc => ?_) (fun hc => ?_)
  rotate_left
  ·replace hb := cF hc hb
   refine RC.skip ?_
   refine blkQ_n ?_
   refine thenQ_n ?_
   refine RC.region ?_
   refine RL.inc trivial rfl hk hm rfl rfl ?_
   refine mv (vi ((k31 + 1 : Nat) : Int)) rfl rfl ?_
   refine RL.nil ?_
   obtain rfl := oi hb
   exact ⟨rfl, ⟨rfl, rfl, rfl, rfl, trivial⟩, hw.pick 4 [3] (new := [rd v0 p0]) rfl rfl (by decide) (by decide)⟩
  replace hb := cT hc hb
  refine RC.sr ?_
  refine mv (vi (k31 : Int)) rfl rfl ?_
  refine as_ (vi (k31 : Int)) rfl rfl ?_
  refine RL.nt ?_
  refine RC.rb ?_
  refine thenQ_r ?_
  obtain rfl := oi hb
  exact ⟨rfl, fin1 rfl rfl ⟨rfl, hw.drop 4 rfl⟩⟩
 ·intro r σ w e hK
  subst e
  refine thenQ_r ?_
  obtain rfl := oi hb
  exact hK
 intro s32 σ w e hJ
 subst e
 rw [Fo.cs_go] at hb
 obtain ⟨ha, hw⟩ := hJ
 obtain ⟨τ, rfl⟩ := ha.ups
 refine thenQ_n ?_
 refine RC.sr ?_
 refine as_ (vi (-1)) rfl rfl ?_
 refine RL.nt ?_
 refine RC.ret ?_
 obtain rfl := oi hb
 exact fin1 rfl rfl ⟨rfl, hw.drop 1 rfl⟩
def etchhouseref2_pinOf_R (E : World) (Γ : List HP) (res : Int) (v : Value) (w : World) : Prop := v = (vi res) ∧ Holds E w Γ
def etchhouseref2_pinOf_K (E : World) (Γ : List HP) (r : Int) (σ : Nat → Value) (w : World) : Prop := finQ Tryz.prog 21 Tryz.f90 (etchhouseref2_pinOf_R E Γ r) .ret σ w
theorem etchhouseref2_pinOf_ok (N : Nat) {E w : World} {Γ : List HP} {i0 : Nat} {v0 : Value} {p0 : PartType} {p1 : Str} {res : Int} (hw : Holds E w Γ) (h0 : Γ[i0]? = some (rd v0 p0)) (hb : etchhouseref2_pinOf N p0 p1 = some res) :
    Calls Tryz.prog 90 [v0, (str p1)].toArray w (Ret (etchhouseref2_pinOf_R E Γ res)) := by
 unfold etchhouseref2_pinOf at hb
 refine enter Tryz.func90 rfl rfl (Nat.le_of_ble_eq_true rfl) ?_
 have hw := hw.dup (i := i0 + 0) h0
 refine RC.sr ?_
 refine RL.box_rd (i := 0) (v := v0) trivial rfl hw rfl rfl fun b31 w hw => ?_
 refine as_ (vi 0) rfl rfl ?_
 refine RL.nq ?_
 refine RC.sr ?_
 refine RL.fa_b trivial rfl rfl fa58_1 ?_
 refine RL.load_bf (i := 0) (f := (fun x => x.Pins)) trivial rfl hw rfl rfl fd_PartType_1 ty56 fun v32 hw => ?_
 refine RL.len_rd (i := 0) (l := p0.Pins) trivial rfl hw rfl rfl un56 ?_
 refine mv (vi 0) rfl rfl ?_
 refine RL.nt ?_
 obtain ⟨o43, hN, hb⟩ := bd hb
 refine RC.range (fun (k33 : Nat) (s34 : Unit) (σ : Nat → Value) (w : World) => agree σ [(1, (str p1)), (8, v32), (9, (vi (p0.Pins.length : Int))), (10, (vi (k33 : Int)))] ∧ Holds E w ([rd v32 p0.Pins] ++ Γ)) (fun (s34 : Unit) (σ : Nat → Value) (w : World) => agree σ [] ∧ Holds E w ([rd v32 p0.Pins] ++ Γ)) (etchhouseref2_pinOf_K E Γ) hN ?_ ?_ ?_ ?_ ?_ 
 ·exact ⟨⟨rfl, rfl, rfl, rfl, trivial⟩, hw.pick 3 [0] (new := [rd v32 p0.Pins]) rfl rfl (by decide) (by decide)⟩
 ·intro hm s34 σ w hI
  obtain ⟨ha, hw⟩ := hI
  obtain ⟨τ, rfl⟩ := ha.ups
  refine RC.sr ?_
  refine ic ((p0.Pins.length : Int)) ((p0.Pins.length : Int)) rfl rfl rfl rfl ?_
  refine RL.nq ?_
  refine RC.cond_f dge ?_
  refine RC.ex ?_
  exact ⟨rfl, trivial, hw.pick 1 [0] (new := [rd v32 p0.Pins]) rfl rfl (by decide) (by decide)⟩
 ·intro hm k33 s34 fl σ w hk hI hb
  obtain ⟨ha, hw⟩ := hI
  obtain ⟨τ, rfl⟩ := ha.ups
  refine RC.sr ?_
  refine ic ((k33 : Int)) ((p0.Pins.length : Int)) rfl rfl rfl rfl ?_
  refine RL.nq ?_
  refine RC.cond_t (dlt hk) ?_
  refine RC.ss ?_
  refine RC.bs ?_
  refine mv (vi (k33 : Int)) rfl rfl ?_
  obtain ⟨x39, hx39, hb⟩ := bd hb
  refine RL.ia_rd (i := 0) trivial rfl hw rfl rfl rfl sl56 hx39 fun v40 hw => ?_
  refine RL.load_pt (i := 0) (x := x39) trivial rfl hw rfl rfl ty55 fun v41 hw => ?_
  refine RL.alloc trivial rfl hw ze55.z fun b42 w hw => ?_
  refine as_ (vi (k33 : Int)) rfl rfl ?_
  refine RL.store_raw (i := 0) (j := 1) trivial hw rfl rfl rfl rfl ty55 rfl fun w hw => ?_
  refine RL.ns ?_
  refine RL.fa_b trivial rfl rfl fa55_0 ?_
  refine RL.load_bfs (i := 0) (f := (fun x => x.Name)) trivial rfl hw rfl rfl fd_PinType_0 ty9 ?_
  refine mv (str p1) rfl rfl ?_
  refine RL.scmp (a := x39.Name) (b := p1) trivial rfl rfl rfl rfl ?_
  refine RL.nt ?_
  refine RC.cond (b := (x39.Name.eqb p1)) rfl (fun hc => ?_) (fun hc => ?_)
  rotate_left
  ·replace hb := cF hc hb
   refine RC.skip ?_
   refine blkQ_n ?_
   refine thenQ_n ?_
   refine RC.region ?_
   refine RL.inc trivial rfl hk hm rfl rfl ?_
   refine mv (vi ((k33 + 1 : Nat) : Int)) rfl rfl ?_
   refine RL.nil ?_
   obtain rfl := oi hb
   exact ⟨rfl, ⟨rfl, rfl, rfl, rfl, trivial⟩, hw.pick 4 [3] (new := [rd v32 p0.Pins]) rfl rfl (by decide) (by decide)⟩
  replace hb := cT hc hb
  refine RC.sr ?_
  refine mv (vi (k33 : Int)) rfl rfl ?_
  refine as_ (vi (k33 : Int)) rfl rfl ?_
  refine RL.nt ?_
  refine RC.rb ?_
  refine thenQ_r ?_
  obtain rfl := oi hb
  exact ⟨rfl, fin1 rfl rfl ⟨rfl, hw.drop 4 rfl⟩⟩
 ·intro r σ w e hK
  subst e
  refine thenQ_r ?_
  obtain rfl := oi hb
  exact hK
 intro s34 σ w e hJ
 subst e
 rw [Fo.cs_go] at hb
 obtain ⟨ha, hw⟩ := hJ
 obtain ⟨τ, rfl⟩ := ha.ups
 refine thenQ_n ?_
 refine RC.sr ?_
 refine as_ (vi (-1)) rfl rfl ?_
 refine RL.nt ?_
 refine RC.ret ?_
 obtain rfl := oi hb
 exact fin1 rfl rfl ⟨rfl, hw.drop 1 rfl⟩
def etchhouseref2_HasPin_R (E : World) (Γ : List HP) (res : Bool) (v : Value) (w : World) : Prop := v = (vb res) ∧ Holds E w Γ
theorem etchhouseref2_HasPin_ok (N : Nat) {E w : World} {Γ : List HP} {i0 : Nat} {v0 : Value} {p0 : (List PartType)} {i1 : Nat} {v1 : Value} {p1 : Netlist} {i2 : Nat} {v2 : Value} {p2 : Pin} {res : Bool} (hw : Holds E w Γ) (h0 : Γ[i0]? = some (rd v0 p0)) (h1 : Γ[i1]? = some (rd v1 p1)) (h2 : Γ[i2]? = some (rd v2 p2)) (hb : etchhouseref2_HasPin N p0 p1 p2 = some res) :
    Calls Tryz.prog 64 [v0, v1, v2].toArray w (Ret (etchhouseref2_HasPin_R E Γ res)) := by
 unfold etchhouseref2_HasPin at hb
 refine enter Tryz.func64 rfl rfl (Nat.le_of_ble_eq_true rfl) ?_
 have hw := hw.dup (i := i0 + 0) h0
 have hw := hw.dup (i := i1 + 1) h1
 have hw := hw.dup (i := i2 + 2) h2
 refine RC.sr ?_
 refine RL.box_rd (i := 1) (v := v1) trivial rfl hw rfl rfl fun b31 w hw => ?_
 refine RL.box_rd (i := 1) (v := v2) trivial rfl hw rfl rfl fun b32 w hw => ?_
 refine as_ (vb false) rfl rfl ?_
 refine RL.ns ?_
 refine RL.fa_b trivial rfl rfl fa26_0 ?_
 refine RL.load_bf (i := 1) (f := (fun x => x.Parts)) trivial rfl hw rfl rfl fd_Netlist_0 ty23 fun v33 hw => ?_
 refine RL.fa_b trivial rfl rfl fa43_0 ?_
 refine RL.load_bfs (i := 1) (f := (fun x => x.Part)) trivial rfl hw rfl rfl fd_Pin_0 ty9 ?_
 obtain ⟨x34, hx34, hb⟩ := bd hb
 refine RL.call trivial rfl fn89 [v33, (str p2.Part)] rfl (Calls_ret (etchhouseref2_partOf_ok N (p1 := p2.Part) (i0 := 0) hw rfl hx34) ?_)
 rintro _ w ⟨rfl, hw⟩
 refine as_ (vi x34) rfl rfl ?_
 refine RL.nq ?_
 obtain ⟨s50, hj, hb⟩ := bd hb
 refine RC.jn (fun (s50 : Bool) (σ : Nat → Value) (w : World) => agree σ [(6, (vb s50))] ∧ Holds E w ([] ++ Γ)) s50 ?_ ?_
 ·rcases Bool.eq_false_or_eq_true (decide (x34 ≥ 0)) with hg51 | hg51
  rotate_left
  ·replace hj := cF hg51 hj
   refine RC.drw mixed rfl (fun (D : Nat → Bool) (σ : Nat → Value) (w : World) => doneV D σ [(0, 13, (vi x34)), (1, 14, (vb (decide (x34 ≥ 0)))), (2, 15, (vb (decide (x34 ≥ 0)))), (3, 16, undef), (4, 17, undef), (5, 18, undef), (6, 19, undef), (7, 20, undef), (8, 21, undef), (9, 22, undef), (10, 23, undef), (11, 24, undef), (12, 25, undef), (13, 26, undef), (14, 27, undef), (15, 28, undef), (16, 29, undef), (17, 30, undef), (18, 31, (vb false)), (19, 6, (vb false))] ∧ agree σ [(0, v0), (4, (vp b31 0)), (5, (vp b32 0)), (7, (vi x34))] ∧ Holds E w ([rd v33 p1.Parts, bx 43 b32 p2, bx 26 b31 p1, rd v2 p2, rd v1 p1, rd v0 p0] ++ Γ)) ?_ ⟨?_, ?_, ?_, ?_, ?_, ?_, ?_, ?_, ?_, ?_, ?_, ?_, ?_, ?_, ?_, ?_, ?_, ?_, ?_, ?_, trivial⟩ ?_
   ·have hw := hw.drew
    exact ⟨doneV.none, ⟨rfl, rfl, rfl, rfl, trivial⟩, hw⟩
   ·rintro D σ w hD hdep hcl ⟨hv, ha, hw⟩
    obtain ⟨τ, rfl⟩ := (ac (ha.at 3 rfl) az).ups
    refine mv (vi x34) rfl rfl ?_
    refine RL.nil ?_
    exact ⟨rfl, hv.put 0 rfl rfl, ha.up rfl, hw⟩
   ·rintro D σ w hD hdep hcl ⟨hv, ha, hw⟩
    obtain ⟨τ, rfl⟩ := (ac (hv.at 0 rfl (hdep.1 rfl)) az).ups
    refine ic x34 0 rfl rfl rfl rfl ?_
    refine RL.nil ?_
    exact ⟨rfl, hv.put 1 rfl rfl, ha.up rfl, hw⟩
   ·rintro D σ w hD hdep hcl ⟨hv, ha, hw⟩
    obtain ⟨τ, rfl⟩ := (ac (hv.at 1 rfl (hdep.1 rfl)) az).ups
    refine mv (vb (decide (x34 ≥ 0))) rfl rfl ?_
    refine RL.nil ?_
    exact ⟨rfl, hv.put 2 rfl rfl, ha.up rfl, hw⟩
   ·rintro D σ w hD hdep hcl ⟨hv, ha, hw⟩
    obtain ⟨τ, rfl⟩ := (ac (hv.at 2 rfl (hdep.1 rfl)) (ac (ha.at 0 rfl) az)).ups
    refine sk rfl (.inl (cb hg51)) rfl ?_
    refine RL.nil ?_
    exact ⟨rfl, hv.put 3 rfl rfl, ha.up rfl, hw⟩
   ·rintro D σ w hD hdep hcl ⟨hv, ha, hw⟩
    obtain ⟨τ, rfl⟩ := (ac (hv.at 2 rfl (hdep.1 rfl)) (ac (ha.at 0 rfl) az)).ups
    refine sk rfl (.inl (cb hg51)) rfl ?_
    refine RL.nil ?_
    exact ⟨rfl, hv.put 4 rfl rfl, ha.up rfl, hw⟩
   ·rintro D σ w hD hdep hcl ⟨hv, ha, hw⟩
    obtain ⟨τ, rfl⟩ := (ac (hv.at 2 rfl (hdep.1 rfl)) (ac (ha.at 1 rfl) az)).ups
    refine sk rfl (.inl (cb hg51)) rfl ?_
    refine RL.nil ?_
    exact ⟨rfl, hv.put 5 rfl rfl, ha.up rfl, hw⟩
   ·rintro D σ w hD hdep hcl ⟨hv, ha, hw⟩
    obtain ⟨τ, rfl⟩ := (ac (hv.at 2 rfl (hdep.2.1 rfl)) (ac (hv.at 5 rfl (hdep.1 rfl)) az)).ups
    refine sk rfl (.inl (cb hg51)) rfl ?_
    refine RL.nil ?_
    exact ⟨rfl, hv.put 6 rfl rfl, ha.up rfl, hw⟩
   ·rintro D σ w hD hdep hcl ⟨hv, ha, hw⟩
    obtain ⟨τ, rfl⟩ := (ac (hv.at 2 rfl (hdep.1 rfl)) (ac (ha.at 3 rfl) az)).ups
    refine sk rfl (.inl (cb hg51)) rfl ?_
    refine RL.nil ?_
    exact ⟨rfl, hv.put 7 rfl rfl, ha.up rfl, hw⟩
   ·rintro D σ w hD hdep hcl ⟨hv, ha, hw⟩
    obtain ⟨τ, rfl⟩ := (ac (hv.at 2 rfl (hdep.2.2.1 rfl)) (ac (hv.at 6 rfl (hdep.1 rfl)) (ac (hv.at 7 rfl (hdep.2.1 rfl)) az))).ups
    refine sk rfl (.inl (cb hg51)) rfl ?_
    refine RL.nil ?_
    exact ⟨rfl, hv.put 8 rfl rfl, ha.up rfl, hw⟩
   ·rintro D σ w hD hdep hcl ⟨hv, ha, hw⟩
    obtain ⟨τ, rfl⟩ := (ac (hv.at 2 rfl (hdep.2.1 rfl)) (ac (hv.at 8 rfl (hdep.1 rfl)) az)).ups
    refine sk rfl (.inl (cb hg51)) rfl ?_
    refine RL.nil ?_
    exact ⟨rfl, hv.put 9 rfl rfl, ha.up rfl, hw⟩
   ·rintro D σ w hD hdep hcl ⟨hv, ha, hw⟩
    obtain ⟨τ, rfl⟩ := (ac (hv.at 2 rfl (hdep.2.1 rfl)) (ac (hv.at 9 rfl (hdep.1 rfl)) az)).ups
    refine sk rfl (.inl (cb hg51)) rfl ?_
    refine RL.nil ?_
    exact ⟨rfl, hv.put 10 rfl rfl, ha.up rfl, hw⟩
   ·rintro D σ w hD hdep hcl ⟨hv, ha, hw⟩
    obtain ⟨τ, rfl⟩ := (ac (hv.at 2 rfl (hdep.2.2.1 rfl)) (ac (hv.at 4 rfl (hdep.1 rfl)) (ac (hv.at 10 rfl (hdep.2.1 rfl)) az))).ups
    refine sk rfl (.inl (cb hg51)) rfl ?_
    refine RL.nil ?_
    exact ⟨rfl, hv.put 11 rfl rfl, ha.up rfl, hw⟩
   ·rintro D σ w hD hdep hcl ⟨hv, ha, hw⟩
    obtain ⟨τ, rfl⟩ := (ac (hv.at 2 rfl (hdep.2.2.1 rfl)) (ac (hv.at 3 rfl (hdep.1 rfl)) (ac (hv.at 11 rfl (hdep.2.1 rfl)) az))).ups
    refine sk rfl (.inl (cb hg51)) rfl ?_
    refine RL.nil ?_
    exact ⟨rfl, hv.put 12 rfl rfl, ha.up rfl, hw⟩
   ·rintro D σ w hD hdep hcl ⟨hv, ha, hw⟩
    obtain ⟨τ, rfl⟩ := (ac (hv.at 2 rfl (hdep.2.1 rfl)) (ac (hv.at 12 rfl (hdep.1 rfl)) az)).ups
    refine sk rfl (.inl (cb hg51)) rfl ?_
    refine RL.nil ?_
    exact ⟨rfl, hv.put 13 rfl rfl, ha.up rfl, hw⟩
   ·rintro D σ w hD hdep hcl ⟨hv, ha, hw⟩
    obtain ⟨τ, rfl⟩ := (ac (hv.at 2 rfl (hdep.1 rfl)) (ac (ha.at 2 rfl) az)).ups
    refine sk rfl (.inl (cb hg51)) rfl ?_
    refine RL.nil ?_
    exact ⟨rfl, hv.put 14 rfl rfl, ha.up rfl, hw⟩
   ·rintro D σ w hD hdep hcl ⟨hv, ha, hw⟩
    obtain ⟨τ, rfl⟩ := (ac (hv.at 2 rfl (hdep.2.1 rfl)) (ac (hv.at 14 rfl (hdep.1 rfl)) az)).ups
    refine sk rfl (.inl (cb hg51)) rfl ?_
    refine RL.nil ?_
    exact ⟨rfl, hv.put 15 rfl rfl, ha.up rfl, hw⟩
   ·rintro D σ w hD hdep hcl ⟨hv, ha, hw⟩
    obtain ⟨τ, rfl⟩ := (ac (hv.at 2 rfl (hdep.2.2.2.1 rfl)) (ac (hv.at 13 rfl (hdep.1 rfl)) (ac (hv.at 15 rfl (hdep.2.1 rfl)) az))).ups
    refine sk rfl (.inl (cb hg51)) rfl ?_
    refine RL.nil ?_
    exact ⟨rfl, hv.put 16 rfl rfl, ha.up rfl, hw⟩
   ·rintro D σ w hD hdep hcl ⟨hv, ha, hw⟩
    obtain ⟨τ, rfl⟩ := (ac (hv.at 2 rfl (hdep.2.1 rfl)) (ac (hv.at 16 rfl (hdep.1 rfl)) az)).ups
    refine sk rfl (.inl (cb hg51)) rfl ?_
    refine RL.nil ?_
    exact ⟨rfl, hv.put 17 rfl rfl, ha.up rfl, hw⟩
   ·rintro D σ w hD hdep hcl ⟨hv, ha, hw⟩
    obtain ⟨τ, rfl⟩ := (ac (hv.at 2 rfl (hdep.1 rfl)) (ac (hv.at 17 rfl (hdep.2.1 rfl)) az)).ups
    refine RL.pick (b := (decide (x34 ≥ 0))) (v := (vb false)) trivial rfl rfl (by rw [hg51]; rfl) ?_
    refine RL.nil ?_
    exact ⟨rfl, hv.put 18 rfl rfl, ha.up rfl, hw⟩
   ·rintro D σ w hD hdep hcl ⟨hv, ha, hw⟩
    obtain ⟨τ, rfl⟩ := (ac (hv.at 18 rfl (hdep.1 rfl)) az).ups
    refine as_ (vb false) rfl rfl ?_
    refine RL.nil ?_
    exact ⟨rfl, hv.put 19 rfl rfl, ha.up rfl, hw⟩
   rintro D σ w hall ⟨hv, ha, hw⟩
   obtain ⟨τ, rfl⟩ := (ac (hv.at 19 rfl (hall 19 (by decide))) (ac (ha.at 0 rfl) (ac (ha.at 1 rfl) (ac (ha.at 2 rfl) (ac (ha.at 3 rfl) az))))).ups
   obtain rfl := oi hj
   exact ⟨rfl, ⟨rfl, trivial⟩, hw.pick 6 [] (new := []) rfl rfl (by decide) (by decide)⟩
  replace hj := cT hg51 hj
  obtain ⟨x53, hx53, hj⟩ := bd hj
  obtain ⟨x56, hx56, hj⟩ := bd hj
  obtain ⟨x57, hx57, hj⟩ := bd hj
  obtain ⟨x60, hx60, hj⟩ := bd hj
  refine RC.drw mixed rfl (fun (D : Nat → Bool) (σ : Nat → Value) (w : World) => ∃ (v52 : Value) (v54 : Value) (v55 : Value) (v58 : Value) (v59 : Value), doneV D σ [(0, 13, (vi x34)), (1, 14, (vb (decide (x34 ≥ 0)))), (2, 15, (vb (decide (x34 ≥ 0)))), (3, 16, v0), (4, 17, v0), (5, 18, (vp b31 0)), (6, 19, v52), (7, 20, (vi x34)), (8, 21, v54), (9, 22, v55), (10, 23, (str x53.Type_)), (11, 24, (vi x56)), (12, 25, v58), (13, 26, v59), (14, 27, (vp b32 1)), (15, 28, (str p2.Pin)), (16, 29, (vi x60)), (17, 30, (vb (decide (x60 ≥ 0)))), (18, 31, (vb (decide (x60 ≥ 0)))), (19, 6, (vb (decide (x60 ≥ 0))))] ∧ agree σ [(0, v0), (4, (vp b31 0)), (5, (vp b32 0)), (7, (vi x34))] ∧ Holds E w ([bif D 6 then (rd v52 p1.Parts) else junk, bif D 8 then (pt v54 x53) else junk, bif D 9 then (pt v55 x53.Type_) else junk, bif D 12 then (pt v58 x57) else junk, bif D 13 then (rd v59 x57) else junk, rd v33 p1.Parts, bx 43 b32 p2, bx 26 b31 p1, rd v2 p2, rd v1 p1, rd v0 p0] ++ Γ)) ?_ ⟨?_, ?_, ?_, ?_, ?_, ?_, ?_, ?_, ?_, ?_, ?_, ?_, ?_, ?_, ?_, ?_, ?_, ?_, ?_, ?_, trivial⟩ ?_
  ·have hw := hw.drew
   have hw := hw.junk
   have hw := hw.junk
   have hw := hw.junk
   have hw := hw.junk
   have hw := hw.junk
   exact ⟨undef, undef, undef, undef, undef, doneV.none, ⟨rfl, rfl, rfl, rfl, trivial⟩, hw⟩
  ·rintro D σ w hD hdep hcl ⟨v52, v54, v55, v58, v59, hv, ha, hw⟩
   obtain ⟨τ, rfl⟩ := (ac (ha.at 3 rfl) az).ups
   refine mv (vi x34) rfl rfl ?_
   refine RL.nil ?_
   exact ⟨rfl, v52, v54, v55, v58, v59, hv.put 0 rfl rfl, ha.up rfl, hw⟩
  ·rintro D σ w hD hdep hcl ⟨v52, v54, v55, v58, v59, hv, ha, hw⟩
   obtain ⟨τ, rfl⟩ := (ac (hv.at 0 rfl (hdep.1 rfl)) az).ups
   refine ic x34 0 rfl rfl rfl rfl ?_
   refine RL.nil ?_
   exact ⟨rfl, v52, v54, v55, v58, v59, hv.put 1 rfl rfl, ha.up rfl, hw⟩
  ·rintro D σ w hD hdep hcl ⟨v52, v54, v55, v58, v59, hv, ha, hw⟩
   obtain ⟨τ, rfl⟩ := (ac (hv.at 1 rfl (hdep.1 rfl)) az).ups
   refine mv (vb (decide (x34 ≥ 0))) rfl rfl ?_
   refine RL.nil ?_
   exact ⟨rfl, v52, v54, v55, v58, v59, hv.put 2 rfl rfl, ha.up rfl, hw⟩
  ·rintro D σ w hD hdep hcl ⟨v52, v54, v55, v58, v59, hv, ha, hw⟩
   obtain ⟨τ, rfl⟩ := (ac (hv.at 2 rfl (hdep.1 rfl)) (ac (ha.at 0 rfl) az)).ups
   refine RL.move (v := v0) ⟨_, rfl, cb hg51⟩ rfl rfl ?_
   refine RL.nil ?_
   exact ⟨rfl, v52, v54, v55, v58, v59, hv.put 3 rfl rfl, ha.up rfl, hw⟩
  ·rintro D σ w hD hdep hcl ⟨v52, v54, v55, v58, v59, hv, ha, hw⟩
   obtain ⟨τ, rfl⟩ := (ac (hv.at 2 rfl (hdep.1 rfl)) (ac (ha.at 0 rfl) az)).ups
   refine RL.move (v := v0) ⟨_, rfl, cb hg51⟩ rfl rfl ?_
   refine RL.nil ?_
   exact ⟨rfl, v52, v54, v55, v58, v59, hv.put 4 rfl rfl, ha.up rfl, hw⟩
  ·rintro D σ w hD hdep hcl ⟨v52, v54, v55, v58, v59, hv, ha, hw⟩
   obtain ⟨τ, rfl⟩ := (ac (hv.at 2 rfl (hdep.1 rfl)) (ac (ha.at 1 rfl) az)).ups
   refine RL.fa_b ⟨_, rfl, cb hg51⟩ rfl rfl fa26_0 ?_
   refine RL.nil ?_
   exact ⟨rfl, v52, v54, v55, v58, v59, hv.put 5 rfl rfl, ha.up rfl, hw⟩
  ·rintro D σ w hD hdep hcl ⟨v52, v54, v55, v58, v59, hv, ha, hw⟩
   obtain ⟨τ, rfl⟩ := (ac (hv.at 2 rfl (hdep.2.1 rfl)) (ac (hv.at 5 rfl (hdep.1 rfl)) az)).ups
   have hw := hw.selF (i := 0) rfl hD
   refine RL.load_bf (i := 7) (f := (fun x => x.Parts)) ⟨_, rfl, cb hg51⟩ rfl hw rfl rfl fd_Netlist_0 ty23 fun v61 hw => ?_
   have hw := hw.pick 12 [0, 2, 3, 4, 5, 6, 7, 8, 9, 10, 11] (new := [rd v61 p1.Parts, bif D 8 then (pt v54 x53) else junk, bif D 9 then (pt v55 x53.Type_) else junk, bif D 12 then (pt v58 x57) else junk, bif D 13 then (rd v59 x57) else junk, rd v33 p1.Parts, bx 43 b32 p2, bx 26 b31 p1, rd v2 p2, rd v1 p1, rd v0 p0]) rfl rfl (by decide) (by decide)
   have hw := hw.altT (i := 0) (b := true) rfl rfl (junk)
   refine RL.nil ?_
   exact ⟨rfl, v61, v54, v55, v58, v59, hv.put 6 rfl rfl, ha.up rfl, hw⟩
  ·rintro D σ w hD hdep hcl ⟨v52, v54, v55, v58, v59, hv, ha, hw⟩
   obtain ⟨τ, rfl⟩ := (ac (hv.at 2 rfl (hdep.1 rfl)) (ac (ha.at 3 rfl) az)).ups
   refine RL.move (v := (vi x34)) ⟨_, rfl, cb hg51⟩ rfl rfl ?_
   refine RL.nil ?_
   exact ⟨rfl, v52, v54, v55, v58, v59, hv.put 7 rfl rfl, ha.up rfl, hw⟩
  ·rintro D σ w hD hdep hcl ⟨v52, v54, v55, v58, v59, hv, ha, hw⟩
   obtain ⟨τ, rfl⟩ := (ac (hv.at 2 rfl (hdep.2.2.1 rfl)) (ac (hv.at 6 rfl (hdep.1 rfl)) (ac (hv.at 7 rfl (hdep.2.1 rfl)) az))).ups
   have hw := hw.selT (i := 0) rfl (hdep.1 rfl)
   have hw := hw.selF (i := 1) rfl hD
   refine RL.ia_rd (i := 0) ⟨_, rfl, cb hg51⟩ rfl hw rfl rfl rfl sl23 hx53 fun v62 hw => ?_
   have hw := hw.pick 12 [1, 0, 3, 4, 5, 6, 7, 8, 9, 10, 11] (new := [rd v52 p1.Parts, pt v62 x53, bif D 9 then (pt v55 x53.Type_) else junk, bif D 12 then (pt v58 x57) else junk, bif D 13 then (rd v59 x57) else junk, rd v33 p1.Parts, bx 43 b32 p2, bx 26 b31 p1, rd v2 p2, rd v1 p1, rd v0 p0]) rfl rfl (by decide) (by decide)
   have hw := hw.altT (i := 0) (b := D 6) rfl (hdep.1 rfl) (junk)
   have hw := hw.altT (i := 1) (b := true) rfl rfl (junk)
   refine RL.nil ?_
   exact ⟨rfl, v52, v62, v55, v58, v59, hv.put 8 rfl rfl, ha.up rfl, hw⟩
  ·rintro D σ w hD hdep hcl ⟨v52, v54, v55, v58, v59, hv, ha, hw⟩
   obtain ⟨τ, rfl⟩ := (ac (hv.at 2 rfl (hdep.2.1 rfl)) (ac (hv.at 8 rfl (hdep.1 rfl)) az)).ups
   have hw := hw.selT (i := 1) rfl (hdep.1 rfl)
   have hw := hw.selF (i := 2) rfl hD
   refine RL.fa_pt (i := 1) (f := fun (x : Part) => x.Type_) ⟨_, rfl, cb hg51⟩ rfl hw rfl rfl fa48_1 fd_Part_1 fun v63 hw => ?_
   have hw := hw.pick 12 [1, 2, 0, 4, 5, 6, 7, 8, 9, 10, 11] (new := [bif D 6 then (rd v52 p1.Parts) else junk, pt v54 x53, pt v63 x53.Type_, bif D 12 then (pt v58 x57) else junk, bif D 13 then (rd v59 x57) else junk, rd v33 p1.Parts, bx 43 b32 p2, bx 26 b31 p1, rd v2 p2, rd v1 p1, rd v0 p0]) rfl rfl (by decide) (by decide)
   have hw := hw.altT (i := 1) (b := D 8) rfl (hdep.1 rfl) (junk)
   have hw := hw.altT (i := 2) (b := true) rfl rfl (junk)
   refine RL.nil ?_
   exact ⟨rfl, v52, v54, v63, v58, v59, hv.put 9 rfl rfl, ha.up rfl, hw⟩
  ·rintro D σ w hD hdep hcl ⟨v52, v54, v55, v58, v59, hv, ha, hw⟩
   obtain ⟨τ, rfl⟩ := (ac (hv.at 2 rfl (hdep.2.1 rfl)) (ac (hv.at 9 rfl (hdep.1 rfl)) az)).ups
   have hw := hw.selT (i := 2) rfl (hdep.1 rfl)
   refine RL.load_pts (i := 2) (y := x53.Type_) ⟨_, rfl, cb hg51⟩ rfl hw rfl rfl ty9 ?_
   have hw := hw.altT (i := 2) (b := D 9) rfl (hdep.1 rfl) (junk)
   refine RL.nil ?_
   exact ⟨rfl, v52, v54, v55, v58, v59, hv.put 10 rfl rfl, ha.up rfl, hw⟩
  ·rintro D σ w hD hdep hcl ⟨v52, v54, v55, v58, v59, hv, ha, hw⟩
   obtain ⟨τ, rfl⟩ := (ac (hv.at 2 rfl (hdep.2.2.1 rfl)) (ac (hv.at 4 rfl (hdep.1 rfl)) (ac (hv.at 10 rfl (hdep.2.1 rfl)) az))).ups
   refine RL.call ⟨_, rfl, cb hg51⟩ rfl fn63 [v0, (str x53.Type_)] rfl (Calls_ret (etchhouseref2_typeOf_ok N (p1 := x53.Type_) (i0 := 10) hw rfl hx56) ?_)
   rintro _ w ⟨rfl, hw⟩
   refine RL.nil ?_
   exact ⟨rfl, v52, v54, v55, v58, v59, hv.put 11 rfl rfl, ha.up rfl, hw⟩
  ·rintro D σ w hD hdep hcl ⟨v52, v54, v55, v58, v59, hv, ha, hw⟩
   obtain ⟨τ, rfl⟩ := (ac (hv.at 2 rfl (hdep.2.2.1 rfl)) (ac (hv.at 3 rfl (hdep.1 rfl)) (ac (hv.at 11 rfl (hdep.2.1 rfl)) az))).ups
   have hw := hw.selF (i := 3) rfl hD
   refine RL.ia_rd (i := 10) ⟨_, rfl, cb hg51⟩ rfl hw rfl rfl rfl sl22 hx57 fun v64 hw => ?_
   have hw := hw.pick 12 [1, 2, 3, 0, 5, 6, 7, 8, 9, 10, 11] (new := [bif D 6 then (rd v52 p1.Parts) else junk, bif D 8 then (pt v54 x53) else junk, bif D 9 then (pt v55 x53.Type_) else junk, pt v64 x57, bif D 13 then (rd v59 x57) else junk, rd v33 p1.Parts, bx 43 b32 p2, bx 26 b31 p1, rd v2 p2, rd v1 p1, rd v0 p0]) rfl rfl (by decide) (by decide)
   have hw := hw.altT (i := 3) (b := true) rfl rfl (junk)
   refine RL.nil ?_
   exact ⟨rfl, v52, v54, v55, v64, v59, hv.put 12 rfl rfl, ha.up rfl, hw⟩
  ·rintro D σ w hD hdep hcl ⟨v52, v54, v55, v58, v59, hv, ha, hw⟩
   obtain ⟨τ, rfl⟩ := (ac (hv.at 2 rfl (hdep.2.1 rfl)) (ac (hv.at 12 rfl (hdep.1 rfl)) az)).ups
   have hw := hw.selT (i := 3) rfl (hdep.1 rfl)
   have hw := hw.selF (i := 4) rfl hD
   refine RL.load_pt (i := 3) (x := x57) ⟨_, rfl, cb hg51⟩ rfl hw rfl rfl ty58 fun v65 hw => ?_
   have hw := hw.pick 12 [1, 2, 3, 4, 0, 6, 7, 8, 9, 10, 11] (new := [bif D 6 then (rd v52 p1.Parts) else junk, bif D 8 then (pt v54 x53) else junk, bif D 9 then (pt v55 x53.Type_) else junk, pt v58 x57, rd v65 x57, rd v33 p1.Parts, bx 43 b32 p2, bx 26 b31 p1, rd v2 p2, rd v1 p1, rd v0 p0]) rfl rfl (by decide) (by decide)
   have hw := hw.altT (i := 3) (b := D 12) rfl (hdep.1 rfl) (junk)
   have hw := hw.altT (i := 4) (b := true) rfl rfl (junk)
   refine RL.nil ?_
   exact ⟨rfl, v52, v54, v55, v58, v65, hv.put 13 rfl rfl, ha.up rfl, hw⟩
  ·rintro D σ w hD hdep hcl ⟨v52, v54, v55, v58, v59, hv, ha, hw⟩
   obtain ⟨τ, rfl⟩ := (ac (hv.at 2 rfl (hdep.1 rfl)) (ac (ha.at 2 rfl) az)).ups
   refine RL.fa_b ⟨_, rfl, cb hg51⟩ rfl rfl fa43_1 ?_
   refine RL.nil ?_
   exact ⟨rfl, v52, v54, v55, v58, v59, hv.put 14 rfl rfl, ha.up rfl, hw⟩
  ·rintro D σ w hD hdep hcl ⟨v52, v54, v55, v58, v59, hv, ha, hw⟩
   obtain ⟨τ, rfl⟩ := (ac (hv.at 2 rfl (hdep.2.1 rfl)) (ac (hv.at 14 rfl (hdep.1 rfl)) az)).ups
   refine RL.load_bfs (i := 6) (f := (fun x => x.Pin)) ⟨_, rfl, cb hg51⟩ rfl hw rfl rfl fd_Pin_1 ty9 ?_
   refine RL.nil ?_
   exact ⟨rfl, v52, v54, v55, v58, v59, hv.put 15 rfl rfl, ha.up rfl, hw⟩
  ·rintro D σ w hD hdep hcl ⟨v52, v54, v55, v58, v59, hv, ha, hw⟩
   obtain ⟨τ, rfl⟩ := (ac (hv.at 2 rfl (hdep.2.2.2.1 rfl)) (ac (hv.at 13 rfl (hdep.1 rfl)) (ac (hv.at 15 rfl (hdep.2.1 rfl)) az))).ups
   have hw := hw.selT (i := 4) rfl (hdep.1 rfl)
   refine RL.call ⟨_, rfl, cb hg51⟩ rfl fn90 [v59, (str p2.Pin)] rfl (Calls_ret (etchhouseref2_pinOf_ok N (p1 := p2.Pin) (i0 := 4) hw rfl hx60) ?_)
   rintro _ w ⟨rfl, hw⟩
   have hw := hw.altT (i := 4) (b := D 13) rfl (hdep.1 rfl) (junk)
   refine RL.nil ?_
   exact ⟨rfl, v52, v54, v55, v58, v59, hv.put 16 rfl rfl, ha.up rfl, hw⟩
  ·rintro D σ w hD hdep hcl ⟨v52, v54, v55, v58, v59, hv, ha, hw⟩
   obtain ⟨τ, rfl⟩ := (ac (hv.at 2 rfl (hdep.2.1 rfl)) (ac (hv.at 16 rfl (hdep.1 rfl)) az)).ups
   refine RL.icmp (a := x60) (b := 0) ⟨_, rfl, cb hg51⟩ rfl rfl rfl rfl ?_
   refine RL.nil ?_
   exact ⟨rfl, v52, v54, v55, v58, v59, hv.put 17 rfl rfl, ha.up rfl, hw⟩
  ·rintro D σ w hD hdep hcl ⟨v52, v54, v55, v58, v59, hv, ha, hw⟩
   obtain ⟨τ, rfl⟩ := (ac (hv.at 2 rfl (hdep.1 rfl)) (ac (hv.at 17 rfl (hdep.2.1 rfl)) az)).ups
   refine RL.pick (b := (decide (x34 ≥ 0))) (v := (vb (decide (x60 ≥ 0)))) trivial rfl rfl (by rw [hg51]; rfl) ?_
   refine RL.nil ?_
   exact ⟨rfl, v52, v54, v55, v58, v59, hv.put 18 rfl rfl, ha.up rfl, hw⟩
  ·rintro D σ w hD hdep hcl ⟨v52, v54, v55, v58, v59, hv, ha, hw⟩
   obtain ⟨τ, rfl⟩ := (ac (hv.at 18 rfl (hdep.1 rfl)) az).ups
   refine as_ (vb (decide (x60 ≥ 0))) rfl rfl ?_
   refine RL.nil ?_
   exact ⟨rfl, v52, v54, v55, v58, v59, hv.put 19 rfl rfl, ha.up rfl, hw⟩
  rintro D σ w hall ⟨v52, v54, v55, v58, v59, hv, ha, hw⟩
  rw [hall 6 (by decide), hall 8 (by decide), hall 9 (by decide), hall 12 (by decide), hall 13 (by decide)] at hw
  obtain ⟨τ, rfl⟩ := (ac (hv.at 19 rfl (hall 19 (by decide))) (ac (ha.at 0 rfl) (ac (ha.at 1 rfl) (ac (ha.at 2 rfl) (ac (ha.at 3 rfl) az))))).ups
  obtain rfl := oi hj
  exact ⟨rfl, ⟨rfl, trivial⟩, hw.pick 11 [] (new := []) rfl rfl (by decide) (by decide)⟩
 rintro σ w ⟨ha, hw⟩
 obtain ⟨τ, rfl⟩ := ha.ups
 refine thenQ_n ?_
 refine RC.ret ?_
 obtain rfl := oi hb
 exact fin1 rfl rfl ⟨rfl, hw.drop 0 rfl⟩
def etchhouseref2_before_R (E : World) (Γ : List HP) (res : Bool) (v : Value) (w : World) : Prop := v = (vb res) ∧ Holds E w Γ
theorem etchhouseref2_before_ok (N : Nat) {E w : World} {Γ : List HP} {i0 : Nat} {v0 : Value} {p0 : Pin} {i1 : Nat} {v1 : Value} {p1 : Pin} {res : Bool} (hw : Holds E w Γ) (h0 : Γ[i0]? = some (rd v0 p0)) (h1 : Γ[i1]? = some (rd v1 p1)) (hb : etchhouseref2_before N p0 p1 = some res) :
    Calls Tryz.prog 38 [v0, v1].toArray w (Ret (etchhouseref2_before_R E Γ res)) := by
 unfold etchhouseref2_before at hb
 refine enter Tryz.func38 rfl rfl (Nat.le_of_ble_eq_true rfl) ?_
 have hw := hw.dup (i := i0 + 0) h0
 have hw := hw.dup (i := i1 + 1) h1
 refine RC.sr ?_
 refine RL.box_rd (i := 1) (v := v0) trivial rfl hw rfl rfl fun b31 w hw => ?_
 refine RL.box_rd (i := 1) (v := v1) trivial rfl hw rfl rfl fun b32 w hw => ?_
 refine as_ (vb false) rfl rfl ?_
 refine RL.ns ?_
 refine RL.fa_b trivial rfl rfl fa43_0 ?_
 refine RL.load_bfs (i := 1) (f := (fun x => x.Part)) trivial rfl hw rfl rfl fd_Pin_0 ty9 ?_
 refine RL.fa_b trivial rfl rfl fa43_0 ?_
 refine RL.load_bfs (i := 0) (f := (fun x => x.Part)) trivial rfl hw rfl rfl fd_Pin_0 ty9 ?_
 refine RL.scmp (a := p0.Part) (b := p1.Part) trivial rfl rfl rfl rfl ?_
 refine mv (vb (p0.Part.ltb p1.Part)) rfl rfl ?_
 refine RL.gs (c := true) (b := (p0.Part.ltb p1.Part)) (v := (vp b31 0)) rfl rfl rfl (gs_fa_b rfl (fun _ => rfl) fa43_0) ?_
 refine RL.gs (c := true) (b := (p0.Part.ltb p1.Part)) (v := (str p0.Part)) rfl rfl rfl (gs_load_bfs (i := 1) (f := (fun x => x.Part)) rfl hw (fun h => by exact (cv_t h : cv (true && ((p0.Part.ltb p1.Part) == false)) (vp b31 0) = (vp b31 0))) rfl fd_Pin_0 ty9) ?_
 refine RL.gs (c := true) (b := (p0.Part.ltb p1.Part)) (v := (vp b32 0)) rfl rfl rfl (gs_fa_b rfl (fun _ => rfl) fa43_0) ?_
 refine RL.gs (c := true) (b := (p0.Part.ltb p1.Part)) (v := (str p1.Part)) rfl rfl rfl (gs_load_bfs (i := 0) (f := (fun x => x.Part)) rfl hw (fun h => by exact (cv_t h : cv (true && ((p0.Part.ltb p1.Part) == false)) (vp b32 0) = (vp b32 0))) rfl fd_Pin_0 ty9) ?_
 refine RL.gs (c := true) (b := (p0.Part.ltb p1.Part)) (v := (vb (p0.Part.eqb p1.Part))) rfl rfl rfl (gs_scmp (bop := .eql) (a := p0.Part) (b := p1.Part) rfl (fun h => by exact (cv_t h : cv (true && ((p0.Part.ltb p1.Part) == false)) (str p0.Part) = (str p0.Part))) (fun h => by exact (cv_t h : cv (true && ((p0.Part.ltb p1.Part) == false)) (str p1.Part) = (str p1.Part))) rfl) ?_
 refine RL.gs (c := true) (b := (p0.Part.ltb p1.Part)) (v := (vb (p0.Part.eqb p1.Part))) rfl rfl rfl (gs_move rfl (fun h => by exact (cv_t h : cv (true && ((p0.Part.ltb p1.Part) == false)) (vb (p0.Part.eqb p1.Part)) = (vb (p0.Part.eqb p1.Part))))) ?_
 refine RL.gs (c := (true && ((p0.Part.ltb p1.Part) == false))) (b := (p0.Part.eqb p1.Part)) (v := (vp b31 1)) rfl rfl rfl (gs_fa_b rfl (fun _ => rfl) fa43_1) ?_
 refine RL.gs (c := (true && ((p0.Part.ltb p1.Part) == false))) (b := (p0.Part.eqb p1.Part)) (v := (str p0.Pin)) rfl rfl rfl (gs_load_bfs (i := 1) (f := (fun x => x.Pin)) rfl hw (fun h => by exact (cv_t h : cv ((true && ((p0.Part.ltb p1.Part) == false)) && ((p0.Part.eqb p1.Part) == true)) (vp b31 1) = (vp b31 1))) rfl fd_Pin_1 ty9) ?_
 refine RL.gs (c := (true && ((p0.Part.ltb p1.Part) == false))) (b := (p0.Part.eqb p1.Part)) (v := (vp b32 1)) rfl rfl rfl (gs_fa_b rfl (fun _ => rfl) fa43_1) ?_
 refine RL.gs (c := (true && ((p0.Part.ltb p1.Part) == false))) (b := (p0.Part.eqb p1.Part)) (v := (str p1.Pin)) rfl rfl rfl (gs_load_bfs (i := 0) (f := (fun x => x.Pin)) rfl hw (fun h => by exact (cv_t h : cv ((true && ((p0.Part.ltb p1.Part) == false)) && ((p0.Part.eqb p1.Part) == true)) (vp b32 1) = (vp b32 1))) rfl fd_Pin_1 ty9) ?_
 refine RL.gs (c := (true && ((p0.Part.ltb p1.Part) == false))) (b := (p0.Part.eqb p1.Part)) (v := (vb (p0.Pin.ltb p1.Pin))) rfl rfl rfl (gs_scmp (bop := .lss) (a := p0.Pin) (b := p1.Pin) rfl (fun h => by exact (cv_t h : cv ((true && ((p0.Part.ltb p1.Part) == false)) && ((p0.Part.eqb p1.Part) == true)) (str p0.Pin) = (str p0.Pin))) (fun h => by exact (cv_t h : cv ((true && ((p0.Part.ltb p1.Part) == false)) && ((p0.Part.eqb p1.Part) == true)) (str p1.Pin) = (str p1.Pin))) rfl) ?_
 refine RL.gs (c := true) (b := (p0.Part.ltb p1.Part)) (v := (vb ((p0.Part.eqb p1.Part) && (p0.Pin.ltb p1.Pin)))) rfl rfl rfl (gs_pick (b := (p0.Part.eqb p1.Part)) rfl (fun h => by exact (cv_t h : cv (true && ((p0.Part.ltb p1.Part) == false)) (vb (p0.Part.eqb p1.Part)) = (vb (p0.Part.eqb p1.Part)))) (fun h => by exact pk_and (c := (true && ((p0.Part.ltb p1.Part) == false))) h)) ?_
 refine RL.pick (b := (p0.Part.ltb p1.Part)) (v := (vb ((p0.Part.ltb p1.Part) || ((p0.Part.eqb p1.Part) && (p0.Pin.ltb p1.Pin))))) trivial rfl rfl (pk_or (c := true) rfl) ?_
 refine as_ (vb ((p0.Part.ltb p1.Part) || ((p0.Part.eqb p1.Part) && (p0.Pin.ltb p1.Pin)))) rfl rfl ?_
 refine RL.nt ?_
 refine RC.ret ?_
 obtain rfl := oi hb
 exact fin1 rfl rfl ⟨rfl, hw.drop 4 rfl⟩
def slices_Index_Pin_R (E : World) (Γ : List HP) (res : Int) (v : Value) (w : World) : Prop := v = (vi res) ∧ Holds E w Γ
def slices_Index_Pin_K (E : World) (Γ : List HP) (r : Int) (σ : Nat → Value) (w : World) : Prop := finQ Tryz.prog 19 Tryz.f99 (slices_Index_Pin_R E Γ r) .ret σ w
theorem slices_Index_Pin_ok (N : Nat) {E w : World} {Γ : List HP} {i0 : Nat} {v0 : Value} {p0 : (List Pin)} {i1 : Nat} {v1 : Value} {p1 : Pin} {res : Int} (hw : Holds E w Γ) (h0 : Γ[i0]? = some (rd v0 p0)) (h1 : Γ[i1]? = some (rd v1 p1)) (hb : slices_Index_Pin N p0 p1 = some res) :
    Calls Tryz.prog 99 [v0, v1].toArray w (Ret (slices_Index_Pin_R E Γ res)) := by
 unfold slices_Index_Pin at hb
 refine enter Tryz.func99 rfl rfl (Nat.le_of_ble_eq_true rfl) ?_
 have hw := hw.dup (i := i0 + 0) h0
 have hw := hw.dup (i := i1 + 1) h1
 refine RC.sr ?_
 refine RL.box_rd (i := 0) (v := v1) trivial rfl hw rfl rfl fun b31 w hw => ?_
 refine as_ (vi 0) rfl rfl ?_
 refine RL.nq ?_
 refine RC.sr ?_
 refine mv v0 rfl rfl ?_
 refine RL.len_rd (i := 2) (l := p0) trivial rfl hw rfl rfl un35 ?_
 refine mv (vi 0) rfl rfl ?_
 refine RL.nt ?_
 obtain ⟨o48, hN, hb⟩ := bd hb
 refine RC.range (fun (k32 : Nat) (s33 : Unit) (σ : Nat → Value) (w : World) => agree σ [(0, v0), (3, (vp b31 0)), (7, (vi (p0.length : Int))), (8, (vi (k32 : Int)))] ∧ Holds E w ([rd v0 p0, bx 43 b31 p1] ++ Γ)) (fun (s33 : Unit) (σ : Nat → Value) (w : World) => agree σ [] ∧ Holds E w ([rd v0 p0, bx 43 b31 p1] ++ Γ)) (slices_Index_Pin_K E Γ) hN ?_ ?_ ?_ ?_ ?_ 
 ·exact ⟨⟨rfl, rfl, rfl, rfl, trivial⟩, hw.pick 3 [2, 0] (new := [rd v0 p0, bx 43 b31 p1]) rfl rfl (by decide) (by decide)⟩
 ·intro hm s33 σ w hI
  obtain ⟨ha, hw⟩ := hI
  obtain ⟨τ, rfl⟩ := ha.ups
  refine RC.sr ?_
  refine ic ((p0.length : Int)) ((p0.length : Int)) rfl rfl rfl rfl ?_
  refine RL.nq ?_
  refine RC.cond_f dge ?_
  refine RC.ex ?_
  exact ⟨rfl, trivial, hw.pick 2 [0, 1] (new := [rd v0 p0, bx 43 b31 p1]) rfl rfl (by decide) (by decide)⟩
 ·intro hm k32 s33 fl σ w hk hI hb
  obtain ⟨ha, hw⟩ := hI
  obtain ⟨τ, rfl⟩ := ha.ups
  refine RC.sr ?_
  refine ic ((k32 : Int)) ((p0.length : Int)) rfl rfl rfl rfl ?_
  refine RL.nq ?_
  refine RC.cond_t (dlt hk) ?_
  refine RC.ss ?_
  refine RC.bs ?_
  refine mv (vi (k32 : Int)) rfl rfl ?_
  refine as_ (vi (k32 : Int)) rfl rfl ?_
  refine RL.nq ?_
  obtain ⟨x42, hx42, hb⟩ := bd hb
  refine RC.drw mixed rfl (fun (D : Nat → Bool) (σ : Nat → Value) (w : World) => ∃ (v41 : Value) (v43 : Value) (v44 : Value), doneV D σ [(0, 11, v41), (1, 12, v0), (2, 13, (vi (k32 : Int))), (3, 14, v43), (4, 15, v44), (5, 16, (vb (decide (p1 = x42))))] ∧ agree σ [(0, v0), (3, (vp b31 0)), (5, (vi (k32 : Int))), (7, (vi (p0.length : Int))), (8, (vi (k32 : Int)))] ∧ Holds E w ([bif D 0 then (rd v41 p1) else junk, bif D 3 then (pt v43 x42) else junk, bif D 4 then (rd v44 x42) else junk, rd v0 p0, bx 43 b31 p1] ++ Γ)) ?_ ⟨?_, ?_, ?_, ?_, ?_, ?_, trivial⟩ ?_
  ·have hw := hw.drew
   have hw := hw.junk
   have hw := hw.junk
   have hw := hw.junk
   exact ⟨undef, undef, undef, doneV.none, ⟨rfl, rfl, rfl, rfl, rfl, trivial⟩, hw⟩
  ·rintro D σ w hD hdep hcl ⟨v41, v43, v44, hv, ha, hw⟩
   obtain ⟨τ, rfl⟩ := (ac (ha.at 1 rfl) az).ups
   have hw := hw.selF (i := 0) rfl hD
   refine RL.load_bf (i := 4) (f := (fun x => x)) trivial rfl hw rfl rfl Fd.self ty43 fun v45 hw => ?_
   have hw := hw.pick 6 [0, 2, 3, 4, 5] (new := [rd v45 p1, bif D 3 then (pt v43 x42) else junk, bif D 4 then (rd v44 x42) else junk, rd v0 p0, bx 43 b31 p1]) rfl rfl (by decide) (by decide)
   have hw := hw.altT (i := 0) (b := true) rfl rfl (junk)
   refine RL.nil ?_
   exact ⟨rfl, v45, v43, v44, hv.put 0 rfl rfl, ha.up rfl, hw⟩
  ·rintro D σ w hD hdep hcl ⟨v41, v43, v44, hv, ha, hw⟩
   obtain ⟨τ, rfl⟩ := (ac (ha.at 0 rfl) az).ups
   refine mv v0 rfl rfl ?_
   refine RL.nil ?_
   exact ⟨rfl, v41, v43, v44, hv.put 1 rfl rfl, ha.up rfl, hw⟩
  ·rintro D σ w hD hdep hcl ⟨v41, v43, v44, hv, ha, hw⟩
   obtain ⟨τ, rfl⟩ := (ac (ha.at 2 rfl) az).ups
   refine mv (vi (k32 : Int)) rfl rfl ?_
   refine RL.nil ?_
   exact ⟨rfl, v41, v43, v44, hv.put 2 rfl rfl, ha.up rfl, hw⟩
  ·rintro D σ w hD hdep hcl ⟨v41, v43, v44, hv, ha, hw⟩
   obtain ⟨τ, rfl⟩ := (ac (hv.at 1 rfl (hdep.1 rfl)) (ac (hv.at 2 rfl (hdep.2.1 rfl)) az)).ups
   have hw := hw.selF (i := 1) rfl hD
   refine RL.ia_rd (i := 3) trivial rfl hw rfl rfl rfl sl35 hx42 fun v46 hw => ?_
   have hw := hw.pick 6 [1, 0, 3, 4, 5] (new := [bif D 0 then (rd v41 p1) else junk, pt v46 x42, bif D 4 then (rd v44 x42) else junk, rd v0 p0, bx 43 b31 p1]) rfl rfl (by decide) (by decide)
   have hw := hw.altT (i := 1) (b := true) rfl rfl (junk)
   refine RL.nil ?_
   exact ⟨rfl, v41, v46, v44, hv.put 3 rfl rfl, ha.up rfl, hw⟩
  ·rintro D σ w hD hdep hcl ⟨v41, v43, v44, hv, ha, hw⟩
   obtain ⟨τ, rfl⟩ := (ac (hv.at 3 rfl (hdep.1 rfl)) az).ups
   have hw := hw.selT (i := 1) rfl (hdep.1 rfl)
   have hw := hw.selF (i := 2) rfl hD
   refine RL.load_pt (i := 1) (x := x42) trivial rfl hw rfl rfl ty43 fun v47 hw => ?_
   have hw := hw.pick 6 [1, 2, 0, 4, 5] (new := [bif D 0 then (rd v41 p1) else junk, pt v43 x42, rd v47 x42, rd v0 p0, bx 43 b31 p1]) rfl rfl (by decide) (by decide)
   have hw := hw.altT (i := 1) (b := D 3) rfl (hdep.1 rfl) (junk)
   have hw := hw.altT (i := 2) (b := true) rfl rfl (junk)
   refine RL.nil ?_
   exact ⟨rfl, v41, v43, v47, hv.put 4 rfl rfl, ha.up rfl, hw⟩
  ·rintro D σ w hD hdep hcl ⟨v41, v43, v44, hv, ha, hw⟩
   obtain ⟨τ, rfl⟩ := (ac (hv.at 0 rfl (hdep.1 rfl)) (ac (hv.at 4 rfl (hdep.2.1 rfl)) az)).ups
   have hw := hw.selT (i := 0) rfl (hdep.1 rfl)
   have hw := hw.selT (i := 2) rfl (hdep.2.1 rfl)
   refine RL.seq (i := 0) (j := 2) (a := p1) (b := x42) trivial rfl hw rfl rfl rfl rfl eqt43 rfl ?_
   have hw := hw.altT (i := 0) (b := D 0) rfl (hdep.1 rfl) (junk)
   have hw := hw.altT (i := 2) (b := D 4) rfl (hdep.2.1 rfl) (junk)
   refine RL.nil ?_
   exact ⟨rfl, v41, v43, v44, hv.put 5 rfl rfl, ha.up rfl, hw⟩
  rintro D σ w hall ⟨v41, v43, v44, hv, ha, hw⟩
  rw [hall 0 (by decide), hall 3 (by decide), hall 4 (by decide)] at hw
  obtain ⟨τ, rfl⟩ := (ac (hv.at 5 rfl (hall 5 (by decide))) (ac (ha.at 0 rfl) (ac (ha.at 1 rfl) (ac (ha.at 2 rfl) (ac (ha.at 3 rfl) (ac (ha.at 4 rfl) az)))))).ups
  refine thenQ_n ?_
  refine RC.cond (b := (decide (p1 = x42))) rfl (fun hc => ?_) (fun hc => ?_)
  rotate_left
  ·replace hb := cF hc hb
   refine RC.skip ?_
   refine blkQ_n ?_
   refine thenQ_n ?_
   refine RC.region ?_
   refine RL.inc trivial rfl hk hm rfl rfl ?_
   refine mv (vi ((k32 + 1 : Nat) : Int)) rfl rfl ?_
   refine RL.nil ?_
   obtain rfl := oi hb
   exact ⟨rfl, ⟨rfl, rfl, rfl, rfl, trivial⟩, hw.pick 5 [3, 4] (new := [rd v0 p0, bx 43 b31 p1]) rfl rfl (by decide) (by decide)⟩
  replace hb := cT hc hb
  refine RC.sr ?_
  refine mv (vi (k32 : Int)) rfl rfl ?_
  refine as_ (vi (k32 : Int)) rfl rfl ?_
  refine RL.nt ?_
  refine RC.rb ?_
  refine thenQ_r ?_
  obtain rfl := oi hb
  exact ⟨rfl, fin1 rfl rfl ⟨rfl, hw.drop 5 rfl⟩⟩
 ·intro r σ w e hK
  subst e
  refine thenQ_r ?_
  obtain rfl := oi hb
  exact hK
 intro s33 σ w e hJ
 subst e
 rw [Fo.cs_go] at hb
 obtain ⟨ha, hw⟩ := hJ
 obtain ⟨τ, rfl⟩ := ha.ups
 refine thenQ_n ?_
 refine RC.sr ?_
 refine as_ (vi (-1)) rfl rfl ?_
 refine RL.nt ?_
 refine RC.ret ?_
 obtain rfl := oi hb
 exact fin1 rfl rfl ⟨rfl, hw.drop 2 rfl⟩
def slices_Contains_Pin_R (E : World) (Γ : List HP) (res : Bool) (v : Value) (w : World) : Prop := v = (vb res) ∧ Holds E w Γ
theorem slices_Contains_Pin_ok (N : Nat) {E w : World} {Γ : List HP} {i0 : Nat} {v0 : Value} {p0 : (List Pin)} {i1 : Nat} {v1 : Value} {p1 : Pin} {res : Bool} (hw : Holds E w Γ) (h0 : Γ[i0]? = some (rd v0 p0)) (h1 : Γ[i1]? = some (rd v1 p1)) (hb : slices_Contains_Pin N p0 p1 = some res) :
    Calls Tryz.prog 91 [v0, v1].toArray w (Ret (slices_Contains_Pin_R E Γ res)) := by
 unfold slices_Contains_Pin at hb
 refine enter Tryz.func91 rfl rfl (Nat.le_of_ble_eq_true rfl) ?_
 have hw := hw.dup (i := i0 + 0) h0
 have hw := hw.dup (i := i1 + 1) h1
 refine RC.sr ?_
 refine RL.box_rd (i := 0) (v := v1) trivial rfl hw rfl rfl fun b31 w hw => ?_
 refine as_ (vb false) rfl rfl ?_
 refine RL.ns ?_
 refine mv v0 rfl rfl ?_
 refine RL.load_bf (i := 0) (f := (fun x => x)) trivial rfl hw rfl rfl Fd.self ty43 fun v32 hw => ?_
 obtain ⟨x33, hx33, hb⟩ := bd hb
 refine RL.call trivial rfl fn99 [v0, v32] rfl (Calls_ret (slices_Index_Pin_ok N  (i0 := 3) (i1 := 0) hw rfl rfl hx33) ?_)
 rintro _ w ⟨rfl, hw⟩
 refine ic x33 0 rfl rfl rfl rfl ?_
 refine as_ (vb (decide (x33 ≥ 0))) rfl rfl ?_
 refine RL.nt ?_
 refine RC.ret ?_
 obtain rfl := oi hb
 exact fin1 rfl rfl ⟨rfl, hw.drop 4 rfl⟩
def etchhouseref2_inNets_R (E : World) (Γ : List HP) (res : Bool) (v : Value) (w : World) : Prop := v = (vb res) ∧ Holds E w Γ
def etchhouseref2_inNets_K (E : World) (Γ : List HP) (r : Bool) (σ : Nat → Value) (w : World) : Prop := finQ Tryz.prog 18 Tryz.f65 (etchhouseref2_inNets_R E Γ r) .ret σ w
theorem etchhouseref2_inNets_ok (N : Nat) {E w : World} {Γ : List HP} {i0 : Nat} {v0 : Value} {p0 : (List Net)} {i1 : Nat} {v1 : Value} {p1 : Pin} {res : Bool} (hw : Holds E w Γ) (h0 : Γ[i0]? = some (rd v0 p0)) (h1 : Γ[i1]? = some (rd v1 p1)) (hb : etchhouseref2_inNets N p0 p1 = some res) :
    Calls Tryz.prog 65 [v0, v1].toArray w (Ret (etchhouseref2_inNets_R E Γ res)) := by
 unfold etchhouseref2_inNets at hb
 refine enter Tryz.func65 rfl rfl (Nat.le_of_ble_eq_true rfl) ?_
 have hw := hw.dup (i := i0 + 0) h0
 have hw := hw.dup (i := i1 + 1) h1
 refine RC.sr ?_
 refine RL.box_rd (i := 0) (v := v1) trivial rfl hw rfl rfl fun b31 w hw => ?_
 refine as_ (vb false) rfl rfl ?_
 refine RL.nq ?_
 refine RC.sr ?_
 refine mv v0 rfl rfl ?_
 refine RL.len_rd (i := 2) (l := p0) trivial rfl hw rfl rfl un24 ?_
 refine mv (vi 0) rfl rfl ?_
 refine RL.nt ?_
 obtain ⟨o48, hN, hb⟩ := bd hb
 refine RC.range (fun (k32 : Nat) (s33 : Unit) (σ : Nat → Value) (w : World) => agree σ [(3, (vp b31 0)), (7, v0), (8, (vi (p0.length : Int))), (9, (vi (k32 : Int)))] ∧ Holds E w ([bx 43 b31 p1, rd v0 p0] ++ Γ)) (fun (s33 : Unit) (σ : Nat → Value) (w : World) => agree σ [] ∧ Holds E w ([bx 43 b31 p1, rd v0 p0] ++ Γ)) (etchhouseref2_inNets_K E Γ) hN ?_ ?_ ?_ ?_ ?_ 
 ·exact ⟨⟨rfl, rfl, rfl, rfl, trivial⟩, hw.pick 3 [0, 2] (new := [bx 43 b31 p1, rd v0 p0]) rfl rfl (by decide) (by decide)⟩
 ·intro hm s33 σ w hI
  obtain ⟨ha, hw⟩ := hI
  obtain ⟨τ, rfl⟩ := ha.ups
  refine RC.sr ?_
  refine ic ((p0.length : Int)) ((p0.length : Int)) rfl rfl rfl rfl ?_
  refine RL.nq ?_
  refine RC.cond_f dge ?_
  refine RC.ex ?_
  exact ⟨rfl, trivial, hw.pick 2 [0, 1] (new := [bx 43 b31 p1, rd v0 p0]) rfl rfl (by decide) (by decide)⟩
 ·intro hm k32 s33 fl σ w hk hI hb
  obtain ⟨ha, hw⟩ := hI
  obtain ⟨τ, rfl⟩ := ha.ups
  refine RC.sr ?_
  refine ic ((k32 : Int)) ((p0.length : Int)) rfl rfl rfl rfl ?_
  refine RL.nq ?_
  refine RC.cond_t (dlt hk) ?_
  refine RC.ss ?_
  refine RC.bs ?_
  obtain ⟨x41, hx41, hb⟩ := bd hb
  refine RL.ia_rd (i := 1) trivial rfl hw rfl rfl rfl sl24 hx41 fun v42 hw => ?_
  refine RL.load_pt (i := 0) (x := x41) trivial rfl hw rfl rfl ty38 fun v43 hw => ?_
  refine RL.alloc trivial rfl hw ze38.z fun b44 w hw => ?_
  refine RL.store_raw (i := 0) (j := 1) trivial hw rfl rfl rfl rfl ty38 rfl fun w hw => ?_
  refine RL.ns ?_
  refine RL.fa_b trivial rfl rfl fa38_1 ?_
  refine RL.load_bf (i := 0) (f := (fun x => x.Pins)) trivial rfl hw rfl rfl fd_Net_1 ty35 fun v45 hw => ?_
  refine RL.load_bf (i := 4) (f := (fun x => x)) trivial rfl hw rfl rfl Fd.self ty43 fun v46 hw => ?_
  obtain ⟨x47, hx47, hb⟩ := bd hb
  refine RL.call trivial rfl fn91 [v45, v46] rfl (Calls_ret (slices_Contains_Pin_ok N  (i0 := 1) (i1 := 0) hw rfl rfl hx47) ?_)
  rintro _ w ⟨rfl, hw⟩
  refine RL.nt ?_
  refine RC.cond (b := x47) rfl (fun hc => ?_) (fun hc => ?_)
  rotate_left
  ·replace hb := cF hc hb
   refine RC.skip ?_
   refine blkQ_n ?_
   refine thenQ_n ?_
   refine RC.region ?_
   refine RL.inc trivial rfl hk hm rfl rfl ?_
   refine mv (vi ((k32 + 1 : Nat) : Int)) rfl rfl ?_
   refine RL.nil ?_
   obtain rfl := oi hb
   exact ⟨rfl, ⟨rfl, rfl, rfl, rfl, trivial⟩, hw.pick 7 [5, 6] (new := [bx 43 b31 p1, rd v0 p0]) rfl rfl (by decide) (by decide)⟩
  replace hb := cT hc hb
  refine RC.sr ?_
  refine as_ (vb true) rfl rfl ?_
  refine RL.nt ?_
  refine RC.rb ?_
  refine thenQ_r ?_
  obtain rfl := oi hb
  exact ⟨rfl, fin1 rfl rfl ⟨rfl, hw.drop 7 rfl⟩⟩
 ·intro r σ w e hK
  subst e
  refine thenQ_r ?_
  obtain rfl := oi hb
  exact hK
 intro s33 σ w e hJ
 subst e
 rw [Fo.cs_go] at hb
 obtain ⟨ha, hw⟩ := hJ
 obtain ⟨τ, rfl⟩ := ha.ups
 refine thenQ_n ?_
 refine RC.sr ?_
 refine as_ (vb false) rfl rfl ?_
 refine RL.nt ?_
 refine RC.ret ?_
 obtain rfl := oi hb
 exact fin1 rfl rfl ⟨rfl, hw.drop 2 rfl⟩
end Go.Gk
