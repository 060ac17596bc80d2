/-
  Printed by gen.py: Go functions as plain functions, and that they are.
-/
import Derived.Test.YtnjoaggeheokeaaDoorT
import Derived.Test.YtnjoaggeheokeaaDoorF11
import Derived.Test.YtnjoaggeheokeaaDoorF20
import Derived.Test.YtnjoaggeheokeaaDoorF21
set_option linter.unusedVariables false
set_option linter.unusedSimpArgs false
set_option linter.unusedSectionVars false
set_option maxRecDepth 100000
set_option maxHeartbeats 4000000

namespace Go.Gk
open Go Go.Proofs
def etchhouseref2_Same_R (E : World) (Γ : List HP) (res : Bool) (v : Value) (w : World) : Prop := v = (vb res) ∧ Holds E w Γ
def etchhouseref2_Same_K (E : World) (Γ : List HP) (r : Bool) (σ : Nat → Value) (w : World) : Prop := finQ Tryd.prog 64 Tryd.f24 (etchhouseref2_Same_R E Γ r) .ret σ w
theorem etchhouseref2_Same_ok (N : Nat) {E w : World} {Γ : List HP} {i0 : Nat} {v0 : Value} {p0 : Netlist} {i1 : Nat} {v1 : Value} {p1 : Netlist} {res : Bool} (hw : Holds E w Γ) (h0 : Γ[i0]? = some (rd v0 p0)) (h1 : Γ[i1]? = some (rd v1 p1)) (hb : etchhouseref2_Same N p0 p1 = some res) :
    Calls Tryd.prog 24 [v0, v1].toArray w (Ret (etchhouseref2_Same_R E Γ res)) := by
 unfold etchhouseref2_Same at hb
 refine enter Tryd.func24 rfl rfl (Nat.le_of_ble_eq_true rfl) ?_
 have hw := hw.dup (i := i0 + 0) h0
 have hw := hw.dup (i := i1 + 1) h1
 refine RC.sr ?_
 refine RL.box_rd (i := 1) (v := v0) trivial rfl hw rfl rfl fun b31 w hw => ?_
 refine RL.box_rd (i := 1) (v := v1) trivial rfl hw rfl rfl fun b32 w hw => ?_
 refine as_ (vb false) rfl rfl ?_
 refine RL.nq ?_
 refine RC.seq ?_
 obtain ⟨s42, hj, hb⟩ := bd hb
 refine RC.jn (fun (s42 : Bool) (σ : Nat → Value) (w : World) => agree σ [(2, (vp b31 0)), (3, (vp b32 0)), (21, (vb s42))] ∧ Holds E w ([bx 26 b31 p0, bx 26 b32 p1] ++ Γ)) s42 ?_ ?_
 ·refine RC.region ?_
  refine RL.fa_b trivial rfl rfl fa26_0 ?_
  refine RL.load_bf (i := 1) (f := (fun x => x.Parts)) trivial rfl hw rfl rfl fd_Netlist_0 ty23 fun v43 hw => ?_
  refine RL.fa_b trivial rfl rfl fa26_0 ?_
  refine RL.load_bf (i := 1) (f := (fun x => x.Parts)) trivial rfl hw rfl rfl fd_Netlist_0 ty23 fun v44 hw => ?_
  obtain ⟨x45, hx45, hj⟩ := bd hj
  refine RL.call trivial rfl fn63 [v43, v44] rfl (Calls_ret (slices_Equal_Part_ok N  (i0 := 1) (i1 := 0) hw rfl rfl hx45) ?_)
  rintro _ w ⟨rfl, hw⟩
  refine RL.not (b := x45) trivial rfl rfl ?_
  refine mv (vb (!x45)) rfl rfl ?_
  rcases Bool.eq_false_or_eq_true (!x45) with hg46 | hg46
  ·replace hj := cT hg46 hj
   refine sk rfl (.inl (cb hg46)) rfl ?_
   refine sk rfl (.inl (cb hg46)) rfl ?_
   refine sk rfl (.inl (cb hg46)) rfl ?_
   refine sk rfl (.inl (cb hg46)) rfl ?_
   refine sk rfl (.inl (cb hg46)) rfl ?_
   refine sk rfl (.inl (cb hg46)) rfl ?_
   refine sk rfl (.inl (cb hg46)) rfl ?_
   refine RL.pick (b := (!x45)) (v := (vb true)) trivial rfl rfl (by rw [hg46]; rfl) ?_
   refine RL.nil ?_
   obtain rfl := oi hj
   exact ⟨rfl, ⟨rfl, rfl, rfl, trivial⟩, hw.pick 6 [3, 2] (new := [bx 26 b31 p0, bx 26 b32 p1]) rfl rfl (by decide) (by decide)⟩
  replace hj := cF hg46 hj
  refine RL.fa_b ⟨_, rfl, cb hg46⟩ rfl rfl fa26_1 ?_
  refine RL.load_bf (i := 3) (f := (fun x => x.Nets)) ⟨_, rfl, cb hg46⟩ rfl hw rfl rfl fd_Netlist_1 ty24 fun v47 hw => ?_
  refine RL.len_rd (i := 0) (l := p0.Nets) ⟨_, rfl, cb hg46⟩ rfl hw rfl rfl un24 ?_
  refine RL.fa_b ⟨_, rfl, cb hg46⟩ rfl rfl fa26_1 ?_
  refine RL.load_bf (i := 3) (f := (fun x => x.Nets)) ⟨_, rfl, cb hg46⟩ rfl hw rfl rfl fd_Netlist_1 ty24 fun v48 hw => ?_
  refine RL.len_rd (i := 0) (l := p1.Nets) ⟨_, rfl, cb hg46⟩ rfl hw rfl rfl un24 ?_
  refine RL.icmp (a := (p0.Nets.length : Int)) (b := (p1.Nets.length : Int)) ⟨_, rfl, cb hg46⟩ rfl rfl rfl rfl ?_
  refine RL.pick (b := (!x45)) (v := (vb ((p0.Nets.length : Int) != (p1.Nets.length : Int)))) trivial rfl rfl (by rw [hg46]; rfl) ?_
  refine RL.nil ?_
  obtain rfl := oi hj
  exact ⟨rfl, ⟨rfl, rfl, rfl, trivial⟩, hw.pick 8 [5, 4] (new := [bx 26 b31 p0, bx 26 b32 p1]) rfl rfl (by decide) (by decide)⟩
 rintro σ w ⟨ha, hw⟩
 obtain ⟨τ, rfl⟩ := ha.ups
 refine thenQ_n ?_
 refine RC.cond (b := s42) rfl (fun hc => ?_) (fun hc => ?_)
 ·replace hb := cT hc hb
  refine RC.sr ?_
  refine as_ (vb false) rfl rfl ?_
  refine RL.nt ?_
  refine RC.rt ?_
  obtain rfl := oi hb
  exact fin1 rfl rfl ⟨rfl, hw.drop 2 rfl⟩
 replace hb := cF hc hb
 refine RC.ss ?_
 refine RC.sr ?_
 refine RL.fa_b trivial rfl rfl fa26_1 ?_
 refine RL.load_bf (i := 0) (f := (fun x => x.Nets)) trivial rfl hw rfl rfl fd_Netlist_1 ty24 fun v49 hw => ?_
 refine RL.len_rd (i := 0) (l := p0.Nets) trivial rfl hw rfl rfl un24 ?_
 refine mv (vi 0) rfl rfl ?_
 refine RL.nt ?_
 obtain ⟨o276, hN, hb⟩ := bd hb
 refine RC.range (fun (k50 : Nat) (s51 : Unit) (σ : Nat → Value) (w : World) => agree σ [(3, (vp b32 0)), (23, v49), (24, (vi (p0.Nets.length : Int))), (25, (vi (k50 : Int)))] ∧ Holds E w ([bx 26 b32 p1, rd v49 p0.Nets] ++ Γ)) (fun (s51 : Unit) (σ : Nat → Value) (w : World) => agree σ [] ∧ Holds E w ([bx 26 b32 p1, rd v49 p0.Nets] ++ Γ)) (etchhouseref2_Same_K E Γ) hN ?_ ?_ ?_ ?_ ?_ 
 ·exact ⟨⟨rfl, rfl, rfl, rfl, trivial⟩, hw.pick 3 [2, 0] (new := [bx 26 b32 p1, rd v49 p0.Nets]) rfl rfl (by decide) (by decide)⟩
 ·intro hm s51 σ w hI
  obtain ⟨ha, hw⟩ := hI
  obtain ⟨τ, rfl⟩ := ha.ups
  refine RC.sr ?_
  refine ic ((p0.Nets.length : Int)) ((p0.Nets.length : Int)) rfl rfl rfl rfl ?_
  refine RL.nq ?_
  refine RC.cond_f dge ?_
  refine RC.ex ?_
  exact ⟨rfl, trivial, hw.pick 2 [0, 1] (new := [bx 26 b32 p1, rd v49 p0.Nets]) rfl rfl (by decide) (by decide)⟩
 ·intro hm k50 s51 fl σ w hk hI hb
  obtain ⟨ha, hw⟩ := hI
  obtain ⟨τ, rfl⟩ := ha.ups
  refine RC.sr ?_
  refine ic ((k50 : Int)) ((p0.Nets.length : Int)) rfl rfl rfl rfl ?_
  refine RL.nq ?_
  refine RC.cond_t (dlt hk) ?_
  refine RC.ss ?_
  refine RC.bs ?_
  refine mv (vi (k50 : Int)) rfl rfl ?_
  obtain ⟨x164, hx164, hb⟩ := bd hb
  refine RL.ia_rd (i := 1) trivial rfl hw rfl rfl rfl sl24 hx164 fun v165 hw => ?_
  refine RL.load_pt (i := 0) (x := x164) trivial rfl hw rfl rfl ty64 fun v166 hw => ?_
  refine RL.alloc trivial rfl hw ze64.z fun b167 w hw => ?_
  refine as_ (vi (k50 : Int)) rfl rfl ?_
  refine RL.store_raw (i := 0) (j := 1) trivial hw rfl rfl rfl rfl ty64 rfl fun w hw => ?_
  refine RL.nq ?_
  obtain ⟨s231, hj, hb⟩ := bd hb
  refine RC.jn (fun (s231 : Bool) (σ : Nat → Value) (w : World) => agree σ [(3, (vp b32 0)), (23, v49), (24, (vi (p0.Nets.length : Int))), (25, (vi (k50 : Int))), (62, (vb s231))] ∧ Holds E w ([bx 26 b32 p1, rd v49 p0.Nets] ++ Γ)) s231 ?_ ?_
  ·obtain ⟨x233, hx233, hj⟩ := bd hj
   rcases Bool.eq_false_or_eq_true (!x164.Name.eqb x233.Name) with hg236 | hg236
   ·replace hj := cT hg236 hj
    refine RC.drw mixed rfl (fun (D : Nat → Bool) (σ : Nat → Value) (w : World) => ∃ (v232 : Value) (v234 : Value) (v235 : Value), doneV D σ [(0, 30, (vp b167 0)), (1, 31, (str x164.Name)), (2, 32, (vp b32 1)), (3, 33, v232), (4, 34, (vi (k50 : Int))), (5, 35, v234), (6, 36, v235), (7, 37, (str x233.Name)), (8, 38, (vb (!x164.Name.eqb x233.Name))), (9, 39, (vb (!x164.Name.eqb x233.Name))), (10, 40, undef), (11, 41, undef), (12, 42, undef), (13, 43, undef), (14, 44, undef), (15, 45, undef), (16, 46, undef), (17, 47, undef), (18, 48, undef), (19, 49, undef), (20, 50, (vb true)), (21, 51, (vb true)), (22, 52, undef), (23, 53, undef), (24, 54, undef), (25, 55, undef), (26, 56, undef), (27, 57, undef), (28, 58, undef), (29, 59, undef), (30, 60, undef), (31, 61, undef), (32, 62, (vb true))] ∧ agree σ [(3, (vp b32 0)), (5, (vi (k50 : Int))), (6, (vp b167 0)), (23, v49), (24, (vi (p0.Nets.length : Int))), (25, (vi (k50 : Int)))] ∧ Holds E w ([bif D 3 then (rd v232 p1.Nets) else junk, bif D 5 then (pt v234 x233) else junk, bif D 6 then (pt v235 x233.Name) else junk, bx 64 b167 x164, rd v166 x164, pt v165 x164, bx 26 b32 p1, rd v49 p0.Nets] ++ Γ)) ?_ ⟨?_, ?_, ?_, ?_, ?_, ?_, ?_, ?_, ?_, ?_, ?_, ?_, ?_, ?_, ?_, ?_, ?_, ?_, ?_, ?_, ?_, ?_, ?_, ?_, ?_, ?_, ?_, ?_, ?_, ?_, ?_, ?_, ?_, trivial⟩ ?_
    ·have hw := hw.drew
     have hw := hw.junk
     have hw := hw.junk
     have hw := hw.junk
     exact ⟨undef, undef, undef, doneV.none, ⟨rfl, rfl, rfl, rfl, rfl, rfl, trivial⟩, hw⟩
    ·rintro D σ w hD hdep hcl ⟨v232, v234, v235, hv, ha, hw⟩
     obtain ⟨τ, rfl⟩ := (ac (ha.at 2 rfl) az).ups
     refine RL.fa_b trivial rfl rfl fa64_0 ?_
     refine RL.nil ?_
     exact ⟨rfl, v232, v234, v235, hv.put 0 rfl rfl, ha.up rfl, hw⟩
    ·rintro D σ w hD hdep hcl ⟨v232, v234, v235, hv, ha, hw⟩
     obtain ⟨τ, rfl⟩ := (ac (hv.at 0 rfl (hdep.1 rfl)) az).ups
     refine RL.load_bfs (i := 3) (f := (fun x => x.Name)) trivial rfl hw rfl rfl fd_Net_0 ty9 ?_
     refine RL.nil ?_
     exact ⟨rfl, v232, v234, v235, hv.put 1 rfl rfl, ha.up rfl, hw⟩
    ·rintro D σ w hD hdep hcl ⟨v232, v234, v235, hv, ha, hw⟩
     obtain ⟨τ, rfl⟩ := (ac (ha.at 0 rfl) az).ups
     refine RL.fa_b trivial rfl rfl fa26_1 ?_
     refine RL.nil ?_
     exact ⟨rfl, v232, v234, v235, hv.put 2 rfl rfl, ha.up rfl, hw⟩
    ·rintro D σ w hD hdep hcl ⟨v232, v234, v235, hv, ha, hw⟩
     obtain ⟨τ, rfl⟩ := (ac (hv.at 2 rfl (hdep.1 rfl)) az).ups
     have hw := hw.selF (i := 0) rfl hD
     refine RL.load_bf (i := 6) (f := (fun x => x.Nets)) trivial rfl hw rfl rfl fd_Netlist_1 ty24 fun v237 hw => ?_
     have hw := hw.pick 9 [0, 2, 3, 4, 5, 6, 7, 8] (new := [rd v237 p1.Nets, bif D 5 then (pt v234 x233) else junk, bif D 6 then (pt v235 x233.Name) else junk, bx 64 b167 x164, rd v166 x164, pt v165 x164, bx 26 b32 p1, rd v49 p0.Nets]) rfl rfl (by decide) (by decide)
     have hw := hw.altT (i := 0) (b := true) rfl rfl (junk)
     refine RL.nil ?_
     exact ⟨rfl, v237, v234, v235, hv.put 3 rfl rfl, ha.up rfl, hw⟩
    ·rintro D σ w hD hdep hcl ⟨v232, v234, v235, hv, ha, hw⟩
     obtain ⟨τ, rfl⟩ := (ac (ha.at 1 rfl) az).ups
     refine mv (vi (k50 : Int)) rfl rfl ?_
     refine RL.nil ?_
     exact ⟨rfl, v232, v234, v235, hv.put 4 rfl rfl, ha.up rfl, hw⟩
    ·rintro D σ w hD hdep hcl ⟨v232, v234, v235, hv, ha, hw⟩
     obtain ⟨τ, rfl⟩ := (ac (hv.at 3 rfl (hdep.1 rfl)) (ac (hv.at 4 rfl (hdep.2.1 rfl)) az)).ups
     have hw := hw.selT (i := 0) rfl (hdep.1 rfl)
     have hw := hw.selF (i := 1) rfl hD
     refine RL.ia_rd (i := 0) trivial rfl hw rfl rfl rfl sl24 hx233 fun v238 hw => ?_
     have hw := hw.pick 9 [1, 0, 3, 4, 5, 6, 7, 8] (new := [rd v232 p1.Nets, pt v238 x233, bif D 6 then (pt v235 x233.Name) else junk, bx 64 b167 x164, rd v166 x164, pt v165 x164, bx 26 b32 p1, rd v49 p0.Nets]) rfl rfl (by decide) (by decide)
     have hw := hw.altT (i := 0) (b := D 3) rfl (hdep.1 rfl) (junk)
     have hw := hw.altT (i := 1) (b := true) rfl rfl (junk)
     refine RL.nil ?_
     exact ⟨rfl, v232, v238, v235, hv.put 5 rfl rfl, ha.up rfl, hw⟩
    ·rintro D σ w hD hdep hcl ⟨v232, v234, v235, hv, ha, hw⟩
     obtain ⟨τ, rfl⟩ := (ac (hv.at 5 rfl (hdep.1 rfl)) az).ups
     have hw := hw.selT (i := 1) rfl (hdep.1 rfl)
     have hw := hw.selF (i := 2) rfl hD
     refine RL.fa_pt (i := 1) (f := fun (x : Net) => x.Name) trivial rfl hw rfl rfl fa64_0 fd_Net_0 fun v239 hw => ?_
     have hw := hw.pick 9 [1, 2, 0, 4, 5, 6, 7, 8] (new := [bif D 3 then (rd v232 p1.Nets) else junk, pt v234 x233, pt v239 x233.Name, bx 64 b167 x164, rd v166 x164, pt v165 x164, bx 26 b32 p1, rd v49 p0.Nets]) rfl rfl (by decide) (by decide)
     have hw := hw.altT (i := 1) (b := D 5) rfl (hdep.1 rfl) (junk)
     have hw := hw.altT (i := 2) (b := true) rfl rfl (junk)
     refine RL.nil ?_
     exact ⟨rfl, v232, v234, v239, hv.put 6 rfl rfl, ha.up rfl, hw⟩
    ·rintro D σ w hD hdep hcl ⟨v232, v234, v235, hv, ha, hw⟩
     obtain ⟨τ, rfl⟩ := (ac (hv.at 6 rfl (hdep.1 rfl)) az).ups
     have hw := hw.selT (i := 2) rfl (hdep.1 rfl)
     refine RL.load_pts (i := 2) (y := x233.Name) trivial rfl hw rfl rfl ty9 ?_
     have hw := hw.altT (i := 2) (b := D 6) rfl (hdep.1 rfl) (junk)
     refine RL.nil ?_
     exact ⟨rfl, v232, v234, v235, hv.put 7 rfl rfl, ha.up rfl, hw⟩
    ·rintro D σ w hD hdep hcl ⟨v232, v234, v235, hv, ha, hw⟩
     obtain ⟨τ, rfl⟩ := (ac (hv.at 1 rfl (hdep.1 rfl)) (ac (hv.at 7 rfl (hdep.2.1 rfl)) az)).ups
     refine RL.scmp (a := x164.Name) (b := x233.Name) trivial rfl rfl rfl rfl ?_
     refine RL.nil ?_
     exact ⟨rfl, v232, v234, v235, hv.put 8 rfl rfl, ha.up rfl, hw⟩
    ·rintro D σ w hD hdep hcl ⟨v232, v234, v235, hv, ha, hw⟩
     obtain ⟨τ, rfl⟩ := (ac (hv.at 8 rfl (hdep.1 rfl)) az).ups
     refine mv (vb (!x164.Name.eqb x233.Name)) rfl rfl ?_
     refine RL.nil ?_
     exact ⟨rfl, v232, v234, v235, hv.put 9 rfl rfl, ha.up rfl, hw⟩
    ·rintro D σ w hD hdep hcl ⟨v232, v234, v235, hv, ha, hw⟩
     obtain ⟨τ, rfl⟩ := (ac (hv.at 9 rfl (hdep.1 rfl)) (ac (ha.at 2 rfl) az)).ups
     refine sk rfl (.inl (cb hg236)) rfl ?_
     refine RL.nil ?_
     exact ⟨rfl, v232, v234, v235, hv.put 10 rfl rfl, ha.up rfl, hw⟩
    ·rintro D σ w hD hdep hcl ⟨v232, v234, v235, hv, ha, hw⟩
     obtain ⟨τ, rfl⟩ := (ac (hv.at 9 rfl (hdep.2.1 rfl)) (ac (hv.at 10 rfl (hdep.1 rfl)) az)).ups
     refine sk rfl (.inl (cb hg236)) rfl ?_
     refine RL.nil ?_
     exact ⟨rfl, v232, v234, v235, hv.put 11 rfl rfl, ha.up rfl, hw⟩
    ·rintro D σ w hD hdep hcl ⟨v232, v234, v235, hv, ha, hw⟩
     obtain ⟨τ, rfl⟩ := (ac (hv.at 9 rfl (hdep.1 rfl)) (ac (ha.at 0 rfl) az)).ups
     refine sk rfl (.inl (cb hg236)) rfl ?_
     refine RL.nil ?_
     exact ⟨rfl, v232, v234, v235, hv.put 12 rfl rfl, ha.up rfl, hw⟩
    ·rintro D σ w hD hdep hcl ⟨v232, v234, v235, hv, ha, hw⟩
     obtain ⟨τ, rfl⟩ := (ac (hv.at 9 rfl (hdep.2.1 rfl)) (ac (hv.at 12 rfl (hdep.1 rfl)) az)).ups
     refine sk rfl (.inl (cb hg236)) rfl ?_
     refine RL.nil ?_
     exact ⟨rfl, v232, v234, v235, hv.put 13 rfl rfl, ha.up rfl, hw⟩
    ·rintro D σ w hD hdep hcl ⟨v232, v234, v235, hv, ha, hw⟩
     obtain ⟨τ, rfl⟩ := (ac (hv.at 9 rfl (hdep.1 rfl)) (ac (ha.at 1 rfl) az)).ups
     refine sk rfl (.inl (cb hg236)) rfl ?_
     refine RL.nil ?_
     exact ⟨rfl, v232, v234, v235, hv.put 14 rfl rfl, ha.up rfl, hw⟩
    ·rintro D σ w hD hdep hcl ⟨v232, v234, v235, hv, ha, hw⟩
     obtain ⟨τ, rfl⟩ := (ac (hv.at 9 rfl (hdep.2.2.1 rfl)) (ac (hv.at 13 rfl (hdep.1 rfl)) (ac (hv.at 14 rfl (hdep.2.1 rfl)) az))).ups
     refine sk rfl (.inl (cb hg236)) rfl ?_
     refine RL.nil ?_
     exact ⟨rfl, v232, v234, v235, hv.put 15 rfl rfl, ha.up rfl, hw⟩
    ·rintro D σ w hD hdep hcl ⟨v232, v234, v235, hv, ha, hw⟩
     obtain ⟨τ, rfl⟩ := (ac (hv.at 9 rfl (hdep.2.1 rfl)) (ac (hv.at 15 rfl (hdep.1 rfl)) az)).ups
     refine sk rfl (.inl (cb hg236)) rfl ?_
     refine RL.nil ?_
     exact ⟨rfl, v232, v234, v235, hv.put 16 rfl rfl, ha.up rfl, hw⟩
    ·rintro D σ w hD hdep hcl ⟨v232, v234, v235, hv, ha, hw⟩
     obtain ⟨τ, rfl⟩ := (ac (hv.at 9 rfl (hdep.2.1 rfl)) (ac (hv.at 16 rfl (hdep.1 rfl)) az)).ups
     refine sk rfl (.inl (cb hg236)) rfl ?_
     refine RL.nil ?_
     exact ⟨rfl, v232, v234, v235, hv.put 17 rfl rfl, ha.up rfl, hw⟩
    ·rintro D σ w hD hdep hcl ⟨v232, v234, v235, hv, ha, hw⟩
     obtain ⟨τ, rfl⟩ := (ac (hv.at 9 rfl (hdep.2.2.1 rfl)) (ac (hv.at 11 rfl (hdep.1 rfl)) (ac (hv.at 17 rfl (hdep.2.1 rfl)) az))).ups
     refine sk rfl (.inl (cb hg236)) rfl ?_
     refine RL.nil ?_
     exact ⟨rfl, v232, v234, v235, hv.put 18 rfl rfl, ha.up rfl, hw⟩
    ·rintro D σ w hD hdep hcl ⟨v232, v234, v235, hv, ha, hw⟩
     obtain ⟨τ, rfl⟩ := (ac (hv.at 9 rfl (hdep.2.1 rfl)) (ac (hv.at 18 rfl (hdep.1 rfl)) az)).ups
     refine sk rfl (.inl (cb hg236)) rfl ?_
     refine RL.nil ?_
     exact ⟨rfl, v232, v234, v235, hv.put 19 rfl rfl, ha.up rfl, hw⟩
    ·rintro D σ w hD hdep hcl ⟨v232, v234, v235, hv, ha, hw⟩
     obtain ⟨τ, rfl⟩ := (ac (hv.at 9 rfl (hdep.1 rfl)) (ac (hv.at 19 rfl (hdep.2.1 rfl)) az)).ups
     refine RL.pick (b := (!x164.Name.eqb x233.Name)) (v := (vb true)) trivial rfl rfl (by rw [hg236]; rfl) ?_
     refine RL.nil ?_
     exact ⟨rfl, v232, v234, v235, hv.put 20 rfl rfl, ha.up rfl, hw⟩
    ·rintro D σ w hD hdep hcl ⟨v232, v234, v235, hv, ha, hw⟩
     obtain ⟨τ, rfl⟩ := (ac (hv.at 20 rfl (hdep.1 rfl)) az).ups
     refine mv (vb true) rfl rfl ?_
     refine RL.nil ?_
     exact ⟨rfl, v232, v234, v235, hv.put 21 rfl rfl, ha.up rfl, hw⟩
    ·rintro D σ w hD hdep hcl ⟨v232, v234, v235, hv, ha, hw⟩
     obtain ⟨τ, rfl⟩ := (ac (hv.at 21 rfl (hdep.1 rfl)) (ac (ha.at 2 rfl) az)).ups
     refine sk rfl (.inl rfl) rfl ?_
     refine RL.nil ?_
     exact ⟨rfl, v232, v234, v235, hv.put 22 rfl rfl, ha.up rfl, hw⟩
    ·rintro D σ w hD hdep hcl ⟨v232, v234, v235, hv, ha, hw⟩
     obtain ⟨τ, rfl⟩ := (ac (hv.at 21 rfl (hdep.2.1 rfl)) (ac (hv.at 22 rfl (hdep.1 rfl)) az)).ups
     refine sk rfl (.inl rfl) rfl ?_
     refine RL.nil ?_
     exact ⟨rfl, v232, v234, v235, hv.put 23 rfl rfl, ha.up rfl, hw⟩
    ·rintro D σ w hD hdep hcl ⟨v232, v234, v235, hv, ha, hw⟩
     obtain ⟨τ, rfl⟩ := (ac (hv.at 21 rfl (hdep.1 rfl)) (ac (ha.at 0 rfl) az)).ups
     refine sk rfl (.inl rfl) rfl ?_
     refine RL.nil ?_
     exact ⟨rfl, v232, v234, v235, hv.put 24 rfl rfl, ha.up rfl, hw⟩
    ·rintro D σ w hD hdep hcl ⟨v232, v234, v235, hv, ha, hw⟩
     obtain ⟨τ, rfl⟩ := (ac (hv.at 21 rfl (hdep.2.1 rfl)) (ac (hv.at 24 rfl (hdep.1 rfl)) az)).ups
     refine sk rfl (.inl rfl) rfl ?_
     refine RL.nil ?_
     exact ⟨rfl, v232, v234, v235, hv.put 25 rfl rfl, ha.up rfl, hw⟩
    ·rintro D σ w hD hdep hcl ⟨v232, v234, v235, hv, ha, hw⟩
     obtain ⟨τ, rfl⟩ := (ac (hv.at 21 rfl (hdep.1 rfl)) (ac (ha.at 1 rfl) az)).ups
     refine sk rfl (.inl rfl) rfl ?_
     refine RL.nil ?_
     exact ⟨rfl, v232, v234, v235, hv.put 26 rfl rfl, ha.up rfl, hw⟩
    ·rintro D σ w hD hdep hcl ⟨v232, v234, v235, hv, ha, hw⟩
     obtain ⟨τ, rfl⟩ := (ac (hv.at 21 rfl (hdep.2.2.1 rfl)) (ac (hv.at 25 rfl (hdep.1 rfl)) (ac (hv.at 26 rfl (hdep.2.1 rfl)) az))).ups
     refine sk rfl (.inl rfl) rfl ?_
     refine RL.nil ?_
     exact ⟨rfl, v232, v234, v235, hv.put 27 rfl rfl, ha.up rfl, hw⟩
    ·rintro D σ w hD hdep hcl ⟨v232, v234, v235, hv, ha, hw⟩
     obtain ⟨τ, rfl⟩ := (ac (hv.at 21 rfl (hdep.2.1 rfl)) (ac (hv.at 27 rfl (hdep.1 rfl)) az)).ups
     refine sk rfl (.inl rfl) rfl ?_
     refine RL.nil ?_
     exact ⟨rfl, v232, v234, v235, hv.put 28 rfl rfl, ha.up rfl, hw⟩
    ·rintro D σ w hD hdep hcl ⟨v232, v234, v235, hv, ha, hw⟩
     obtain ⟨τ, rfl⟩ := (ac (hv.at 21 rfl (hdep.2.1 rfl)) (ac (hv.at 28 rfl (hdep.1 rfl)) az)).ups
     refine sk rfl (.inl rfl) rfl ?_
     refine RL.nil ?_
     exact ⟨rfl, v232, v234, v235, hv.put 29 rfl rfl, ha.up rfl, hw⟩
    ·rintro D σ w hD hdep hcl ⟨v232, v234, v235, hv, ha, hw⟩
     obtain ⟨τ, rfl⟩ := (ac (hv.at 21 rfl (hdep.2.2.1 rfl)) (ac (hv.at 23 rfl (hdep.1 rfl)) (ac (hv.at 29 rfl (hdep.2.1 rfl)) az))).ups
     refine sk rfl (.inl rfl) rfl ?_
     refine RL.nil ?_
     exact ⟨rfl, v232, v234, v235, hv.put 30 rfl rfl, ha.up rfl, hw⟩
    ·rintro D σ w hD hdep hcl ⟨v232, v234, v235, hv, ha, hw⟩
     obtain ⟨τ, rfl⟩ := (ac (hv.at 21 rfl (hdep.2.1 rfl)) (ac (hv.at 30 rfl (hdep.1 rfl)) az)).ups
     refine sk rfl (.inl rfl) rfl ?_
     refine RL.nil ?_
     exact ⟨rfl, v232, v234, v235, hv.put 31 rfl rfl, ha.up rfl, hw⟩
    ·rintro D σ w hD hdep hcl ⟨v232, v234, v235, hv, ha, hw⟩
     obtain ⟨τ, rfl⟩ := (ac (hv.at 21 rfl (hdep.1 rfl)) (ac (hv.at 31 rfl (hdep.2.1 rfl)) az)).ups
     refine RL.pick (b := true) (v := (vb true)) trivial rfl rfl rfl ?_
     refine RL.nil ?_
     exact ⟨rfl, v232, v234, v235, hv.put 32 rfl rfl, ha.up rfl, hw⟩
    rintro D σ w hall ⟨v232, v234, v235, hv, ha, hw⟩
    rw [hall 3 (by decide), hall 5 (by decide), hall 6 (by decide)] at hw
    obtain ⟨τ, rfl⟩ := (ac (hv.at 32 rfl (hall 32 (by decide))) (ac (ha.at 0 rfl) (ac (ha.at 1 rfl) (ac (ha.at 2 rfl) (ac (ha.at 3 rfl) (ac (ha.at 4 rfl) (ac (ha.at 5 rfl) az))))))).ups
    obtain rfl := oi hj
    exact ⟨rfl, ⟨rfl, rfl, rfl, rfl, rfl, trivial⟩, hw.pick 8 [6, 7] (new := [bx 26 b32 p1, rd v49 p0.Nets]) rfl rfl (by decide) (by decide)⟩
   replace hj := cF hg236 hj
   obtain ⟨x242, hx242, hj⟩ := bd hj
   obtain ⟨x246, hx246, hj⟩ := bd hj
   rcases Bool.eq_false_or_eq_true (!x246) with hg247 | hg247
   ·replace hj := cT hg247 hj
    refine RC.drw mixed rfl (fun (D : Nat → Bool) (σ : Nat → Value) (w : World) => ∃ (v232 : Value) (v234 : Value) (v235 : Value) (v240 : Value) (v241 : Value) (v243 : Value) (v244 : Value) (v245 : Value), doneV D σ [(0, 30, (vp b167 0)), (1, 31, (str x164.Name)), (2, 32, (vp b32 1)), (3, 33, v232), (4, 34, (vi (k50 : Int))), (5, 35, v234), (6, 36, v235), (7, 37, (str x233.Name)), (8, 38, (vb (!x164.Name.eqb x233.Name))), (9, 39, (vb (!x164.Name.eqb x233.Name))), (10, 40, (vp b167 1)), (11, 41, v240), (12, 42, (vp b32 1)), (13, 43, v241), (14, 44, (vi (k50 : Int))), (15, 45, v243), (16, 46, v244), (17, 47, v245), (18, 48, (vb x246)), (19, 49, (vb (!x246))), (20, 50, (vb (!x246))), (21, 51, (vb (!x246))), (22, 52, undef), (23, 53, undef), (24, 54, undef), (25, 55, undef), (26, 56, undef), (27, 57, undef), (28, 58, undef), (29, 59, undef), (30, 60, undef), (31, 61, undef), (32, 62, (vb true))] ∧ agree σ [(3, (vp b32 0)), (5, (vi (k50 : Int))), (6, (vp b167 0)), (23, v49), (24, (vi (p0.Nets.length : Int))), (25, (vi (k50 : Int)))] ∧ Holds E w ([bif D 3 then (rd v232 p1.Nets) else junk, bif D 5 then (pt v234 x233) else junk, bif D 6 then (pt v235 x233.Name) else junk, bif D 11 then (rd v240 x164.Pins) else junk, bif D 13 then (rd v241 p1.Nets) else junk, bif D 15 then (pt v243 x242) else junk, bif D 16 then (pt v244 x242.Pins) else junk, bif D 17 then (rd v245 x242.Pins) else junk, bx 64 b167 x164, rd v166 x164, pt v165 x164, bx 26 b32 p1, rd v49 p0.Nets] ++ Γ)) ?_ ⟨?_, ?_, ?_, ?_, ?_, ?_, ?_, ?_, ?_, ?_, ?_, ?_, ?_, ?_, ?_, ?_, ?_, ?_, ?_, ?_, ?_, ?_, ?_, ?_, ?_, ?_, ?_, ?_, ?_, ?_, ?_, ?_, ?_, trivial⟩ ?_
    ·have hw := hw.drew
     have hw := hw.junk
     have hw := hw.junk
     have hw := hw.junk
     have hw := hw.junk
     have hw := hw.junk
     have hw := hw.junk
     have hw := hw.junk
     have hw := hw.junk
     exact ⟨undef, undef, undef, undef, undef, undef, undef, undef, doneV.none, ⟨rfl, rfl, rfl, rfl, rfl, rfl, trivial⟩, hw⟩
    ·rintro D σ w hD hdep hcl ⟨v232, v234, v235, v240, v241, v243, v244, v245, hv, ha, hw⟩
     obtain ⟨τ, rfl⟩ := (ac (ha.at 2 rfl) az).ups
     refine RL.fa_b trivial rfl rfl fa64_0 ?_
     refine RL.nil ?_
     exact ⟨rfl, v232, v234, v235, v240, v241, v243, v244, v245, hv.put 0 rfl rfl, ha.up rfl, hw⟩
    ·rintro D σ w hD hdep hcl ⟨v232, v234, v235, v240, v241, v243, v244, v245, hv, ha, hw⟩
     obtain ⟨τ, rfl⟩ := (ac (hv.at 0 rfl (hdep.1 rfl)) az).ups
     refine RL.load_bfs (i := 8) (f := (fun x => x.Name)) trivial rfl hw rfl rfl fd_Net_0 ty9 ?_
     refine RL.nil ?_
     exact ⟨rfl, v232, v234, v235, v240, v241, v243, v244, v245, hv.put 1 rfl rfl, ha.up rfl, hw⟩
    ·rintro D σ w hD hdep hcl ⟨v232, v234, v235, v240, v241, v243, v244, v245, hv, ha, hw⟩
     obtain ⟨τ, rfl⟩ := (ac (ha.at 0 rfl) az).ups
     refine RL.fa_b trivial rfl rfl fa26_1 ?_
     refine RL.nil ?_
     exact ⟨rfl, v232, v234, v235, v240, v241, v243, v244, v245, hv.put 2 rfl rfl, ha.up rfl, hw⟩
    ·rintro D σ w hD hdep hcl ⟨v232, v234, v235, v240, v241, v243, v244, v245, hv, ha, hw⟩
     obtain ⟨τ, rfl⟩ := (ac (hv.at 2 rfl (hdep.1 rfl)) az).ups
     have hw := hw.selF (i := 0) rfl hD
     refine RL.load_bf (i := 11) (f := (fun x => x.Nets)) trivial rfl hw rfl rfl fd_Netlist_1 ty24 fun v248 hw => ?_
     have hw := hw.pick 14 [0, 2, 3, 4, 5, 6, 7, 8, 9, 10, 11, 12, 13] (new := [rd v248 p1.Nets, bif D 5 then (pt v234 x233) else junk, bif D 6 then (pt v235 x233.Name) else junk, bif D 11 then (rd v240 x164.Pins) else junk, bif D 13 then (rd v241 p1.Nets) else junk, bif D 15 then (pt v243 x242) else junk, bif D 16 then (pt v244 x242.Pins) else junk, bif D 17 then (rd v245 x242.Pins) else junk, bx 64 b167 x164, rd v166 x164, pt v165 x164, bx 26 b32 p1, rd v49 p0.Nets]) rfl rfl (by decide) (by decide)
     have hw := hw.altT (i := 0) (b := true) rfl rfl (junk)
     refine RL.nil ?_
     exact ⟨rfl, v248, v234, v235, v240, v241, v243, v244, v245, hv.put 3 rfl rfl, ha.up rfl, hw⟩
    ·rintro D σ w hD hdep hcl ⟨v232, v234, v235, v240, v241, v243, v244, v245, hv, ha, hw⟩
     obtain ⟨τ, rfl⟩ := (ac (ha.at 1 rfl) az).ups
     refine mv (vi (k50 : Int)) rfl rfl ?_
     refine RL.nil ?_
     exact ⟨rfl, v232, v234, v235, v240, v241, v243, v244, v245, hv.put 4 rfl rfl, ha.up rfl, hw⟩
    ·rintro D σ w hD hdep hcl ⟨v232, v234, v235, v240, v241, v243, v244, v245, hv, ha, hw⟩
     obtain ⟨τ, rfl⟩ := (ac (hv.at 3 rfl (hdep.1 rfl)) (ac (hv.at 4 rfl (hdep.2.1 rfl)) az)).ups
     have hw := hw.selT (i := 0) rfl (hdep.1 rfl)
     have hw := hw.selF (i := 1) rfl hD
     refine RL.ia_rd (i := 0) trivial rfl hw rfl rfl rfl sl24 hx233 fun v249 hw => ?_
     have hw := hw.pick 14 [1, 0, 3, 4, 5, 6, 7, 8, 9, 10, 11, 12, 13] (new := [rd v232 p1.Nets, pt v249 x233, bif D 6 then (pt v235 x233.Name) else junk, bif D 11 then (rd v240 x164.Pins) else junk, bif D 13 then (rd v241 p1.Nets) else junk, bif D 15 then (pt v243 x242) else junk, bif D 16 then (pt v244 x242.Pins) else junk, bif D 17 then (rd v245 x242.Pins) else junk, bx 64 b167 x164, rd v166 x164, pt v165 x164, bx 26 b32 p1, rd v49 p0.Nets]) rfl rfl (by decide) (by decide)
     have hw := hw.altT (i := 0) (b := D 3) rfl (hdep.1 rfl) (junk)
     have hw := hw.altT (i := 1) (b := true) rfl rfl (junk)
     refine RL.nil ?_
     exact ⟨rfl, v232, v249, v235, v240, v241, v243, v244, v245, hv.put 5 rfl rfl, ha.up rfl, hw⟩
    ·rintro D σ w hD hdep hcl ⟨v232, v234, v235, v240, v241, v243, v244, v245, hv, ha, hw⟩
     obtain ⟨τ, rfl⟩ := (ac (hv.at 5 rfl (hdep.1 rfl)) az).ups
     have hw := hw.selT (i := 1) rfl (hdep.1 rfl)
     have hw := hw.selF (i := 2) rfl hD
     refine RL.fa_pt (i := 1) (f := fun (x : Net) => x.Name) trivial rfl hw rfl rfl fa64_0 fd_Net_0 fun v250 hw => ?_
     have hw := hw.pick 14 [1, 2, 0, 4, 5, 6, 7, 8, 9, 10, 11, 12, 13] (new := [bif D 3 then (rd v232 p1.Nets) else junk, pt v234 x233, pt v250 x233.Name, bif D 11 then (rd v240 x164.Pins) else junk, bif D 13 then (rd v241 p1.Nets) else junk, bif D 15 then (pt v243 x242) else junk, bif D 16 then (pt v244 x242.Pins) else junk, bif D 17 then (rd v245 x242.Pins) else junk, bx 64 b167 x164, rd v166 x164, pt v165 x164, bx 26 b32 p1, rd v49 p0.Nets]) rfl rfl (by decide) (by decide)
     have hw := hw.altT (i := 1) (b := D 5) rfl (hdep.1 rfl) (junk)
     have hw := hw.altT (i := 2) (b := true) rfl rfl (junk)
     refine RL.nil ?_
     exact ⟨rfl, v232, v234, v250, v240, v241, v243, v244, v245, hv.put 6 rfl rfl, ha.up rfl, hw⟩
    ·rintro D σ w hD hdep hcl ⟨v232, v234, v235, v240, v241, v243, v244, v245, hv, ha, hw⟩
     obtain ⟨τ, rfl⟩ := (ac (hv.at 6 rfl (hdep.1 rfl)) az).ups
     have hw := hw.selT (i := 2) rfl (hdep.1 rfl)
     refine RL.load_pts (i := 2) (y := x233.Name) trivial rfl hw rfl rfl ty9 ?_
     have hw := hw.altT (i := 2) (b := D 6) rfl (hdep.1 rfl) (junk)
     refine RL.nil ?_
     exact ⟨rfl, v232, v234, v235, v240, v241, v243, v244, v245, hv.put 7 rfl rfl, ha.up rfl, hw⟩
    ·rintro D σ w hD hdep hcl ⟨v232, v234, v235, v240, v241, v243, v244, v245, hv, ha, hw⟩
     obtain ⟨τ, rfl⟩ := (ac (hv.at 1 rfl (hdep.1 rfl)) (ac (hv.at 7 rfl (hdep.2.1 rfl)) az)).ups
     refine RL.scmp (a := x164.Name) (b := x233.Name) trivial rfl rfl rfl rfl ?_
     refine RL.nil ?_
     exact ⟨rfl, v232, v234, v235, v240, v241, v243, v244, v245, hv.put 8 rfl rfl, ha.up rfl, hw⟩
    ·rintro D σ w hD hdep hcl ⟨v232, v234, v235, v240, v241, v243, v244, v245, hv, ha, hw⟩
     obtain ⟨τ, rfl⟩ := (ac (hv.at 8 rfl (hdep.1 rfl)) az).ups
     refine mv (vb (!x164.Name.eqb x233.Name)) rfl rfl ?_
     refine RL.nil ?_
     exact ⟨rfl, v232, v234, v235, v240, v241, v243, v244, v245, hv.put 9 rfl rfl, ha.up rfl, hw⟩
    ·rintro D σ w hD hdep hcl ⟨v232, v234, v235, v240, v241, v243, v244, v245, hv, ha, hw⟩
     obtain ⟨τ, rfl⟩ := (ac (hv.at 9 rfl (hdep.1 rfl)) (ac (ha.at 2 rfl) az)).ups
     refine RL.fa_b ⟨_, rfl, cb hg236⟩ rfl rfl fa64_1 ?_
     refine RL.nil ?_
     exact ⟨rfl, v232, v234, v235, v240, v241, v243, v244, v245, hv.put 10 rfl rfl, ha.up rfl, hw⟩
    ·rintro D σ w hD hdep hcl ⟨v232, v234, v235, v240, v241, v243, v244, v245, hv, ha, hw⟩
     obtain ⟨τ, rfl⟩ := (ac (hv.at 9 rfl (hdep.2.1 rfl)) (ac (hv.at 10 rfl (hdep.1 rfl)) az)).ups
     have hw := hw.selF (i := 3) rfl hD
     refine RL.load_bf (i := 8) (f := (fun x => x.Pins)) ⟨_, rfl, cb hg236⟩ rfl hw rfl rfl fd_Net_1 ty33 fun v251 hw => ?_
     have hw := hw.pick 14 [1, 2, 3, 0, 5, 6, 7, 8, 9, 10, 11, 12, 13] (new := [bif D 3 then (rd v232 p1.Nets) else junk, bif D 5 then (pt v234 x233) else junk, bif D 6 then (pt v235 x233.Name) else junk, rd v251 x164.Pins, bif D 13 then (rd v241 p1.Nets) else junk, bif D 15 then (pt v243 x242) else junk, bif D 16 then (pt v244 x242.Pins) else junk, bif D 17 then (rd v245 x242.Pins) else junk, bx 64 b167 x164, rd v166 x164, pt v165 x164, bx 26 b32 p1, rd v49 p0.Nets]) rfl rfl (by decide) (by decide)
     have hw := hw.altT (i := 3) (b := true) rfl rfl (junk)
     refine RL.nil ?_
     exact ⟨rfl, v232, v234, v235, v251, v241, v243, v244, v245, hv.put 11 rfl rfl, ha.up rfl, hw⟩
    ·rintro D σ w hD hdep hcl ⟨v232, v234, v235, v240, v241, v243, v244, v245, hv, ha, hw⟩
     obtain ⟨τ, rfl⟩ := (ac (hv.at 9 rfl (hdep.1 rfl)) (ac (ha.at 0 rfl) az)).ups
     refine RL.fa_b ⟨_, rfl, cb hg236⟩ rfl rfl fa26_1 ?_
     refine RL.nil ?_
     exact ⟨rfl, v232, v234, v235, v240, v241, v243, v244, v245, hv.put 12 rfl rfl, ha.up rfl, hw⟩
    ·rintro D σ w hD hdep hcl ⟨v232, v234, v235, v240, v241, v243, v244, v245, hv, ha, hw⟩
     obtain ⟨τ, rfl⟩ := (ac (hv.at 9 rfl (hdep.2.1 rfl)) (ac (hv.at 12 rfl (hdep.1 rfl)) az)).ups
     have hw := hw.selF (i := 4) rfl hD
     refine RL.load_bf (i := 11) (f := (fun x => x.Nets)) ⟨_, rfl, cb hg236⟩ rfl hw rfl rfl fd_Netlist_1 ty24 fun v252 hw => ?_
     have hw := hw.pick 14 [1, 2, 3, 4, 0, 6, 7, 8, 9, 10, 11, 12, 13] (new := [bif D 3 then (rd v232 p1.Nets) else junk, bif D 5 then (pt v234 x233) else junk, bif D 6 then (pt v235 x233.Name) else junk, bif D 11 then (rd v240 x164.Pins) else junk, rd v252 p1.Nets, bif D 15 then (pt v243 x242) else junk, bif D 16 then (pt v244 x242.Pins) else junk, bif D 17 then (rd v245 x242.Pins) else junk, bx 64 b167 x164, rd v166 x164, pt v165 x164, bx 26 b32 p1, rd v49 p0.Nets]) rfl rfl (by decide) (by decide)
     have hw := hw.altT (i := 4) (b := true) rfl rfl (junk)
     refine RL.nil ?_
     exact ⟨rfl, v232, v234, v235, v240, v252, v243, v244, v245, hv.put 13 rfl rfl, ha.up rfl, hw⟩
    ·rintro D σ w hD hdep hcl ⟨v232, v234, v235, v240, v241, v243, v244, v245, hv, ha, hw⟩
     obtain ⟨τ, rfl⟩ := (ac (hv.at 9 rfl (hdep.1 rfl)) (ac (ha.at 1 rfl) az)).ups
     refine RL.move (v := (vi (k50 : Int))) ⟨_, rfl, cb hg236⟩ rfl rfl ?_
     refine RL.nil ?_
     exact ⟨rfl, v232, v234, v235, v240, v241, v243, v244, v245, hv.put 14 rfl rfl, ha.up rfl, hw⟩
    ·rintro D σ w hD hdep hcl ⟨v232, v234, v235, v240, v241, v243, v244, v245, hv, ha, hw⟩
     obtain ⟨τ, rfl⟩ := (ac (hv.at 9 rfl (hdep.2.2.1 rfl)) (ac (hv.at 13 rfl (hdep.1 rfl)) (ac (hv.at 14 rfl (hdep.2.1 rfl)) az))).ups
     have hw := hw.selT (i := 4) rfl (hdep.1 rfl)
     have hw := hw.selF (i := 5) rfl hD
     refine RL.ia_rd (i := 4) ⟨_, rfl, cb hg236⟩ rfl hw rfl rfl rfl sl24 hx242 fun v253 hw => ?_
     have hw := hw.pick 14 [1, 2, 3, 4, 5, 0, 7, 8, 9, 10, 11, 12, 13] (new := [bif D 3 then (rd v232 p1.Nets) else junk, bif D 5 then (pt v234 x233) else junk, bif D 6 then (pt v235 x233.Name) else junk, bif D 11 then (rd v240 x164.Pins) else junk, rd v241 p1.Nets, pt v253 x242, bif D 16 then (pt v244 x242.Pins) else junk, bif D 17 then (rd v245 x242.Pins) else junk, bx 64 b167 x164, rd v166 x164, pt v165 x164, bx 26 b32 p1, rd v49 p0.Nets]) rfl rfl (by decide) (by decide)
     have hw := hw.altT (i := 4) (b := D 13) rfl (hdep.1 rfl) (junk)
     have hw := hw.altT (i := 5) (b := true) rfl rfl (junk)
     refine RL.nil ?_
     exact ⟨rfl, v232, v234, v235, v240, v241, v253, v244, v245, hv.put 15 rfl rfl, ha.up rfl, hw⟩
    ·rintro D σ w hD hdep hcl ⟨v232, v234, v235, v240, v241, v243, v244, v245, hv, ha, hw⟩
     obtain ⟨τ, rfl⟩ := (ac (hv.at 9 rfl (hdep.2.1 rfl)) (ac (hv.at 15 rfl (hdep.1 rfl)) az)).ups
     have hw := hw.selT (i := 5) rfl (hdep.1 rfl)
     have hw := hw.selF (i := 6) rfl hD
     refine RL.fa_pt (i := 5) (f := fun (x : Net) => x.Pins) ⟨_, rfl, cb hg236⟩ rfl hw rfl rfl fa64_1 fd_Net_1 fun v254 hw => ?_
     have hw := hw.pick 14 [1, 2, 3, 4, 5, 6, 0, 8, 9, 10, 11, 12, 13] (new := [bif D 3 then (rd v232 p1.Nets) else junk, bif D 5 then (pt v234 x233) else junk, bif D 6 then (pt v235 x233.Name) else junk, bif D 11 then (rd v240 x164.Pins) else junk, bif D 13 then (rd v241 p1.Nets) else junk, pt v243 x242, pt v254 x242.Pins, bif D 17 then (rd v245 x242.Pins) else junk, bx 64 b167 x164, rd v166 x164, pt v165 x164, bx 26 b32 p1, rd v49 p0.Nets]) rfl rfl (by decide) (by decide)
     have hw := hw.altT (i := 5) (b := D 15) rfl (hdep.1 rfl) (junk)
     have hw := hw.altT (i := 6) (b := true) rfl rfl (junk)
     refine RL.nil ?_
     exact ⟨rfl, v232, v234, v235, v240, v241, v243, v254, v245, hv.put 16 rfl rfl, ha.up rfl, hw⟩
    ·rintro D σ w hD hdep hcl ⟨v232, v234, v235, v240, v241, v243, v244, v245, hv, ha, hw⟩
     obtain ⟨τ, rfl⟩ := (ac (hv.at 9 rfl (hdep.2.1 rfl)) (ac (hv.at 16 rfl (hdep.1 rfl)) az)).ups
     have hw := hw.selT (i := 6) rfl (hdep.1 rfl)
     have hw := hw.selF (i := 7) rfl hD
     refine RL.load_pt (i := 6) (x := x242.Pins) ⟨_, rfl, cb hg236⟩ rfl hw rfl rfl ty33 fun v255 hw => ?_
     have hw := hw.pick 14 [1, 2, 3, 4, 5, 6, 7, 0, 9, 10, 11, 12, 13] (new := [bif D 3 then (rd v232 p1.Nets) else junk, bif D 5 then (pt v234 x233) else junk, bif D 6 then (pt v235 x233.Name) else junk, bif D 11 then (rd v240 x164.Pins) else junk, bif D 13 then (rd v241 p1.Nets) else junk, bif D 15 then (pt v243 x242) else junk, pt v244 x242.Pins, rd v255 x242.Pins, bx 64 b167 x164, rd v166 x164, pt v165 x164, bx 26 b32 p1, rd v49 p0.Nets]) rfl rfl (by decide) (by decide)
     have hw := hw.altT (i := 6) (b := D 16) rfl (hdep.1 rfl) (junk)
     have hw := hw.altT (i := 7) (b := true) rfl rfl (junk)
     refine RL.nil ?_
     exact ⟨rfl, v232, v234, v235, v240, v241, v243, v244, v255, hv.put 17 rfl rfl, ha.up rfl, hw⟩
    ·rintro D σ w hD hdep hcl ⟨v232, v234, v235, v240, v241, v243, v244, v245, hv, ha, hw⟩
     obtain ⟨τ, rfl⟩ := (ac (hv.at 9 rfl (hdep.2.2.1 rfl)) (ac (hv.at 11 rfl (hdep.1 rfl)) (ac (hv.at 17 rfl (hdep.2.1 rfl)) az))).ups
     have hw := hw.selT (i := 3) rfl (hdep.1 rfl)
     have hw := hw.selT (i := 7) rfl (hdep.2.1 rfl)
     refine RL.call ⟨_, rfl, cb hg236⟩ rfl fn17 [v240, v245] rfl (Calls_ret (slices_Equal_Pin_ok N  (i0 := 3) (i1 := 7) hw rfl rfl hx246) ?_)
     rintro _ w ⟨rfl, hw⟩
     have hw := hw.altT (i := 3) (b := D 11) rfl (hdep.1 rfl) (junk)
     have hw := hw.altT (i := 7) (b := D 17) rfl (hdep.2.1 rfl) (junk)
     refine RL.nil ?_
     exact ⟨rfl, v232, v234, v235, v240, v241, v243, v244, v245, hv.put 18 rfl rfl, ha.up rfl, hw⟩
    ·rintro D σ w hD hdep hcl ⟨v232, v234, v235, v240, v241, v243, v244, v245, hv, ha, hw⟩
     obtain ⟨τ, rfl⟩ := (ac (hv.at 9 rfl (hdep.2.1 rfl)) (ac (hv.at 18 rfl (hdep.1 rfl)) az)).ups
     refine RL.not (b := x246) ⟨_, rfl, cb hg236⟩ rfl rfl ?_
     refine RL.nil ?_
     exact ⟨rfl, v232, v234, v235, v240, v241, v243, v244, v245, hv.put 19 rfl rfl, ha.up rfl, hw⟩
    ·rintro D σ w hD hdep hcl ⟨v232, v234, v235, v240, v241, v243, v244, v245, hv, ha, hw⟩
     obtain ⟨τ, rfl⟩ := (ac (hv.at 9 rfl (hdep.1 rfl)) (ac (hv.at 19 rfl (hdep.2.1 rfl)) az)).ups
     refine RL.pick (b := (!x164.Name.eqb x233.Name)) (v := (vb (!x246))) trivial rfl rfl (by rw [hg236]; rfl) ?_
     refine RL.nil ?_
     exact ⟨rfl, v232, v234, v235, v240, v241, v243, v244, v245, hv.put 20 rfl rfl, ha.up rfl, hw⟩
    ·rintro D σ w hD hdep hcl ⟨v232, v234, v235, v240, v241, v243, v244, v245, hv, ha, hw⟩
     obtain ⟨τ, rfl⟩ := (ac (hv.at 20 rfl (hdep.1 rfl)) az).ups
     refine mv (vb (!x246)) rfl rfl ?_
     refine RL.nil ?_
     exact ⟨rfl, v232, v234, v235, v240, v241, v243, v244, v245, hv.put 21 rfl rfl, ha.up rfl, hw⟩
    ·rintro D σ w hD hdep hcl ⟨v232, v234, v235, v240, v241, v243, v244, v245, hv, ha, hw⟩
     obtain ⟨τ, rfl⟩ := (ac (hv.at 21 rfl (hdep.1 rfl)) (ac (ha.at 2 rfl) az)).ups
     refine sk rfl (.inl (cb hg247)) rfl ?_
     refine RL.nil ?_
     exact ⟨rfl, v232, v234, v235, v240, v241, v243, v244, v245, hv.put 22 rfl rfl, ha.up rfl, hw⟩
    ·rintro D σ w hD hdep hcl ⟨v232, v234, v235, v240, v241, v243, v244, v245, hv, ha, hw⟩
     obtain ⟨τ, rfl⟩ := (ac (hv.at 21 rfl (hdep.2.1 rfl)) (ac (hv.at 22 rfl (hdep.1 rfl)) az)).ups
     refine sk rfl (.inl (cb hg247)) rfl ?_
     refine RL.nil ?_
     exact ⟨rfl, v232, v234, v235, v240, v241, v243, v244, v245, hv.put 23 rfl rfl, ha.up rfl, hw⟩
    ·rintro D σ w hD hdep hcl ⟨v232, v234, v235, v240, v241, v243, v244, v245, hv, ha, hw⟩
     obtain ⟨τ, rfl⟩ := (ac (hv.at 21 rfl (hdep.1 rfl)) (ac (ha.at 0 rfl) az)).ups
     refine sk rfl (.inl (cb hg247)) rfl ?_
     refine RL.nil ?_
     exact ⟨rfl, v232, v234, v235, v240, v241, v243, v244, v245, hv.put 24 rfl rfl, ha.up rfl, hw⟩
    ·rintro D σ w hD hdep hcl ⟨v232, v234, v235, v240, v241, v243, v244, v245, hv, ha, hw⟩
     obtain ⟨τ, rfl⟩ := (ac (hv.at 21 rfl (hdep.2.1 rfl)) (ac (hv.at 24 rfl (hdep.1 rfl)) az)).ups
     refine sk rfl (.inl (cb hg247)) rfl ?_
     refine RL.nil ?_
     exact ⟨rfl, v232, v234, v235, v240, v241, v243, v244, v245, hv.put 25 rfl rfl, ha.up rfl, hw⟩
    ·rintro D σ w hD hdep hcl ⟨v232, v234, v235, v240, v241, v243, v244, v245, hv, ha, hw⟩
     obtain ⟨τ, rfl⟩ := (ac (hv.at 21 rfl (hdep.1 rfl)) (ac (ha.at 1 rfl) az)).ups
     refine sk rfl (.inl (cb hg247)) rfl ?_
     refine RL.nil ?_
     exact ⟨rfl, v232, v234, v235, v240, v241, v243, v244, v245, hv.put 26 rfl rfl, ha.up rfl, hw⟩
    ·rintro D σ w hD hdep hcl ⟨v232, v234, v235, v240, v241, v243, v244, v245, hv, ha, hw⟩
     obtain ⟨τ, rfl⟩ := (ac (hv.at 21 rfl (hdep.2.2.1 rfl)) (ac (hv.at 25 rfl (hdep.1 rfl)) (ac (hv.at 26 rfl (hdep.2.1 rfl)) az))).ups
     refine sk rfl (.inl (cb hg247)) rfl ?_
     refine RL.nil ?_
     exact ⟨rfl, v232, v234, v235, v240, v241, v243, v244, v245, hv.put 27 rfl rfl, ha.up rfl, hw⟩
    ·rintro D σ w hD hdep hcl ⟨v232, v234, v235, v240, v241, v243, v244, v245, hv, ha, hw⟩
     obtain ⟨τ, rfl⟩ := (ac (hv.at 21 rfl (hdep.2.1 rfl)) (ac (hv.at 27 rfl (hdep.1 rfl)) az)).ups
     refine sk rfl (.inl (cb hg247)) rfl ?_
     refine RL.nil ?_
     exact ⟨rfl, v232, v234, v235, v240, v241, v243, v244, v245, hv.put 28 rfl rfl, ha.up rfl, hw⟩
    ·rintro D σ w hD hdep hcl ⟨v232, v234, v235, v240, v241, v243, v244, v245, hv, ha, hw⟩
     obtain ⟨τ, rfl⟩ := (ac (hv.at 21 rfl (hdep.2.1 rfl)) (ac (hv.at 28 rfl (hdep.1 rfl)) az)).ups
     refine sk rfl (.inl (cb hg247)) rfl ?_
     refine RL.nil ?_
     exact ⟨rfl, v232, v234, v235, v240, v241, v243, v244, v245, hv.put 29 rfl rfl, ha.up rfl, hw⟩
    ·rintro D σ w hD hdep hcl ⟨v232, v234, v235, v240, v241, v243, v244, v245, hv, ha, hw⟩
     obtain ⟨τ, rfl⟩ := (ac (hv.at 21 rfl (hdep.2.2.1 rfl)) (ac (hv.at 23 rfl (hdep.1 rfl)) (ac (hv.at 29 rfl (hdep.2.1 rfl)) az))).ups
     refine sk rfl (.inl (cb hg247)) rfl ?_
     refine RL.nil ?_
     exact ⟨rfl, v232, v234, v235, v240, v241, v243, v244, v245, hv.put 30 rfl rfl, ha.up rfl, hw⟩
    ·rintro D σ w hD hdep hcl ⟨v232, v234, v235, v240, v241, v243, v244, v245, hv, ha, hw⟩
     obtain ⟨τ, rfl⟩ := (ac (hv.at 21 rfl (hdep.2.1 rfl)) (ac (hv.at 30 rfl (hdep.1 rfl)) az)).ups
     refine sk rfl (.inl (cb hg247)) rfl ?_
     refine RL.nil ?_
     exact ⟨rfl, v232, v234, v235, v240, v241, v243, v244, v245, hv.put 31 rfl rfl, ha.up rfl, hw⟩
    ·rintro D σ w hD hdep hcl ⟨v232, v234, v235, v240, v241, v243, v244, v245, hv, ha, hw⟩
     obtain ⟨τ, rfl⟩ := (ac (hv.at 21 rfl (hdep.1 rfl)) (ac (hv.at 31 rfl (hdep.2.1 rfl)) az)).ups
     refine RL.pick (b := (!x246)) (v := (vb true)) trivial rfl rfl (by rw [hg247]; rfl) ?_
     refine RL.nil ?_
     exact ⟨rfl, v232, v234, v235, v240, v241, v243, v244, v245, hv.put 32 rfl rfl, ha.up rfl, hw⟩
    rintro D σ w hall ⟨v232, v234, v235, v240, v241, v243, v244, v245, hv, ha, hw⟩
    rw [hall 3 (by decide), hall 5 (by decide), hall 6 (by decide), hall 11 (by decide), hall 13 (by decide), hall 15 (by decide), hall 16 (by decide), hall 17 (by decide)] at hw
    obtain ⟨τ, rfl⟩ := (ac (hv.at 32 rfl (hall 32 (by decide))) (ac (ha.at 0 rfl) (ac (ha.at 1 rfl) (ac (ha.at 2 rfl) (ac (ha.at 3 rfl) (ac (ha.at 4 rfl) (ac (ha.at 5 rfl) az))))))).ups
    obtain rfl := oi hj
    exact ⟨rfl, ⟨rfl, rfl, rfl, rfl, rfl, trivial⟩, hw.pick 13 [11, 12] (new := [bx 26 b32 p1, rd v49 p0.Nets]) rfl rfl (by decide) (by decide)⟩
   replace hj := cF hg247 hj
   obtain ⟨x258, hx258, hj⟩ := bd hj
   obtain ⟨x262, hx262, hj⟩ := bd hj
   refine RC.drw mixed rfl (fun (D : Nat → Bool) (σ : Nat → Value) (w : World) => ∃ (v232 : Value) (v234 : Value) (v235 : Value) (v240 : Value) (v241 : Value) (v243 : Value) (v244 : Value) (v245 : Value) (v256 : Value) (v257 : Value) (v259 : Value) (v260 : Value) (v261 : Value), doneV D σ [(0, 30, (vp b167 0)), (1, 31, (str x164.Name)), (2, 32, (vp b32 1)), (3, 33, v232), (4, 34, (vi (k50 : Int))), (5, 35, v234), (6, 36, v235), (7, 37, (str x233.Name)), (8, 38, (vb (!x164.Name.eqb x233.Name))), (9, 39, (vb (!x164.Name.eqb x233.Name))), (10, 40, (vp b167 1)), (11, 41, v240), (12, 42, (vp b32 1)), (13, 43, v241), (14, 44, (vi (k50 : Int))), (15, 45, v243), (16, 46, v244), (17, 47, v245), (18, 48, (vb x246)), (19, 49, (vb (!x246))), (20, 50, (vb (!x246))), (21, 51, (vb (!x246))), (22, 52, (vp b167 2)), (23, 53, v256), (24, 54, (vp b32 1)), (25, 55, v257), (26, 56, (vi (k50 : Int))), (27, 57, v259), (28, 58, v260), (29, 59, v261), (30, 60, (vb x262)), (31, 61, (vb (!x262))), (32, 62, (vb (!x262)))] ∧ agree σ [(3, (vp b32 0)), (5, (vi (k50 : Int))), (6, (vp b167 0)), (23, v49), (24, (vi (p0.Nets.length : Int))), (25, (vi (k50 : Int)))] ∧ Holds E w ([bif D 3 then (rd v232 p1.Nets) else junk, bif D 5 then (pt v234 x233) else junk, bif D 6 then (pt v235 x233.Name) else junk, bif D 11 then (rd v240 x164.Pins) else junk, bif D 13 then (rd v241 p1.Nets) else junk, bif D 15 then (pt v243 x242) else junk, bif D 16 then (pt v244 x242.Pins) else junk, bif D 17 then (rd v245 x242.Pins) else junk, bif D 23 then (rd v256 x164.Ports) else junk, bif D 25 then (rd v257 p1.Nets) else junk, bif D 27 then (pt v259 x258) else junk, bif D 28 then (pt v260 x258.Ports) else junk, bif D 29 then (rd v261 x258.Ports) else junk, bx 64 b167 x164, rd v166 x164, pt v165 x164, bx 26 b32 p1, rd v49 p0.Nets] ++ Γ)) ?_ ⟨?_, ?_, ?_, ?_, ?_, ?_, ?_, ?_, ?_, ?_, ?_, ?_, ?_, ?_, ?_, ?_, ?_, ?_, ?_, ?_, ?_, ?_, ?_, ?_, ?_, ?_, ?_, ?_, ?_, ?_, ?_, ?_, ?_, trivial⟩ ?_
   ·have hw := hw.drew
    have hw := hw.junk
    have hw := hw.junk
    have hw := hw.junk
    have hw := hw.junk
    have hw := hw.junk
    have hw := hw.junk
    have hw := hw.junk
    have hw := hw.junk
    have hw := hw.junk
    have hw := hw.junk
    have hw := hw.junk
    have hw := hw.junk
    have hw := hw.junk
    exact ⟨undef, undef, undef, undef, undef, undef, undef, undef, undef, undef, undef, undef, undef, doneV.none, ⟨rfl, rfl, rfl, rfl, rfl, rfl, trivial⟩, hw⟩
   ·rintro D σ w hD hdep hcl ⟨v232, v234, v235, v240, v241, v243, v244, v245, v256, v257, v259, v260, v261, hv, ha, hw⟩
    obtain ⟨τ, rfl⟩ := (ac (ha.at 2 rfl) az).ups
    refine RL.fa_b trivial rfl rfl fa64_0 ?_
    refine RL.nil ?_
    exact ⟨rfl, v232, v234, v235, v240, v241, v243, v244, v245, v256, v257, v259, v260, v261, hv.put 0 rfl rfl, ha.up rfl, hw⟩
   ·rintro D σ w hD hdep hcl ⟨v232, v234, v235, v240, v241, v243, v244, v245, v256, v257, v259, v260, v261, hv, ha, hw⟩
    obtain ⟨τ, rfl⟩ := (ac (hv.at 0 rfl (hdep.1 rfl)) az).ups
    refine RL.load_bfs (i := 13) (f := (fun x => x.Name)) trivial rfl hw rfl rfl fd_Net_0 ty9 ?_
    refine RL.nil ?_
    exact ⟨rfl, v232, v234, v235, v240, v241, v243, v244, v245, v256, v257, v259, v260, v261, hv.put 1 rfl rfl, ha.up rfl, hw⟩
   ·rintro D σ w hD hdep hcl ⟨v232, v234, v235, v240, v241, v243, v244, v245, v256, v257, v259, v260, v261, hv, ha, hw⟩
    obtain ⟨τ, rfl⟩ := (ac (ha.at 0 rfl) az).ups
    refine RL.fa_b trivial rfl rfl fa26_1 ?_
    refine RL.nil ?_
    exact ⟨rfl, v232, v234, v235, v240, v241, v243, v244, v245, v256, v257, v259, v260, v261, hv.put 2 rfl rfl, ha.up rfl, hw⟩
   ·rintro D σ w hD hdep hcl ⟨v232, v234, v235, v240, v241, v243, v244, v245, v256, v257, v259, v260, v261, hv, ha, hw⟩
    obtain ⟨τ, rfl⟩ := (ac (hv.at 2 rfl (hdep.1 rfl)) az).ups
    have hw := hw.selF (i := 0) rfl hD
    refine RL.load_bf (i := 16) (f := (fun x => x.Nets)) trivial rfl hw rfl rfl fd_Netlist_1 ty24 fun v263 hw => ?_
    have hw := hw.pick 19 [0, 2, 3, 4, 5, 6, 7, 8, 9, 10, 11, 12, 13, 14, 15, 16, 17, 18] (new := [rd v263 p1.Nets, bif D 5 then (pt v234 x233) else junk, bif D 6 then (pt v235 x233.Name) else junk, bif D 11 then (rd v240 x164.Pins) else junk, bif D 13 then (rd v241 p1.Nets) else junk, bif D 15 then (pt v243 x242) else junk, bif D 16 then (pt v244 x242.Pins) else junk, bif D 17 then (rd v245 x242.Pins) else junk, bif D 23 then (rd v256 x164.Ports) else junk, bif D 25 then (rd v257 p1.Nets) else junk, bif D 27 then (pt v259 x258) else junk, bif D 28 then (pt v260 x258.Ports) else junk, bif D 29 then (rd v261 x258.Ports) else junk, bx 64 b167 x164, rd v166 x164, pt v165 x164, bx 26 b32 p1, rd v49 p0.Nets]) rfl rfl (by decide) (by decide)
    have hw := hw.altT (i := 0) (b := true) rfl rfl (junk)
    refine RL.nil ?_
    exact ⟨rfl, v263, v234, v235, v240, v241, v243, v244, v245, v256, v257, v259, v260, v261, hv.put 3 rfl rfl, ha.up rfl, hw⟩
   ·rintro D σ w hD hdep hcl ⟨v232, v234, v235, v240, v241, v243, v244, v245, v256, v257, v259, v260, v261, hv, ha, hw⟩
    obtain ⟨τ, rfl⟩ := (ac (ha.at 1 rfl) az).ups
    refine mv (vi (k50 : Int)) rfl rfl ?_
    refine RL.nil ?_
    exact ⟨rfl, v232, v234, v235, v240, v241, v243, v244, v245, v256, v257, v259, v260, v261, hv.put 4 rfl rfl, ha.up rfl, hw⟩
   ·rintro D σ w hD hdep hcl ⟨v232, v234, v235, v240, v241, v243, v244, v245, v256, v257, v259, v260, v261, hv, ha, hw⟩
    obtain ⟨τ, rfl⟩ := (ac (hv.at 3 rfl (hdep.1 rfl)) (ac (hv.at 4 rfl (hdep.2.1 rfl)) az)).ups
    have hw := hw.selT (i := 0) rfl (hdep.1 rfl)
    have hw := hw.selF (i := 1) rfl hD
    refine RL.ia_rd (i := 0) trivial rfl hw rfl rfl rfl sl24 hx233 fun v264 hw => ?_
    have hw := hw.pick 19 [1, 0, 3, 4, 5, 6, 7, 8, 9, 10, 11, 12, 13, 14, 15, 16, 17, 18] (new := [rd v232 p1.Nets, pt v264 x233, bif D 6 then (pt v235 x233.Name) else junk, bif D 11 then (rd v240 x164.Pins) else junk, bif D 13 then (rd v241 p1.Nets) else junk, bif D 15 then (pt v243 x242) else junk, bif D 16 then (pt v244 x242.Pins) else junk, bif D 17 then (rd v245 x242.Pins) else junk, bif D 23 then (rd v256 x164.Ports) else junk, bif D 25 then (rd v257 p1.Nets) else junk, bif D 27 then (pt v259 x258) else junk, bif D 28 then (pt v260 x258.Ports) else junk, bif D 29 then (rd v261 x258.Ports) else junk, bx 64 b167 x164, rd v166 x164, pt v165 x164, bx 26 b32 p1, rd v49 p0.Nets]) rfl rfl (by decide) (by decide)
    have hw := hw.altT (i := 0) (b := D 3) rfl (hdep.1 rfl) (junk)
    have hw := hw.altT (i := 1) (b := true) rfl rfl (junk)
    refine RL.nil ?_
    exact ⟨rfl, v232, v264, v235, v240, v241, v243, v244, v245, v256, v257, v259, v260, v261, hv.put 5 rfl rfl, ha.up rfl, hw⟩
   ·rintro D σ w hD hdep hcl ⟨v232, v234, v235, v240, v241, v243, v244, v245, v256, v257, v259, v260, v261, hv, ha, hw⟩
    obtain ⟨τ, rfl⟩ := (ac (hv.at 5 rfl (hdep.1 rfl)) az).ups
    have hw := hw.selT (i := 1) rfl (hdep.1 rfl)
    have hw := hw.selF (i := 2) rfl hD
    refine RL.fa_pt (i := 1) (f := fun (x : Net) => x.Name) trivial rfl hw rfl rfl fa64_0 fd_Net_0 fun v265 hw => ?_
    have hw := hw.pick 19 [1, 2, 0, 4, 5, 6, 7, 8, 9, 10, 11, 12, 13, 14, 15, 16, 17, 18] (new := [bif D 3 then (rd v232 p1.Nets) else junk, pt v234 x233, pt v265 x233.Name, bif D 11 then (rd v240 x164.Pins) else junk, bif D 13 then (rd v241 p1.Nets) else junk, bif D 15 then (pt v243 x242) else junk, bif D 16 then (pt v244 x242.Pins) else junk, bif D 17 then (rd v245 x242.Pins) else junk, bif D 23 then (rd v256 x164.Ports) else junk, bif D 25 then (rd v257 p1.Nets) else junk, bif D 27 then (pt v259 x258) else junk, bif D 28 then (pt v260 x258.Ports) else junk, bif D 29 then (rd v261 x258.Ports) else junk, bx 64 b167 x164, rd v166 x164, pt v165 x164, bx 26 b32 p1, rd v49 p0.Nets]) rfl rfl (by decide) (by decide)
    have hw := hw.altT (i := 1) (b := D 5) rfl (hdep.1 rfl) (junk)
    have hw := hw.altT (i := 2) (b := true) rfl rfl (junk)
    refine RL.nil ?_
    exact ⟨rfl, v232, v234, v265, v240, v241, v243, v244, v245, v256, v257, v259, v260, v261, hv.put 6 rfl rfl, ha.up rfl, hw⟩
   ·rintro D σ w hD hdep hcl ⟨v232, v234, v235, v240, v241, v243, v244, v245, v256, v257, v259, v260, v261, hv, ha, hw⟩
    obtain ⟨τ, rfl⟩ := (ac (hv.at 6 rfl (hdep.1 rfl)) az).ups
    have hw := hw.selT (i := 2) rfl (hdep.1 rfl)
    refine RL.load_pts (i := 2) (y := x233.Name) trivial rfl hw rfl rfl ty9 ?_
    have hw := hw.altT (i := 2) (b := D 6) rfl (hdep.1 rfl) (junk)
    refine RL.nil ?_
    exact ⟨rfl, v232, v234, v235, v240, v241, v243, v244, v245, v256, v257, v259, v260, v261, hv.put 7 rfl rfl, ha.up rfl, hw⟩
   ·rintro D σ w hD hdep hcl ⟨v232, v234, v235, v240, v241, v243, v244, v245, v256, v257, v259, v260, v261, hv, ha, hw⟩
    obtain ⟨τ, rfl⟩ := (ac (hv.at 1 rfl (hdep.1 rfl)) (ac (hv.at 7 rfl (hdep.2.1 rfl)) az)).ups
    refine RL.scmp (a := x164.Name) (b := x233.Name) trivial rfl rfl rfl rfl ?_
    refine RL.nil ?_
    exact ⟨rfl, v232, v234, v235, v240, v241, v243, v244, v245, v256, v257, v259, v260, v261, hv.put 8 rfl rfl, ha.up rfl, hw⟩
   ·rintro D σ w hD hdep hcl ⟨v232, v234, v235, v240, v241, v243, v244, v245, v256, v257, v259, v260, v261, hv, ha, hw⟩
    obtain ⟨τ, rfl⟩ := (ac (hv.at 8 rfl (hdep.1 rfl)) az).ups
    refine mv (vb (!x164.Name.eqb x233.Name)) rfl rfl ?_
    refine RL.nil ?_
    exact ⟨rfl, v232, v234, v235, v240, v241, v243, v244, v245, v256, v257, v259, v260, v261, hv.put 9 rfl rfl, ha.up rfl, hw⟩
   ·rintro D σ w hD hdep hcl ⟨v232, v234, v235, v240, v241, v243, v244, v245, v256, v257, v259, v260, v261, hv, ha, hw⟩
    obtain ⟨τ, rfl⟩ := (ac (hv.at 9 rfl (hdep.1 rfl)) (ac (ha.at 2 rfl) az)).ups
    refine RL.fa_b ⟨_, rfl, cb hg236⟩ rfl rfl fa64_1 ?_
    refine RL.nil ?_
    exact ⟨rfl, v232, v234, v235, v240, v241, v243, v244, v245, v256, v257, v259, v260, v261, hv.put 10 rfl rfl, ha.up rfl, hw⟩
   ·rintro D σ w hD hdep hcl ⟨v232, v234, v235, v240, v241, v243, v244, v245, v256, v257, v259, v260, v261, hv, ha, hw⟩
    obtain ⟨τ, rfl⟩ := (ac (hv.at 9 rfl (hdep.2.1 rfl)) (ac (hv.at 10 rfl (hdep.1 rfl)) az)).ups
    have hw := hw.selF (i := 3) rfl hD
    refine RL.load_bf (i := 13) (f := (fun x => x.Pins)) ⟨_, rfl, cb hg236⟩ rfl hw rfl rfl fd_Net_1 ty33 fun v266 hw => ?_
    have hw := hw.pick 19 [1, 2, 3, 0, 5, 6, 7, 8, 9, 10, 11, 12, 13, 14, 15, 16, 17, 18] (new := [bif D 3 then (rd v232 p1.Nets) else junk, bif D 5 then (pt v234 x233) else junk, bif D 6 then (pt v235 x233.Name) else junk, rd v266 x164.Pins, bif D 13 then (rd v241 p1.Nets) else junk, bif D 15 then (pt v243 x242) else junk, bif D 16 then (pt v244 x242.Pins) else junk, bif D 17 then (rd v245 x242.Pins) else junk, bif D 23 then (rd v256 x164.Ports) else junk, bif D 25 then (rd v257 p1.Nets) else junk, bif D 27 then (pt v259 x258) else junk, bif D 28 then (pt v260 x258.Ports) else junk, bif D 29 then (rd v261 x258.Ports) else junk, bx 64 b167 x164, rd v166 x164, pt v165 x164, bx 26 b32 p1, rd v49 p0.Nets]) rfl rfl (by decide) (by decide)
    have hw := hw.altT (i := 3) (b := true) rfl rfl (junk)
    refine RL.nil ?_
    exact ⟨rfl, v232, v234, v235, v266, v241, v243, v244, v245, v256, v257, v259, v260, v261, hv.put 11 rfl rfl, ha.up rfl, hw⟩
   ·rintro D σ w hD hdep hcl ⟨v232, v234, v235, v240, v241, v243, v244, v245, v256, v257, v259, v260, v261, hv, ha, hw⟩
    obtain ⟨τ, rfl⟩ := (ac (hv.at 9 rfl (hdep.1 rfl)) (ac (ha.at 0 rfl) az)).ups
    refine RL.fa_b ⟨_, rfl, cb hg236⟩ rfl rfl fa26_1 ?_
    refine RL.nil ?_
    exact ⟨rfl, v232, v234, v235, v240, v241, v243, v244, v245, v256, v257, v259, v260, v261, hv.put 12 rfl rfl, ha.up rfl, hw⟩
   ·rintro D σ w hD hdep hcl ⟨v232, v234, v235, v240, v241, v243, v244, v245, v256, v257, v259, v260, v261, hv, ha, hw⟩
    obtain ⟨τ, rfl⟩ := (ac (hv.at 9 rfl (hdep.2.1 rfl)) (ac (hv.at 12 rfl (hdep.1 rfl)) az)).ups
    have hw := hw.selF (i := 4) rfl hD
    refine RL.load_bf (i := 16) (f := (fun x => x.Nets)) ⟨_, rfl, cb hg236⟩ rfl hw rfl rfl fd_Netlist_1 ty24 fun v267 hw => ?_
    have hw := hw.pick 19 [1, 2, 3, 4, 0, 6, 7, 8, 9, 10, 11, 12, 13, 14, 15, 16, 17, 18] (new := [bif D 3 then (rd v232 p1.Nets) else junk, bif D 5 then (pt v234 x233) else junk, bif D 6 then (pt v235 x233.Name) else junk, bif D 11 then (rd v240 x164.Pins) else junk, rd v267 p1.Nets, bif D 15 then (pt v243 x242) else junk, bif D 16 then (pt v244 x242.Pins) else junk, bif D 17 then (rd v245 x242.Pins) else junk, bif D 23 then (rd v256 x164.Ports) else junk, bif D 25 then (rd v257 p1.Nets) else junk, bif D 27 then (pt v259 x258) else junk, bif D 28 then (pt v260 x258.Ports) else junk, bif D 29 then (rd v261 x258.Ports) else junk, bx 64 b167 x164, rd v166 x164, pt v165 x164, bx 26 b32 p1, rd v49 p0.Nets]) rfl rfl (by decide) (by decide)
    have hw := hw.altT (i := 4) (b := true) rfl rfl (junk)
    refine RL.nil ?_
    exact ⟨rfl, v232, v234, v235, v240, v267, v243, v244, v245, v256, v257, v259, v260, v261, hv.put 13 rfl rfl, ha.up rfl, hw⟩
   ·rintro D σ w hD hdep hcl ⟨v232, v234, v235, v240, v241, v243, v244, v245, v256, v257, v259, v260, v261, hv, ha, hw⟩
    obtain ⟨τ, rfl⟩ := (ac (hv.at 9 rfl (hdep.1 rfl)) (ac (ha.at 1 rfl) az)).ups
    refine RL.move (v := (vi (k50 : Int))) ⟨_, rfl, cb hg236⟩ rfl rfl ?_
    refine RL.nil ?_
    exact ⟨rfl, v232, v234, v235, v240, v241, v243, v244, v245, v256, v257, v259, v260, v261, hv.put 14 rfl rfl, ha.up rfl, hw⟩
   ·rintro D σ w hD hdep hcl ⟨v232, v234, v235, v240, v241, v243, v244, v245, v256, v257, v259, v260, v261, hv, ha, hw⟩
    obtain ⟨τ, rfl⟩ := (ac (hv.at 9 rfl (hdep.2.2.1 rfl)) (ac (hv.at 13 rfl (hdep.1 rfl)) (ac (hv.at 14 rfl (hdep.2.1 rfl)) az))).ups
    have hw := hw.selT (i := 4) rfl (hdep.1 rfl)
    have hw := hw.selF (i := 5) rfl hD
    refine RL.ia_rd (i := 4) ⟨_, rfl, cb hg236⟩ rfl hw rfl rfl rfl sl24 hx242 fun v268 hw => ?_
    have hw := hw.pick 19 [1, 2, 3, 4, 5, 0, 7, 8, 9, 10, 11, 12, 13, 14, 15, 16, 17, 18] (new := [bif D 3 then (rd v232 p1.Nets) else junk, bif D 5 then (pt v234 x233) else junk, bif D 6 then (pt v235 x233.Name) else junk, bif D 11 then (rd v240 x164.Pins) else junk, rd v241 p1.Nets, pt v268 x242, bif D 16 then (pt v244 x242.Pins) else junk, bif D 17 then (rd v245 x242.Pins) else junk, bif D 23 then (rd v256 x164.Ports) else junk, bif D 25 then (rd v257 p1.Nets) else junk, bif D 27 then (pt v259 x258) else junk, bif D 28 then (pt v260 x258.Ports) else junk, bif D 29 then (rd v261 x258.Ports) else junk, bx 64 b167 x164, rd v166 x164, pt v165 x164, bx 26 b32 p1, rd v49 p0.Nets]) rfl rfl (by decide) (by decide)
    have hw := hw.altT (i := 4) (b := D 13) rfl (hdep.1 rfl) (junk)
    have hw := hw.altT (i := 5) (b := true) rfl rfl (junk)
    refine RL.nil ?_
    exact ⟨rfl, v232, v234, v235, v240, v241, v268, v244, v245, v256, v257, v259, v260, v261, hv.put 15 rfl rfl, ha.up rfl, hw⟩
   ·rintro D σ w hD hdep hcl ⟨v232, v234, v235, v240, v241, v243, v244, v245, v256, v257, v259, v260, v261, hv, ha, hw⟩
    obtain ⟨τ, rfl⟩ := (ac (hv.at 9 rfl (hdep.2.1 rfl)) (ac (hv.at 15 rfl (hdep.1 rfl)) az)).ups
    have hw := hw.selT (i := 5) rfl (hdep.1 rfl)
    have hw := hw.selF (i := 6) rfl hD
    refine RL.fa_pt (i := 5) (f := fun (x : Net) => x.Pins) ⟨_, rfl, cb hg236⟩ rfl hw rfl rfl fa64_1 fd_Net_1 fun v269 hw => ?_
    have hw := hw.pick 19 [1, 2, 3, 4, 5, 6, 0, 8, 9, 10, 11, 12, 13, 14, 15, 16, 17, 18] (new := [bif D 3 then (rd v232 p1.Nets) else junk, bif D 5 then (pt v234 x233) else junk, bif D 6 then (pt v235 x233.Name) else junk, bif D 11 then (rd v240 x164.Pins) else junk, bif D 13 then (rd v241 p1.Nets) else junk, pt v243 x242, pt v269 x242.Pins, bif D 17 then (rd v245 x242.Pins) else junk, bif D 23 then (rd v256 x164.Ports) else junk, bif D 25 then (rd v257 p1.Nets) else junk, bif D 27 then (pt v259 x258) else junk, bif D 28 then (pt v260 x258.Ports) else junk, bif D 29 then (rd v261 x258.Ports) else junk, bx 64 b167 x164, rd v166 x164, pt v165 x164, bx 26 b32 p1, rd v49 p0.Nets]) rfl rfl (by decide) (by decide)
    have hw := hw.altT (i := 5) (b := D 15) rfl (hdep.1 rfl) (junk)
    have hw := hw.altT (i := 6) (b := true) rfl rfl (junk)
    refine RL.nil ?_
    exact ⟨rfl, v232, v234, v235, v240, v241, v243, v269, v245, v256, v257, v259, v260, v261, hv.put 16 rfl rfl, ha.up rfl, hw⟩
   ·rintro D σ w hD hdep hcl ⟨v232, v234, v235, v240, v241, v243, v244, v245, v256, v257, v259, v260, v261, hv, ha, hw⟩
    obtain ⟨τ, rfl⟩ := (ac (hv.at 9 rfl (hdep.2.1 rfl)) (ac (hv.at 16 rfl (hdep.1 rfl)) az)).ups
    have hw := hw.selT (i := 6) rfl (hdep.1 rfl)
    have hw := hw.selF (i := 7) rfl hD
    refine RL.load_pt (i := 6) (x := x242.Pins) ⟨_, rfl, cb hg236⟩ rfl hw rfl rfl ty33 fun v270 hw => ?_
    have hw := hw.pick 19 [1, 2, 3, 4, 5, 6, 7, 0, 9, 10, 11, 12, 13, 14, 15, 16, 17, 18] (new := [bif D 3 then (rd v232 p1.Nets) else junk, bif D 5 then (pt v234 x233) else junk, bif D 6 then (pt v235 x233.Name) else junk, bif D 11 then (rd v240 x164.Pins) else junk, bif D 13 then (rd v241 p1.Nets) else junk, bif D 15 then (pt v243 x242) else junk, pt v244 x242.Pins, rd v270 x242.Pins, bif D 23 then (rd v256 x164.Ports) else junk, bif D 25 then (rd v257 p1.Nets) else junk, bif D 27 then (pt v259 x258) else junk, bif D 28 then (pt v260 x258.Ports) else junk, bif D 29 then (rd v261 x258.Ports) else junk, bx 64 b167 x164, rd v166 x164, pt v165 x164, bx 26 b32 p1, rd v49 p0.Nets]) rfl rfl (by decide) (by decide)
    have hw := hw.altT (i := 6) (b := D 16) rfl (hdep.1 rfl) (junk)
    have hw := hw.altT (i := 7) (b := true) rfl rfl (junk)
    refine RL.nil ?_
    exact ⟨rfl, v232, v234, v235, v240, v241, v243, v244, v270, v256, v257, v259, v260, v261, hv.put 17 rfl rfl, ha.up rfl, hw⟩
   ·rintro D σ w hD hdep hcl ⟨v232, v234, v235, v240, v241, v243, v244, v245, v256, v257, v259, v260, v261, hv, ha, hw⟩
    obtain ⟨τ, rfl⟩ := (ac (hv.at 9 rfl (hdep.2.2.1 rfl)) (ac (hv.at 11 rfl (hdep.1 rfl)) (ac (hv.at 17 rfl (hdep.2.1 rfl)) az))).ups
    have hw := hw.selT (i := 3) rfl (hdep.1 rfl)
    have hw := hw.selT (i := 7) rfl (hdep.2.1 rfl)
    refine RL.call ⟨_, rfl, cb hg236⟩ rfl fn17 [v240, v245] rfl (Calls_ret (slices_Equal_Pin_ok N  (i0 := 3) (i1 := 7) hw rfl rfl hx246) ?_)
    rintro _ w ⟨rfl, hw⟩
    have hw := hw.altT (i := 3) (b := D 11) rfl (hdep.1 rfl) (junk)
    have hw := hw.altT (i := 7) (b := D 17) rfl (hdep.2.1 rfl) (junk)
    refine RL.nil ?_
    exact ⟨rfl, v232, v234, v235, v240, v241, v243, v244, v245, v256, v257, v259, v260, v261, hv.put 18 rfl rfl, ha.up rfl, hw⟩
   ·rintro D σ w hD hdep hcl ⟨v232, v234, v235, v240, v241, v243, v244, v245, v256, v257, v259, v260, v261, hv, ha, hw⟩
    obtain ⟨τ, rfl⟩ := (ac (hv.at 9 rfl (hdep.2.1 rfl)) (ac (hv.at 18 rfl (hdep.1 rfl)) az)).ups
    refine RL.not (b := x246) ⟨_, rfl, cb hg236⟩ rfl rfl ?_
    refine RL.nil ?_
    exact ⟨rfl, v232, v234, v235, v240, v241, v243, v244, v245, v256, v257, v259, v260, v261, hv.put 19 rfl rfl, ha.up rfl, hw⟩
   ·rintro D σ w hD hdep hcl ⟨v232, v234, v235, v240, v241, v243, v244, v245, v256, v257, v259, v260, v261, hv, ha, hw⟩
    obtain ⟨τ, rfl⟩ := (ac (hv.at 9 rfl (hdep.1 rfl)) (ac (hv.at 19 rfl (hdep.2.1 rfl)) az)).ups
    refine RL.pick (b := (!x164.Name.eqb x233.Name)) (v := (vb (!x246))) trivial rfl rfl (by rw [hg236]; rfl) ?_
    refine RL.nil ?_
    exact ⟨rfl, v232, v234, v235, v240, v241, v243, v244, v245, v256, v257, v259, v260, v261, hv.put 20 rfl rfl, ha.up rfl, hw⟩
   ·rintro D σ w hD hdep hcl ⟨v232, v234, v235, v240, v241, v243, v244, v245, v256, v257, v259, v260, v261, hv, ha, hw⟩
    obtain ⟨τ, rfl⟩ := (ac (hv.at 20 rfl (hdep.1 rfl)) az).ups
    refine mv (vb (!x246)) rfl rfl ?_
    refine RL.nil ?_
    exact ⟨rfl, v232, v234, v235, v240, v241, v243, v244, v245, v256, v257, v259, v260, v261, hv.put 21 rfl rfl, ha.up rfl, hw⟩
   ·rintro D σ w hD hdep hcl ⟨v232, v234, v235, v240, v241, v243, v244, v245, v256, v257, v259, v260, v261, hv, ha, hw⟩
    obtain ⟨τ, rfl⟩ := (ac (hv.at 21 rfl (hdep.1 rfl)) (ac (ha.at 2 rfl) az)).ups
    refine RL.fa_b ⟨_, rfl, cb hg247⟩ rfl rfl fa64_2 ?_
    refine RL.nil ?_
    exact ⟨rfl, v232, v234, v235, v240, v241, v243, v244, v245, v256, v257, v259, v260, v261, hv.put 22 rfl rfl, ha.up rfl, hw⟩
   ·rintro D σ w hD hdep hcl ⟨v232, v234, v235, v240, v241, v243, v244, v245, v256, v257, v259, v260, v261, hv, ha, hw⟩
    obtain ⟨τ, rfl⟩ := (ac (hv.at 21 rfl (hdep.2.1 rfl)) (ac (hv.at 22 rfl (hdep.1 rfl)) az)).ups
    have hw := hw.selF (i := 8) rfl hD
    refine RL.load_bf (i := 13) (f := (fun x => x.Ports)) ⟨_, rfl, cb hg247⟩ rfl hw rfl rfl fd_Net_2 ty55 fun v271 hw => ?_
    have hw := hw.pick 19 [1, 2, 3, 4, 5, 6, 7, 8, 0, 10, 11, 12, 13, 14, 15, 16, 17, 18] (new := [bif D 3 then (rd v232 p1.Nets) else junk, bif D 5 then (pt v234 x233) else junk, bif D 6 then (pt v235 x233.Name) else junk, bif D 11 then (rd v240 x164.Pins) else junk, bif D 13 then (rd v241 p1.Nets) else junk, bif D 15 then (pt v243 x242) else junk, bif D 16 then (pt v244 x242.Pins) else junk, bif D 17 then (rd v245 x242.Pins) else junk, rd v271 x164.Ports, bif D 25 then (rd v257 p1.Nets) else junk, bif D 27 then (pt v259 x258) else junk, bif D 28 then (pt v260 x258.Ports) else junk, bif D 29 then (rd v261 x258.Ports) else junk, bx 64 b167 x164, rd v166 x164, pt v165 x164, bx 26 b32 p1, rd v49 p0.Nets]) rfl rfl (by decide) (by decide)
    have hw := hw.altT (i := 8) (b := true) rfl rfl (junk)
    refine RL.nil ?_
    exact ⟨rfl, v232, v234, v235, v240, v241, v243, v244, v245, v271, v257, v259, v260, v261, hv.put 23 rfl rfl, ha.up rfl, hw⟩
   ·rintro D σ w hD hdep hcl ⟨v232, v234, v235, v240, v241, v243, v244, v245, v256, v257, v259, v260, v261, hv, ha, hw⟩
    obtain ⟨τ, rfl⟩ := (ac (hv.at 21 rfl (hdep.1 rfl)) (ac (ha.at 0 rfl) az)).ups
    refine RL.fa_b ⟨_, rfl, cb hg247⟩ rfl rfl fa26_1 ?_
    refine RL.nil ?_
    exact ⟨rfl, v232, v234, v235, v240, v241, v243, v244, v245, v256, v257, v259, v260, v261, hv.put 24 rfl rfl, ha.up rfl, hw⟩
   ·rintro D σ w hD hdep hcl ⟨v232, v234, v235, v240, v241, v243, v244, v245, v256, v257, v259, v260, v261, hv, ha, hw⟩
    obtain ⟨τ, rfl⟩ := (ac (hv.at 21 rfl (hdep.2.1 rfl)) (ac (hv.at 24 rfl (hdep.1 rfl)) az)).ups
    have hw := hw.selF (i := 9) rfl hD
    refine RL.load_bf (i := 16) (f := (fun x => x.Nets)) ⟨_, rfl, cb hg247⟩ rfl hw rfl rfl fd_Netlist_1 ty24 fun v272 hw => ?_
    have hw := hw.pick 19 [1, 2, 3, 4, 5, 6, 7, 8, 9, 0, 11, 12, 13, 14, 15, 16, 17, 18] (new := [bif D 3 then (rd v232 p1.Nets) else junk, bif D 5 then (pt v234 x233) else junk, bif D 6 then (pt v235 x233.Name) else junk, bif D 11 then (rd v240 x164.Pins) else junk, bif D 13 then (rd v241 p1.Nets) else junk, bif D 15 then (pt v243 x242) else junk, bif D 16 then (pt v244 x242.Pins) else junk, bif D 17 then (rd v245 x242.Pins) else junk, bif D 23 then (rd v256 x164.Ports) else junk, rd v272 p1.Nets, bif D 27 then (pt v259 x258) else junk, bif D 28 then (pt v260 x258.Ports) else junk, bif D 29 then (rd v261 x258.Ports) else junk, bx 64 b167 x164, rd v166 x164, pt v165 x164, bx 26 b32 p1, rd v49 p0.Nets]) rfl rfl (by decide) (by decide)
    have hw := hw.altT (i := 9) (b := true) rfl rfl (junk)
    refine RL.nil ?_
    exact ⟨rfl, v232, v234, v235, v240, v241, v243, v244, v245, v256, v272, v259, v260, v261, hv.put 25 rfl rfl, ha.up rfl, hw⟩
   ·rintro D σ w hD hdep hcl ⟨v232, v234, v235, v240, v241, v243, v244, v245, v256, v257, v259, v260, v261, hv, ha, hw⟩
    obtain ⟨τ, rfl⟩ := (ac (hv.at 21 rfl (hdep.1 rfl)) (ac (ha.at 1 rfl) az)).ups
    refine RL.move (v := (vi (k50 : Int))) ⟨_, rfl, cb hg247⟩ rfl rfl ?_
    refine RL.nil ?_
    exact ⟨rfl, v232, v234, v235, v240, v241, v243, v244, v245, v256, v257, v259, v260, v261, hv.put 26 rfl rfl, ha.up rfl, hw⟩
   ·rintro D σ w hD hdep hcl ⟨v232, v234, v235, v240, v241, v243, v244, v245, v256, v257, v259, v260, v261, hv, ha, hw⟩
    obtain ⟨τ, rfl⟩ := (ac (hv.at 21 rfl (hdep.2.2.1 rfl)) (ac (hv.at 25 rfl (hdep.1 rfl)) (ac (hv.at 26 rfl (hdep.2.1 rfl)) az))).ups
    have hw := hw.selT (i := 9) rfl (hdep.1 rfl)
    have hw := hw.selF (i := 10) rfl hD
    refine RL.ia_rd (i := 9) ⟨_, rfl, cb hg247⟩ rfl hw rfl rfl rfl sl24 hx258 fun v273 hw => ?_
    have hw := hw.pick 19 [1, 2, 3, 4, 5, 6, 7, 8, 9, 10, 0, 12, 13, 14, 15, 16, 17, 18] (new := [bif D 3 then (rd v232 p1.Nets) else junk, bif D 5 then (pt v234 x233) else junk, bif D 6 then (pt v235 x233.Name) else junk, bif D 11 then (rd v240 x164.Pins) else junk, bif D 13 then (rd v241 p1.Nets) else junk, bif D 15 then (pt v243 x242) else junk, bif D 16 then (pt v244 x242.Pins) else junk, bif D 17 then (rd v245 x242.Pins) else junk, bif D 23 then (rd v256 x164.Ports) else junk, rd v257 p1.Nets, pt v273 x258, bif D 28 then (pt v260 x258.Ports) else junk, bif D 29 then (rd v261 x258.Ports) else junk, bx 64 b167 x164, rd v166 x164, pt v165 x164, bx 26 b32 p1, rd v49 p0.Nets]) rfl rfl (by decide) (by decide)
    have hw := hw.altT (i := 9) (b := D 25) rfl (hdep.1 rfl) (junk)
    have hw := hw.altT (i := 10) (b := true) rfl rfl (junk)
    refine RL.nil ?_
    exact ⟨rfl, v232, v234, v235, v240, v241, v243, v244, v245, v256, v257, v273, v260, v261, hv.put 27 rfl rfl, ha.up rfl, hw⟩
   ·rintro D σ w hD hdep hcl ⟨v232, v234, v235, v240, v241, v243, v244, v245, v256, v257, v259, v260, v261, hv, ha, hw⟩
    obtain ⟨τ, rfl⟩ := (ac (hv.at 21 rfl (hdep.2.1 rfl)) (ac (hv.at 27 rfl (hdep.1 rfl)) az)).ups
    have hw := hw.selT (i := 10) rfl (hdep.1 rfl)
    have hw := hw.selF (i := 11) rfl hD
    refine RL.fa_pt (i := 10) (f := fun (x : Net) => x.Ports) ⟨_, rfl, cb hg247⟩ rfl hw rfl rfl fa64_2 fd_Net_2 fun v274 hw => ?_
    have hw := hw.pick 19 [1, 2, 3, 4, 5, 6, 7, 8, 9, 10, 11, 0, 13, 14, 15, 16, 17, 18] (new := [bif D 3 then (rd v232 p1.Nets) else junk, bif D 5 then (pt v234 x233) else junk, bif D 6 then (pt v235 x233.Name) else junk, bif D 11 then (rd v240 x164.Pins) else junk, bif D 13 then (rd v241 p1.Nets) else junk, bif D 15 then (pt v243 x242) else junk, bif D 16 then (pt v244 x242.Pins) else junk, bif D 17 then (rd v245 x242.Pins) else junk, bif D 23 then (rd v256 x164.Ports) else junk, bif D 25 then (rd v257 p1.Nets) else junk, pt v259 x258, pt v274 x258.Ports, bif D 29 then (rd v261 x258.Ports) else junk, bx 64 b167 x164, rd v166 x164, pt v165 x164, bx 26 b32 p1, rd v49 p0.Nets]) rfl rfl (by decide) (by decide)
    have hw := hw.altT (i := 10) (b := D 27) rfl (hdep.1 rfl) (junk)
    have hw := hw.altT (i := 11) (b := true) rfl rfl (junk)
    refine RL.nil ?_
    exact ⟨rfl, v232, v234, v235, v240, v241, v243, v244, v245, v256, v257, v259, v274, v261, hv.put 28 rfl rfl, ha.up rfl, hw⟩
   ·rintro D σ w hD hdep hcl ⟨v232, v234, v235, v240, v241, v243, v244, v245, v256, v257, v259, v260, v261, hv, ha, hw⟩
    obtain ⟨τ, rfl⟩ := (ac (hv.at 21 rfl (hdep.2.1 rfl)) (ac (hv.at 28 rfl (hdep.1 rfl)) az)).ups
    have hw := hw.selT (i := 11) rfl (hdep.1 rfl)
    have hw := hw.selF (i := 12) rfl hD
    refine RL.load_pt (i := 11) (x := x258.Ports) ⟨_, rfl, cb hg247⟩ rfl hw rfl rfl ty55 fun v275 hw => ?_
    have hw := hw.pick 19 [1, 2, 3, 4, 5, 6, 7, 8, 9, 10, 11, 12, 0, 14, 15, 16, 17, 18] (new := [bif D 3 then (rd v232 p1.Nets) else junk, bif D 5 then (pt v234 x233) else junk, bif D 6 then (pt v235 x233.Name) else junk, bif D 11 then (rd v240 x164.Pins) else junk, bif D 13 then (rd v241 p1.Nets) else junk, bif D 15 then (pt v243 x242) else junk, bif D 16 then (pt v244 x242.Pins) else junk, bif D 17 then (rd v245 x242.Pins) else junk, bif D 23 then (rd v256 x164.Ports) else junk, bif D 25 then (rd v257 p1.Nets) else junk, bif D 27 then (pt v259 x258) else junk, pt v260 x258.Ports, rd v275 x258.Ports, bx 64 b167 x164, rd v166 x164, pt v165 x164, bx 26 b32 p1, rd v49 p0.Nets]) rfl rfl (by decide) (by decide)
    have hw := hw.altT (i := 11) (b := D 28) rfl (hdep.1 rfl) (junk)
    have hw := hw.altT (i := 12) (b := true) rfl rfl (junk)
    refine RL.nil ?_
    exact ⟨rfl, v232, v234, v235, v240, v241, v243, v244, v245, v256, v257, v259, v260, v275, hv.put 29 rfl rfl, ha.up rfl, hw⟩
   ·rintro D σ w hD hdep hcl ⟨v232, v234, v235, v240, v241, v243, v244, v245, v256, v257, v259, v260, v261, hv, ha, hw⟩
    obtain ⟨τ, rfl⟩ := (ac (hv.at 21 rfl (hdep.2.2.1 rfl)) (ac (hv.at 23 rfl (hdep.1 rfl)) (ac (hv.at 29 rfl (hdep.2.1 rfl)) az))).ups
    have hw := hw.selT (i := 8) rfl (hdep.1 rfl)
    have hw := hw.selT (i := 12) rfl (hdep.2.1 rfl)
    refine RL.call ⟨_, rfl, cb hg247⟩ rfl fn64 [v256, v261] rfl (Calls_ret (slices_Equal_string_ok N  (i0 := 8) (i1 := 12) hw rfl rfl hx262) ?_)
    rintro _ w ⟨rfl, hw⟩
    have hw := hw.altT (i := 8) (b := D 23) rfl (hdep.1 rfl) (junk)
    have hw := hw.altT (i := 12) (b := D 29) rfl (hdep.2.1 rfl) (junk)
    refine RL.nil ?_
    exact ⟨rfl, v232, v234, v235, v240, v241, v243, v244, v245, v256, v257, v259, v260, v261, hv.put 30 rfl rfl, ha.up rfl, hw⟩
   ·rintro D σ w hD hdep hcl ⟨v232, v234, v235, v240, v241, v243, v244, v245, v256, v257, v259, v260, v261, hv, ha, hw⟩
    obtain ⟨τ, rfl⟩ := (ac (hv.at 21 rfl (hdep.2.1 rfl)) (ac (hv.at 30 rfl (hdep.1 rfl)) az)).ups
    refine RL.not (b := x262) ⟨_, rfl, cb hg247⟩ rfl rfl ?_
    refine RL.nil ?_
    exact ⟨rfl, v232, v234, v235, v240, v241, v243, v244, v245, v256, v257, v259, v260, v261, hv.put 31 rfl rfl, ha.up rfl, hw⟩
   ·rintro D σ w hD hdep hcl ⟨v232, v234, v235, v240, v241, v243, v244, v245, v256, v257, v259, v260, v261, hv, ha, hw⟩
    obtain ⟨τ, rfl⟩ := (ac (hv.at 21 rfl (hdep.1 rfl)) (ac (hv.at 31 rfl (hdep.2.1 rfl)) az)).ups
    refine RL.pick (b := (!x246)) (v := (vb (!x262))) trivial rfl rfl (by rw [hg247]; rfl) ?_
    refine RL.nil ?_
    exact ⟨rfl, v232, v234, v235, v240, v241, v243, v244, v245, v256, v257, v259, v260, v261, hv.put 32 rfl rfl, ha.up rfl, hw⟩
   rintro D σ w hall ⟨v232, v234, v235, v240, v241, v243, v244, v245, v256, v257, v259, v260, v261, hv, ha, hw⟩
   rw [hall 3 (by decide), hall 5 (by decide), hall 6 (by decide), hall 11 (by decide), hall 13 (by decide), hall 15 (by decide), hall 16 (by decide), hall 17 (by decide), hall 23 (by decide), hall 25 (by decide), hall 27 (by decide), hall 28 (by decide), hall 29 (by decide)] at hw
   obtain ⟨τ, rfl⟩ := (ac (hv.at 32 rfl (hall 32 (by decide))) (ac (ha.at 0 rfl) (ac (ha.at 1 rfl) (ac (ha.at 2 rfl) (ac (ha.at 3 rfl) (ac (ha.at 4 rfl) (ac (ha.at 5 rfl) az))))))).ups
   obtain rfl := oi hj
   exact ⟨rfl, ⟨rfl, rfl, rfl, rfl, rfl, trivial⟩, hw.pick 18 [16, 17] (new := [bx 26 b32 p1, rd v49 p0.Nets]) rfl rfl (by decide) (by decide)⟩
  rintro σ w ⟨ha, hw⟩
  obtain ⟨τ, rfl⟩ := ha.ups
  refine thenQ_n ?_
  refine RC.cond (b := s231) rfl (fun hc => ?_) (fun hc => ?_)
  rotate_left
  ·replace hb := cF hc hb
   refine RC.skip ?_
   refine blkQ_n ?_
   refine thenQ_n ?_
   refine RC.region ?_
   refine RL.inc trivial rfl hk hm rfl rfl ?_
   refine mv (vi ((k50 + 1 : Nat) : Int)) rfl rfl ?_
   refine RL.nil ?_
   obtain rfl := oi hb
   exact ⟨rfl, ⟨rfl, rfl, rfl, rfl, trivial⟩, hw.pick 2 [0, 1] (new := [bx 26 b32 p1, rd v49 p0.Nets]) rfl rfl (by decide) (by decide)⟩
  replace hb := cT hc hb
  refine RC.sr ?_
  refine as_ (vb false) rfl rfl ?_
  refine RL.nt ?_
  refine RC.rb ?_
  refine thenQ_r ?_
  obtain rfl := oi hb
  exact ⟨rfl, fin1 rfl rfl ⟨rfl, hw.drop 2 rfl⟩⟩
 ·intro r σ w e hK
  subst e
  refine thenQ_r ?_
  obtain rfl := oi hb
  exact hK
 intro s51 σ w e hJ
 subst e
 rw [Fo.cs_go] at hb
 obtain ⟨ha, hw⟩ := hJ
 obtain ⟨τ, rfl⟩ := ha.ups
 refine thenQ_n ?_
 refine RC.sr ?_
 refine as_ (vb true) rfl rfl ?_
 refine RL.nt ?_
 refine RC.ret ?_
 obtain rfl := oi hb
 exact fin1 rfl rfl ⟨rfl, hw.drop 2 rfl⟩
end Go.Gk
