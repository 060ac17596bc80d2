/-
  Printed by gen.py: Go functions as plain functions, and that they are.
-/
import Derived.Test.YtghiafpkpfipgaaGreatDoorT
import Derived.Test.YtghiafpkpfipgaaGreatDoorS
import Derived.Test.YtghiafpkpfipgaaGreatDoorF1
import Derived.Test.YtghiafpkpfipgaaGreatDoorF2
import Derived.Test.YtghiafpkpfipgaaGreatDoorF3
import Derived.Test.YtghiafpkpfipgaaGreatDoorF6
set_option linter.unusedVariables false
set_option linter.unusedSimpArgs false
set_option linter.unusedSectionVars false
set_option maxRecDepth 100000
set_option maxHeartbeats 4000000

namespace Go.Gk
open Go Go.Proofs
def etchhouseref2_Same_R (E : World) (Γ : List HP) (res : Bool) (v : Value) (w : World) : Prop := v = (vb res) ∧ Holds E w Γ
def etchhouseref2_Same_K (E : World) (Γ : List HP) (r : Bool) (σ : Nat → Value) (w : World) : Prop := finQ Tryz.prog 64 Tryz.f6 (etchhouseref2_Same_R E Γ r) .ret σ w
theorem etchhouseref2_Same_ok (N : Nat) {E w : World} {Γ : List HP} {i0 : Nat} {v0 : Value} {p0 : Netlist} {i1 : Nat} {v1 : Value} {p1 : Netlist} {res : Bool} (hw : Holds E w Γ) (h0 : Γ[i0]? = some (rd v0 p0)) (h1 : Γ[i1]? = some (rd v1 p1)) (hb : etchhouseref2_Same N p0 p1 = some res) :
    Calls Tryz.prog 6 [v0, v1].toArray w (Ret (etchhouseref2_Same_R E Γ res)) := by
 unfold etchhouseref2_Same at hb
 refine enter Tryz.func6 rfl rfl (Nat.le_of_ble_eq_true rfl) ?_
 have hw := hw.dup (i := i0 + 0) h0
 have hw := hw.dup (i := i1 + 1) h1
 refine RC.sr ?_
 refine RL.box_rd (i := 1) (v := v0) trivial rfl hw rfl rfl fun b31 w hw => ?_
 refine RL.box_rd (i := 1) (v := v1) trivial rfl hw rfl rfl fun b32 w hw => ?_
 refine as_ (vb false) rfl rfl ?_
 refine RL.nq ?_
 refine RC.seq ?_
 obtain ⟨s42, hj, hb⟩ := bd hb
 refine RC.jn (fun (s42 : Bool) (σ : Nat → Value) (w : World) => agree σ [(2, (vp b31 0)), (3, (vp b32 0)), (21, (vb s42))] ∧ Holds E w ([bx 26 b31 p0, bx 26 b32 p1] ++ Γ)) s42 ?_ ?_
 ·refine RC.region ?_
  refine RL.fa_b trivial rfl rfl fa26_0 ?_
  refine RL.load_bf (i := 1) (f := (fun x => x.Parts)) trivial rfl hw rfl rfl fd_Netlist_0 ty23 fun v43 hw => ?_
  refine RL.fa_b trivial rfl rfl fa26_0 ?_
  refine RL.load_bf (i := 1) (f := (fun x => x.Parts)) trivial rfl hw rfl rfl fd_Netlist_0 ty23 fun v44 hw => ?_
  obtain ⟨x45, hx45, hj⟩ := bd hj
  refine RL.call trivial rfl fn20 [v43, v44] rfl (Calls_ret (slices_Equal_Part_ok N  (i0 := 1) (i1 := 0) hw rfl rfl hx45) ?_)
  rintro _ w ⟨rfl, hw⟩
  refine RL.not (b := x45) trivial rfl rfl ?_
  refine mv (vb (!x45)) rfl rfl ?_
  rcases Bool.eq_false_or_eq_true (!x45) with hg46 | hg46
  ·replace hj := cT hg46 hj
   refine sk rfl (.inl (cb hg46)) rfl ?_
   refine sk rfl (.inl (cb hg46)) rfl ?_
   refine sk rfl (.inl (cb hg46)) rfl ?_
   refine sk rfl (.inl (cb hg46)) rfl ?_
   refine sk rfl (.inl (cb hg46)) rfl ?_
   refine sk rfl (.inl (cb hg46)) rfl ?_
   refine sk rfl (.inl (cb hg46)) rfl ?_
   refine RL.pick (b := (!x45)) (v := (vb true)) trivial rfl rfl (by rw [hg46]; rfl) ?_
   refine RL.nil ?_
   obtain rfl := oi hj
   exact ⟨rfl, ⟨rfl, rfl, rfl, trivial⟩, hw.pick 6 [3, 2] (new := [bx 26 b31 p0, bx 26 b32 p1]) rfl rfl (by decide) (by decide)⟩
  replace hj := cF hg46 hj
  refine RL.fa_b ⟨_, rfl, cb hg46⟩ rfl rfl fa26_1 ?_
  refine RL.load_bf (i := 3) (f := (fun x => x.Nets)) ⟨_, rfl, cb hg46⟩ rfl hw rfl rfl fd_Netlist_1 ty24 fun v47 hw => ?_
  refine RL.len_rd (i := 0) (l := p0.Nets) ⟨_, rfl, cb hg46⟩ rfl hw rfl rfl un24 ?_
  refine RL.fa_b ⟨_, rfl, cb hg46⟩ rfl rfl fa26_1 ?_
  refine RL.load_bf (i := 3) (f := (fun x => x.Nets)) ⟨_, rfl, cb hg46⟩ rfl hw rfl rfl fd_Netlist_1 ty24 fun v48 hw => ?_
  refine RL.len_rd (i := 0) (l := p1.Nets) ⟨_, rfl, cb hg46⟩ rfl hw rfl rfl un24 ?_
  refine RL.icmp (a := (p0.Nets.length : Int)) (b := (p1.Nets.length : Int)) ⟨_, rfl, cb hg46⟩ rfl rfl rfl rfl ?_
  refine RL.pick (b := (!x45)) (v := (vb ((p0.Nets.length : Int) != (p1.Nets.length : Int)))) trivial rfl rfl (by rw [hg46]; rfl) ?_
  refine RL.nil ?_
  obtain rfl := oi hj
  exact ⟨rfl, ⟨rfl, rfl, rfl, trivial⟩, hw.pick 8 [5, 4] (new := [bx 26 b31 p0, bx 26 b32 p1]) rfl rfl (by decide) (by decide)⟩
 rintro σ w ⟨ha, hw⟩
 obtain ⟨τ, rfl⟩ := ha.ups
 refine thenQ_n ?_
 refine RC.cond (b := s42) rfl (fun hc => ?_) (fun hc => ?_)
 ·replace hb := cT hc hb
  refine RC.sr ?_
  refine as_ (vb false) rfl rfl ?_
  refine RL.nt ?_
  refine RC.rt ?_
  obtain rfl := oi hb
  exact fin1 rfl rfl ⟨rfl, hw.drop 2 rfl⟩
 replace hb := cF hc hb
 refine RC.ss ?_
 refine RC.sr ?_
 refine RL.fa_b trivial rfl rfl fa26_1 ?_
 refine RL.load_bf (i := 0) (f := (fun x => x.Nets)) trivial rfl hw rfl rfl fd_Netlist_1 ty24 fun v49 hw => ?_
 refine RL.len_rd (i := 0) (l := p0.Nets) trivial rfl hw rfl rfl un24 ?_
 refine mv (vi 0) rfl rfl ?_
 refine RL.nt ?_
 obtain ⟨o276, hN, hb⟩ := bd hb
 refine RC.range (fun (k50 : Nat) (s51 : Unit) (σ : Nat → Value) (w : World) => agree σ [(3, (vp b32 0)), (23, v49), (24, (vi (p0.Nets.length : Int))), (25, (vi (k50 : Int)))] ∧ Holds E w ([bx 26 b32 p1, rd v49 p0.Nets] ++ Γ)) (fun (s51 : Unit) (σ : Nat → Value) (w : World) => agree σ [] ∧ Holds E w ([bx 26 b32 p1, rd v49 p0.Nets] ++ Γ)) (etchhouseref2_Same_K E Γ) hN ?_ ?_ ?_ ?_ ?_ 
 ·exact ⟨⟨rfl, rfl, rfl, rfl, trivial⟩, hw.pick 3 [2, 0] (new := [bx 26 b32 p1, rd v49 p0.Nets]) rfl rfl (by decide) (by decide)⟩
 ·intro hm s51 σ w hI
  obtain ⟨ha, hw⟩ := hI
  obtain ⟨τ, rfl⟩ := ha.ups
  refine RC.sr ?_
  refine ic ((p0.Nets.length : Int)) ((p0.Nets.length : Int)) rfl rfl rfl rfl ?_
  refine RL.nq ?_
  refine RC.cond_f dge ?_
  refine RC.ex ?_
  exact ⟨rfl, trivial, hw.pick 2 [0, 1] (new := [bx 26 b32 p1, rd v49 p0.Nets]) rfl rfl (by decide) (by decide)⟩
 ·intro hm k50 s51 fl σ w hk hI hb
  obtain ⟨ha, hw⟩ := hI
  obtain ⟨τ, rfl⟩ := ha.ups
  refine RC.sr ?_
  refine ic ((k50 : Int)) ((p0.Nets.length : Int)) rfl rfl rfl rfl ?_
  refine RL.nq ?_
  refine RC.cond_t (dlt hk) ?_
  refine RC.ss ?_
  refine RC.bs ?_
  refine mv (vi (k50 : Int)) rfl rfl ?_
  obtain ⟨x164, hx164, hb⟩ := bd hb
  refine RL.ia_rd (i := 1) trivial rfl hw rfl rfl rfl sl24 hx164 fun v165 hw => ?_
  refine RL.load_pt (i := 0) (x := x164) trivial rfl hw rfl rfl ty38 fun v166 hw => ?_
  refine RL.alloc trivial rfl hw ze38.z fun b167 w hw => ?_
  refine as_ (vi (k50 : Int)) rfl rfl ?_
  refine RL.store_raw (i := 0) (j := 1) trivial hw rfl rfl rfl rfl ty38 rfl fun w hw => ?_
  refine RL.nq ?_
  obtain ⟨s231, hj, hb⟩ := bd hb
  refine RC.jn (fun (s231 : Bool) (σ : Nat → Value) (w : World) => agree σ [(3, (vp b32 0)), (23, v49), (24, (vi (p0.Nets.length : Int))), (25, (vi (k50 : Int))), (62, (vb s231))] ∧ Holds E w ([bx 26 b32 p1, rd v49 p0.Nets] ++ Γ)) s231 ?_ ?_
  ·obtain ⟨x233, hx233, hj⟩ := bd hj
   rcases Bool.eq_false_or_eq_true (!x164.Name.eqb x233.Name) with hg236 | hg236
   ·replace hj := cT hg236 hj
    refine RC.drw mixed rfl (fun (D : Nat → Bool) (σ : Nat → Value) (w : World) => ∃ (v232 : Value) (v234 : Value) (v235 : Value), doneV D σ [(0, 30, (vp b167 0)), (1, 31, (str x164.Name)), (2, 32, (vp b32 1)), (3, 33, v232), (4, 34, (vi (k50 : Int))), (5, 35, v234), (6, 36, v235), (7, 37, (str x233.Name)), (8, 38, (vb (!x164.Name.eqb x233.Name))), (9, 39, (vb (!x164.Name.eqb x233.Name))), (10, 40, undef), (11, 41, undef), (12, 42, undef), (13, 43, undef), (14, 44, undef), (15, 45, undef), (16, 46, undef), (17, 47, undef), (18, 48, undef), (19, 49, undef), (20, 50, (vb true)), (21, 51, (vb true)), (22, 52, undef), (23, 53, undef), (24, 54, undef), (25, 55, undef), (26, 56, undef), (27, 57, undef), (28, 58, undef), (29, 59, undef), (30, 60, undef), (31, 61, undef), (32, 62, (vb true))] ∧ agree σ [(3, (vp b32 0)), (5, (vi (k50 : Int))), (6, (vp b167 0)), (23, v49), (24, (vi (p0.Nets.length : Int))), (25, (vi (k50 : Int)))] ∧ Holds E w ([bif D 3 then (rd v232 p1.Nets) else junk, bif D 5 then (pt v234 x233) else junk, bif D 6 then (pt v235 x233.Name) else junk, bx 38 b167 x164, rd v166 x164, pt v165 x164, bx 26 b32 p1, rd v49 p0.Nets] ++ Γ)) ?_ ⟨?_, ?_, ?_, ?_, ?_, ?_, ?_, ?_, ?_, ?_, ?_, ?_, ?_, ?_, ?_, ?_, ?_, ?_, ?_, ?_, ?_, ?_, ?_, ?_, ?_, ?_, ?_, ?_, ?_, ?_, ?_, ?_, ?_, trivial⟩ ?_
    ·have hw := hw.drew
     have hw := hw.junk
     have hw := hw.junk
     have hw := hw.junk
     exact ⟨undef, undef, undef, doneV.none, ⟨rfl, rfl, rfl, rfl, rfl, rfl, trivial⟩, hw⟩
    ·rintro D σ w hD hdep hcl ⟨v232, v234, v235, hv, ha, hw⟩
     obtain ⟨τ, rfl⟩ := (ac (ha.at 2 rfl) az).ups
     refine RL.fa_b trivial rfl rfl fa38_0 ?_
     refine RL.nil ?_
     exact ⟨rfl, v232, v234, v235, hv.put 0 rfl rfl, ha.up rfl, hw⟩
    ·rintro D σ w hD hdep hcl ⟨v232, v234, v235, hv, ha, hw⟩
     obtain ⟨τ, rfl⟩ := (ac (hv.at 0 rfl (hdep.1 rfl)) az).ups
     refine RL.load_bfs (i := 3) (f := (fun x => x.Name)) trivial rfl hw rfl rfl fd_Net_0 ty9 ?_
     refine RL.nil ?_
     exact ⟨rfl, v232, v234, v235, hv.put 1 rfl rfl, ha.up rfl, hw⟩
    ·rintro D σ w hD hdep hcl ⟨v232, v234, v235, hv, ha, hw⟩
     obtain ⟨τ, rfl⟩ := (ac (ha.at 0 rfl) az).ups
     refine RL.fa_b trivial rfl rfl fa26_1 ?_
     refine RL.nil ?_
     exact ⟨rfl, v232, v234, v235, hv.put 2 rfl rfl, ha.up rfl, hw⟩
    ·rintro D σ w hD hdep hcl ⟨v232, v234, v235, hv, ha, hw⟩
     obtain ⟨τ, rfl⟩ := (ac (hv.at 2 rfl (hdep.1 rfl)) az).ups
     have hw := hw.selF (i := 0) rfl hD
     refine RL.load_bf (i := 6) (f := (fun x => x.Nets)) trivial rfl hw rfl rfl fd_Netlist_1 ty24 fun v237 hw => ?_
     have hw := hw.pick 9 [0, 2, 3, 4, 5, 6, 7, 8] (new := [rd v237 p1.Nets, bif D 5 then (pt v234 x233) else junk, bif D 6 then (pt v235 x233.Name) else junk, bx 38 b167 x164, rd v166 x164, pt v165 x164, bx 26 b32 p1, rd v49 p0.Nets]) rfl rfl (by decide) (by decide)
     have hw := hw.altT (i := 0) (b := true) rfl rfl (junk)
     refine RL.nil ?_
     exact ⟨rfl, v237, v234, v235, hv.put 3 rfl rfl, ha.up rfl, hw⟩
    ·rintro D σ w hD hdep hcl ⟨v232, v234, v235, hv, ha, hw⟩
     obtain ⟨τ, rfl⟩ := (ac (ha.at 1 rfl) az).ups
     refine mv (vi (k50 : Int)) rfl rfl ?_
     refine RL.nil ?_
     exact ⟨rfl, v232, v234, v235, hv.put 4 rfl rfl, ha.up rfl, hw⟩
    ·rintro D σ w hD hdep hcl ⟨v232, v234, v235, hv, ha, hw⟩
     obtain ⟨τ, rfl⟩ := (ac (hv.at 3 rfl (hdep.1 rfl)) (ac (hv.at 4 rfl (hdep.2.1 rfl)) az)).ups
     have hw := hw.selT (i := 0) rfl (hdep.1 rfl)
     have hw := hw.selF (i := 1) rfl hD
     refine RL.ia_rd (i := 0) trivial rfl hw rfl rfl rfl sl24 hx233 fun v238 hw => ?_
     have hw := hw.pick 9 [1, 0, 3, 4, 5, 6, 7, 8] (new := [rd v232 p1.Nets, pt v238 x233, bif D 6 then (pt v235 x233.Name) else junk, bx 38 b167 x164, rd v166 x164, pt v165 x164, bx 26 b32 p1, rd v49 p0.Nets]) rfl rfl (by decide) (by decide)
     have hw := hw.altT (i := 0) (b := D 3) rfl (hdep.1 rfl) (junk)
     have hw := hw.altT (i := 1) (b := true) rfl rfl (junk)
     refine RL.nil ?_
     exact ⟨rfl, v232, v238, v235, hv.put 5 rfl rfl, ha.up rfl, hw⟩
    ·rintro D σ w hD hdep hcl ⟨v232, v234, v235, hv, ha, hw⟩
     obtain ⟨τ, rfl⟩ := (ac (hv.at 5 rfl (hdep.1 rfl)) az).ups
     have hw := hw.selT (i := 1) rfl (hdep.1 rfl)
     have hw := hw.selF (i := 2) rfl hD
     refine RL.fa_pt (i := 1) (f := fun (x : Net) => x.Name) trivial rfl hw rfl rfl fa38_0 fd_Net_0 fun v239 hw => ?_
     have hw := hw.pick 9 [1, 2, 0, 4, 5, 6, 7, 8] (new := [bif D 3 then (rd v232 p1.Nets) else junk, pt v234 x233, pt v239 x233.Name, bx 38 b167 x164, rd v166 x164, pt v165 x164, bx 26 b32 p1, rd v49 p0.Nets]) rfl rfl (by decide) (by decide)
     have hw := hw.altT (i := 1) (b := D 5) rfl (hdep.1 rfl) (junk)
     have hw := hw.altT (i := 2) (b := true) rfl rfl (junk)
     refine RL.nil ?_
     exact ⟨rfl, v232, v234, v239, hv.put 6 rfl rfl, ha.up rfl, hw⟩
    ·rintro D σ w hD hdep hcl ⟨v232, v234, v235, hv, ha, hw⟩
     obtain ⟨τ, rfl⟩ := (ac (hv.at 6 rfl (hdep.1 rfl)) az).ups
     have hw := hw.selT (i := 2) rfl (hdep.1 rfl)
     refine RL.load_pts (i := 2) (y := x233.Name) trivial rfl hw rfl rfl ty9 ?_
     have hw := hw.altT (i := 2) (b := D 6) rfl (hdep.1 rfl) (junk)
     refine RL.nil ?_
     exact ⟨rfl, v232, v234, v235, hv.put 7 rfl rfl, ha.up rfl, hw⟩
    ·rintro D σ w hD hdep hcl ⟨v232, v234, v235, hv, ha, hw⟩
     obtain ⟨τ, rfl⟩ := (ac (hv.at 1 rfl (hdep.1 rfl)) (ac (hv.at 7 rfl (hdep.2.1 rfl)) az)).ups
     refine RL.scmp (a := x164.Name) (b := x233.Name) trivial rfl rfl rfl rfl ?_
     refine RL.nil ?_
     exact ⟨rfl, v232, v234, v235, hv.put 8 rfl rfl, ha.up rfl, hw⟩
    ·rintro D σ w hD hdep hcl ⟨v232, v234, v235, hv, ha, hw⟩
     obtain ⟨τ, rfl⟩ := (ac (hv.at 8 rfl (hdep.1 rfl)) az).ups
     refine mv (vb (!x164.Name.eqb x233.Name)) rfl rfl ?_
     refine RL.nil ?_
     exact ⟨rfl, v232, v234, v235, hv.put 9 rfl rfl, ha.up rfl, hw⟩
    ·rintro D σ w hD hdep hcl ⟨v232, v234, v235, hv, ha, hw⟩
     obtain ⟨τ, rfl⟩ := (ac (hv.at 9 rfl (hdep.1 rfl)) (ac (ha.at 2 rfl) az)).ups
     refine sk rfl (.inl (cb hg236)) rfl ?_
     refine RL.nil ?_
     exact ⟨rfl, v232, v234, v235, hv.put 10 rfl rfl, ha.up rfl, hw⟩
    ·rintro D σ w hD hdep hcl ⟨v232, v234, v235, hv, ha, hw⟩
     obtain ⟨τ, rfl⟩ := (ac (hv.at 9 rfl (hdep.2.1 rfl)) (ac (hv.at 10 rfl (hdep.1 rfl)) az)).ups
     refine sk rfl (.inl (cb hg236)) rfl ?_
     refine RL.nil ?_
     exact ⟨rfl, v232, v234, v235, hv.put 11 rfl rfl, ha.up rfl, hw⟩
    ·rintro D σ w hD hdep hcl ⟨v232, v234, v235, hv, ha, hw⟩
     obtain ⟨τ, rfl⟩ := (ac (hv.at 9 rfl (hdep.1 rfl)) (ac (ha.at 0 rfl) az)).ups
     refine sk rfl (.inl (cb hg236)) rfl ?_
     refine RL.nil ?_
     exact ⟨rfl, v232, v234, v235, hv.put 12 rfl rfl, ha.up rfl, hw⟩
    ·rintro D σ w hD hdep hcl ⟨v232, v234, v235, hv, ha, hw⟩
     obtain ⟨τ, rfl⟩ := (ac (hv.at 9 rfl (hdep.2.1 rfl)) (ac (hv.at 12 rfl (hdep.1 rfl)) az)).ups
     refine sk rfl (.inl (cb hg236)) rfl ?_
     refine RL.nil ?_
     exact ⟨rfl, v232, v234, v235, hv.put 13 rfl rfl, ha.up rfl, hw⟩
    ·rintro D σ w hD hdep hcl ⟨v232, v234, v235, hv, ha, hw⟩
     obtain ⟨τ, rfl⟩ := (ac (hv.at 9 rfl (hdep.1 rfl)) (ac (ha.at 1 rfl) az)).ups
     refine sk rfl (.inl (cb hg236)) rfl ?_
     refine RL.nil ?_
     exact ⟨rfl, v232, v234, v235, hv.put 14 rfl rfl, ha.up rfl, hw⟩
    ·rintro D σ w hD hdep hcl ⟨v232, v234, v235, hv, ha, hw⟩
     obtain ⟨τ, rfl⟩ := (ac (hv.at 9 rfl (hdep.2.2.1 rfl)) (ac (hv.at 13 rfl (hdep.1 rfl)) (ac (hv.at 14 rfl (hdep.2.1 rfl)) az))).ups
     refine sk rfl (.inl (cb hg236)) rfl ?_
     refine RL.nil ?_
     exact ⟨rfl, v232, v234, v235, hv.put 15 rfl rfl, ha.up rfl, hw⟩
    ·rintro D σ w hD hdep hcl ⟨v232, v234, v235, hv, ha, hw⟩
     obtain ⟨τ, rfl⟩ := (ac (hv.at 9 rfl (hdep.2.1 rfl)) (ac (hv.at 15 rfl (hdep.1 rfl)) az)).ups
     refine sk rfl (.inl (cb hg236)) rfl ?_
     refine RL.nil ?_
     exact ⟨rfl, v232, v234, v235, hv.put 16 rfl rfl, ha.up rfl, hw⟩
    ·rintro D σ w hD hdep hcl ⟨v232, v234, v235, hv, ha, hw⟩
     obtain ⟨τ, rfl⟩ := (ac (hv.at 9 rfl (hdep.2.1 rfl)) (ac (hv.at 16 rfl (hdep.1 rfl)) az)).ups
     refine sk rfl (.inl (cb hg236)) rfl ?_
     refine RL.nil ?_
     exact ⟨rfl, v232, v234, v235, hv.put 17 rfl rfl, ha.up rfl, hw⟩
    ·rintro D σ w hD hdep hcl ⟨v232, v234, v235, hv, ha, hw⟩
     obtain ⟨τ, rfl⟩ := (ac (hv.at 9 rfl (hdep.2.2.1 rfl)) (ac (hv.at 11 rfl (hdep.1 rfl)) (ac (hv.at 17 rfl (hdep.2.1 rfl)) az))).ups
     refine sk rfl (.inl (cb hg236)) rfl ?_
     refine RL.nil ?_
     exact ⟨rfl, v232, v234, v235, hv.put 18 rfl rfl, ha.up rfl, hw⟩
    ·rintro D σ w hD hdep hcl ⟨v232, v234, v235, hv, ha, hw⟩
     obtain ⟨τ, rfl⟩ := (ac (hv.at 9 rfl (hdep.2.1 rfl)) (ac (hv.at 18 rfl (hdep.1 rfl)) az)).ups
     refine sk rfl (.inl (cb hg236)) rfl ?_
     refine RL.nil ?_
     exact ⟨rfl, v232, v234, v235, hv.put 19 rfl rfl, ha.up rfl, hw⟩
    ·rintro D σ w hD hdep hcl ⟨v232, v234, v235, hv, ha, hw⟩
     obtain ⟨τ, rfl⟩ := (ac (hv.at 9 rfl (hdep.1 rfl)) (ac (hv.at 19 rfl (hdep.2.1 rfl)) az)).ups
     refine RL.pick (b := (!x164.Name.eqb x233.Name)) (v := (vb true)) trivial rfl rfl (by rw [hg236]; rfl) ?_
     refine RL.nil ?_
     exact ⟨rfl, v232, v234, v235, hv.put 20 rfl rfl, ha.up rfl, hw⟩
    ·rintro D σ w hD hdep hcl ⟨v232, v234, v235, hv, ha, hw⟩
     obtain ⟨τ, rfl⟩ := (ac (hv.at 20 rfl (hdep.1 rfl)) az).ups
     refine mv (vb true) rfl rfl ?_
     refine RL.nil ?_
     exact ⟨rfl, v232, v234, v235, hv.put 21 rfl rfl, ha.up rfl, hw⟩
    ·rintro D σ w hD hdep hcl ⟨v232, v234, v235, hv, ha, hw⟩
     obtain ⟨τ, rfl⟩ := (ac (hv.at 21 rfl (hdep.1 rfl)) (ac (ha.at 2 rfl) az)).ups
     refine sk rfl (.inl rfl) rfl ?_
     refine RL.nil ?_
     exact ⟨rfl, v232, v234, v235, hv.put 22 rfl rfl, ha.up rfl, hw⟩
    ·rintro D σ w hD hdep hcl ⟨v232, v234, v235, hv, ha, hw⟩
     obtain ⟨τ, rfl⟩ := (ac (hv.at 21 rfl (hdep.2.1 rfl)) (ac (hv.at 22 rfl (hdep.1 rfl)) az)).ups
     refine sk rfl (.inl rfl) rfl ?_
     refine RL.nil ?_
     exact ⟨rfl, v232, v234, v235, hv.put 23 rfl rfl, ha.up rfl, hw⟩
    ·rintro D σ w hD hdep hcl ⟨v232, v234, v235, hv, ha, hw⟩
     obtain ⟨τ, rfl⟩ := (ac (hv.at 21 rfl (hdep.1 rfl)) (ac (ha.at 0 rfl) az)).ups
     refine sk rfl (.inl rfl) rfl ?_
     refine RL.nil ?_
     exact ⟨rfl, v232, v234, v235, hv.put 24 rfl rfl, ha.up rfl, hw⟩
    ·rintro D σ w hD hdep hcl ⟨v232, v234, v235, hv, ha, hw⟩
     obtain ⟨τ, rfl⟩ := (ac (hv.at 21 rfl (hdep.2.1 rfl)) (ac (hv.at 24 rfl (hdep.1 rfl)) az)).ups
     refine sk rfl (.inl rfl) rfl ?_
     refine RL.nil ?_
     exact ⟨rfl, v232, v234, v235, hv.put 25 rfl rfl, ha.up rfl, hw⟩
    ·rintro D σ w hD hdep hcl ⟨v232, v234, v235, hv, ha, hw⟩
     obtain ⟨τ, rfl⟩ := (ac (hv.at 21 rfl (hdep.1 rfl)) (ac (ha.at 1 rfl) az)).ups
     refine sk rfl (.inl rfl) rfl ?_
     refine RL.nil ?_
     exact ⟨rfl, v232, v234, v235, hv.put 26 rfl rfl, ha.up rfl, hw⟩
    ·rintro D σ w hD hdep hcl ⟨v232, v234, v235, hv, ha, hw⟩
     obtain ⟨τ, rfl⟩ := (ac (hv.at 21 rfl (hdep.2.2.1 rfl)) (ac (hv.at 25 rfl (hdep.1 rfl)) (ac (hv.at 26 rfl (hdep.2.1 rfl)) az))).ups
     refine sk rfl (.inl rfl) rfl ?_
     refine RL.nil ?_
     exact ⟨rfl, v232, v234, v235, hv.put 27 rfl rfl, ha.up rfl, hw⟩
    ·rintro D σ w hD hdep hcl ⟨v232, v234, v235, hv, ha, hw⟩
     obtain ⟨τ, rfl⟩ := (ac (hv.at 21 rfl (hdep.2.1 rfl)) (ac (hv.at 27 rfl (hdep.1 rfl)) az)).ups
     refine sk rfl (.inl rfl) rfl ?_
     refine RL.nil ?_
     exact ⟨rfl, v232, v234, v235, hv.put 28 rfl rfl, ha.up rfl, hw⟩
    ·rintro D σ w hD hdep hcl ⟨v232, v234, v235, hv, ha, hw⟩
     obtain ⟨τ, rfl⟩ := (ac (hv.at 21 rfl (hdep.2.1 rfl)) (ac (hv.at 28 rfl (hdep.1 rfl)) az)).ups
     refine sk rfl (.inl rfl) rfl ?_
     refine RL.nil ?_
     exact ⟨rfl, v232, v234, v235, hv.put 29 rfl rfl, ha.up rfl, hw⟩
    ·rintro D σ w hD hdep hcl ⟨v232, v234, v235, hv, ha, hw⟩
     obtain ⟨τ, rfl⟩ := (ac (hv.at 21 rfl (hdep.2.2.1 rfl)) (ac (hv.at 23 rfl (hdep.1 rfl)) (ac (hv.at 29 rfl (hdep.2.1 rfl)) az))).ups
     refine sk rfl (.inl rfl) rfl ?_
     refine RL.nil ?_
     exact ⟨rfl, v232, v234, v235, hv.put 30 rfl rfl, ha.up rfl, hw⟩
    ·rintro D σ w hD hdep hcl ⟨v232, v234, v235, hv, ha, hw⟩
     obtain ⟨τ, rfl⟩ := (ac (hv.at 21 rfl (hdep.2.1 rfl)) (ac (hv.at 30 rfl (hdep.1 rfl)) az)).ups
     refine sk rfl (.inl rfl) rfl ?_
     refine RL.nil ?_
     exact ⟨rfl, v232, v234, v235, hv.put 31 rfl rfl, ha.up rfl, hw⟩
    ·rintro D σ w hD hdep hcl ⟨v232, v234, v235, hv, ha, hw⟩
     obtain ⟨τ, rfl⟩ := (ac (hv.at 21 rfl (hdep.1 rfl)) (ac (hv.at 31 rfl (hdep.2.1 rfl)) az)).ups
     refine RL.pick (b := true) (v := (vb true)) trivial rfl rfl rfl ?_
     refine RL.nil ?_
     exact ⟨rfl, v232, v234, v235, hv.put 32 rfl rfl, ha.up rfl, hw⟩
    rintro D σ w hall ⟨v232, v234, v235, hv, ha, hw⟩
    rw [hall 3 (by decide), hall 5 (by decide), hall 6 (by decide)] at hw
    obtain ⟨τ, rfl⟩ := (ac (hv.at 32 rfl (hall 32 (by decide))) (ac (ha.at 0 rfl) (ac (ha.at 1 rfl) (ac (ha.at 2 rfl) (ac (ha.at 3 rfl) (ac (ha.at 4 rfl) (ac (ha.at 5 rfl) az))))))).ups
    obtain rfl := oi hj
    exact ⟨rfl, ⟨rfl, rfl, rfl, rfl, rfl, trivial⟩, hw.pick 8 [6, 7] (new := [bx 26 b32 p1, rd v49 p0.Nets]) rfl rfl (by decide) (by decide)⟩
   replace hj := cF hg236 hj
   obtain ⟨x242, hx242, hj⟩ := bd hj
   obtain ⟨x246, hx246, hj⟩ := bd hj
   rcases Bool.eq_false_or_eq_true (!x246) with hg247 | hg247
   ·replace hj := cT hg247 hj
    refine RC.drw mixed rfl (fun (D : Nat → Bool) (σ : Nat → Value) (w : World) => ∃ (v232 : Value) (v234 : Value) (v235 : Value) (v240 : Value) (v241 : Value) (v243 : Value) (v244 : Value) (v245 : Value), doneV D σ [(0, 30, (vp b167 0)), (1, 31, (str x164.Name)), (2, 32, (vp b32 1)), (3, 33, v232), (4, 34, (vi (k50 : Int))), (5, 35, v234), (6, 36, v235), (7, 37, (str x233.Name)), (8, 38, (vb (!x164.Name.eqb x233.Name))), (9, 39, (vb (!x164.Name.eqb x233.Name))), (10, 40, (vp b167 1)), (11, 41, v240), (12, 42, (vp b32 1)), (13, 43, v241), (14, 44, (vi (k50 : Int))), (15, 45, v243), (16, 46, v244), (17, 47, v245), (18, 48, (vb x246)), (19, 49, (vb (!x246))), (20, 50, (vb (!x246))), (21, 51, (vb (!x246))), (22, 52, undef), (23, 53, undef), (24, 54, undef), (25, 55, undef), (26, 56, undef), (27, 57, undef), (28, 58, undef), (29, 59, undef), (30, 60, undef), (31, 61, undef), (32, 62, (vb true))] ∧ agree σ [(3, (vp b32 0)), (5, (vi (k50 : Int))), (6, (vp b167 0)), (23, v49), (24, (vi (p0.Nets.length : Int))), (25, (vi (k50 : Int)))] ∧ Holds E w ([bif D 3 then (rd v232 p1.Nets) else junk, bif D 5 then (pt v234 x233) else junk, bif D 6 then (pt v235 x233.Name) else junk, bif D 11 then (rd v240 x164.Pins) else junk, bif D 13 then (rd v241 p1.Nets) else junk, bif D 15 then (pt v243 x242) else junk, bif D 16 then (pt v244 x242.Pins) else junk, bif D 17 then (rd v245 x242.Pins) else junk, bx 38 b167 x164, rd v166 x164, pt v165 x164, bx 26 b32 p1, rd v49 p0.Nets] ++ Γ)) ?_ ⟨?_, ?_, ?_, ?_, ?_, ?_, ?_, ?_, ?_, ?_, ?_, ?_, ?_, ?_, ?_, ?_, ?_, ?_, ?_, ?_, ?_, ?_, ?_, ?_, ?_, ?_, ?_, ?_, ?_, ?_, ?_, ?_, ?_, trivial⟩ ?_
    ·have hw := hw.drew
     have hw := hw.junk
     have hw := hw.junk
     have hw := hw.junk
     have hw := hw.junk
     have hw := hw.junk
     have hw := hw.junk
     have hw := hw.junk
     have hw := hw.junk
     exact ⟨undef, undef, undef, undef, undef, undef, undef, undef, doneV.none, ⟨rfl, rfl, rfl, rfl, rfl, rfl, trivial⟩, hw⟩
    ·rintro D σ w hD hdep hcl ⟨v232, v234, v235, v240, v241, v243, v244, v245, hv, ha, hw⟩
     obtain ⟨τ, rfl⟩ := (ac (ha.at 2 rfl) az).ups
     refine RL.fa_b trivial rfl rfl fa38_0 ?_
     refine RL.nil ?_
     exact ⟨rfl, v232, v234, v235, v240, v241, v243, v244, v245, hv.put 0 rfl rfl, ha.up rfl, hw⟩
    ·rintro D σ w hD hdep hcl ⟨v232, v234, v235, v240, v241, v243, v244, v245, hv, ha, hw⟩
     obtain ⟨τ, rfl⟩ := (ac (hv.at 0 rfl (hdep.1 rfl)) az).ups
     refine RL.load_bfs (i := 8) (f := (fun x => x.Name)) trivial rfl hw rfl rfl fd_Net_0 ty9 ?_
     refine RL.nil ?_
     exact ⟨rfl, v232, v234, v235, v240, v241, v243, v244, v245, hv.put 1 rfl rfl, ha.up rfl, hw⟩
    ·rintro D σ w hD hdep hcl ⟨v232, v234, v235, v240, v241, v243, v244, v245, hv, ha, hw⟩
     obtain ⟨τ, rfl⟩ := (ac (ha.at 0 rfl) az).ups
     refine RL.fa_b trivial rfl rfl fa26_1 ?_
     refine RL.nil ?_
     exact ⟨rfl, v232, v234, v235, v240, v241, v243, v244, v245, hv.put 2 rfl rfl, ha.up rfl, hw⟩
    ·rintro D σ w hD hdep hcl ⟨v232, v234, v235, v240, v241, v243, v244, v245, hv, ha, hw⟩
     obtain ⟨τ, rfl⟩ := (ac (hv.at 2 rfl (hdep.1 rfl)) az).ups
     have hw := hw.selF (i := 0) rfl hD
     refine RL.load_bf (i := 11) (f := (fun x => x.Nets)) trivial rfl hw rfl rfl fd_Netlist_1 ty24 fun v248 hw => ?_
     have hw := hw.pick 14 [0, 2, 3, 4, 5, 6, 7, 8, 9, 10, 11, 12, 13] (new := [rd v248 p1.Nets, bif D 5 then (pt v234 x233) else junk, bif D 6 then (pt v235 x233.Name) else junk, bif D 11 then (rd v240 x164.Pins) else junk, bif D 13 then (rd v241 p1.Nets) else junk, bif D 15 then (pt v243 x242) else junk, bif D 16 then (pt v244 x242.Pins) else junk, bif D 17 then (rd v245 x242.Pins) else junk, bx 38 b167 x164, rd v166 x164, pt v165 x164, bx 26 b32 p1, rd v49 p0.Nets]) rfl rfl (by decide) (by decide)
     have hw := hw.altT (i := 0) (b := true) rfl rfl (junk)
     refine RL.nil ?_
     exact ⟨rfl, v248, v234, v235, v240, v241, v243, v244, v245, hv.put 3 rfl rfl, ha.up rfl, hw⟩
    ·rintro D σ w hD hdep hcl ⟨v232, v234, v235, v240, v241, v243, v244, v245, hv, ha, hw⟩
     obtain ⟨τ, rfl⟩ := (ac (ha.at 1 rfl) az).ups
     refine mv (vi (k50 : Int)) rfl rfl ?_
     refine RL.nil ?_
     exact ⟨rfl, v232, v234, v235, v240, v241, v243, v244, v245, hv.put 4 rfl rfl, ha.up rfl, hw⟩
    ·rintro D σ w hD hdep hcl ⟨v232, v234, v235, v240, v241, v243, v244, v245, hv, ha, hw⟩
     obtain ⟨τ, rfl⟩ := (ac (hv.at 3 rfl (hdep.1 rfl)) (ac (hv.at 4 rfl (hdep.2.1 rfl)) az)).ups
     have hw := hw.selT (i := 0) rfl (hdep.1 rfl)
     have hw := hw.selF (i := 1) rfl hD
     refine RL.ia_rd (i := 0) trivial rfl hw rfl rfl rfl sl24 hx233 fun v249 hw => ?_
     have hw := hw.pick 14 [1, 0, 3, 4, 5, 6, 7, 8, 9, 10, 11, 12, 13] (new := [rd v232 p1.Nets, pt v249 x233, bif D 6 then (pt v235 x233.Name) else junk, bif D 11 then (rd v240 x164.Pins) else junk, bif D 13 then (rd v241 p1.Nets) else junk, bif D 15 then (pt v243 x242) else junk, bif D 16 then (pt v244 x242.Pins) else junk, bif D 17 then (rd v245 x242.Pins) else junk, bx 38 b167 x164, rd v166 x164, pt v165 x164, bx 26 b32 p1, rd v49 p0.Nets]) rfl rfl (by decide) (by decide)
     have hw := hw.altT (i := 0) (b := D 3) rfl (hdep.1 rfl) (junk)
     have hw := hw.altT (i := 1) (b := true) rfl rfl (junk)
     refine RL.nil ?_
     exact ⟨rfl, v232, v249, v235, v240, v241, v243, v244, v245, hv.put 5 rfl rfl, ha.up rfl, hw⟩
    ·rintro D σ w hD hdep hcl ⟨v232, v234, v235, v240, v241, v243, v244, v245, hv, ha, hw⟩
     obtain ⟨τ, rfl⟩ := (ac (hv.at 5 rfl (hdep.1 rfl)) az).ups
     have hw := hw.selT (i := 1) rfl (hdep.1 rfl)
     have hw := hw.selF (i := 2) rfl hD
     refine RL.fa_pt (i := 1) (f := fun (x : Net) => x.Name) trivial rfl hw rfl rfl fa38_0 fd_Net_0 fun v250 hw => ?_
     have hw := hw.pick 14 [1, 2, 0, 4, 5, 6, 7, 8, 9, 10, 11, 12, 13] (new := [bif D 3 then (rd v232 p1.Nets) else junk, pt v234 x233, pt v250 x233.Name, bif D 11 then (rd v240 x164.Pins) else junk, bif D 13 then (rd v241 p1.Nets) else junk, bif D 15 then (pt v243 x242) else junk, bif D 16 then (pt v244 x242.Pins) else junk, bif D 17 then (rd v245 x242.Pins) else junk, bx 38 b167 x164, rd v166 x164, pt v165 x164, bx 26 b32 p1, rd v49 p0.Nets]) rfl rfl (by decide) (by decide)
     have hw := hw.altT (i := 1) (b := D 5) rfl (hdep.1 rfl) (junk)
     have hw := hw.altT (i := 2) (b := true) rfl rfl (junk)
     refine RL.nil ?_
     exact ⟨rfl, v232, v234, v250, v240, v241, v243, v244, v245, hv.put 6 rfl rfl, ha.up rfl, hw⟩
    ·rintro D σ w hD hdep hcl ⟨v232, v234, v235, v240, v241, v243, v244, v245, hv, ha, hw⟩
     obtain ⟨τ, rfl⟩ := (ac (hv.at 6 rfl (hdep.1 rfl)) az).ups
     have hw := hw.selT (i := 2) rfl (hdep.1 rfl)
     refine RL.load_pts (i := 2) (y := x233.Name) trivial rfl hw rfl rfl ty9 ?_
     have hw := hw.altT (i := 2) (b := D 6) rfl (hdep.1 rfl) (junk)
     refine RL.nil ?_
     exact ⟨rfl, v232, v234, v235, v240, v241, v243, v244, v245, hv.put 7 rfl rfl, ha.up rfl, hw⟩
    ·rintro D σ w hD hdep hcl ⟨v232, v234, v235, v240, v241, v243, v244, v245, hv, ha, hw⟩
     obtain ⟨τ, rfl⟩ := (ac (hv.at 1 rfl (hdep.1 rfl)) (ac (hv.at 7 rfl (hdep.2.1 rfl)) az)).ups
     refine RL.scmp (a := x164.Name) (b := x233.Name) trivial rfl rfl rfl rfl ?_
     refine RL.nil ?_
     exact ⟨rfl, v232, v234, v235, v240, v241, v243, v244, v245, hv.put 8 rfl rfl, ha.up rfl, hw⟩
    ·rintro D σ w hD hdep hcl ⟨v232, v234, v235, v240, v241, v243, v244, v245, hv, ha, hw⟩
     obtain ⟨τ, rfl⟩ := (ac (hv.at 8 rfl (hdep.1 rfl)) az).ups
     refine mv (vb (!x164.Name.eqb x233.Name)) rfl rfl ?_
     refine RL.nil ?_
     exact ⟨rfl, v232, v234, v235, v240, v241, v243, v244, v245, hv.put 9 rfl rfl, ha.up rfl, hw⟩
    ·rintro D σ w hD hdep hcl ⟨v232, v234, v235, v240, v241, v243, v244, v245, hv, ha, hw⟩
     obtain ⟨τ, rfl⟩ := (ac (hv.at 9 rfl (hdep.1 rfl)) (ac (ha.at 2 rfl) az)).ups
     refine RL.fa_b ⟨_, rfl, cb hg236⟩ rfl rfl fa38_1 ?_
     refine RL.nil ?_
     exact ⟨rfl, v232, v234, v235, v240, v241, v243, v244, v245, hv.put 10 rfl rfl, ha.up rfl, hw⟩
    ·rintro D σ w hD hdep hcl ⟨v232, v234, v235, v240, v241, v243, v244, v245, hv, ha, hw⟩
     obtain ⟨τ, rfl⟩ := (ac (hv.at 9 rfl (hdep.2.1 rfl)) (ac (hv.at 10 rfl (hdep.1 rfl)) az)).ups
     have hw := hw.selF (i := 3) rfl hD
     refine RL.load_bf (i := 8) (f := (fun x => x.Pins)) ⟨_, rfl, cb hg236⟩ rfl hw rfl rfl fd_Net_1 ty35 fun v251 hw => ?_
     have hw := hw.pick 14 [1, 2, 3, 0, 5, 6, 7, 8, 9, 10, 11, 12, 13] (new := [bif D 3 then (rd v232 p1.Nets) else junk, bif D 5 then (pt v234 x233) else junk, bif D 6 then (pt v235 x233.Name) else junk, rd v251 x164.Pins, bif D 13 then (rd v241 p1.Nets) else junk, bif D 15 then (pt v243 x242) else junk, bif D 16 then (pt v244 x242.Pins) else junk, bif D 17 then (rd v245 x242.Pins) else junk, bx 38 b167 x164, rd v166 x164, pt v165 x164, bx 26 b32 p1, rd v49 p0.Nets]) rfl rfl (by decide) (by decide)
     have hw := hw.altT (i := 3) (b := true) rfl rfl (junk)
     refine RL.nil ?_
     exact ⟨rfl, v232, v234, v235, v251, v241, v243, v244, v245, hv.put 11 rfl rfl, ha.up rfl, hw⟩
    ·rintro D σ w hD hdep hcl ⟨v232, v234, v235, v240, v241, v243, v244, v245, hv, ha, hw⟩
     obtain ⟨τ, rfl⟩ := (ac (hv.at 9 rfl (hdep.1 rfl)) (ac (ha.at 0 rfl) az)).ups
     refine RL.fa_b ⟨_, rfl, cb hg236⟩ rfl rfl fa26_1 ?_
     refine RL.nil ?_
     exact ⟨rfl, v232, v234, v235, v240, v241, v243, v244, v245, hv.put 12 rfl rfl, ha.up rfl, hw⟩
    ·rintro D σ w hD hdep hcl ⟨v232, v234, v235, v240, v241, v243, v244, v245, hv, ha, hw⟩
     obtain ⟨τ, rfl⟩ := (ac (hv.at 9 rfl (hdep.2.1 rfl)) (ac (hv.at 12 rfl (hdep.1 rfl)) az)).ups
     have hw := hw.selF (i := 4) rfl hD
     refine RL.load_bf (i := 11) (f := (fun x => x.Nets)) ⟨_, rfl, cb hg236⟩ rfl hw rfl rfl fd_Netlist_1 ty24 fun v252 hw => ?_
     have hw := hw.pick 14 [1, 2, 3, 4, 0, 6, 7, 8, 9, 10, 11, 12, 13] (new := [bif D 3 then (rd v232 p1.Nets) else junk, bif D 5 then (pt v234 x233) else junk, bif D 6 then (pt v235 x233.Name) else junk, bif D 11 then (rd v240 x164.Pins) else junk, rd v252 p1.Nets, bif D 15 then (pt v243 x242) else junk, bif D 16 then (pt v244 x242.Pins) else junk, bif D 17 then (rd v245 x242.Pins) else junk, bx 38 b167 x164, rd v166 x164, pt v165 x164, bx 26 b32 p1, rd v49 p0.Nets]) rfl rfl (by decide) (by decide)
     have hw := hw.altT (i := 4) (b := true) rfl rfl (junk)
     refine RL.nil ?_
     exact ⟨rfl, v232, v234, v235, v240, v252, v243, v244, v245, hv.put 13 rfl rfl, ha.up rfl, hw⟩
    ·rintro D σ w hD hdep hcl ⟨v232, v234, v235, v240, v241, v243, v244, v245, hv, ha, hw⟩
     obtain ⟨τ, rfl⟩ := (ac (hv.at 9 rfl (hdep.1 rfl)) (ac (ha.at 1 rfl) az)).ups
     refine RL.move (v := (vi (k50 : Int))) ⟨_, rfl, cb hg236⟩ rfl rfl ?_
     refine RL.nil ?_
     exact ⟨rfl, v232, v234, v235, v240, v241, v243, v244, v245, hv.put 14 rfl rfl, ha.up rfl, hw⟩
    ·rintro D σ w hD hdep hcl ⟨v232, v234, v235, v240, v241, v243, v244, v245, hv, ha, hw⟩
     obtain ⟨τ, rfl⟩ := (ac (hv.at 9 rfl (hdep.2.2.1 rfl)) (ac (hv.at 13 rfl (hdep.1 rfl)) (ac (hv.at 14 rfl (hdep.2.1 rfl)) az))).ups
     have hw := hw.selT (i := 4) rfl (hdep.1 rfl)
     have hw := hw.selF (i := 5) rfl hD
     refine RL.ia_rd (i := 4) ⟨_, rfl, cb hg236⟩ rfl hw rfl rfl rfl sl24 hx242 fun v253 hw => ?_
     have hw := hw.pick 14 [1, 2, 3, 4, 5, 0, 7, 8, 9, 10, 11, 12, 13] (new := [bif D 3 then (rd v232 p1.Nets) else junk, bif D 5 then (pt v234 x233) else junk, bif D 6 then (pt v235 x233.Name) else junk, bif D 11 then (rd v240 x164.Pins) else junk, rd v241 p1.Nets, pt v253 x242, bif D 16 then (pt v244 x242.Pins) else junk, bif D 17 then (rd v245 x242.Pins) else junk, bx 38 b167 x164, rd v166 x164, pt v165 x164, bx 26 b32 p1, rd v49 p0.Nets]) rfl rfl (by decide) (by decide)
     have hw := hw.altT (i := 4) (b := D 13) rfl (hdep.1 rfl) (junk)
     have hw := hw.altT (i := 5) (b := true) rfl rfl (junk)
     refine RL.nil ?_
     exact ⟨rfl, v232, v234, v235, v240, v241, v253, v244, v245, hv.put 15 rfl rfl, ha.up rfl, hw⟩
    ·rintro D σ w hD hdep hcl ⟨v232, v234, v235, v240, v241, v243, v244, v245, hv, ha, hw⟩
     obtain ⟨τ, rfl⟩ := (ac (hv.at 9 rfl (hdep.2.1 rfl)) (ac (hv.at 15 rfl (hdep.1 rfl)) az)).ups
     have hw := hw.selT (i := 5) rfl (hdep.1 rfl)
     have hw := hw.selF (i := 6) rfl hD
     refine RL.fa_pt (i := 5) (f := fun (x : Net) => x.Pins) ⟨_, rfl, cb hg236⟩ rfl hw rfl rfl fa38_1 fd_Net_1 fun v254 hw => ?_
     have hw := hw.pick 14 [1, 2, 3, 4, 5, 6, 0, 8, 9, 10, 11, 12, 13] (new := [bif D 3 then (rd v232 p1.Nets) else junk, bif D 5 then (pt v234 x233) else junk, bif D 6 then (pt v235 x233.Name) else junk, bif D 11 then (rd v240 x164.Pins) else junk, bif D 13 then (rd v241 p1.Nets) else junk, pt v243 x242, pt v254 x242.Pins, bif D 17 then (rd v245 x242.Pins) else junk, bx 38 b167 x164, rd v166 x164, pt v165 x164, bx 26 b32 p1, rd v49 p0.Nets]) rfl rfl (by decide) (by decide)
     have hw := hw.altT (i := 5) (b := D 15) rfl (hdep.1 rfl) (junk)
     have hw := hw.altT (i := 6) (b := true) rfl rfl (junk)
     refine RL.nil ?_
     exact ⟨rfl, v232, v234, v235, v240, v241, v243, v254, v245, hv.put 16 rfl rfl, ha.up rfl, hw⟩
    ·rintro D σ w hD hdep hcl ⟨v232, v234, v235, v240, v241, v243, v244, v245, hv, ha, hw⟩
     obtain ⟨τ, rfl⟩ := (ac (hv.at 9 rfl (hdep.2.1 rfl)) (ac (hv.at 16 rfl (hdep.1 rfl)) az)).ups
     have hw := hw.selT (i := 6) rfl (hdep.1 rfl)
     have hw := hw.selF (i := 7) rfl hD
     refine RL.load_pt (i := 6) (x := x242.Pins) ⟨_, rfl, cb hg236⟩ rfl hw rfl rfl ty35 fun v255 hw => ?_
     have hw := hw.pick 14 [1, 2, 3, 4, 5, 6, 7, 0, 9, 10, 11, 12, 13] (new := [bif D 3 then (rd v232 p1.Nets) else junk, bif D 5 then (pt v234 x233) else junk, bif D 6 then (pt v235 x233.Name) else junk, bif D 11 then (rd v240 x164.Pins) else junk, bif D 13 then (rd v241 p1.Nets) else junk, bif D 15 then (pt v243 x242) else junk, pt v244 x242.Pins, rd v255 x242.Pins, bx 38 b167 x164, rd v166 x164, pt v165 x164, bx 26 b32 p1, rd v49 p0.Nets]) rfl rfl (by decide) (by decide)
     have hw := hw.altT (i := 6) (b := D 16) rfl (hdep.1 rfl) (junk)
     have hw := hw.altT (i := 7) (b := true) rfl rfl (junk)
     refine RL.nil ?_
     exact ⟨rfl, v232, v234, v235, v240, v241, v243, v244, v255, hv.put 17 rfl rfl, ha.up rfl, hw⟩
    ·rintro D σ w hD hdep hcl ⟨v232, v234, v235, v240, v241, v243, v244, v245, hv, ha, hw⟩
     obtain ⟨τ, rfl⟩ := (ac (hv.at 9 rfl (hdep.2.2.1 rfl)) (ac (hv.at 11 rfl (hdep.1 rfl)) (ac (hv.at 17 rfl (hdep.2.1 rfl)) az))).ups
     have hw := hw.selT (i := 3) rfl (hdep.1 rfl)
     have hw := hw.selT (i := 7) rfl (hdep.2.1 rfl)
     refine RL.call ⟨_, rfl, cb hg236⟩ rfl fn21 [v240, v245] rfl (Calls_ret (slices_Equal_Pin_ok N  (i0 := 3) (i1 := 7) hw rfl rfl hx246) ?_)
     rintro _ w ⟨rfl, hw⟩
     have hw := hw.altT (i := 3) (b := D 11) rfl (hdep.1 rfl) (junk)
     have hw := hw.altT (i := 7) (b := D 17) rfl (hdep.2.1 rfl) (junk)
     refine RL.nil ?_
     exact ⟨rfl, v232, v234, v235, v240, v241, v243, v244, v245, hv.put 18 rfl rfl, ha.up rfl, hw⟩
    ·rintro D σ w hD hdep hcl ⟨v232, v234, v235, v240, v241, v243, v244, v245, hv, ha, hw⟩
     obtain ⟨τ, rfl⟩ := (ac (hv.at 9 rfl (hdep.2.1 rfl)) (ac (hv.at 18 rfl (hdep.1 rfl)) az)).ups
     refine RL.not (b := x246) ⟨_, rfl, cb hg236⟩ rfl rfl ?_
     refine RL.nil ?_
     exact ⟨rfl, v232, v234, v235, v240, v241, v243, v244, v245, hv.put 19 rfl rfl, ha.up rfl, hw⟩
    ·rintro D σ w hD hdep hcl ⟨v232, v234, v235, v240, v241, v243, v244, v245, hv, ha, hw⟩
     obtain ⟨τ, rfl⟩ := (ac (hv.at 9 rfl (hdep.1 rfl)) (ac (hv.at 19 rfl (hdep.2.1 rfl)) az)).ups
     refine RL.pick (b := (!x164.Name.eqb x233.Name)) (v := (vb (!x246))) trivial rfl rfl (by rw [hg236]; rfl) ?_
     refine RL.nil ?_
     exact ⟨rfl, v232, v234, v235, v240, v241, v243, v244, v245, hv.put 20 rfl rfl, ha.up rfl, hw⟩
    ·rintro D σ w hD hdep hcl ⟨v232, v234, v235, v240, v241, v243, v244, v245, hv, ha, hw⟩
     obtain ⟨τ, rfl⟩ := (ac (hv.at 20 rfl (hdep.1 rfl)) az).ups
     refine mv (vb (!x246)) rfl rfl ?_
     refine RL.nil ?_
     exact ⟨rfl, v232, v234, v235, v240, v241, v243, v244, v245, hv.put 21 rfl rfl, ha.up rfl, hw⟩
    ·rintro D σ w hD hdep hcl ⟨v232, v234, v235, v240, v241, v243, v244, v245, hv, ha, hw⟩
     obtain ⟨τ, rfl⟩ := (ac (hv.at 21 rfl (hdep.1 rfl)) (ac (ha.at 2 rfl) az)).ups
     refine sk rfl (.inl (cb hg247)) rfl ?_
     refine RL.nil ?_
     exact ⟨rfl, v232, v234, v235, v240, v241, v243, v244, v245, hv.put 22 rfl rfl, ha.up rfl, hw⟩
    ·rintro D σ w hD hdep hcl ⟨v232, v234, v235, v240, v241, v243, v244, v245, hv, ha, hw⟩
     obtain ⟨τ, rfl⟩ := (ac (hv.at 21 rfl (hdep.2.1 rfl)) (ac (hv.at 22 rfl (hdep.1 rfl)) az)).ups
     refine sk rfl (.inl (cb hg247)) rfl ?_
     refine RL.nil ?_
     exact ⟨rfl, v232, v234, v235, v240, v241, v243, v244, v245, hv.put 23 rfl rfl, ha.up rfl, hw⟩
    ·rintro D σ w hD hdep hcl ⟨v232, v234, v235, v240, v241, v243, v244, v245, hv, ha, hw⟩
     obtain ⟨τ, rfl⟩ := (ac (hv.at 21 rfl (hdep.1 rfl)) (ac (ha.at 0 rfl) az)).ups
     refine sk rfl (.inl (cb hg247)) rfl ?_
     refine RL.nil ?_
     exact ⟨rfl, v232, v234, v235, v240, v241, v243, v244, v245, hv.put 24 rfl rfl, ha.up rfl, hw⟩
    ·rintro D σ w hD hdep hcl ⟨v232, v234, v235, v240, v241, v243, v244, v245, hv, ha, hw⟩
     obtain ⟨τ, rfl⟩ := (ac (hv.at 21 rfl (hdep.2.1 rfl)) (ac (hv.at 24 rfl (hdep.1 rfl)) az)).ups
     refine sk rfl (.inl (cb hg247)) rfl ?_
     refine RL.nil ?_
     exact ⟨rfl, v232, v234, v235, v240, v241, v243, v244, v245, hv.put 25 rfl rfl, ha.up rfl, hw⟩
    ·rintro D σ w hD hdep hcl ⟨v232, v234, v235, v240, v241, v243, v244, v245, hv, ha, hw⟩
     obtain ⟨τ, rfl⟩ := (ac (hv.at 21 rfl (hdep.1 rfl)) (ac (ha.at 1 rfl) az)).ups
     refine sk rfl (.inl (cb hg247)) rfl ?_
     refine RL.nil ?_
     exact ⟨rfl, v232, v234, v235, v240, v241, v243, v244, v245, hv.put 26 rfl rfl, ha.up rfl, hw⟩
    ·rintro D σ w hD hdep hcl ⟨v232, v234, v235, v240, v241, v243, v244, v245, hv, ha, hw⟩
     obtain ⟨τ, rfl⟩ := (ac (hv.at 21 rfl (hdep.2.2.1 rfl)) (ac (hv.at 25 rfl (hdep.1 rfl)) (ac (hv.at 26 rfl (hdep.2.1 rfl)) az))).ups
     refine sk rfl (.inl (cb hg247)) rfl ?_
     refine RL.nil ?_
     exact ⟨rfl, v232, v234, v235, v240, v241, v243, v244, v245, hv.put 27 rfl rfl, ha.up rfl, hw⟩
    ·rintro D σ w hD hdep hcl ⟨v232, v234, v235, v240, v241, v243, v244, v245, hv, ha, hw⟩
     obtain ⟨τ, rfl⟩ := (ac (hv.at 21 rfl (hdep.2.1 rfl)) (ac (hv.at 27 rfl (hdep.1 rfl)) az)).ups
     refine sk rfl (.inl (cb hg247)) rfl ?_
     refine RL.nil ?_
     exact ⟨rfl, v232, v234, v235, v240, v241, v243, v244, v245, hv.put 28 rfl rfl, ha.up rfl, hw⟩
    ·rintro D σ w hD hdep hcl ⟨v232, v234, v235, v240, v241, v243, v244, v245, hv, ha, hw⟩
     obtain ⟨τ, rfl⟩ := (ac (hv.at 21 rfl (hdep.2.1 rfl)) (ac (hv.at 28 rfl (hdep.1 rfl)) az)).ups
     refine sk rfl (.inl (cb hg247)) rfl ?_
     refine RL.nil ?_
     exact ⟨rfl, v232, v234, v235, v240, v241, v243, v244, v245, hv.put 29 rfl rfl, ha.up rfl, hw⟩
    ·rintro D σ w hD hdep hcl ⟨v232, v234, v235, v240, v241, v243, v244, v245, hv, ha, hw⟩
     obtain ⟨τ, rfl⟩ := (ac (hv.at 21 rfl (hdep.2.2.1 rfl)) (ac (hv.at 23 rfl (hdep.1 rfl)) (ac (hv.at 29 rfl (hdep.2.1 rfl)) az))).ups
     refine sk rfl (.inl (cb hg247)) rfl ?_
     refine RL.nil ?_
     exact ⟨rfl, v232, v234, v235, v240, v241, v243, v244, v245, hv.put 30 rfl rfl, ha.up rfl, hw⟩
    ·rintro D σ w hD hdep hcl ⟨v232, v234, v235, v240, v241, v243, v244, v245, hv, ha, hw⟩
     obtain ⟨τ, rfl⟩ := (ac (hv.at 21 rfl (hdep.2.1 rfl)) (ac (hv.at 30 rfl (hdep.1 rfl)) az)).ups
     refine sk rfl (.inl (cb hg247)) rfl ?_
     refine RL.nil ?_
     exact ⟨rfl, v232, v234, v235, v240, v241, v243, v244, v245, hv.put 31 rfl rfl, ha.up rfl, hw⟩
    ·rintro D σ w hD hdep hcl ⟨v232, v234, v235, v240, v241, v243, v244, v245, hv, ha, hw⟩
     obtain ⟨τ, rfl⟩ := (ac (hv.at 21 rfl (hdep.1 rfl)) (ac (hv.at 31 rfl (hdep.2.1 rfl)) az)).ups
     refine RL.pick (b := (!x246)) (v := (vb true)) trivial rfl rfl (by rw [hg247]; rfl) ?_
     refine RL.nil ?_
     exact ⟨rfl, v232, v234, v235, v240, v241, v243, v244, v245, hv.put 32 rfl rfl, ha.up rfl, hw⟩
    rintro D σ w hall ⟨v232, v234, v235, v240, v241, v243, v244, v245, hv, ha, hw⟩
    rw [hall 3 (by decide), hall 5 (by decide), hall 6 (by decide), hall 11 (by decide), hall 13 (by decide), hall 15 (by decide), hall 16 (by decide), hall 17 (by decide)] at hw
    obtain ⟨τ, rfl⟩ := (ac (hv.at 32 rfl (hall 32 (by decide))) (ac (ha.at 0 rfl) (ac (ha.at 1 rfl) (ac (ha.at 2 rfl) (ac (ha.at 3 rfl) (ac (ha.at 4 rfl) (ac (ha.at 5 rfl) az))))))).ups
    obtain rfl := oi hj
    exact ⟨rfl, ⟨rfl, rfl, rfl, rfl, rfl, trivial⟩, hw.pick 13 [11, 12] (new := [bx 26 b32 p1, rd v49 p0.Nets]) rfl rfl (by decide) (by decide)⟩
   replace hj := cF hg247 hj
   obtain ⟨x258, hx258, hj⟩ := bd hj
   obtain ⟨x262, hx262, hj⟩ := bd hj
   refine RC.drw mixed rfl (fun (D : Nat → Bool) (σ : Nat → Value) (w : World) => ∃ (v232 : Value) (v234 : Value) (v235 : Value) (v240 : Value) (v241 : Value) (v243 : Value) (v244 : Value) (v245 : Value) (v256 : Value) (v257 : Value) (v259 : Value) (v260 : Value) (v261 : Value), doneV D σ [(0, 30, (vp b167 0)), (1, 31, (str x164.Name)), (2, 32, (vp b32 1)), (3, 33, v232), (4, 34, (vi (k50 : Int))), (5, 35, v234), (6, 36, v235), (7, 37, (str x233.Name)), (8, 38, (vb (!x164.Name.eqb x233.Name))), (9, 39, (vb (!x164.Name.eqb x233.Name))), (10, 40, (vp b167 1)), (11, 41, v240), (12, 42, (vp b32 1)), (13, 43, v241), (14, 44, (vi (k50 : Int))), (15, 45, v243), (16, 46, v244), (17, 47, v245), (18, 48, (vb x246)), (19, 49, (vb (!x246))), (20, 50, (vb (!x246))), (21, 51, (vb (!x246))), (22, 52, (vp b167 2)), (23, 53, v256), (24, 54, (vp b32 1)), (25, 55, v257), (26, 56, (vi (k50 : Int))), (27, 57, v259), (28, 58, v260), (29, 59, v261), (30, 60, (vb x262)), (31, 61, (vb (!x262))), (32, 62, (vb (!x262)))] ∧ agree σ [(3, (vp b32 0)), (5, (vi (k50 : Int))), (6, (vp b167 0)), (23, v49), (24, (vi (p0.Nets.length : Int))), (25, (vi (k50 : Int)))] ∧ Holds E w ([bif D 3 then (rd v232 p1.Nets) else junk, bif D 5 then (pt v234 x233) else junk, bif D 6 then (pt v235 x233.Name) else junk, bif D 11 then (rd v240 x164.Pins) else junk, bif D 13 then (rd v241 p1.Nets) else junk, bif D 15 then (pt v243 x242) else junk, bif D 16 then (pt v244 x242.Pins) else junk, bif D 17 then (rd v245 x242.Pins) else junk, bif D 23 then (rd v256 x164.Ports) else junk, bif D 25 then (rd v257 p1.Nets) else junk, bif D 27 then (pt v259 x258) else junk, bif D 28 then (pt v260 x258.Ports) else junk, bif D 29 then (rd v261 x258.Ports) else junk, bx 38 b167 x164, rd v166 x164, pt v165 x164, bx 26 b32 p1, rd v49 p0.Nets] ++ Γ)) ?_ ⟨?_, ?_, ?_, ?_, ?_, ?_, ?_, ?_, ?_, ?_, ?_, ?_, ?_, ?_, ?_, ?_, ?_, ?_, ?_, ?_, ?_, ?_, ?_, ?_, ?_, ?_, ?_, ?_, ?_, ?_, ?_, ?_, ?_, trivial⟩ ?_
   ·have hw := hw.drew
    have hw := hw.junk
    have hw := hw.junk
    have hw := hw.junk
    have hw := hw.junk
    have hw := hw.junk
    have hw := hw.junk
    have hw := hw.junk
    have hw := hw.junk
    have hw := hw.junk
    have hw := hw.junk
    have hw := hw.junk
    have hw := hw.junk
    have hw := hw.junk
    exact ⟨undef, undef, undef, undef, undef, undef, undef, undef, undef, undef, undef, undef, undef, doneV.none, ⟨rfl, rfl, rfl, rfl, rfl, rfl, trivial⟩, hw⟩
   ·rintro D σ w hD hdep hcl ⟨v232, v234, v235, v240, v241, v243, v244, v245, v256, v257, v259, v260, v261, hv, ha, hw⟩
    obtain ⟨τ, rfl⟩ := (ac (ha.at 2 rfl) az).ups
    refine RL.fa_b trivial rfl rfl fa38_0 ?_
    refine RL.nil ?_
    exact ⟨rfl, v232, v234, v235, v240, v241, v243, v244, v245, v256, v257, v259, v260, v261, hv.put 0 rfl rfl, ha.up rfl, hw⟩
   ·rintro D σ w hD hdep hcl ⟨v232, v234, v235, v240, v241, v243, v244, v245, v256, v257, v259, v260, v261, hv, ha, hw⟩
    obtain ⟨τ, rfl⟩ := (ac (hv.at 0 rfl (hdep.1 rfl)) az).ups
    refine RL.load_bfs (i := 13) (f := (fun x => x.Name)) trivial rfl hw rfl rfl fd_Net_0 ty9 ?_
    refine RL.nil ?_
    exact ⟨rfl, v232, v234, v235, v240, v241, v243, v244, v245, v256, v257, v259, v260, v261, hv.put 1 rfl rfl, ha.up rfl, hw⟩
   ·rintro D σ w hD hdep hcl ⟨v232, v234, v235, v240, v241, v243, v244, v245, v256, v257, v259, v260, v261, hv, ha, hw⟩
    obtain ⟨τ, rfl⟩ := (ac (ha.at 0 rfl) az).ups
    refine RL.fa_b trivial rfl rfl fa26_1 ?_
    refine RL.nil ?_
    exact ⟨rfl, v232, v234, v235, v240, v241, v243, v244, v245, v256, v257, v259, v260, v261, hv.put 2 rfl rfl, ha.up rfl, hw⟩
   ·rintro D σ w hD hdep hcl ⟨v232, v234, v235, v240, v241, v243, v244, v245, v256, v257, v259, v260, v261, hv, ha, hw⟩
    obtain ⟨τ, rfl⟩ := (ac (hv.at 2 rfl (hdep.1 rfl)) az).ups
    have hw := hw.selF (i := 0) rfl hD
    refine RL.load_bf (i := 16) (f := (fun x => x.Nets)) trivial rfl hw rfl rfl fd_Netlist_1 ty24 fun v263 hw => ?_
    have hw := hw.pick 19 [0, 2, 3, 4, 5, 6, 7, 8, 9, 10, 11, 12, 13, 14, 15, 16, 17, 18] (new := [rd v263 p1.Nets, bif D 5 then (pt v234 x233) else junk, bif D 6 then (pt v235 x233.Name) else junk, bif D 11 then (rd v240 x164.Pins) else junk, bif D 13 then (rd v241 p1.Nets) else junk, bif D 15 then (pt v243 x242) else junk, bif D 16 then (pt v244 x242.Pins) else junk, bif D 17 then (rd v245 x242.Pins) else junk, bif D 23 then (rd v256 x164.Ports) else junk, bif D 25 then (rd v257 p1.Nets) else junk, bif D 27 then (pt v259 x258) else junk, bif D 28 then (pt v260 x258.Ports) else junk, bif D 29 then (rd v261 x258.Ports) else junk, bx 38 b167 x164, rd v166 x164, pt v165 x164, bx 26 b32 p1, rd v49 p0.Nets]) rfl rfl (by decide) (by decide)
    have hw := hw.altT (i := 0) (b := true) rfl rfl (junk)
    refine RL.nil ?_
    exact ⟨rfl, v263, v234, v235, v240, v241, v243, v244, v245, v256, v257, v259, v260, v261, hv.put 3 rfl rfl, ha.up rfl, hw⟩
   ·rintro D σ w hD hdep hcl ⟨v232, v234, v235, v240, v241, v243, v244, v245, v256, v257, v259, v260, v261, hv, ha, hw⟩
    obtain ⟨τ, rfl⟩ := (ac (ha.at 1 rfl) az).ups
    refine mv (vi (k50 : Int)) rfl rfl ?_
    refine RL.nil ?_
    exact ⟨rfl, v232, v234, v235, v240, v241, v243, v244, v245, v256, v257, v259, v260, v261, hv.put 4 rfl rfl, ha.up rfl, hw⟩
   ·rintro D σ w hD hdep hcl ⟨v232, v234, v235, v240, v241, v243, v244, v245, v256, v257, v259, v260, v261, hv, ha, hw⟩
    obtain ⟨τ, rfl⟩ := (ac (hv.at 3 rfl (hdep.1 rfl)) (ac (hv.at 4 rfl (hdep.2.1 rfl)) az)).ups
    have hw := hw.selT (i := 0) rfl (hdep.1 rfl)
    have hw := hw.selF (i := 1) rfl hD
    refine RL.ia_rd (i := 0) trivial rfl hw rfl rfl rfl sl24 hx233 fun v264 hw => ?_
    have hw := hw.pick 19 [1, 0, 3, 4, 5, 6, 7, 8, 9, 10, 11, 12, 13, 14, 15, 16, 17, 18] (new := [rd v232 p1.Nets, pt v264 x233, bif D 6 then (pt v235 x233.Name) else junk, bif D 11 then (rd v240 x164.Pins) else junk, bif D 13 then (rd v241 p1.Nets) else junk, bif D 15 then (pt v243 x242) else junk, bif D 16 then (pt v244 x242.Pins) else junk, bif D 17 then (rd v245 x242.Pins) else junk, bif D 23 then (rd v256 x164.Ports) else junk, bif D 25 then (rd v257 p1.Nets) else junk, bif D 27 then (pt v259 x258) else junk, bif D 28 then (pt v260 x258.Ports) else junk, bif D 29 then (rd v261 x258.Ports) else junk, bx 38 b167 x164, rd v166 x164, pt v165 x164, bx 26 b32 p1, rd v49 p0.Nets]) rfl rfl (by decide) (by decide)
    have hw := hw.altT (i := 0) (b := D 3) rfl (hdep.1 rfl) (junk)
    have hw := hw.altT (i := 1) (b := true) rfl rfl (junk)
    refine RL.nil ?_
    exact ⟨rfl, v232, v264, v235, v240, v241, v243, v244, v245, v256, v257, v259, v260, v261, hv.put 5 rfl rfl, ha.up rfl, hw⟩
   ·rintro D σ w hD hdep hcl ⟨v232, v234, v235, v240, v241, v243, v244, v245, v256, v257, v259, v260, v261, hv, ha, hw⟩
    obtain ⟨τ, rfl⟩ := (ac (hv.at 5 rfl (hdep.1 rfl)) az).ups
    have hw := hw.selT (i := 1) rfl (hdep.1 rfl)
    have hw := hw.selF (i := 2) rfl hD
    refine RL.fa_pt (i := 1) (f := fun (x : Net) => x.Name) trivial rfl hw rfl rfl fa38_0 fd_Net_0 fun v265 hw => ?_
    have hw := hw.pick 19 [1, 2, 0, 4, 5, 6, 7, 8, 9, 10, 11, 12, 13, 14, 15, 16, 17, 18] (new := [bif D 3 then (rd v232 p1.Nets) else junk, pt v234 x233, pt v265 x233.Name, bif D 11 then (rd v240 x164.Pins) else junk, bif D 13 then (rd v241 p1.Nets) else junk, bif D 15 then (pt v243 x242) else junk, bif D 16 then (pt v244 x242.Pins) else junk, bif D 17 then (rd v245 x242.Pins) else junk, bif D 23 then (rd v256 x164.Ports) else junk, bif D 25 then (rd v257 p1.Nets) else junk, bif D 27 then (pt v259 x258) else junk, bif D 28 then (pt v260 x258.Ports) else junk, bif D 29 then (rd v261 x258.Ports) else junk, bx 38 b167 x164, rd v166 x164, pt v165 x164, bx 26 b32 p1, rd v49 p0.Nets]) rfl rfl (by decide) (by decide)
    have hw := hw.altT (i := 1) (b := D 5) rfl (hdep.1 rfl) (junk)
    have hw := hw.altT (i := 2) (b := true) rfl rfl (junk)
    refine RL.nil ?_
    exact ⟨rfl, v232, v234, v265, v240, v241, v243, v244, v245, v256, v257, v259, v260, v261, hv.put 6 rfl rfl, ha.up rfl, hw⟩
   ·rintro D σ w hD hdep hcl ⟨v232, v234, v235, v240, v241, v243, v244, v245, v256, v257, v259, v260, v261, hv, ha, hw⟩
    obtain ⟨τ, rfl⟩ := (ac (hv.at 6 rfl (hdep.1 rfl)) az).ups
    have hw := hw.selT (i := 2) rfl (hdep.1 rfl)
    refine RL.load_pts (i := 2) (y := x233.Name) trivial rfl hw rfl rfl ty9 ?_
    have hw := hw.altT (i := 2) (b := D 6) rfl (hdep.1 rfl) (junk)
    refine RL.nil ?_
    exact ⟨rfl, v232, v234, v235, v240, v241, v243, v244, v245, v256, v257, v259, v260, v261, hv.put 7 rfl rfl, ha.up rfl, hw⟩
   ·rintro D σ w hD hdep hcl ⟨v232, v234, v235, v240, v241, v243, v244, v245, v256, v257, v259, v260, v261, hv, ha, hw⟩
    obtain ⟨τ, rfl⟩ := (ac (hv.at 1 rfl (hdep.1 rfl)) (ac (hv.at 7 rfl (hdep.2.1 rfl)) az)).ups
    refine RL.scmp (a := x164.Name) (b := x233.Name) trivial rfl rfl rfl rfl ?_
    refine RL.nil ?_
    exact ⟨rfl, v232, v234, v235, v240, v241, v243, v244, v245, v256, v257, v259, v260, v261, hv.put 8 rfl rfl, ha.up rfl, hw⟩
   ·rintro D σ w hD hdep hcl ⟨v232, v234, v235, v240, v241, v243, v244, v245, v256, v257, v259, v260, v261, hv, ha, hw⟩
    obtain ⟨τ, rfl⟩ := (ac (hv.at 8 rfl (hdep.1 rfl)) az).ups
    refine mv (vb (!x164.Name.eqb x233.Name)) rfl rfl ?_
    refine RL.nil ?_
    exact ⟨rfl, v232, v234, v235, v240, v241, v243, v244, v245, v256, v257, v259, v260, v261, hv.put 9 rfl rfl, ha.up rfl, hw⟩
   ·rintro D σ w hD hdep hcl ⟨v232, v234, v235, v240, v241, v243, v244, v245, v256, v257, v259, v260, v261, hv, ha, hw⟩
    obtain ⟨τ, rfl⟩ := (ac (hv.at 9 rfl (hdep.1 rfl)) (ac (ha.at 2 rfl) az)).ups
    refine RL.fa_b ⟨_, rfl, cb hg236⟩ rfl rfl fa38_1 ?_
    refine RL.nil ?_
    exact ⟨rfl, v232, v234, v235, v240, v241, v243, v244, v245, v256, v257, v259, v260, v261, hv.put 10 rfl rfl, ha.up rfl, hw⟩
   ·rintro D σ w hD hdep hcl ⟨v232, v234, v235, v240, v241, v243, v244, v245, v256, v257, v259, v260, v261, hv, ha, hw⟩
    obtain ⟨τ, rfl⟩ := (ac (hv.at 9 rfl (hdep.2.1 rfl)) (ac (hv.at 10 rfl (hdep.1 rfl)) az)).ups
    have hw := hw.selF (i := 3) rfl hD
    refine RL.load_bf (i := 13) (f := (fun x => x.Pins)) ⟨_, rfl, cb hg236⟩ rfl hw rfl rfl fd_Net_1 ty35 fun v266 hw => ?_
    have hw := hw.pick 19 [1, 2, 3, 0, 5, 6, 7, 8, 9, 10, 11, 12, 13, 14, 15, 16, 17, 18] (new := [bif D 3 then (rd v232 p1.Nets) else junk, bif D 5 then (pt v234 x233) else junk, bif D 6 then (pt v235 x233.Name) else junk, rd v266 x164.Pins, bif D 13 then (rd v241 p1.Nets) else junk, bif D 15 then (pt v243 x242) else junk, bif D 16 then (pt v244 x242.Pins) else junk, bif D 17 then (rd v245 x242.Pins) else junk, bif D 23 then (rd v256 x164.Ports) else junk, bif D 25 then (rd v257 p1.Nets) else junk, bif D 27 then (pt v259 x258) else junk, bif D 28 then (pt v260 x258.Ports) else junk, bif D 29 then (rd v261 x258.Ports) else junk, bx 38 b167 x164, rd v166 x164, pt v165 x164, bx 26 b32 p1, rd v49 p0.Nets]) rfl rfl (by decide) (by decide)
    have hw := hw.altT (i := 3) (b := true) rfl rfl (junk)
    refine RL.nil ?_
    exact ⟨rfl, v232, v234, v235, v266, v241, v243, v244, v245, v256, v257, v259, v260, v261, hv.put 11 rfl rfl, ha.up rfl, hw⟩
   ·rintro D σ w hD hdep hcl ⟨v232, v234, v235, v240, v241, v243, v244, v245, v256, v257, v259, v260, v261, hv, ha, hw⟩
    obtain ⟨τ, rfl⟩ := (ac (hv.at 9 rfl (hdep.1 rfl)) (ac (ha.at 0 rfl) az)).ups
    refine RL.fa_b ⟨_, rfl, cb hg236⟩ rfl rfl fa26_1 ?_
    refine RL.nil ?_
    exact ⟨rfl, v232, v234, v235, v240, v241, v243, v244, v245, v256, v257, v259, v260, v261, hv.put 12 rfl rfl, ha.up rfl, hw⟩
   ·rintro D σ w hD hdep hcl ⟨v232, v234, v235, v240, v241, v243, v244, v245, v256, v257, v259, v260, v261, hv, ha, hw⟩
    obtain ⟨τ, rfl⟩ := (ac (hv.at 9 rfl (hdep.2.1 rfl)) (ac (hv.at 12 rfl (hdep.1 rfl)) az)).ups
    have hw := hw.selF (i := 4) rfl hD
    refine RL.load_bf (i := 16) (f := (fun x => x.Nets)) ⟨_, rfl, cb hg236⟩ rfl hw rfl rfl fd_Netlist_1 ty24 fun v267 hw => ?_
    have hw := hw.pick 19 [1, 2, 3, 4, 0, 6, 7, 8, 9, 10, 11, 12, 13, 14, 15, 16, 17, 18] (new := [bif D 3 then (rd v232 p1.Nets) else junk, bif D 5 then (pt v234 x233) else junk, bif D 6 then (pt v235 x233.Name) else junk, bif D 11 then (rd v240 x164.Pins) else junk, rd v267 p1.Nets, bif D 15 then (pt v243 x242) else junk, bif D 16 then (pt v244 x242.Pins) else junk, bif D 17 then (rd v245 x242.Pins) else junk, bif D 23 then (rd v256 x164.Ports) else junk, bif D 25 then (rd v257 p1.Nets) else junk, bif D 27 then (pt v259 x258) else junk, bif D 28 then (pt v260 x258.Ports) else junk, bif D 29 then (rd v261 x258.Ports) else junk, bx 38 b167 x164, rd v166 x164, pt v165 x164, bx 26 b32 p1, rd v49 p0.Nets]) rfl rfl (by decide) (by decide)
    have hw := hw.altT (i := 4) (b := true) rfl rfl (junk)
    refine RL.nil ?_
    exact ⟨rfl, v232, v234, v235, v240, v267, v243, v244, v245, v256, v257, v259, v260, v261, hv.put 13 rfl rfl, ha.up rfl, hw⟩
   ·rintro D σ w hD hdep hcl ⟨v232, v234, v235, v240, v241, v243, v244, v245, v256, v257, v259, v260, v261, hv, ha, hw⟩
    obtain ⟨τ, rfl⟩ := (ac (hv.at 9 rfl (hdep.1 rfl)) (ac (ha.at 1 rfl) az)).ups
    refine RL.move (v := (vi (k50 : Int))) ⟨_, rfl, cb hg236⟩ rfl rfl ?_
    refine RL.nil ?_
    exact ⟨rfl, v232, v234, v235, v240, v241, v243, v244, v245, v256, v257, v259, v260, v261, hv.put 14 rfl rfl, ha.up rfl, hw⟩
   ·rintro D σ w hD hdep hcl ⟨v232, v234, v235, v240, v241, v243, v244, v245, v256, v257, v259, v260, v261, hv, ha, hw⟩
    obtain ⟨τ, rfl⟩ := (ac (hv.at 9 rfl (hdep.2.2.1 rfl)) (ac (hv.at 13 rfl (hdep.1 rfl)) (ac (hv.at 14 rfl (hdep.2.1 rfl)) az))).ups
    have hw := hw.selT (i := 4) rfl (hdep.1 rfl)
    have hw := hw.selF (i := 5) rfl hD
    refine RL.ia_rd (i := 4) ⟨_, rfl, cb hg236⟩ rfl hw rfl rfl rfl sl24 hx242 fun v268 hw => ?_
    have hw := hw.pick 19 [1, 2, 3, 4, 5, 0, 7, 8, 9, 10, 11, 12, 13, 14, 15, 16, 17, 18] (new := [bif D 3 then (rd v232 p1.Nets) else junk, bif D 5 then (pt v234 x233) else junk, bif D 6 then (pt v235 x233.Name) else junk, bif D 11 then (rd v240 x164.Pins) else junk, rd v241 p1.Nets, pt v268 x242, bif D 16 then (pt v244 x242.Pins) else junk, bif D 17 then (rd v245 x242.Pins) else junk, bif D 23 then (rd v256 x164.Ports) else junk, bif D 25 then (rd v257 p1.Nets) else junk, bif D 27 then (pt v259 x258) else junk, bif D 28 then (pt v260 x258.Ports) else junk, bif D 29 then (rd v261 x258.Ports) else junk, bx 38 b167 x164, rd v166 x164, pt v165 x164, bx 26 b32 p1, rd v49 p0.Nets]) rfl rfl (by decide) (by decide)
    have hw := hw.altT (i := 4) (b := D 13) rfl (hdep.1 rfl) (junk)
    have hw := hw.altT (i := 5) (b := true) rfl rfl (junk)
    refine RL.nil ?_
    exact ⟨rfl, v232, v234, v235, v240, v241, v268, v244, v245, v256, v257, v259, v260, v261, hv.put 15 rfl rfl, ha.up rfl, hw⟩
   ·rintro D σ w hD hdep hcl ⟨v232, v234, v235, v240, v241, v243, v244, v245, v256, v257, v259, v260, v261, hv, ha, hw⟩
    obtain ⟨τ, rfl⟩ := (ac (hv.at 9 rfl (hdep.2.1 rfl)) (ac (hv.at 15 rfl (hdep.1 rfl)) az)).ups
    have hw := hw.selT (i := 5) rfl (hdep.1 rfl)
    have hw := hw.selF (i := 6) rfl hD
    refine RL.fa_pt (i := 5) (f := fun (x : Net) => x.Pins) ⟨_, rfl, cb hg236⟩ rfl hw rfl rfl fa38_1 fd_Net_1 fun v269 hw => ?_
    have hw := hw.pick 19 [1, 2, 3, 4, 5, 6, 0, 8, 9, 10, 11, 12, 13, 14, 15, 16, 17, 18] (new := [bif D 3 then (rd v232 p1.Nets) else junk, bif D 5 then (pt v234 x233) else junk, bif D 6 then (pt v235 x233.Name) else junk, bif D 11 then (rd v240 x164.Pins) else junk, bif D 13 then (rd v241 p1.Nets) else junk, pt v243 x242, pt v269 x242.Pins, bif D 17 then (rd v245 x242.Pins) else junk, bif D 23 then (rd v256 x164.Ports) else junk, bif D 25 then (rd v257 p1.Nets) else junk, bif D 27 then (pt v259 x258) else junk, bif D 28 then (pt v260 x258.Ports) else junk, bif D 29 then (rd v261 x258.Ports) else junk, bx 38 b167 x164, rd v166 x164, pt v165 x164, bx 26 b32 p1, rd v49 p0.Nets]) rfl rfl (by decide) (by decide)
    have hw := hw.altT (i := 5) (b := D 15) rfl (hdep.1 rfl) (junk)
    have hw := hw.altT (i := 6) (b := true) rfl rfl (junk)
    refine RL.nil ?_
    exact ⟨rfl, v232, v234, v235, v240, v241, v243, v269, v245, v256, v257, v259, v260, v261, hv.put 16 rfl rfl, ha.up rfl, hw⟩
   ·rintro D σ w hD hdep hcl ⟨v232, v234, v235, v240, v241, v243, v244, v245, v256, v257, v259, v260, v261, hv, ha, hw⟩
    obtain ⟨τ, rfl⟩ := (ac (hv.at 9 rfl (hdep.2.1 rfl)) (ac (hv.at 16 rfl (hdep.1 rfl)) az)).ups
    have hw := hw.selT (i := 6) rfl (hdep.1 rfl)
    have hw := hw.selF (i := 7) rfl hD
    refine RL.load_pt (i := 6) (x := x242.Pins) ⟨_, rfl, cb hg236⟩ rfl hw rfl rfl ty35 fun v270 hw => ?_
    have hw := hw.pick 19 [1, 2, 3, 4, 5, 6, 7, 0, 9, 10, 11, 12, 13, 14, 15, 16, 17, 18] (new := [bif D 3 then (rd v232 p1.Nets) else junk, bif D 5 then (pt v234 x233) else junk, bif D 6 then (pt v235 x233.Name) else junk, bif D 11 then (rd v240 x164.Pins) else junk, bif D 13 then (rd v241 p1.Nets) else junk, bif D 15 then (pt v243 x242) else junk, pt v244 x242.Pins, rd v270 x242.Pins, bif D 23 then (rd v256 x164.Ports) else junk, bif D 25 then (rd v257 p1.Nets) else junk, bif D 27 then (pt v259 x258) else junk, bif D 28 then (pt v260 x258.Ports) else junk, bif D 29 then (rd v261 x258.Ports) else junk, bx 38 b167 x164, rd v166 x164, pt v165 x164, bx 26 b32 p1, rd v49 p0.Nets]) rfl rfl (by decide) (by decide)
    have hw := hw.altT (i := 6) (b := D 16) rfl (hdep.1 rfl) (junk)
    have hw := hw.altT (i := 7) (b := true) rfl rfl (junk)
    refine RL.nil ?_
    exact ⟨rfl, v232, v234, v235, v240, v241, v243, v244, v270, v256, v257, v259, v260, v261, hv.put 17 rfl rfl, ha.up rfl, hw⟩
   ·rintro D σ w hD hdep hcl ⟨v232, v234, v235, v240, v241, v243, v244, v245, v256, v257, v259, v260, v261, hv, ha, hw⟩
    obtain ⟨τ, rfl⟩ := (ac (hv.at 9 rfl (hdep.2.2.1 rfl)) (ac (hv.at 11 rfl (hdep.1 rfl)) (ac (hv.at 17 rfl (hdep.2.1 rfl)) az))).ups
    have hw := hw.selT (i := 3) rfl (hdep.1 rfl)
    have hw := hw.selT (i := 7) rfl (hdep.2.1 rfl)
    refine RL.call ⟨_, rfl, cb hg236⟩ rfl fn21 [v240, v245] rfl (Calls_ret (slices_Equal_Pin_ok N  (i0 := 3) (i1 := 7) hw rfl rfl hx246) ?_)
    rintro _ w ⟨rfl, hw⟩
    have hw := hw.altT (i := 3) (b := D 11) rfl (hdep.1 rfl) (junk)
    have hw := hw.altT (i := 7) (b := D 17) rfl (hdep.2.1 rfl) (junk)
    refine RL.nil ?_
    exact ⟨rfl, v232, v234, v235, v240, v241, v243, v244, v245, v256, v257, v259, v260, v261, hv.put 18 rfl rfl, ha.up rfl, hw⟩
   ·rintro D σ w hD hdep hcl ⟨v232, v234, v235, v240, v241, v243, v244, v245, v256, v257, v259, v260, v261, hv, ha, hw⟩
    obtain ⟨τ, rfl⟩ := (ac (hv.at 9 rfl (hdep.2.1 rfl)) (ac (hv.at 18 rfl (hdep.1 rfl)) az)).ups
    refine RL.not (b := x246) ⟨_, rfl, cb hg236⟩ rfl rfl ?_
    refine RL.nil ?_
    exact ⟨rfl, v232, v234, v235, v240, v241, v243, v244, v245, v256, v257, v259, v260, v261, hv.put 19 rfl rfl, ha.up rfl, hw⟩
   ·rintro D σ w hD hdep hcl ⟨v232, v234, v235, v240, v241, v243, v244, v245, v256, v257, v259, v260, v261, hv, ha, hw⟩
    obtain ⟨τ, rfl⟩ := (ac (hv.at 9 rfl (hdep.1 rfl)) (ac (hv.at 19 rfl (hdep.2.1 rfl)) az)).ups
    refine RL.pick (b := (!x164.Name.eqb x233.Name)) (v := (vb (!x246))) trivial rfl rfl (by rw [hg236]; rfl) ?_
    refine RL.nil ?_
    exact ⟨rfl, v232, v234, v235, v240, v241, v243, v244, v245, v256, v257, v259, v260, v261, hv.put 20 rfl rfl, ha.up rfl, hw⟩
   ·rintro D σ w hD hdep hcl ⟨v232, v234, v235, v240, v241, v243, v244, v245, v256, v257, v259, v260, v261, hv, ha, hw⟩
    obtain ⟨τ, rfl⟩ := (ac (hv.at 20 rfl (hdep.1 rfl)) az).ups
    refine mv (vb (!x246)) rfl rfl ?_
    refine RL.nil ?_
    exact ⟨rfl, v232, v234, v235, v240, v241, v243, v244, v245, v256, v257, v259, v260, v261, hv.put 21 rfl rfl, ha.up rfl, hw⟩
   ·rintro D σ w hD hdep hcl ⟨v232, v234, v235, v240, v241, v243, v244, v245, v256, v257, v259, v260, v261, hv, ha, hw⟩
    obtain ⟨τ, rfl⟩ := (ac (hv.at 21 rfl (hdep.1 rfl)) (ac (ha.at 2 rfl) az)).ups
    refine RL.fa_b ⟨_, rfl, cb hg247⟩ rfl rfl fa38_2 ?_
    refine RL.nil ?_
    exact ⟨rfl, v232, v234, v235, v240, v241, v243, v244, v245, v256, v257, v259, v260, v261, hv.put 22 rfl rfl, ha.up rfl, hw⟩
   ·rintro D σ w hD hdep hcl ⟨v232, v234, v235, v240, v241, v243, v244, v245, v256, v257, v259, v260, v261, hv, ha, hw⟩
    obtain ⟨τ, rfl⟩ := (ac (hv.at 21 rfl (hdep.2.1 rfl)) (ac (hv.at 22 rfl (hdep.1 rfl)) az)).ups
    have hw := hw.selF (i := 8) rfl hD
    refine RL.load_bf (i := 13) (f := (fun x => x.Ports)) ⟨_, rfl, cb hg247⟩ rfl hw rfl rfl fd_Net_2 ty36 fun v271 hw => ?_
    have hw := hw.pick 19 [1, 2, 3, 4, 5, 6, 7, 8, 0, 10, 11, 12, 13, 14, 15, 16, 17, 18] (new := [bif D 3 then (rd v232 p1.Nets) else junk, bif D 5 then (pt v234 x233) else junk, bif D 6 then (pt v235 x233.Name) else junk, bif D 11 then (rd v240 x164.Pins) else junk, bif D 13 then (rd v241 p1.Nets) else junk, bif D 15 then (pt v243 x242) else junk, bif D 16 then (pt v244 x242.Pins) else junk, bif D 17 then (rd v245 x242.Pins) else junk, rd v271 x164.Ports, bif D 25 then (rd v257 p1.Nets) else junk, bif D 27 then (pt v259 x258) else junk, bif D 28 then (pt v260 x258.Ports) else junk, bif D 29 then (rd v261 x258.Ports) else junk, bx 38 b167 x164, rd v166 x164, pt v165 x164, bx 26 b32 p1, rd v49 p0.Nets]) rfl rfl (by decide) (by decide)
    have hw := hw.altT (i := 8) (b := true) rfl rfl (junk)
    refine RL.nil ?_
    exact ⟨rfl, v232, v234, v235, v240, v241, v243, v244, v245, v271, v257, v259, v260, v261, hv.put 23 rfl rfl, ha.up rfl, hw⟩
   ·rintro D σ w hD hdep hcl ⟨v232, v234, v235, v240, v241, v243, v244, v245, v256, v257, v259, v260, v261, hv, ha, hw⟩
    obtain ⟨τ, rfl⟩ := (ac (hv.at 21 rfl (hdep.1 rfl)) (ac (ha.at 0 rfl) az)).ups
    refine RL.fa_b ⟨_, rfl, cb hg247⟩ rfl rfl fa26_1 ?_
    refine RL.nil ?_
    exact ⟨rfl, v232, v234, v235, v240, v241, v243, v244, v245, v256, v257, v259, v260, v261, hv.put 24 rfl rfl, ha.up rfl, hw⟩
   ·rintro D σ w hD hdep hcl ⟨v232, v234, v235, v240, v241, v243, v244, v245, v256, v257, v259, v260, v261, hv, ha, hw⟩
    obtain ⟨τ, rfl⟩ := (ac (hv.at 21 rfl (hdep.2.1 rfl)) (ac (hv.at 24 rfl (hdep.1 rfl)) az)).ups
    have hw := hw.selF (i := 9) rfl hD
    refine RL.load_bf (i := 16) (f := (fun x => x.Nets)) ⟨_, rfl, cb hg247⟩ rfl hw rfl rfl fd_Netlist_1 ty24 fun v272 hw => ?_
    have hw := hw.pick 19 [1, 2, 3, 4, 5, 6, 7, 8, 9, 0, 11, 12, 13, 14, 15, 16, 17, 18] (new := [bif D 3 then (rd v232 p1.Nets) else junk, bif D 5 then (pt v234 x233) else junk, bif D 6 then (pt v235 x233.Name) else junk, bif D 11 then (rd v240 x164.Pins) else junk, bif D 13 then (rd v241 p1.Nets) else junk, bif D 15 then (pt v243 x242) else junk, bif D 16 then (pt v244 x242.Pins) else junk, bif D 17 then (rd v245 x242.Pins) else junk, bif D 23 then (rd v256 x164.Ports) else junk, rd v272 p1.Nets, bif D 27 then (pt v259 x258) else junk, bif D 28 then (pt v260 x258.Ports) else junk, bif D 29 then (rd v261 x258.Ports) else junk, bx 38 b167 x164, rd v166 x164, pt v165 x164, bx 26 b32 p1, rd v49 p0.Nets]) rfl rfl (by decide) (by decide)
    have hw := hw.altT (i := 9) (b := true) rfl rfl (junk)
    refine RL.nil ?_
    exact ⟨rfl, v232, v234, v235, v240, v241, v243, v244, v245, v256, v272, v259, v260, v261, hv.put 25 rfl rfl, ha.up rfl, hw⟩
   ·rintro D σ w hD hdep hcl ⟨v232, v234, v235, v240, v241, v243, v244, v245, v256, v257, v259, v260, v261, hv, ha, hw⟩
    obtain ⟨τ, rfl⟩ := (ac (hv.at 21 rfl (hdep.1 rfl)) (ac (ha.at 1 rfl) az)).ups
    refine RL.move (v := (vi (k50 : Int))) ⟨_, rfl, cb hg247⟩ rfl rfl ?_
    refine RL.nil ?_
    exact ⟨rfl, v232, v234, v235, v240, v241, v243, v244, v245, v256, v257, v259, v260, v261, hv.put 26 rfl rfl, ha.up rfl, hw⟩
   ·rintro D σ w hD hdep hcl ⟨v232, v234, v235, v240, v241, v243, v244, v245, v256, v257, v259, v260, v261, hv, ha, hw⟩
    obtain ⟨τ, rfl⟩ := (ac (hv.at 21 rfl (hdep.2.2.1 rfl)) (ac (hv.at 25 rfl (hdep.1 rfl)) (ac (hv.at 26 rfl (hdep.2.1 rfl)) az))).ups
    have hw := hw.selT (i := 9) rfl (hdep.1 rfl)
    have hw := hw.selF (i := 10) rfl hD
    refine RL.ia_rd (i := 9) ⟨_, rfl, cb hg247⟩ rfl hw rfl rfl rfl sl24 hx258 fun v273 hw => ?_
    have hw := hw.pick 19 [1, 2, 3, 4, 5, 6, 7, 8, 9, 10, 0, 12, 13, 14, 15, 16, 17, 18] (new := [bif D 3 then (rd v232 p1.Nets) else junk, bif D 5 then (pt v234 x233) else junk, bif D 6 then (pt v235 x233.Name) else junk, bif D 11 then (rd v240 x164.Pins) else junk, bif D 13 then (rd v241 p1.Nets) else junk, bif D 15 then (pt v243 x242) else junk, bif D 16 then (pt v244 x242.Pins) else junk, bif D 17 then (rd v245 x242.Pins) else junk, bif D 23 then (rd v256 x164.Ports) else junk, rd v257 p1.Nets, pt v273 x258, bif D 28 then (pt v260 x258.Ports) else junk, bif D 29 then (rd v261 x258.Ports) else junk, bx 38 b167 x164, rd v166 x164, pt v165 x164, bx 26 b32 p1, rd v49 p0.Nets]) rfl rfl (by decide) (by decide)
    have hw := hw.altT (i := 9) (b := D 25) rfl (hdep.1 rfl) (junk)
    have hw := hw.altT (i := 10) (b := true) rfl rfl (junk)
    refine RL.nil ?_
    exact ⟨rfl, v232, v234, v235, v240, v241, v243, v244, v245, v256, v257, v273, v260, v261, hv.put 27 rfl rfl, ha.up rfl, hw⟩
   ·rintro D σ w hD hdep hcl ⟨v232, v234, v235, v240, v241, v243, v244, v245, v256, v257, v259, v260, v261, hv, ha, hw⟩
    obtain ⟨τ, rfl⟩ := (ac (hv.at 21 rfl (hdep.2.1 rfl)) (ac (hv.at 27 rfl (hdep.1 rfl)) az)).ups
    have hw := hw.selT (i := 10) rfl (hdep.1 rfl)
    have hw := hw.selF (i := 11) rfl hD
    refine RL.fa_pt (i := 10) (f := fun (x : Net) => x.Ports) ⟨_, rfl, cb hg247⟩ rfl hw rfl rfl fa38_2 fd_Net_2 fun v274 hw => ?_
    have hw := hw.pick 19 [1, 2, 3, 4, 5, 6, 7, 8, 9, 10, 11, 0, 13, 14, 15, 16, 17, 18] (new := [bif D 3 then (rd v232 p1.Nets) else junk, bif D 5 then (pt v234 x233) else junk, bif D 6 then (pt v235 x233.Name) else junk, bif D 11 then (rd v240 x164.Pins) else junk, bif D 13 then (rd v241 p1.Nets) else junk, bif D 15 then (pt v243 x242) else junk, bif D 16 then (pt v244 x242.Pins) else junk, bif D 17 then (rd v245 x242.Pins) else junk, bif D 23 then (rd v256 x164.Ports) else junk, bif D 25 then (rd v257 p1.Nets) else junk, pt v259 x258, pt v274 x258.Ports, bif D 29 then (rd v261 x258.Ports) else junk, bx 38 b167 x164, rd v166 x164, pt v165 x164, bx 26 b32 p1, rd v49 p0.Nets]) rfl rfl (by decide) (by decide)
    have hw := hw.altT (i := 10) (b := D 27) rfl (hdep.1 rfl) (junk)
    have hw := hw.altT (i := 11) (b := true) rfl rfl (junk)
    refine RL.nil ?_
    exact ⟨rfl, v232, v234, v235, v240, v241, v243, v244, v245, v256, v257, v259, v274, v261, hv.put 28 rfl rfl, ha.up rfl, hw⟩
   ·rintro D σ w hD hdep hcl ⟨v232, v234, v235, v240, v241, v243, v244, v245, v256, v257, v259, v260, v261, hv, ha, hw⟩
    obtain ⟨τ, rfl⟩ := (ac (hv.at 21 rfl (hdep.2.1 rfl)) (ac (hv.at 28 rfl (hdep.1 rfl)) az)).ups
    have hw := hw.selT (i := 11) rfl (hdep.1 rfl)
    have hw := hw.selF (i := 12) rfl hD
    refine RL.load_pt (i := 11) (x := x258.Ports) ⟨_, rfl, cb hg247⟩ rfl hw rfl rfl ty36 fun v275 hw => ?_
    have hw := hw.pick 19 [1, 2, 3, 4, 5, 6, 7, 8, 9, 10, 11, 12, 0, 14, 15, 16, 17, 18] (new := [bif D 3 then (rd v232 p1.Nets) else junk, bif D 5 then (pt v234 x233) else junk, bif D 6 then (pt v235 x233.Name) else junk, bif D 11 then (rd v240 x164.Pins) else junk, bif D 13 then (rd v241 p1.Nets) else junk, bif D 15 then (pt v243 x242) else junk, bif D 16 then (pt v244 x242.Pins) else junk, bif D 17 then (rd v245 x242.Pins) else junk, bif D 23 then (rd v256 x164.Ports) else junk, bif D 25 then (rd v257 p1.Nets) else junk, bif D 27 then (pt v259 x258) else junk, pt v260 x258.Ports, rd v275 x258.Ports, bx 38 b167 x164, rd v166 x164, pt v165 x164, bx 26 b32 p1, rd v49 p0.Nets]) rfl rfl (by decide) (by decide)
    have hw := hw.altT (i := 11) (b := D 28) rfl (hdep.1 rfl) (junk)
    have hw := hw.altT (i := 12) (b := true) rfl rfl (junk)
    refine RL.nil ?_
    exact ⟨rfl, v232, v234, v235, v240, v241, v243, v244, v245, v256, v257, v259, v260, v275, hv.put 29 rfl rfl, ha.up rfl, hw⟩
   ·rintro D σ w hD hdep hcl ⟨v232, v234, v235, v240, v241, v243, v244, v245, v256, v257, v259, v260, v261, hv, ha, hw⟩
    obtain ⟨τ, rfl⟩ := (ac (hv.at 21 rfl (hdep.2.2.1 rfl)) (ac (hv.at 23 rfl (hdep.1 rfl)) (ac (hv.at 29 rfl (hdep.2.1 rfl)) az))).ups
    have hw := hw.selT (i := 8) rfl (hdep.1 rfl)
    have hw := hw.selT (i := 12) rfl (hdep.2.1 rfl)
    refine RL.call ⟨_, rfl, cb hg247⟩ rfl fn22 [v256, v261] rfl (Calls_ret (slices_Equal_string_ok N  (i0 := 8) (i1 := 12) hw rfl rfl hx262) ?_)
    rintro _ w ⟨rfl, hw⟩
    have hw := hw.altT (i := 8) (b := D 23) rfl (hdep.1 rfl) (junk)
    have hw := hw.altT (i := 12) (b := D 29) rfl (hdep.2.1 rfl) (junk)
    refine RL.nil ?_
    exact ⟨rfl, v232, v234, v235, v240, v241, v243, v244, v245, v256, v257, v259, v260, v261, hv.put 30 rfl rfl, ha.up rfl, hw⟩
   ·rintro D σ w hD hdep hcl ⟨v232, v234, v235, v240, v241, v243, v244, v245, v256, v257, v259, v260, v261, hv, ha, hw⟩
    obtain ⟨τ, rfl⟩ := (ac (hv.at 21 rfl (hdep.2.1 rfl)) (ac (hv.at 30 rfl (hdep.1 rfl)) az)).ups
    refine RL.not (b := x262) ⟨_, rfl, cb hg247⟩ rfl rfl ?_
    refine RL.nil ?_
    exact ⟨rfl, v232, v234, v235, v240, v241, v243, v244, v245, v256, v257, v259, v260, v261, hv.put 31 rfl rfl, ha.up rfl, hw⟩
   ·rintro D σ w hD hdep hcl ⟨v232, v234, v235, v240, v241, v243, v244, v245, v256, v257, v259, v260, v261, hv, ha, hw⟩
    obtain ⟨τ, rfl⟩ := (ac (hv.at 21 rfl (hdep.1 rfl)) (ac (hv.at 31 rfl (hdep.2.1 rfl)) az)).ups
    refine RL.pick (b := (!x246)) (v := (vb (!x262))) trivial rfl rfl (by rw [hg247]; rfl) ?_
    refine RL.nil ?_
    exact ⟨rfl, v232, v234, v235, v240, v241, v243, v244, v245, v256, v257, v259, v260, v261, hv.put 32 rfl rfl, ha.up rfl, hw⟩
   rintro D σ w hall ⟨v232, v234, v235, v240, v241, v243, v244, v245, v256, v257, v259, v260, v261, hv, ha, hw⟩
   rw [hall 3 (by decide), hall 5 (by decide), hall 6 (by decide), hall 11 (by decide), hall 13 (by decide), hall 15 (by decide), hall 16 (by decide), hall 17 (by decide), hall 23 (by decide), hall 25 (by decide), hall 27 (by decide), hall 28 (by decide), hall 29 (by decide)] at hw
   obtain ⟨τ, rfl⟩ := (ac (hv.at 32 rfl (hall 32 (by decide))) (ac (ha.at 0 rfl) (ac (ha.at 1 rfl) (ac (ha.at 2 rfl) (ac (ha.at 3 rfl) (ac (ha.at 4 rfl) (ac (ha.at 5 rfl) az))))))).ups
   obtain rfl := oi hj
   exact ⟨rfl, ⟨rfl, rfl, rfl, rfl, rfl, trivial⟩, hw.pick 18 [16, 17] (new := [bx 26 b32 p1, rd v49 p0.Nets]) rfl rfl (by decide) (by decide)⟩
  rintro σ w ⟨ha, hw⟩
  obtain ⟨τ, rfl⟩ := ha.ups
  refine thenQ_n ?_
  refine RC.cond (b := s231) rfl (fun hc => ?_) (fun hc => ?_)
  rotate_left
  ·replace hb := cF hc hb
   refine RC.skip ?_
   refine blkQ_n ?_
   refine thenQ_n ?_
   refine RC.region ?_
   refine RL.inc trivial rfl hk hm rfl rfl ?_
   refine mv (vi ((k50 + 1 : Nat) : Int)) rfl rfl ?_
   refine RL.nil ?_
   obtain rfl := oi hb
   exact ⟨rfl, ⟨rfl, rfl, rfl, rfl, trivial⟩, hw.pick 2 [0, 1] (new := [bx 26 b32 p1, rd v49 p0.Nets]) rfl rfl (by decide) (by decide)⟩
  replace hb := cT hc hb
  refine RC.sr ?_
  refine as_ (vb false) rfl rfl ?_
  refine RL.nt ?_
  refine RC.rb ?_
  refine thenQ_r ?_
  obtain rfl := oi hb
  exact ⟨rfl, fin1 rfl rfl ⟨rfl, hw.drop 2 rfl⟩⟩
 ·intro r σ w e hK
  subst e
  refine thenQ_r ?_
  obtain rfl := oi hb
  exact hK
 intro s51 σ w e hJ
 subst e
 rw [Fo.cs_go] at hb
 obtain ⟨ha, hw⟩ := hJ
 obtain ⟨τ, rfl⟩ := ha.ups
 refine thenQ_n ?_
 refine RC.sr ?_
 refine as_ (vb true) rfl rfl ?_
 refine RL.nt ?_
 refine RC.ret ?_
 obtain rfl := oi hb
 exact fin1 rfl rfl ⟨rfl, hw.drop 2 rfl⟩
def netlist_Nets_R (E : World) (Γ : List HP) (res : (List (Pin × Int))) (v : Value) (w : World) : Prop := Holds E w (mp v res :: Γ)
theorem netlist_Nets_ok (N : Nat) {E w : World} {Γ : List HP} {i0 : Nat} {v0 : Value} {p0 : Netlist} {res : (List (Pin × Int))} (hw : Holds E w Γ) (h0 : Γ[i0]? = some (rd v0 p0)) (hb : netlist_Nets N p0 = some res) :
    Calls Tryz.prog 68 [v0].toArray w (Ret (netlist_Nets_R E Γ res)) := by
 unfold netlist_Nets at hb
 refine enter Tryz.func68 rfl rfl (Nat.le_of_ble_eq_true rfl) ?_
 have hw := hw.dup (i := i0 + 0) h0
 refine RC.sr ?_
 refine RL.box_rd (i := 0) (v := v0) trivial rfl hw rfl rfl fun b31 w hw => ?_
 refine as_ (.map none) rfl rfl ?_
 refine RL.ns ?_
 refine RL.makeMap (κ := Pin) (ν := Int) trivial rfl hw fun v32 w hw => ?_
 refine as_ v32 rfl rfl ?_
 refine RL.nq ?_
 refine RC.sr ?_
 refine RL.fa_b trivial rfl rfl fa26_1 ?_
 refine RL.load_bf (i := 1) (f := (fun x => x.Nets)) trivial rfl hw rfl rfl fd_Netlist_1 ty24 fun v33 hw => ?_
 refine RL.len_rd (i := 0) (l := p0.Nets) trivial rfl hw rfl rfl un24 ?_
 refine mv (vi 0) rfl rfl ?_
 refine RL.nt ?_
 obtain ⟨s35, hN, hb⟩ := bd hb
 refine RC.fold (fun (k34 : Nat) (s35 : (List (Pin × Int))) (σ : Nat → Value) (w : World) => agree σ [(3, v32), (10, v33), (11, (vi (p0.Nets.length : Int))), (12, (vi (k34 : Int)))] ∧ Holds E w ([mp v32 s35, rd v33 p0.Nets] ++ Γ)) (fun (s35 : (List (Pin × Int))) (σ : Nat → Value) (w : World) => agree σ [(3, v32)] ∧ Holds E w ([mp v32 s35, rd v33 p0.Nets] ++ Γ)) hN ?_ ?_ ?_ ?_
 ·exact ⟨⟨rfl, rfl, rfl, rfl, trivial⟩, hw.pick 4 [1, 0] (new := [mp v32 ([] : (List (Pin × Int))), rd v33 p0.Nets]) rfl rfl (by decide) (by decide)⟩
 ·intro hm s35 σ w hI
  obtain ⟨ha, hw⟩ := hI
  obtain ⟨τ, rfl⟩ := ha.ups
  refine RC.sr ?_
  refine ic ((p0.Nets.length : Int)) ((p0.Nets.length : Int)) rfl rfl rfl rfl ?_
  refine RL.nq ?_
  refine RC.cond_f dge ?_
  refine RC.ex ?_
  exact ⟨rfl, ⟨rfl, trivial⟩, hw.pick 2 [0, 1] (new := [mp v32 s35, rd v33 p0.Nets]) rfl rfl (by decide) (by decide)⟩
 ·intro hm k34 s35 s' σ w hk hI hb
  obtain ⟨ha, hw⟩ := hI
  obtain ⟨τ, rfl⟩ := ha.ups
  refine RC.sr ?_
  refine ic ((k34 : Int)) ((p0.Nets.length : Int)) rfl rfl rfl rfl ?_
  refine RL.nq ?_
  refine RC.cond_t (dlt hk) ?_
  refine RC.ss ?_
  refine RC.bs ?_
  refine mv (vi (k34 : Int)) rfl rfl ?_
  obtain ⟨x82, hx82, hb⟩ := bd hb
  refine RL.ia_rd (i := 1) trivial rfl hw rfl rfl rfl sl24 hx82 fun v83 hw => ?_
  refine RL.load_pt (i := 0) (x := x82) trivial rfl hw rfl rfl ty38 fun v84 hw => ?_
  refine RL.alloc trivial rfl hw ze38.z fun b85 w hw => ?_
  refine as_ (vi (k34 : Int)) rfl rfl ?_
  refine RL.store_raw (i := 0) (j := 1) trivial hw rfl rfl rfl rfl ty38 rfl fun w hw => ?_
  refine RL.ns ?_
  refine RL.fa_b trivial rfl rfl fa38_1 ?_
  refine RL.load_bf (i := 0) (f := (fun x => x.Pins)) trivial rfl hw rfl rfl fd_Net_1 ty35 fun v86 hw => ?_
  refine RL.len_rd (i := 0) (l := x82.Pins) trivial rfl hw rfl rfl un35 ?_
  refine mv (vi 0) rfl rfl ?_
  refine RL.nt ?_
  obtain ⟨s88, hN, hb⟩ := bd hb
  refine RC.fold (fun (k87 : Nat) (s88 : (List (Pin × Int))) (σ : Nat → Value) (w : World) => agree σ [(3, v32), (4, (vi (k34 : Int))), (10, v33), (11, (vi (p0.Nets.length : Int))), (12, (vi (k34 : Int))), (18, v86), (19, (vi (x82.Pins.length : Int))), (20, (vi (k87 : Int)))] ∧ Holds E w ([mp v32 s88, rd v33 p0.Nets, rd v86 x82.Pins] ++ Γ)) (fun (s88 : (List (Pin × Int))) (σ : Nat → Value) (w : World) => agree σ [(3, v32), (10, v33), (11, (vi (p0.Nets.length : Int))), (12, (vi (k34 : Int)))] ∧ Holds E w ([mp v32 s88, rd v33 p0.Nets, rd v86 x82.Pins] ++ Γ)) hN ?_ ?_ ?_ ?_
  ·exact ⟨⟨rfl, rfl, rfl, rfl, rfl, rfl, rfl, rfl, trivial⟩, hw.pick 6 [4, 5, 0] (new := [mp v32 s35, rd v33 p0.Nets, rd v86 x82.Pins]) rfl rfl (by decide) (by decide)⟩
  ·intro hm s88 σ w hI
   obtain ⟨ha, hw⟩ := hI
   obtain ⟨τ, rfl⟩ := ha.ups
   refine RC.sr ?_
   refine ic ((x82.Pins.length : Int)) ((x82.Pins.length : Int)) rfl rfl rfl rfl ?_
   refine RL.nq ?_
   refine RC.cond_f dge ?_
   refine RC.ex ?_
   exact ⟨rfl, ⟨rfl, rfl, rfl, rfl, trivial⟩, hw.pick 3 [0, 1, 2] (new := [mp v32 s88, rd v33 p0.Nets, rd v86 x82.Pins]) rfl rfl (by decide) (by decide)⟩
  ·intro hm k87 s88 s' σ w hk hI hb
   obtain ⟨ha, hw⟩ := hI
   obtain ⟨τ, rfl⟩ := ha.ups
   refine RC.sr ?_
   refine ic ((k87 : Int)) ((x82.Pins.length : Int)) rfl rfl rfl rfl ?_
   refine RL.nq ?_
   refine RC.cond_t (dlt hk) ?_
   refine RC.ss ?_
   refine RC.bs ?_
   obtain ⟨x99, hx99, hb⟩ := bd hb
   refine RL.ia_rd (i := 2) trivial rfl hw rfl rfl rfl sl35 hx99 fun v100 hw => ?_
   refine RL.load_pt (i := 0) (x := x99) trivial rfl hw rfl rfl ty43 fun v101 hw => ?_
   refine RL.alloc trivial rfl hw ze43.z fun b102 w hw => ?_
   refine RL.store_raw (i := 0) (j := 1) trivial hw rfl rfl rfl rfl ty43 rfl fun w hw => ?_
   refine RL.nt ?_
   refine RC.region ?_
   refine mv v32 rfl rfl ?_
   refine RL.load_bf (i := 0) (f := (fun x => x)) trivial rfl hw rfl rfl Fd.self ty43 fun v103 hw => ?_
   refine mv (vi (k34 : Int)) rfl rfl ?_
   have hw := hw.sc (γ := Int) (k34 : Int)
   refine RL.mapUpdate (i := 5) (j := 0) (k := x99) trivial hw rfl (key_rd hw (j := 1) rfl) rfl rfl rfl mt102 fun w hw => ?_
   refine RL.nil ?_
   refine blkQ_n ?_
   refine thenQ_n ?_
   refine RC.region ?_
   refine RL.inc trivial rfl hk hm rfl rfl ?_
   refine mv (vi ((k87 + 1 : Nat) : Int)) rfl rfl ?_
   refine RL.nil ?_
   obtain rfl := oi hb
   exact ⟨rfl, ⟨rfl, rfl, rfl, rfl, rfl, rfl, rfl, rfl, trivial⟩, hw.pick 8 [5, 6, 7] (new := [mp v32 (mput s88 x99 (k34 : Int)), rd v33 p0.Nets, rd v86 x82.Pins]) rfl rfl (by decide) (by decide)⟩
  intro σ w hJ
  obtain ⟨ha, hw⟩ := hJ
  obtain ⟨τ, rfl⟩ := ha.ups
  refine blkQ_n ?_
  refine thenQ_n ?_
  refine RC.region ?_
  refine RL.inc trivial rfl hk hm rfl rfl ?_
  refine mv (vi ((k34 + 1 : Nat) : Int)) rfl rfl ?_
  refine RL.nil ?_
  obtain rfl := oi hb
  exact ⟨rfl, ⟨rfl, rfl, rfl, rfl, trivial⟩, hw.pick 3 [0, 1] (new := [mp v32 s88, rd v33 p0.Nets]) rfl rfl (by decide) (by decide)⟩
 intro σ w hJ
 obtain ⟨ha, hw⟩ := hJ
 obtain ⟨τ, rfl⟩ := ha.ups
 refine thenQ_n ?_
 refine RC.sr ?_
 refine mv v32 rfl rfl ?_
 refine as_ v32 rfl rfl ?_
 refine RL.nt ?_
 refine RC.ret ?_
 obtain rfl := oi hb
 exact fin1 rfl rfl (hw.pick 2 [0] (new := [mp v32 s35]) rfl rfl (by decide) (by decide))
def netlist_pinsOf_R (E : World) (Γ : List HP) (res : (List Pin)) (v : Value) (w : World) : Prop := Holds E w (own 43 v res :: Γ)
theorem netlist_pinsOf_ok (N : Nat) {E w : World} {Γ : List HP} {i0 : Nat} {v0 : Value} {p0 : (List PartType)} {i1 : Nat} {v1 : Value} {p1 : Part} {res : (List Pin)} (hw : Holds E w Γ) (h0 : Γ[i0]? = some (rd v0 p0)) (h1 : Γ[i1]? = some (rd v1 p1)) (hb : netlist_pinsOf N p0 p1 = some res) :
    Calls Tryz.prog 69 [v0, v1].toArray w (Ret (netlist_pinsOf_R E Γ res)) := by
 unfold netlist_pinsOf at hb
 refine enter Tryz.func69 rfl rfl (Nat.le_of_ble_eq_true rfl) ?_
 have hw := hw.dup (i := i0 + 0) h0
 have hw := hw.dup (i := i1 + 1) h1
 refine RC.sr ?_
 refine RL.box_rd (i := 0) (v := v1) trivial rfl hw rfl rfl fun b31 w hw => ?_
 refine as_ (.slice none 0 0) rfl rfl ?_
 refine RL.ns ?_
 refine as_ (.slice none 0 0) rfl rfl ?_
 refine RL.nq ?_
 refine RC.sr ?_
 refine mv v0 rfl rfl ?_
 refine mv v0 rfl rfl ?_
 refine RL.fa_b trivial rfl rfl fa48_1 ?_
 refine RL.load_bfs (i := 0) (f := (fun x => x.Type_)) trivial rfl hw rfl rfl fd_Part_1 ty9 ?_
 obtain ⟨x32, hx32, hb⟩ := bd hb
 refine RL.call trivial rfl fn44 [v0, (str p1.Type_)] rfl (Calls_ret (netlist_TypeAt_ok N (p1 := p1.Type_) (i0 := 2) hw rfl hx32) ?_)
 rintro _ w ⟨rfl, hw⟩
 obtain ⟨x33, hx33, hb⟩ := bd hb
 refine RL.ia_rd (i := 2) trivial rfl hw rfl rfl rfl sl22 hx33 fun v34 hw => ?_
 refine RL.fa_pt (i := 0) (f := fun (x : PartType) => x.Pins) trivial rfl hw rfl rfl fa58_1 fd_PartType_1 fun v35 hw => ?_
 refine RL.load_pt (i := 0) (x := x33.Pins) trivial rfl hw rfl rfl ty56 fun v36 hw => ?_
 refine RL.len_rd (i := 0) (l := x33.Pins) trivial rfl hw rfl rfl un56 ?_
 refine mv (vi 0) rfl rfl ?_
 refine RL.nt ?_
 obtain ⟨s38, hN, hb⟩ := bd hb
 refine RC.fold (fun (k37 : Nat) (s38 : (List Pin)) (σ : Nat → Value) (w : World) => ∃ v57 : Value, agree σ [(3, (vp b31 0)), (5, v57), (15, v36), (16, (vi (x33.Pins.length : Int))), (17, (vi (k37 : Int)))] ∧ Holds E w ([bx 48 b31 p1, rd v36 x33.Pins, own 43 v57 s38] ++ Γ)) (fun (s38 : (List Pin)) (σ : Nat → Value) (w : World) => ∃ v58 : Value, agree σ [(5, v58)] ∧ Holds E w ([bx 48 b31 p1, rd v36 x33.Pins, own 43 v58 s38] ++ Γ)) hN ?_ ?_ ?_ ?_
 ·have hw := hw.own_nil Pin 43
  exact ⟨(.slice none 0 0), ⟨rfl, rfl, rfl, rfl, rfl, trivial⟩, hw.pick 7 [4, 1, 0] (new := [bx 48 b31 p1, rd v36 x33.Pins, own 43 (.slice none 0 0) ([] : (List Pin))]) rfl rfl (by decide) (by decide)⟩
 ·intro hm s38 σ w hI
  obtain ⟨v68, ha, hw⟩ := hI
  obtain ⟨τ, rfl⟩ := ha.ups
  refine RC.sr ?_
  refine ic ((x33.Pins.length : Int)) ((x33.Pins.length : Int)) rfl rfl rfl rfl ?_
  refine RL.nq ?_
  refine RC.cond_f dge ?_
  refine RC.ex ?_
  exact ⟨rfl, v68, ⟨rfl, trivial⟩, hw.pick 3 [0, 1, 2] (new := [bx 48 b31 p1, rd v36 x33.Pins, own 43 v68 s38]) rfl rfl (by decide) (by decide)⟩
 ·intro hm k37 s38 s' σ w hk hI hb
  obtain ⟨v59, ha, hw⟩ := hI
  obtain ⟨τ, rfl⟩ := ha.ups
  refine RC.sr ?_
  refine ic ((k37 : Int)) ((x33.Pins.length : Int)) rfl rfl rfl rfl ?_
  refine RL.nq ?_
  refine RC.cond_t (dlt hk) ?_
  refine RC.ss ?_
  refine RC.bs ?_
  obtain ⟨x60, hx60, hb⟩ := bd hb
  refine RL.ia_rd (i := 1) trivial rfl hw rfl rfl rfl sl56 hx60 fun v61 hw => ?_
  refine RL.load_pt (i := 0) (x := x60) trivial rfl hw rfl rfl ty55 fun v62 hw => ?_
  refine RL.alloc trivial rfl hw ze55.z fun b63 w hw => ?_
  refine RL.store_raw (i := 0) (j := 1) trivial hw rfl rfl rfl rfl ty55 rfl fun w hw => ?_
  refine RL.nt ?_
  refine RC.region ?_
  refine mv v59 rfl rfl ?_
  refine RL.fa_b trivial rfl rfl fa48_0 ?_
  refine RL.load_bfs (i := 3) (f := (fun x => x.Name)) trivial rfl hw rfl rfl fd_Part_0 ty9 ?_
  refine RL.fa_b trivial rfl rfl fa55_0 ?_
  refine RL.load_bfs (i := 0) (f := (fun x => x.Name)) trivial rfl hw rfl rfl fd_PinType_0 ty9 ?_
  have hw := hw.sc (γ := Str) p1.Name
  have hw := hw.sc (γ := Str) x60.Name
  refine RL.build (y := (⟨p1.Name, x60.Name⟩ : Pin)) trivial rfl hw [(0, (str p1.Name)), (1, (str x60.Name))] rfl st43 rfl (fun M hs g => by have h := z_Pin M; exact Fills.cons (f := fun (x : Pin) y => { x with Part := y }) rfl h fs_Pin_0 (by decide) (g.sat 1 _ rfl).1 fun _ h => Fills.cons (f := fun (x : Pin) y => { x with Pin := y }) rfl h fs_Pin_1 (by decide) (g.sat 0 _ rfl).1 fun _ h => Fills.nil h) fun v64 hw => ?_
  refine RL.bslice (l := ([(⟨p1.Name, x60.Name⟩ : Pin)] : (List Pin))) trivial rfl hw [v64] rfl rfl rfl sl35 ze43 (fun M hs g => ⟨(g.sat 0 _ rfl).1, trivial⟩) fun v65 w hw => ?_
  have hw := hw.freeze (i := 0) rfl
  obtain ⟨x66, hx66, hb⟩ := bd hb
  refine RL.app (i := 9) (j := 0) trivial rfl hw rfl rfl rfl rfl el35 hx66 fun v67 w hw => ?_
  refine as_ v67 rfl rfl ?_
  refine RL.nil ?_
  refine blkQ_n ?_
  refine thenQ_n ?_
  refine RC.region ?_
  refine RL.inc trivial rfl hk hm rfl rfl ?_
  refine mv (vi ((k37 + 1 : Nat) : Int)) rfl rfl ?_
  refine RL.nil ?_
  obtain rfl := oi hb
  exact ⟨rfl, v67, ⟨rfl, rfl, rfl, rfl, rfl, trivial⟩, hw.pick 10 [7, 8, 9] (new := [bx 48 b31 p1, rd v36 x33.Pins, own 43 v67 x66]) rfl rfl (by decide) (by decide)⟩
 intro σ w hJ
 obtain ⟨v58, ha, hw⟩ := hJ
 obtain ⟨τ, rfl⟩ := ha.ups
 refine thenQ_n ?_
 refine RC.sr ?_
 refine mv v58 rfl rfl ?_
 refine as_ v58 rfl rfl ?_
 refine RL.nt ?_
 refine RC.ret ?_
 obtain rfl := oi hb
 exact fin1 rfl rfl (hw.pick 3 [2] (new := [own 43 v58 s38]) rfl rfl (by decide) (by decide))
def netlist_LooseOf_R (E : World) (Γ : List HP) (res : (List Pin)) (v : Value) (w : World) : Prop := Holds E w (own 43 v res :: Γ)
theorem netlist_LooseOf_ok (N : Nat) {E w : World} {Γ : List HP} {i0 : Nat} {v0 : Value} {p0 : (List PartType)} {i1 : Nat} {v1 : Value} {p1 : Netlist} {res : (List Pin)} (hw : Holds E w Γ) (h0 : Γ[i0]? = some (rd v0 p0)) (h1 : Γ[i1]? = some (rd v1 p1)) (hb : netlist_LooseOf N p0 p1 = some res) :
    Calls Tryz.prog 41 [v0, v1].toArray w (Ret (netlist_LooseOf_R E Γ res)) := by
 unfold netlist_LooseOf at hb
 refine enter Tryz.func41 rfl rfl (Nat.le_of_ble_eq_true rfl) ?_
 have hw := hw.dup (i := i0 + 0) h0
 have hw := hw.dup (i := i1 + 1) h1
 refine RC.sr ?_
 refine RL.box_rd (i := 0) (v := v1) trivial rfl hw rfl rfl fun b31 w hw => ?_
 refine as_ (.slice none 0 0) rfl rfl ?_
 refine RL.ns ?_
 refine RL.load_bf (i := 0) (f := (fun x => x)) trivial rfl hw rfl rfl Fd.self ty26 fun v32 hw => ?_
 obtain ⟨x33, hx33, hb⟩ := bd hb
 refine RL.call trivial rfl fn68 [v32] rfl (Calls_ret (netlist_Nets_ok N  (i0 := 0) hw rfl hx33) ?_)
 rintro v34 w hw
 refine as_ v34 rfl rfl ?_
 refine RL.ns ?_
 refine as_ (.slice none 0 0) rfl rfl ?_
 refine RL.nq ?_
 refine RC.sr ?_
 refine RL.fa_b trivial rfl rfl fa26_0 ?_
 refine RL.load_bf (i := 2) (f := (fun x => x.Parts)) trivial rfl hw rfl rfl fd_Netlist_0 ty23 fun v35 hw => ?_
 refine RL.len_rd (i := 0) (l := p1.Parts) trivial rfl hw rfl rfl un23 ?_
 refine mv (vi 0) rfl rfl ?_
 refine RL.nt ?_
 obtain ⟨s37, hN, hb⟩ := bd hb
 refine RC.fold (fun (k36 : Nat) (s37 : (List Pin)) (σ : Nat → Value) (w : World) => ∃ v156 : Value, agree σ [(0, v0), (5, v34), (6, v156), (16, v35), (17, (vi (p1.Parts.length : Int))), (18, (vi (k36 : Int)))] ∧ Holds E w ([rd v0 p0, mp v34 x33, rd v35 p1.Parts, own 43 v156 s37] ++ Γ)) (fun (s37 : (List Pin)) (σ : Nat → Value) (w : World) => ∃ v157 : Value, agree σ [(6, v157)] ∧ Holds E w ([rd v0 p0, mp v34 x33, rd v35 p1.Parts, own 43 v157 s37] ++ Γ)) hN ?_ ?_ ?_ ?_
 ·have hw := hw.own_nil Pin 43
  exact ⟨(.slice none 0 0), ⟨rfl, rfl, rfl, rfl, rfl, rfl, trivial⟩, hw.pick 7 [6, 2, 1, 0] (new := [rd v0 p0, mp v34 x33, rd v35 p1.Parts, own 43 (.slice none 0 0) ([] : (List Pin))]) rfl rfl (by decide) (by decide)⟩
 ·intro hm s37 σ w hI
  obtain ⟨v217, ha, hw⟩ := hI
  obtain ⟨τ, rfl⟩ := ha.ups
  refine RC.sr ?_
  refine ic ((p1.Parts.length : Int)) ((p1.Parts.length : Int)) rfl rfl rfl rfl ?_
  refine RL.nq ?_
  refine RC.cond_f dge ?_
  refine RC.ex ?_
  exact ⟨rfl, v217, ⟨rfl, trivial⟩, hw.pick 4 [0, 1, 2, 3] (new := [rd v0 p0, mp v34 x33, rd v35 p1.Parts, own 43 v217 s37]) rfl rfl (by decide) (by decide)⟩
 ·intro hm k36 s37 s' σ w hk hI hb
  obtain ⟨v158, ha, hw⟩ := hI
  obtain ⟨τ, rfl⟩ := ha.ups
  refine RC.sr ?_
  refine ic ((k36 : Int)) ((p1.Parts.length : Int)) rfl rfl rfl rfl ?_
  refine RL.nq ?_
  refine RC.cond_t (dlt hk) ?_
  refine RC.ss ?_
  refine RC.bs ?_
  obtain ⟨x159, hx159, hb⟩ := bd hb
  refine RL.ia_rd (i := 2) trivial rfl hw rfl rfl rfl sl23 hx159 fun v160 hw => ?_
  refine RL.load_pt (i := 0) (x := x159) trivial rfl hw rfl rfl ty48 fun v161 hw => ?_
  refine RL.alloc trivial rfl hw ze48.z fun b162 w hw => ?_
  refine RL.store_raw (i := 0) (j := 1) trivial hw rfl rfl rfl rfl ty48 rfl fun w hw => ?_
  refine RL.ns ?_
  refine mv v0 rfl rfl ?_
  refine RL.load_bf (i := 0) (f := (fun x => x)) trivial rfl hw rfl rfl Fd.self ty48 fun v163 hw => ?_
  obtain ⟨x164, hx164, hb⟩ := bd hb
  refine RL.call trivial rfl fn69 [v0, v163] rfl (Calls_ret (netlist_pinsOf_ok N  (i0 := 4) (i1 := 0) hw rfl rfl hx164) ?_)
  rintro v165 w hw
  refine RL.len_own (i := 0) (l := x164) trivial rfl hw rfl rfl un35 ?_
  refine mv (vi 0) rfl rfl ?_
  refine RL.nt ?_
  obtain ⟨s167, hN, hb⟩ := bd hb
  refine RC.fold (fun (k166 : Nat) (s167 : (List Pin)) (σ : Nat → Value) (w : World) => ∃ v198 : Value, agree σ [(0, v0), (5, v34), (6, v198), (16, v35), (17, (vi (p1.Parts.length : Int))), (18, (vi (k36 : Int))), (24, v165), (25, (vi (x164.length : Int))), (26, (vi (k166 : Int)))] ∧ Holds E w ([rd v0 p0, mp v34 x33, rd v35 p1.Parts, own 43 v165 x164, own 43 v198 s167] ++ Γ)) (fun (s167 : (List Pin)) (σ : Nat → Value) (w : World) => ∃ v199 : Value, agree σ [(0, v0), (5, v34), (6, v199), (16, v35), (17, (vi (p1.Parts.length : Int))), (18, (vi (k36 : Int)))] ∧ Holds E w ([rd v0 p0, mp v34 x33, rd v35 p1.Parts, own 43 v165 x164, own 43 v199 s167] ++ Γ)) hN ?_ ?_ ?_ ?_
  ·exact ⟨v158, ⟨rfl, rfl, rfl, rfl, rfl, rfl, rfl, rfl, rfl, trivial⟩, hw.pick 9 [5, 6, 7, 0, 8] (new := [rd v0 p0, mp v34 x33, rd v35 p1.Parts, own 43 v165 x164, own 43 v158 s37]) rfl rfl (by decide) (by decide)⟩
  ·intro hm s167 σ w hI
   obtain ⟨v215, ha, hw⟩ := hI
   obtain ⟨τ, rfl⟩ := ha.ups
   refine RC.sr ?_
   refine ic ((x164.length : Int)) ((x164.length : Int)) rfl rfl rfl rfl ?_
   refine RL.nq ?_
   refine RC.cond_f dge ?_
   refine RC.ex ?_
   exact ⟨rfl, v215, ⟨rfl, rfl, rfl, rfl, rfl, rfl, trivial⟩, hw.pick 5 [0, 1, 2, 3, 4] (new := [rd v0 p0, mp v34 x33, rd v35 p1.Parts, own 43 v165 x164, own 43 v215 s167]) rfl rfl (by decide) (by decide)⟩
  ·intro hm k166 s167 s' σ w hk hI hb
   obtain ⟨v200, ha, hw⟩ := hI
   obtain ⟨τ, rfl⟩ := ha.ups
   refine RC.sr ?_
   refine ic ((k166 : Int)) ((x164.length : Int)) rfl rfl rfl rfl ?_
   refine RL.nq ?_
   refine RC.cond_t (dlt hk) ?_
   refine RC.ss ?_
   refine RC.bs ?_
   obtain ⟨x201, hx201, hb⟩ := bd hb
   refine RL.ia_ownA (i := 3) trivial rfl hw rfl rfl rfl sl35 hx201 ?_
   refine RL.load_el (i := 3) (f := (fun x => x)) trivial rfl hw rfl (elp hw (i := 3) rfl hx201 0) rfl (idx_some hx201).2.1 Fd.self ty43 fun v202 hw => ?_
   refine RL.alloc trivial rfl hw ze43.z fun b203 w hw => ?_
   refine RL.store_raw (i := 0) (j := 1) trivial hw rfl rfl rfl rfl ty43 rfl fun w hw => ?_
   refine RL.ns ?_
   refine mv v34 rfl rfl ?_
   refine RL.load_bf (i := 0) (f := (fun x => x)) trivial rfl hw rfl rfl Fd.self ty43 fun v204 hw => ?_
   refine RL.lookup2s (i := 4) (k := x201) trivial rfl hw rfl (key_rd hw (j := 0) rfl) rfl mt102 ?_
   refine mv (.tuple #[(vi (mget x33 x201 (0 : Int))), (vb (mhas x33 x201))]) rfl rfl ?_
   refine RL.extract (v := (vi (mget x33 x201 (0 : Int)))) trivial rfl rfl rfl ?_
   refine RL.extract (v := (vb (mhas x33 x201))) trivial rfl rfl rfl ?_
   refine as_ (vi (mget x33 x201 (0 : Int))) rfl rfl ?_
   refine as_ (vb (mhas x33 x201)) rfl rfl ?_
   refine RL.ns ?_
   refine mv (vb (mhas x33 x201)) rfl rfl ?_
   refine RL.not (b := (mhas x33 x201)) trivial rfl rfl ?_
   refine RL.nt ?_
   obtain ⟨s209, hj, hb⟩ := bd hb
   refine RC.jn (fun (s209 : (List Pin)) (σ : Nat → Value) (w : World) => ∃ v210 : Value, agree σ [(0, v0), (5, v34), (6, v210), (16, v35), (17, (vi (p1.Parts.length : Int))), (18, (vi (k36 : Int))), (24, v165), (25, (vi (x164.length : Int))), (26, (vi (k166 : Int)))] ∧ Holds E w ([rd v0 p0, mp v34 x33, rd v35 p1.Parts, own 43 v165 x164, own 43 v210 s209] ++ Γ)) s209 ?_ ?_
   ·refine RC.cond (b := (!(mhas x33 x201))) rfl (fun hc => ?_) (fun hc => ?_)
    rotate_left
    ·replace hj := cF hc hj
     refine RC.skip ?_
     obtain rfl := oi hj
     exact ⟨rfl, v200, ⟨rfl, rfl, rfl, rfl, rfl, rfl, rfl, rfl, rfl, trivial⟩, hw.pick 8 [3, 4, 5, 6, 7] (new := [rd v0 p0, mp v34 x33, rd v35 p1.Parts, own 43 v165 x164, own 43 v200 s167]) rfl rfl (by decide) (by decide)⟩
    replace hj := cT hc hj
    refine RC.region ?_
    refine mv v200 rfl rfl ?_
    refine RL.load_bf (i := 1) (f := (fun x => x)) trivial rfl hw rfl rfl Fd.self ty43 fun v211 hw => ?_
    refine RL.bslice (l := ([x201] : (List Pin))) trivial rfl hw [v211] rfl rfl rfl sl35 ze43 (fun M hs g => ⟨(g.sat 0 _ rfl).1, trivial⟩) fun v212 w hw => ?_
    have hw := hw.freeze (i := 0) rfl
    obtain ⟨x213, hx213, hj⟩ := bd hj
    refine RL.app (i := 9) (j := 0) trivial rfl hw rfl rfl rfl rfl el35 hx213 fun v214 w hw => ?_
    refine as_ v214 rfl rfl ?_
    refine RL.nil ?_
    obtain rfl := oi hj
    exact ⟨rfl, v214, ⟨rfl, rfl, rfl, rfl, rfl, rfl, rfl, rfl, rfl, trivial⟩, hw.pick 10 [5, 6, 7, 8, 9] (new := [rd v0 p0, mp v34 x33, rd v35 p1.Parts, own 43 v165 x164, own 43 v214 x213]) rfl rfl (by decide) (by decide)⟩
   rintro σ w ⟨v210, ha, hw⟩
   obtain ⟨τ, rfl⟩ := ha.ups
   refine blkQ_n ?_
   refine thenQ_n ?_
   refine RC.region ?_
   refine RL.inc trivial rfl hk hm rfl rfl ?_
   refine mv (vi ((k166 + 1 : Nat) : Int)) rfl rfl ?_
   refine RL.nil ?_
   obtain rfl := oi hb
   exact ⟨rfl, v210, ⟨rfl, rfl, rfl, rfl, rfl, rfl, rfl, rfl, rfl, trivial⟩, hw.pick 5 [0, 1, 2, 3, 4] (new := [rd v0 p0, mp v34 x33, rd v35 p1.Parts, own 43 v165 x164, own 43 v210 s209]) rfl rfl (by decide) (by decide)⟩
  intro σ w hJ
  obtain ⟨v199, ha, hw⟩ := hJ
  obtain ⟨τ, rfl⟩ := ha.ups
  refine blkQ_n ?_
  refine thenQ_n ?_
  refine RC.region ?_
  refine RL.inc trivial rfl hk hm rfl rfl ?_
  refine mv (vi ((k36 + 1 : Nat) : Int)) rfl rfl ?_
  refine RL.nil ?_
  obtain rfl := oi hb
  exact ⟨rfl, v199, ⟨rfl, rfl, rfl, rfl, rfl, rfl, trivial⟩, hw.pick 5 [0, 1, 2, 4] (new := [rd v0 p0, mp v34 x33, rd v35 p1.Parts, own 43 v199 s167]) rfl rfl (by decide) (by decide)⟩
 intro σ w hJ
 obtain ⟨v157, ha, hw⟩ := hJ
 obtain ⟨τ, rfl⟩ := ha.ups
 refine thenQ_n ?_
 refine RC.sr ?_
 refine mv v157 rfl rfl ?_
 refine as_ v157 rfl rfl ?_
 refine RL.nt ?_
 refine RC.ret ?_
 obtain rfl := oi hb
 exact fin1 rfl rfl (hw.pick 4 [3] (new := [own 43 v157 s37]) rfl rfl (by decide) (by decide))
def netlist_Loose_R (E : World) (Γ : List HP) (res : (List Pin) × Int) (v : Value) (w : World) : Prop := ∃ u0 : Value, v = .tuple #[u0, (vi res.2)] ∧ Holds E w (own 43 u0 res.1 :: Γ)
theorem netlist_Loose_ok (N : Nat) {E w : World} {Γ : List HP} {i0 : Nat} {v0 : Value} {p0 : (List PartType)} {i1 : Nat} {v1 : Value} {p1 : Netlist} {res : (List Pin) × Int} (hw : Holds E w Γ) (h0 : Γ[i0]? = some (rd v0 p0)) (h1 : Γ[i1]? = some (rd v1 p1)) (hb : netlist_Loose N p0 p1 = some res) :
    Calls Tryz.prog 23 [v0, v1].toArray w (Ret (netlist_Loose_R E Γ res)) := by
 unfold netlist_Loose at hb
 refine enter Tryz.func23 rfl rfl (Nat.le_of_ble_eq_true rfl) ?_
 have hw := hw.dup (i := i0 + 0) h0
 have hw := hw.dup (i := i1 + 1) h1
 refine RC.sr ?_
 refine RL.box_rd (i := 0) (v := v1) trivial rfl hw rfl rfl fun b31 w hw => ?_
 refine as_ (.slice none 0 0) rfl rfl ?_
 refine as_ (vi 0) rfl rfl ?_
 refine RL.nq ?_
 refine RC.sr ?_
 refine mv v0 rfl rfl ?_
 refine RL.load_bf (i := 0) (f := (fun x => x)) trivial rfl hw rfl rfl Fd.self ty26 fun v32 hw => ?_
 obtain ⟨x33, hx33, hb⟩ := bd hb
 refine RL.call trivial rfl fn8 [v0, v32] rfl (Calls_ret (netlist_CheckList_ok N  (i0 := 3) (i1 := 0) hw rfl rfl hx33) ?_)
 rintro _ w ⟨rfl, hw⟩
 refine as_ (vi x33) rfl rfl ?_
 refine RL.ns ?_
 refine mv (vi x33) rfl rfl ?_
 refine ic x33 0 rfl rfl rfl rfl ?_
 refine RL.nt ?_
 refine RC.cond (b := (x33 != 0)) rfl (fun hc => ?_) (fun hc => ?_)
 ·replace hb := cT hc hb
  refine RC.sr ?_
  refine mv (vi x33) rfl rfl ?_
  refine as_ (.slice none 0 0) rfl rfl ?_
  refine as_ (vi x33) rfl rfl ?_
  refine RL.nt ?_
  refine RC.rt ?_
  obtain rfl := oi hb
  have hw := hw.own_nil Pin 43
  exact fin2 rfl rfl rfl ⟨(.slice none 0 0), rfl, hw.pick 5 [0] (new := [own 43 (.slice none 0 0) ([] : (List Pin))]) rfl rfl (by decide) (by decide)⟩
 replace hb := cF hc hb
 refine RC.sx ?_
 refine mv v0 rfl rfl ?_
 refine RL.load_bf (i := 1) (f := (fun x => x)) trivial rfl hw rfl rfl Fd.self ty26 fun v34 hw => ?_
 obtain ⟨x35, hx35, hb⟩ := bd hb
 refine RL.call trivial rfl fn41 [v0, v34] rfl (Calls_ret (netlist_LooseOf_ok N  (i0 := 4) (i1 := 0) hw rfl rfl hx35) ?_)
 rintro v36 w hw
 refine as_ v36 rfl rfl ?_
 refine as_ (vi 0) rfl rfl ?_
 refine RL.nt ?_
 refine RC.ret ?_
 obtain rfl := oi hb
 exact fin2 rfl rfl rfl ⟨v36, rfl, hw.pick 6 [0] (new := [own 43 v36 x35]) rfl rfl (by decide) (by decide)⟩
def etchhouselaw2_awake_R (E : World) (Γ : List HP) (res : Bool) (v : Value) (w : World) : Prop := v = (vb res) ∧ Holds E w Γ
theorem etchhouselaw2_awake_ok (N : Nat) {E w : World} {Γ : List HP}  {res : Bool} (hw : Holds E w Γ)  (hb : etchhouselaw2_awake N  = some res) :
    Calls Tryz.prog 7 [].toArray w (Ret (etchhouselaw2_awake_R E Γ res)) := by
 unfold etchhouselaw2_awake at hb
 refine enter Tryz.func7 rfl rfl (Nat.le_of_ble_eq_true rfl) ?_
 refine RC.sr ?_
 refine as_ (vb false) rfl rfl ?_
 refine RL.ns ?_
 have hw := hw.sc (γ := Str) ⟨[49]⟩
 have hw := hw.sc (γ := Int) 6
 refine RL.build (y := (⟨⟨[49]⟩, 6, 0⟩ : PinType)) trivial rfl hw [(0, (str ⟨[49]⟩)), (1, (vi 6))] rfl st55 rfl (fun M hs g => by have h := z_PinType M; exact Fills.cons (f := fun (x : PinType) y => { x with Name := y }) rfl h fs_PinType_0 (by decide) (g.sat 1 _ rfl).1 fun _ h => Fills.cons (f := fun (x : PinType) y => { x with Kind := y }) rfl h fs_PinType_1 (by decide) (g.sat 0 _ rfl).1 fun _ h => Fills.nil h) fun v31 hw => ?_
 refine RL.bslice (l := ([(⟨⟨[49]⟩, 6, 0⟩ : PinType)] : (List PinType))) trivial rfl hw [v31] rfl rfl rfl sl56 ze55 (fun M hs g => ⟨(g.sat 0 _ rfl).1, trivial⟩) fun v32 w hw => ?_
 have hw := hw.sc (γ := Str) ⟨[114]⟩
 have hw := hw.freeze (i := 1) rfl
 refine RL.build (y := (⟨⟨[114]⟩, ([(⟨⟨[49]⟩, 6, 0⟩ : PinType)] : (List PinType))⟩ : PartType)) trivial rfl hw [(0, (str ⟨[114]⟩)), (1, v32)] rfl st58 rfl (fun M hs g => by have h := z_PartType M; exact Fills.cons (f := fun (x : PartType) y => { x with Name := y }) rfl h fs_PartType_0 (by decide) (g.sat 0 _ rfl).1 fun _ h => Fills.cons (f := fun (x : PartType) y => { x with Pins := y }) rfl h fs_PartType_1 (by decide) (g.sat 1 _ rfl).1 fun _ h => Fills.nil h) fun v33 hw => ?_
 refine RL.bslice (l := ([(⟨⟨[114]⟩, ([(⟨⟨[49]⟩, 6, 0⟩ : PinType)] : (List PinType))⟩ : PartType)] : (List PartType))) trivial rfl hw [v33] rfl rfl rfl sl22 ze58 (fun M hs g => ⟨(g.sat 0 _ rfl).1, trivial⟩) fun v34 w hw => ?_
 refine as_ v34 rfl rfl ?_
 refine RL.ns ?_
 refine mv v34 rfl rfl ?_
 have hw := hw.sc (γ := Str) ⟨[97]⟩
 have hw := hw.sc (γ := Str) ⟨[114]⟩
 refine RL.build (y := (⟨⟨[97]⟩, ⟨[114]⟩⟩ : Part)) trivial rfl hw [(0, (str ⟨[97]⟩)), (1, (str ⟨[114]⟩))] rfl st48 rfl (fun M hs g => by have h := z_Part M; exact Fills.cons (f := fun (x : Part) y => { x with Name := y }) rfl h fs_Part_0 (by decide) (g.sat 1 _ rfl).1 fun _ h => Fills.cons (f := fun (x : Part) y => { x with Type_ := y }) rfl h fs_Part_1 (by decide) (g.sat 0 _ rfl).1 fun _ h => Fills.nil h) fun v35 hw => ?_
 refine RL.bslice (l := ([(⟨⟨[97]⟩, ⟨[114]⟩⟩ : Part)] : (List Part))) trivial rfl hw [v35] rfl rfl rfl sl23 ze48 (fun M hs g => ⟨(g.sat 0 _ rfl).1, trivial⟩) fun v36 w hw => ?_
 have hw := hw.freeze (i := 0) rfl
 refine RL.build (y := (⟨([(⟨⟨[97]⟩, ⟨[114]⟩⟩ : Part)] : (List Part)), []⟩ : Netlist)) trivial rfl hw [(0, v36)] rfl st26 rfl (fun M hs g => by have h := z_Netlist M; exact Fills.cons (f := fun (x : Netlist) y => { x with Parts := y }) rfl h fs_Netlist_0 (by decide) (g.sat 0 _ rfl).1 fun _ h => Fills.nil h) fun v37 hw => ?_
 have hw := hw.freeze (i := 5) rfl
 obtain ⟨x38, hx38, hb⟩ := bd hb
 refine RL.call trivial rfl fn23 [v34, v37] rfl (Calls_ret (netlist_Loose_ok N  (i0 := 5) (i1 := 0) hw rfl rfl hx38) ?_)
 rintro _ w ⟨v39, rfl, hw⟩
 refine mv (.tuple #[v39, (vi x38.2)]) rfl rfl ?_
 refine RL.extract (v := v39) trivial rfl rfl rfl ?_
 refine RL.extract (v := (vi x38.2)) trivial rfl rfl rfl ?_
 refine as_ v39 rfl rfl ?_
 refine as_ (vi x38.2) rfl rfl ?_
 refine RL.nq ?_
 obtain ⟨s46, hj, hb⟩ := bd hb
 refine RC.jn (fun (s46 : Bool) (σ : Nat → Value) (w : World) => agree σ [(0, (vb s46))] ∧ Holds E w ([] ++ Γ)) s46 ?_ ?_
 ·refine RC.region ?_
  refine mv (vi x38.2) rfl rfl ?_
  refine ic (x38.2) 0 rfl rfl rfl rfl ?_
  refine mv (vb (x38.2 == 0)) rfl rfl ?_
  rcases Bool.eq_false_or_eq_true (x38.2 == 0) with hg47 | hg47
  rotate_left
  ·replace hj := cF hg47 hj
   refine sk rfl (.inl (cb hg47)) rfl ?_
   refine sk rfl (.inl (cb hg47)) rfl ?_
   refine sk rfl (.inl (cb hg47)) rfl ?_
   refine RL.pick (b := (x38.2 == 0)) (v := (vb false)) trivial rfl rfl (by rw [hg47]; rfl) ?_
   refine mv (vb false) rfl rfl ?_
   refine sk rfl (.inl rfl) rfl ?_
   refine sk rfl (.inl rfl) rfl ?_
   refine sk rfl (.inl rfl) rfl ?_
   refine sk rfl (.inl rfl) rfl ?_
   refine sk rfl (.inl rfl) rfl ?_
   refine RL.pick (b := false) (v := (vb false)) trivial rfl rfl rfl ?_
   refine as_ (vb false) rfl rfl ?_
   refine RL.nil ?_
   obtain rfl := oi hj
   exact ⟨rfl, ⟨rfl, trivial⟩, hw.pick 13 [] (new := []) rfl rfl (by decide) (by decide)⟩
  replace hj := cT hg47 hj
  refine RL.move (v := v39) ⟨_, rfl, cb hg47⟩ rfl rfl ?_
  refine RL.len_own (i := 0) (l := x38.1) ⟨_, rfl, cb hg47⟩ rfl hw rfl rfl un35 ?_
  refine RL.icmp (a := (x38.1.length : Int)) (b := 1) ⟨_, rfl, cb hg47⟩ rfl rfl rfl rfl ?_
  refine RL.pick (b := (x38.2 == 0)) (v := (vb ((x38.1.length : Int) == 1))) trivial rfl rfl (by rw [hg47]; rfl) ?_
  refine mv (vb ((x38.1.length : Int) == 1)) rfl rfl ?_
  rcases Bool.eq_false_or_eq_true ((x38.1.length : Int) == 1) with hg48 | hg48
  rotate_left
  ·replace hj := cF hg48 hj
   refine sk rfl (.inl (cb hg48)) rfl ?_
   refine sk rfl (.inl (cb hg48)) rfl ?_
   refine sk rfl (.inl (cb hg48)) rfl ?_
   refine sk rfl (.inl (cb hg48)) rfl ?_
   refine sk rfl (.inl (cb hg48)) rfl ?_
   refine RL.pick (b := ((x38.1.length : Int) == 1)) (v := (vb false)) trivial rfl rfl (by rw [hg48]; rfl) ?_
   refine as_ (vb false) rfl rfl ?_
   refine RL.nil ?_
   obtain rfl := oi hj
   exact ⟨rfl, ⟨rfl, trivial⟩, hw.pick 13 [] (new := []) rfl rfl (by decide) (by decide)⟩
  replace hj := cT hg48 hj
  refine RL.move (v := v39) ⟨_, rfl, cb hg48⟩ rfl rfl ?_
  obtain ⟨x49, hx49, hj⟩ := bd hj
  refine RL.ia_ownA (i := 0) ⟨_, rfl, cb hg48⟩ rfl hw rfl rfl rfl sl35 hx49 ?_
  refine RL.load_el (i := 0) (f := (fun x => x)) ⟨_, rfl, cb hg48⟩ rfl hw rfl (elp hw (i := 0) rfl hx49 0) rfl (idx_some hx49).2.1 Fd.self ty43 fun v50 hw => ?_
  have hw := hw.sc (γ := Str) ⟨[97]⟩
  have hw := hw.sc (γ := Str) ⟨[49]⟩
  refine RL.build (y := (⟨⟨[97]⟩, ⟨[49]⟩⟩ : Pin)) ⟨_, rfl, cb hg48⟩ rfl hw [(0, (str ⟨[97]⟩)), (1, (str ⟨[49]⟩))] rfl st43 rfl (fun M hs g => by have h := z_Pin M; exact Fills.cons (f := fun (x : Pin) y => { x with Part := y }) rfl h fs_Pin_0 (by decide) (g.sat 1 _ rfl).1 fun _ h => Fills.cons (f := fun (x : Pin) y => { x with Pin := y }) rfl h fs_Pin_1 (by decide) (g.sat 0 _ rfl).1 fun _ h => Fills.nil h) fun v51 hw => ?_
  refine RL.seq (i := 3) (j := 0) (a := x49) (b := (⟨⟨[97]⟩, ⟨[49]⟩⟩ : Pin)) ⟨_, rfl, cb hg48⟩ rfl hw rfl rfl rfl rfl eqt43 rfl ?_
  refine RL.pick (b := ((x38.1.length : Int) == 1)) (v := (vb (decide (x49 = (⟨⟨[97]⟩, ⟨[49]⟩⟩ : Pin))))) trivial rfl rfl (by rw [hg48]; rfl) ?_
  refine as_ (vb (decide (x49 = (⟨⟨[97]⟩, ⟨[49]⟩⟩ : Pin)))) rfl rfl ?_
  refine RL.nil ?_
  obtain rfl := oi hj
  exact ⟨rfl, ⟨rfl, trivial⟩, hw.pick 17 [] (new := []) rfl rfl (by decide) (by decide)⟩
 rintro σ w ⟨ha, hw⟩
 obtain ⟨τ, rfl⟩ := ha.ups
 refine thenQ_n ?_
 refine RC.ret ?_
 obtain rfl := oi hb
 exact fin1 rfl rfl ⟨rfl, hw.drop 0 rfl⟩
def etchhouselaw2_NetlistJoinedMatchesSpec_R (E : World) (Γ : List HP) (res : Bool) (v : Value) (w : World) : Prop := v = (vb res) ∧ Holds E w Γ
theorem etchhouselaw2_NetlistJoinedMatchesSpec_ok (N : Nat) {E w : World} {Γ : List HP} {i0 : Nat} {v0 : Value} {p0 : (List PartType)} {i1 : Nat} {v1 : Value} {p1 : Netlist} {p2 : Str} {p3 : Str} {res : Bool} (hw : Holds E w Γ) (h0 : Γ[i0]? = some (rd v0 p0)) (h1 : Γ[i1]? = some (rd v1 p1)) (hb : etchhouselaw2_NetlistJoinedMatchesSpec N p0 p1 p2 p3 = some res) :
    Calls Tryz.prog 3 [v0, v1, (str p2), (str p3)].toArray w (Ret (etchhouselaw2_NetlistJoinedMatchesSpec_R E Γ res)) := by
 unfold etchhouselaw2_NetlistJoinedMatchesSpec at hb
 refine enter Tryz.func3 rfl rfl (Nat.le_of_ble_eq_true rfl) ?_
 have hw := hw.dup (i := i0 + 0) h0
 have hw := hw.dup (i := i1 + 1) h1
 refine RC.sr ?_
 refine RL.box_rd (i := 0) (v := v1) trivial rfl hw rfl rfl fun b31 w hw => ?_
 refine as_ (vb false) rfl rfl ?_
 refine RL.ns ?_
 refine mv v0 rfl rfl ?_
 refine RL.load_bf (i := 0) (f := (fun x => x)) trivial rfl hw rfl rfl Fd.self ty26 fun v32 hw => ?_
 refine mv (str p2) rfl rfl ?_
 refine mv (str p3) rfl rfl ?_
 obtain ⟨x33, hx33, hb⟩ := bd hb
 refine RL.call trivial rfl fn4 [v0, v32, (str p2), (str p3)] rfl (Calls_ret (netlist_Joined_ok N (p2 := p2) (p3 := p3) (i0 := 3) (i1 := 0) hw rfl rfl hx33) ?_)
 rintro _ w ⟨v34, rfl, hw⟩
 refine mv (.tuple #[v34, (vi x33.2)]) rfl rfl ?_
 refine RL.extract (v := v34) trivial rfl rfl rfl ?_
 refine RL.extract (v := (vi x33.2)) trivial rfl rfl rfl ?_
 refine RL.alloc trivial rfl hw ze26.z fun b35 w hw => ?_
 refine RL.store_raw (i := 0) (j := 1) trivial hw rfl rfl rfl rfl ty26 rfl fun w hw => ?_
 refine as_ (vi x33.2) rfl rfl ?_
 refine RL.ns ?_
 refine mv v0 rfl rfl ?_
 refine RL.load_bf (i := 3) (f := (fun x => x)) trivial rfl hw rfl rfl Fd.self ty26 fun v36 hw => ?_
 refine mv (str p2) rfl rfl ?_
 refine mv (str p3) rfl rfl ?_
 obtain ⟨x37, hx37, hb⟩ := bd hb
 refine RL.call trivial rfl fn5 [v0, v36, (str p2), (str p3)] rfl (Calls_ret (etchhouseref2_Joined_ok N (p2 := p2) (p3 := p3) (i0 := 6) (i1 := 0) hw rfl rfl hx37) ?_)
 rintro _ w ⟨v38, rfl, hw⟩
 refine mv (.tuple #[v38, (vi x37.2)]) rfl rfl ?_
 refine RL.extract (v := v38) trivial rfl rfl rfl ?_
 refine RL.extract (v := (vi x37.2)) trivial rfl rfl rfl ?_
 refine RL.alloc trivial rfl hw ze26.z fun b39 w hw => ?_
 refine RL.store_raw (i := 0) (j := 1) trivial hw rfl rfl rfl rfl ty26 rfl fun w hw => ?_
 refine as_ (vi x37.2) rfl rfl ?_
 refine RL.nq ?_
 obtain ⟨s50, hj, hb⟩ := bd hb
 refine RC.jn (fun (s50 : Bool) (σ : Nat → Value) (w : World) => agree σ [(8, (vb s50))] ∧ Holds E w ([] ++ Γ)) s50 ?_ ?_
 ·refine RC.region ?_
  refine mv (vi x33.2) rfl rfl ?_
  refine mv (vi x37.2) rfl rfl ?_
  refine ic (x33.2) (x37.2) rfl rfl rfl rfl ?_
  refine mv (vb (x33.2 == x37.2)) rfl rfl ?_
  rcases Bool.eq_false_or_eq_true (x33.2 == x37.2) with hg51 | hg51
  rotate_left
  ·replace hj := cF hg51 hj
   refine sk rfl (.inl (cb hg51)) rfl ?_
   refine sk rfl (.inl (cb hg51)) rfl ?_
   refine sk rfl (.inl (cb hg51)) rfl ?_
   refine RL.pick (b := (x33.2 == x37.2)) (v := (vb false)) trivial rfl rfl (by rw [hg51]; rfl) ?_
   refine mv (vb false) rfl rfl ?_
   refine sk rfl (.inl rfl) rfl ?_
   refine RL.pick (b := false) (v := (vb false)) trivial rfl rfl rfl ?_
   refine as_ (vb false) rfl rfl ?_
   refine RL.nil ?_
   obtain rfl := oi hj
   exact ⟨rfl, ⟨rfl, trivial⟩, hw.pick 9 [] (new := []) rfl rfl (by decide) (by decide)⟩
  replace hj := cT hg51 hj
  refine RL.load_bf (i := 3) (f := (fun x => x)) ⟨_, rfl, cb hg51⟩ rfl hw rfl rfl Fd.self ty26 fun v52 hw => ?_
  refine RL.load_bf (i := 1) (f := (fun x => x)) ⟨_, rfl, cb hg51⟩ rfl hw rfl rfl Fd.self ty26 fun v53 hw => ?_
  obtain ⟨x54, hx54, hj⟩ := bd hj
  refine RL.call ⟨_, rfl, cb hg51⟩ rfl fn6 [v52, v53] rfl (Calls_ret (etchhouseref2_Same_ok N  (i0 := 1) (i1 := 0) hw rfl rfl hx54) ?_)
  rintro _ w ⟨rfl, hw⟩
  refine RL.pick (b := (x33.2 == x37.2)) (v := (vb x54)) trivial rfl rfl (by rw [hg51]; rfl) ?_
  refine mv (vb x54) rfl rfl ?_
  rcases Bool.eq_false_or_eq_true x54 with hg55 | hg55
  rotate_left
  ·replace hj := cF hg55 hj
   refine sk rfl (.inl (cb hg55)) rfl ?_
   refine RL.pick (b := x54) (v := (vb false)) trivial rfl rfl (by rw [hg55]; rfl) ?_
   refine as_ (vb false) rfl rfl ?_
   refine RL.nil ?_
   obtain rfl := oi hj
   exact ⟨rfl, ⟨rfl, trivial⟩, hw.pick 11 [] (new := []) rfl rfl (by decide) (by decide)⟩
  replace hj := cT hg55 hj
  obtain ⟨x56, hx56, hj⟩ := bd hj
  refine RL.call ⟨_, rfl, cb hg55⟩ rfl fn7 [] rfl (Calls_ret (etchhouselaw2_awake_ok N   hw  hx56) ?_)
  rintro _ w ⟨rfl, hw⟩
  refine RL.pick (b := x54) (v := (vb x56)) trivial rfl rfl (by rw [hg55]; rfl) ?_
  refine as_ (vb x56) rfl rfl ?_
  refine RL.nil ?_
  obtain rfl := oi hj
  exact ⟨rfl, ⟨rfl, trivial⟩, hw.pick 11 [] (new := []) rfl rfl (by decide) (by decide)⟩
 rintro σ w ⟨ha, hw⟩
 obtain ⟨τ, rfl⟩ := ha.ups
 refine thenQ_n ?_
 refine RC.ret ?_
 obtain rfl := oi hb
 exact fin1 rfl rfl ⟨rfl, hw.drop 0 rfl⟩
end Go.Gk
