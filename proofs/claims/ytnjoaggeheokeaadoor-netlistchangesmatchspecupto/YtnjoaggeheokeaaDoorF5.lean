/-
  Printed by gen.py: Go functions as plain functions, and that they are.
-/
import Derived.Test.YtnjoaggeheokeaaDoorT
import Derived.Test.YtnjoaggeheokeaaDoorF4
set_option linter.unusedVariables false
set_option linter.unusedSimpArgs false
set_option linter.unusedSectionVars false
set_option maxRecDepth 100000
set_option maxHeartbeats 4000000

namespace Go.Gk
open Go Go.Proofs
def etchhouseref2_checkList_R (E : World) (Γ : List HP) (res : Int) (v : Value) (w : World) : Prop := v = (vi res) ∧ Holds E w Γ
def etchhouseref2_checkList_K (E : World) (Γ : List HP) (r : Int) (σ : Nat → Value) (w : World) : Prop := finQ Tryd.prog 132 Tryd.f46 (etchhouseref2_checkList_R E Γ r) .ret σ w
theorem etchhouseref2_checkList_ok (N : Nat) {E w : World} {Γ : List HP} {i0 : Nat} {v0 : Value} {p0 : (List PartType)} {i1 : Nat} {v1 : Value} {p1 : Netlist} {res : Int} (hw : Holds E w Γ) (h0 : Γ[i0]? = some (rd v0 p0)) (h1 : Γ[i1]? = some (rd v1 p1)) (hb : etchhouseref2_checkList N p0 p1 = some res) :
    Calls Tryd.prog 46 [v0, v1].toArray w (Ret (etchhouseref2_checkList_R E Γ res)) := by
 unfold etchhouseref2_checkList at hb
 refine enter Tryd.func46 rfl rfl (Nat.le_of_ble_eq_true rfl) ?_
 have hw := hw.dup (i := i0 + 0) h0
 have hw := hw.dup (i := i1 + 1) h1
 refine RC.sr ?_
 refine RL.box_rd (i := 0) (v := v1) trivial rfl hw rfl rfl fun b1 w hw => ?_
 refine as_ (vi 0) rfl rfl ?_
 refine RL.nq ?_
 refine RC.sr ?_
 refine RL.fa_b trivial rfl rfl fa26_0 ?_
 refine RL.load_bf (i := 0) (f := (fun x => x.Parts)) trivial rfl hw rfl rfl fd_Netlist_0 ty23 fun v2 hw => ?_
 refine RL.len_rd (i := 0) (l := p1.Parts) trivial rfl hw rfl rfl un23 ?_
 refine ic ((p1.Parts.length : Int)) 1000 rfl rfl rfl rfl ?_
 refine RL.nt ?_
 refine RC.cond (b := (decide ((p1.Parts.length : Int) > 1000))) rfl (fun hc => ?_) (fun hc => ?_)
 ·replace hb := cT hc hb
  refine RC.sr ?_
  refine as_ (vi 2) rfl rfl ?_
  refine RL.nt ?_
  refine RC.rt ?_
  obtain rfl := oi hb
  exact fin1 rfl rfl ⟨rfl, hw.drop 4 rfl⟩
 replace hb := cF hc hb
 refine RC.ss ?_
 refine RC.sr ?_
 refine RL.fa_b trivial rfl rfl fa26_0 ?_
 refine RL.load_bf (i := 1) (f := (fun x => x.Parts)) trivial rfl hw rfl rfl fd_Netlist_0 ty23 fun v3 hw => ?_
 refine RL.len_rd (i := 0) (l := p1.Parts) trivial rfl hw rfl rfl un23 ?_
 refine mv (vi 0) rfl rfl ?_
 refine RL.nt ?_
 obtain ⟨o567, hN, hb⟩ := bd hb
 refine RC.range (fun (k4 : Nat) (s5 : Unit) (σ : Nat → Value) (w : World) => agree σ [(0, v0), (3, (vp b1 0)), (16, v3), (17, (vi (p1.Parts.length : Int))), (18, (vi (k4 : Int)))] ∧ Holds E w ([rd v0 p0, bx 26 b1 p1, rd v3 p1.Parts] ++ Γ)) (fun (s5 : Unit) (σ : Nat → Value) (w : World) => agree σ [(0, v0), (3, (vp b1 0))] ∧ Holds E w ([rd v0 p0, bx 26 b1 p1, rd v3 p1.Parts] ++ Γ)) (etchhouseref2_checkList_K E Γ) hN ?_ ?_ ?_ ?_ ?_ 
 ·exact ⟨⟨rfl, rfl, rfl, rfl, rfl, trivial⟩, hw.pick 5 [4, 2, 0] (new := [rd v0 p0, bx 26 b1 p1, rd v3 p1.Parts]) rfl rfl (by decide) (by decide)⟩
 ·intro hm s5 σ w hI
  obtain ⟨ha, hw⟩ := hI
  obtain ⟨τ, rfl⟩ := ha.ups
  refine RC.sr ?_
  refine ic ((p1.Parts.length : Int)) ((p1.Parts.length : Int)) rfl rfl rfl rfl ?_
  refine RL.nq ?_
  refine RC.cond_f dge ?_
  refine RC.ex ?_
  exact ⟨rfl, ⟨rfl, rfl, trivial⟩, hw.pick 3 [0, 1, 2] (new := [rd v0 p0, bx 26 b1 p1, rd v3 p1.Parts]) rfl rfl (by decide) (by decide)⟩
 ·intro hm k4 s5 fl σ w hk hI hb
  obtain ⟨ha, hw⟩ := hI
  obtain ⟨τ, rfl⟩ := ha.ups
  refine RC.sr ?_
  refine ic ((k4 : Int)) ((p1.Parts.length : Int)) rfl rfl rfl rfl ?_
  refine RL.nq ?_
  refine RC.cond_t (dlt hk) ?_
  refine RC.ss ?_
  refine RC.bs ?_
  refine mv (vi (k4 : Int)) rfl rfl ?_
  obtain ⟨x81, hx81, hb⟩ := bd hb
  refine RL.ia_rd (i := 2) trivial rfl hw rfl rfl rfl sl23 hx81 fun v82 hw => ?_
  refine RL.load_pt (i := 0) (x := x81) trivial rfl hw rfl rfl ty87 fun v83 hw => ?_
  refine RL.alloc trivial rfl hw ze87.z fun b84 w hw => ?_
  refine as_ (vi (k4 : Int)) rfl rfl ?_
  refine RL.store_raw (i := 0) (j := 1) trivial hw rfl rfl rfl rfl ty87 rfl fun w hw => ?_
  refine RL.nt ?_
  refine RC.bs ?_
  refine RL.fa_b trivial rfl rfl fa87_0 ?_
  refine RL.load_bfs (i := 0) (f := (fun x => x.Name)) trivial rfl hw rfl rfl fd_Part_0 ty9 ?_
  obtain ⟨x85, hx85, hb⟩ := bd hb
  refine RL.call trivial rfl fn102 [(str x81.Name)] rfl (Calls_ret (etchhouseref2_IsPath_ok N (p0 := x81.Name)  hw  hx85) ?_)
  rintro _ w ⟨rfl, hw⟩
  refine RL.not (b := x85) trivial rfl rfl ?_
  refine as_ (vb (!x85)) rfl rfl ?_
  refine RL.nt ?_
  refine RC.cond (b := (!x85)) rfl (fun hc => ?_) (fun hc => ?_)
  ·replace hb := cT hc hb
   refine RC.sr ?_
   refine as_ (vi 5) rfl rfl ?_
   refine RL.nt ?_
   refine RC.rb ?_
   refine blkQ_r ?_
   refine thenQ_r ?_
   obtain rfl := oi hb
   exact ⟨rfl, fin1 rfl rfl ⟨rfl, hw.drop 6 rfl⟩⟩
  replace hb := cF hc hb
  refine RC.sr ?_
  refine mv v0 rfl rfl ?_
  refine RL.fa_b trivial rfl rfl fa87_1 ?_
  refine RL.load_bfs (i := 0) (f := (fun x => x.Type_)) trivial rfl hw rfl rfl fd_Part_1 ty9 ?_
  obtain ⟨x121, hx121, hb⟩ := bd hb
  refine RL.call trivial rfl fn69 [v0, (str x81.Type_)] rfl (Calls_ret (etchhouseref2_typeOf_ok N (p1 := x81.Type_) (i0 := 3) hw rfl hx121) ?_)
  rintro _ w ⟨rfl, hw⟩
  refine ic x121 0 rfl rfl rfl rfl ?_
  refine as_ (vb (decide (x121 < 0))) rfl rfl ?_
  refine RL.nt ?_
  refine RC.cond (b := (decide (x121 < 0))) rfl (fun hc => ?_) (fun hc => ?_)
  ·replace hb := cT hc hb
   refine RC.sr ?_
   refine as_ (vi 9) rfl rfl ?_
   refine RL.nt ?_
   refine RC.rb ?_
   refine blkQ_r ?_
   refine thenQ_r ?_
   obtain rfl := oi hb
   exact ⟨rfl, fin1 rfl rfl ⟨rfl, hw.drop 6 rfl⟩⟩
  replace hb := cF hc hb
  refine RC.seq ?_
  obtain ⟨s147, hj, hb⟩ := bd hb
  refine RC.jn (fun (s147 : Bool) (σ : Nat → Value) (w : World) => agree σ [(0, v0), (3, (vp b1 0)), (16, v3), (17, (vi (p1.Parts.length : Int))), (18, (vi (k4 : Int))), (34, (vb s147))] ∧ Holds E w ([rd v0 p0, bx 26 b1 p1, rd v3 p1.Parts] ++ Γ)) s147 ?_ ?_
  ·rcases Bool.eq_false_or_eq_true (decide ((k4 : Int) > 0)) with hg148 | hg148
   rotate_left
   ·replace hj := cF hg148 hj
    refine RC.drw mixed rfl (fun (D : Nat → Bool) (σ : Nat → Value) (w : World) => doneV D σ [(0, 35, (vi (k4 : Int))), (1, 36, (vb (decide ((k4 : Int) > 0)))), (2, 37, (vb (decide ((k4 : Int) > 0)))), (3, 38, undef), (4, 39, undef), (5, 40, undef), (6, 41, undef), (7, 42, undef), (8, 43, undef), (9, 44, undef), (10, 45, undef), (11, 46, undef), (12, 47, undef), (13, 48, (vb false)), (14, 34, (vb false))] ∧ agree σ [(0, v0), (3, (vp b1 0)), (5, (vi (k4 : Int))), (6, (vp b84 0)), (16, v3), (17, (vi (p1.Parts.length : Int))), (18, (vi (k4 : Int)))] ∧ Holds E w ([bx 87 b84 x81, rd v83 x81, pt v82 x81, rd v0 p0, bx 26 b1 p1, rd v3 p1.Parts] ++ Γ)) ?_ ⟨?_, ?_, ?_, ?_, ?_, ?_, ?_, ?_, ?_, ?_, ?_, ?_, ?_, ?_, ?_, trivial⟩ ?_
    ·have hw := hw.drew
     exact ⟨doneV.none, ⟨rfl, rfl, rfl, rfl, rfl, rfl, rfl, trivial⟩, hw⟩
    ·rintro D σ w hD hdep hcl ⟨hv, ha, hw⟩
     obtain ⟨τ, rfl⟩ := (ac (ha.at 2 rfl) az).ups
     refine mv (vi (k4 : Int)) rfl rfl ?_
     refine RL.nil ?_
     exact ⟨rfl, hv.put 0 rfl rfl, ha.up rfl, hw⟩
    ·rintro D σ w hD hdep hcl ⟨hv, ha, hw⟩
     obtain ⟨τ, rfl⟩ := (ac (hv.at 0 rfl (hdep.1 rfl)) az).ups
     refine ic ((k4 : Int)) 0 rfl rfl rfl rfl ?_
     refine RL.nil ?_
     exact ⟨rfl, hv.put 1 rfl rfl, ha.up rfl, hw⟩
    ·rintro D σ w hD hdep hcl ⟨hv, ha, hw⟩
     obtain ⟨τ, rfl⟩ := (ac (hv.at 1 rfl (hdep.1 rfl)) az).ups
     refine mv (vb (decide ((k4 : Int) > 0))) rfl rfl ?_
     refine RL.nil ?_
     exact ⟨rfl, hv.put 2 rfl rfl, ha.up rfl, hw⟩
    ·rintro D σ w hD hdep hcl ⟨hv, ha, hw⟩
     obtain ⟨τ, rfl⟩ := (ac (hv.at 2 rfl (hdep.1 rfl)) (ac (ha.at 3 rfl) az)).ups
     refine sk rfl (.inl (cb hg148)) rfl ?_
     refine RL.nil ?_
     exact ⟨rfl, hv.put 3 rfl rfl, ha.up rfl, hw⟩
    ·rintro D σ w hD hdep hcl ⟨hv, ha, hw⟩
     obtain ⟨τ, rfl⟩ := (ac (hv.at 2 rfl (hdep.2.1 rfl)) (ac (hv.at 3 rfl (hdep.1 rfl)) az)).ups
     refine sk rfl (.inl (cb hg148)) rfl ?_
     refine RL.nil ?_
     exact ⟨rfl, hv.put 4 rfl rfl, ha.up rfl, hw⟩
    ·rintro D σ w hD hdep hcl ⟨hv, ha, hw⟩
     obtain ⟨τ, rfl⟩ := (ac (hv.at 2 rfl (hdep.1 rfl)) (ac (ha.at 1 rfl) az)).ups
     refine sk rfl (.inl (cb hg148)) rfl ?_
     refine RL.nil ?_
     exact ⟨rfl, hv.put 5 rfl rfl, ha.up rfl, hw⟩
    ·rintro D σ w hD hdep hcl ⟨hv, ha, hw⟩
     obtain ⟨τ, rfl⟩ := (ac (hv.at 2 rfl (hdep.2.1 rfl)) (ac (hv.at 5 rfl (hdep.1 rfl)) az)).ups
     refine sk rfl (.inl (cb hg148)) rfl ?_
     refine RL.nil ?_
     exact ⟨rfl, hv.put 6 rfl rfl, ha.up rfl, hw⟩
    ·rintro D σ w hD hdep hcl ⟨hv, ha, hw⟩
     obtain ⟨τ, rfl⟩ := (ac (hv.at 2 rfl (hdep.1 rfl)) (ac (ha.at 2 rfl) az)).ups
     refine sk rfl (.inl (cb hg148)) rfl ?_
     refine RL.nil ?_
     exact ⟨rfl, hv.put 7 rfl rfl, ha.up rfl, hw⟩
    ·rintro D σ w hD hdep hcl ⟨hv, ha, hw⟩
     obtain ⟨τ, rfl⟩ := (ac (hv.at 2 rfl (hdep.2.1 rfl)) (ac (hv.at 7 rfl (hdep.1 rfl)) az)).ups
     refine sk rfl (.inl (cb hg148)) rfl ?_
     refine RL.nil ?_
     exact ⟨rfl, hv.put 8 rfl rfl, ha.up rfl, hw⟩
    ·rintro D σ w hD hdep hcl ⟨hv, ha, hw⟩
     obtain ⟨τ, rfl⟩ := (ac (hv.at 2 rfl (hdep.2.2.1 rfl)) (ac (hv.at 6 rfl (hdep.1 rfl)) (ac (hv.at 8 rfl (hdep.2.1 rfl)) az))).ups
     refine sk rfl (.inl (cb hg148)) rfl ?_
     refine RL.nil ?_
     exact ⟨rfl, hv.put 9 rfl rfl, ha.up rfl, hw⟩
    ·rintro D σ w hD hdep hcl ⟨hv, ha, hw⟩
     obtain ⟨τ, rfl⟩ := (ac (hv.at 2 rfl (hdep.2.1 rfl)) (ac (hv.at 9 rfl (hdep.1 rfl)) az)).ups
     refine sk rfl (.inl (cb hg148)) rfl ?_
     refine RL.nil ?_
     exact ⟨rfl, hv.put 10 rfl rfl, ha.up rfl, hw⟩
    ·rintro D σ w hD hdep hcl ⟨hv, ha, hw⟩
     obtain ⟨τ, rfl⟩ := (ac (hv.at 2 rfl (hdep.2.1 rfl)) (ac (hv.at 10 rfl (hdep.1 rfl)) az)).ups
     refine sk rfl (.inl (cb hg148)) rfl ?_
     refine RL.nil ?_
     exact ⟨rfl, hv.put 11 rfl rfl, ha.up rfl, hw⟩
    ·rintro D σ w hD hdep hcl ⟨hv, ha, hw⟩
     obtain ⟨τ, rfl⟩ := (ac (hv.at 2 rfl (hdep.2.2.1 rfl)) (ac (hv.at 4 rfl (hdep.1 rfl)) (ac (hv.at 11 rfl (hdep.2.1 rfl)) az))).ups
     refine sk rfl (.inl (cb hg148)) rfl ?_
     refine RL.nil ?_
     exact ⟨rfl, hv.put 12 rfl rfl, ha.up rfl, hw⟩
    ·rintro D σ w hD hdep hcl ⟨hv, ha, hw⟩
     obtain ⟨τ, rfl⟩ := (ac (hv.at 2 rfl (hdep.1 rfl)) (ac (hv.at 12 rfl (hdep.2.1 rfl)) az)).ups
     refine RL.pick (b := (decide ((k4 : Int) > 0))) (v := (vb false)) trivial rfl rfl (by rw [hg148]; rfl) ?_
     refine RL.nil ?_
     exact ⟨rfl, hv.put 13 rfl rfl, ha.up rfl, hw⟩
    ·rintro D σ w hD hdep hcl ⟨hv, ha, hw⟩
     obtain ⟨τ, rfl⟩ := (ac (hv.at 13 rfl (hdep.1 rfl)) az).ups
     refine as_ (vb false) rfl rfl ?_
     refine RL.nil ?_
     exact ⟨rfl, hv.put 14 rfl rfl, ha.up rfl, hw⟩
    rintro D σ w hall ⟨hv, ha, hw⟩
    obtain ⟨τ, rfl⟩ := (ac (hv.at 14 rfl (hall 14 (by decide))) (ac (ha.at 0 rfl) (ac (ha.at 1 rfl) (ac (ha.at 2 rfl) (ac (ha.at 3 rfl) (ac (ha.at 4 rfl) (ac (ha.at 5 rfl) (ac (ha.at 6 rfl) az)))))))).ups
    obtain rfl := oi hj
    exact ⟨rfl, ⟨rfl, rfl, rfl, rfl, rfl, rfl, trivial⟩, hw.pick 6 [3, 4, 5] (new := [rd v0 p0, bx 26 b1 p1, rd v3 p1.Parts]) rfl rfl (by decide) (by decide)⟩
   replace hj := cT hg148 hj
   obtain ⟨x150, hx150, hj⟩ := bd hj
   refine RC.drw mixed rfl (fun (D : Nat → Bool) (σ : Nat → Value) (w : World) => ∃ (v149 : Value) (v151 : Value) (v152 : Value), doneV D σ [(0, 35, (vi (k4 : Int))), (1, 36, (vb (decide ((k4 : Int) > 0)))), (2, 37, (vb (decide ((k4 : Int) > 0)))), (3, 38, (vp b84 0)), (4, 39, (str x81.Name)), (5, 40, (vp b1 0)), (6, 41, v149), (7, 42, (vi (k4 : Int))), (8, 43, (vi (IntKind.wrap .i64 ((k4 : Int) - 1)))), (9, 44, v151), (10, 45, v152), (11, 46, (str x150.Name)), (12, 47, (vb (x81.Name.ltb x150.Name || x81.Name.eqb x150.Name))), (13, 48, (vb (x81.Name.ltb x150.Name || x81.Name.eqb x150.Name))), (14, 34, (vb (x81.Name.ltb x150.Name || x81.Name.eqb x150.Name)))] ∧ agree σ [(0, v0), (3, (vp b1 0)), (5, (vi (k4 : Int))), (6, (vp b84 0)), (16, v3), (17, (vi (p1.Parts.length : Int))), (18, (vi (k4 : Int)))] ∧ Holds E w ([bif D 6 then (rd v149 p1.Parts) else junk, bif D 9 then (pt v151 x150) else junk, bif D 10 then (pt v152 x150.Name) else junk, bx 87 b84 x81, rd v83 x81, pt v82 x81, rd v0 p0, bx 26 b1 p1, rd v3 p1.Parts] ++ Γ)) ?_ ⟨?_, ?_, ?_, ?_, ?_, ?_, ?_, ?_, ?_, ?_, ?_, ?_, ?_, ?_, ?_, trivial⟩ ?_
   ·have hw := hw.drew
    have hw := hw.junk
    have hw := hw.junk
    have hw := hw.junk
    exact ⟨undef, undef, undef, doneV.none, ⟨rfl, rfl, rfl, rfl, rfl, rfl, rfl, trivial⟩, hw⟩
   ·rintro D σ w hD hdep hcl ⟨v149, v151, v152, hv, ha, hw⟩
    obtain ⟨τ, rfl⟩ := (ac (ha.at 2 rfl) az).ups
    refine mv (vi (k4 : Int)) rfl rfl ?_
    refine RL.nil ?_
    exact ⟨rfl, v149, v151, v152, hv.put 0 rfl rfl, ha.up rfl, hw⟩
   ·rintro D σ w hD hdep hcl ⟨v149, v151, v152, hv, ha, hw⟩
    obtain ⟨τ, rfl⟩ := (ac (hv.at 0 rfl (hdep.1 rfl)) az).ups
    refine ic ((k4 : Int)) 0 rfl rfl rfl rfl ?_
    refine RL.nil ?_
    exact ⟨rfl, v149, v151, v152, hv.put 1 rfl rfl, ha.up rfl, hw⟩
   ·rintro D σ w hD hdep hcl ⟨v149, v151, v152, hv, ha, hw⟩
    obtain ⟨τ, rfl⟩ := (ac (hv.at 1 rfl (hdep.1 rfl)) az).ups
    refine mv (vb (decide ((k4 : Int) > 0))) rfl rfl ?_
    refine RL.nil ?_
    exact ⟨rfl, v149, v151, v152, hv.put 2 rfl rfl, ha.up rfl, hw⟩
   ·rintro D σ w hD hdep hcl ⟨v149, v151, v152, hv, ha, hw⟩
    obtain ⟨τ, rfl⟩ := (ac (hv.at 2 rfl (hdep.1 rfl)) (ac (ha.at 3 rfl) az)).ups
    refine RL.fa_b ⟨_, rfl, cb hg148⟩ rfl rfl fa87_0 ?_
    refine RL.nil ?_
    exact ⟨rfl, v149, v151, v152, hv.put 3 rfl rfl, ha.up rfl, hw⟩
   ·rintro D σ w hD hdep hcl ⟨v149, v151, v152, hv, ha, hw⟩
    obtain ⟨τ, rfl⟩ := (ac (hv.at 2 rfl (hdep.2.1 rfl)) (ac (hv.at 3 rfl (hdep.1 rfl)) az)).ups
    refine RL.load_bfs (i := 3) (f := (fun x => x.Name)) ⟨_, rfl, cb hg148⟩ rfl hw rfl rfl fd_Part_0 ty9 ?_
    refine RL.nil ?_
    exact ⟨rfl, v149, v151, v152, hv.put 4 rfl rfl, ha.up rfl, hw⟩
   ·rintro D σ w hD hdep hcl ⟨v149, v151, v152, hv, ha, hw⟩
    obtain ⟨τ, rfl⟩ := (ac (hv.at 2 rfl (hdep.1 rfl)) (ac (ha.at 1 rfl) az)).ups
    refine RL.fa_b ⟨_, rfl, cb hg148⟩ rfl rfl fa26_0 ?_
    refine RL.nil ?_
    exact ⟨rfl, v149, v151, v152, hv.put 5 rfl rfl, ha.up rfl, hw⟩
   ·rintro D σ w hD hdep hcl ⟨v149, v151, v152, hv, ha, hw⟩
    obtain ⟨τ, rfl⟩ := (ac (hv.at 2 rfl (hdep.2.1 rfl)) (ac (hv.at 5 rfl (hdep.1 rfl)) az)).ups
    have hw := hw.selF (i := 0) rfl hD
    refine RL.load_bf (i := 7) (f := (fun x => x.Parts)) ⟨_, rfl, cb hg148⟩ rfl hw rfl rfl fd_Netlist_0 ty23 fun v153 hw => ?_
    have hw := hw.pick 10 [0, 2, 3, 4, 5, 6, 7, 8, 9] (new := [rd v153 p1.Parts, bif D 9 then (pt v151 x150) else junk, bif D 10 then (pt v152 x150.Name) else junk, bx 87 b84 x81, rd v83 x81, pt v82 x81, rd v0 p0, bx 26 b1 p1, rd v3 p1.Parts]) rfl rfl (by decide) (by decide)
    have hw := hw.altT (i := 0) (b := true) rfl rfl (junk)
    refine RL.nil ?_
    exact ⟨rfl, v153, v151, v152, hv.put 6 rfl rfl, ha.up rfl, hw⟩
   ·rintro D σ w hD hdep hcl ⟨v149, v151, v152, hv, ha, hw⟩
    obtain ⟨τ, rfl⟩ := (ac (hv.at 2 rfl (hdep.1 rfl)) (ac (ha.at 2 rfl) az)).ups
    refine RL.move (v := (vi (k4 : Int))) ⟨_, rfl, cb hg148⟩ rfl rfl ?_
    refine RL.nil ?_
    exact ⟨rfl, v149, v151, v152, hv.put 7 rfl rfl, ha.up rfl, hw⟩
   ·rintro D σ w hD hdep hcl ⟨v149, v151, v152, hv, ha, hw⟩
    obtain ⟨τ, rfl⟩ := (ac (hv.at 2 rfl (hdep.2.1 rfl)) (ac (hv.at 7 rfl (hdep.1 rfl)) az)).ups
    refine RL.iar (a := (k4 : Int)) (b := 1) ⟨_, rfl, cb hg148⟩ rfl rfl rfl rfl ?_
    refine RL.nil ?_
    exact ⟨rfl, v149, v151, v152, hv.put 8 rfl rfl, ha.up rfl, hw⟩
   ·rintro D σ w hD hdep hcl ⟨v149, v151, v152, hv, ha, hw⟩
    obtain ⟨τ, rfl⟩ := (ac (hv.at 2 rfl (hdep.2.2.1 rfl)) (ac (hv.at 6 rfl (hdep.1 rfl)) (ac (hv.at 8 rfl (hdep.2.1 rfl)) az))).ups
    have hw := hw.selT (i := 0) rfl (hdep.1 rfl)
    have hw := hw.selF (i := 1) rfl hD
    refine RL.ia_rd (i := 0) ⟨_, rfl, cb hg148⟩ rfl hw rfl rfl rfl sl23 hx150 fun v154 hw => ?_
    have hw := hw.pick 10 [1, 0, 3, 4, 5, 6, 7, 8, 9] (new := [rd v149 p1.Parts, pt v154 x150, bif D 10 then (pt v152 x150.Name) else junk, bx 87 b84 x81, rd v83 x81, pt v82 x81, rd v0 p0, bx 26 b1 p1, rd v3 p1.Parts]) rfl rfl (by decide) (by decide)
    have hw := hw.altT (i := 0) (b := D 6) rfl (hdep.1 rfl) (junk)
    have hw := hw.altT (i := 1) (b := true) rfl rfl (junk)
    refine RL.nil ?_
    exact ⟨rfl, v149, v154, v152, hv.put 9 rfl rfl, ha.up rfl, hw⟩
   ·rintro D σ w hD hdep hcl ⟨v149, v151, v152, hv, ha, hw⟩
    obtain ⟨τ, rfl⟩ := (ac (hv.at 2 rfl (hdep.2.1 rfl)) (ac (hv.at 9 rfl (hdep.1 rfl)) az)).ups
    have hw := hw.selT (i := 1) rfl (hdep.1 rfl)
    have hw := hw.selF (i := 2) rfl hD
    refine RL.fa_pt (i := 1) (f := fun (x : Part) => x.Name) ⟨_, rfl, cb hg148⟩ rfl hw rfl rfl fa87_0 fd_Part_0 fun v155 hw => ?_
    have hw := hw.pick 10 [1, 2, 0, 4, 5, 6, 7, 8, 9] (new := [bif D 6 then (rd v149 p1.Parts) else junk, pt v151 x150, pt v155 x150.Name, bx 87 b84 x81, rd v83 x81, pt v82 x81, rd v0 p0, bx 26 b1 p1, rd v3 p1.Parts]) rfl rfl (by decide) (by decide)
    have hw := hw.altT (i := 1) (b := D 9) rfl (hdep.1 rfl) (junk)
    have hw := hw.altT (i := 2) (b := true) rfl rfl (junk)
    refine RL.nil ?_
    exact ⟨rfl, v149, v151, v155, hv.put 10 rfl rfl, ha.up rfl, hw⟩
   ·rintro D σ w hD hdep hcl ⟨v149, v151, v152, hv, ha, hw⟩
    obtain ⟨τ, rfl⟩ := (ac (hv.at 2 rfl (hdep.2.1 rfl)) (ac (hv.at 10 rfl (hdep.1 rfl)) az)).ups
    have hw := hw.selT (i := 2) rfl (hdep.1 rfl)
    refine RL.load_pts (i := 2) (y := x150.Name) ⟨_, rfl, cb hg148⟩ rfl hw rfl rfl ty9 ?_
    have hw := hw.altT (i := 2) (b := D 10) rfl (hdep.1 rfl) (junk)
    refine RL.nil ?_
    exact ⟨rfl, v149, v151, v152, hv.put 11 rfl rfl, ha.up rfl, hw⟩
   ·rintro D σ w hD hdep hcl ⟨v149, v151, v152, hv, ha, hw⟩
    obtain ⟨τ, rfl⟩ := (ac (hv.at 2 rfl (hdep.2.2.1 rfl)) (ac (hv.at 4 rfl (hdep.1 rfl)) (ac (hv.at 11 rfl (hdep.2.1 rfl)) az))).ups
    refine RL.scmp (a := x81.Name) (b := x150.Name) ⟨_, rfl, cb hg148⟩ rfl rfl rfl rfl ?_
    refine RL.nil ?_
    exact ⟨rfl, v149, v151, v152, hv.put 12 rfl rfl, ha.up rfl, hw⟩
   ·rintro D σ w hD hdep hcl ⟨v149, v151, v152, hv, ha, hw⟩
    obtain ⟨τ, rfl⟩ := (ac (hv.at 2 rfl (hdep.1 rfl)) (ac (hv.at 12 rfl (hdep.2.1 rfl)) az)).ups
    refine RL.pick (b := (decide ((k4 : Int) > 0))) (v := (vb (x81.Name.ltb x150.Name || x81.Name.eqb x150.Name))) trivial rfl rfl (by rw [hg148]; rfl) ?_
    refine RL.nil ?_
    exact ⟨rfl, v149, v151, v152, hv.put 13 rfl rfl, ha.up rfl, hw⟩
   ·rintro D σ w hD hdep hcl ⟨v149, v151, v152, hv, ha, hw⟩
    obtain ⟨τ, rfl⟩ := (ac (hv.at 13 rfl (hdep.1 rfl)) az).ups
    refine as_ (vb (x81.Name.ltb x150.Name || x81.Name.eqb x150.Name)) rfl rfl ?_
    refine RL.nil ?_
    exact ⟨rfl, v149, v151, v152, hv.put 14 rfl rfl, ha.up rfl, hw⟩
   rintro D σ w hall ⟨v149, v151, v152, hv, ha, hw⟩
   rw [hall 6 (by decide), hall 9 (by decide), hall 10 (by decide)] at hw
   obtain ⟨τ, rfl⟩ := (ac (hv.at 14 rfl (hall 14 (by decide))) (ac (ha.at 0 rfl) (ac (ha.at 1 rfl) (ac (ha.at 2 rfl) (ac (ha.at 3 rfl) (ac (ha.at 4 rfl) (ac (ha.at 5 rfl) (ac (ha.at 6 rfl) az)))))))).ups
   obtain rfl := oi hj
   exact ⟨rfl, ⟨rfl, rfl, rfl, rfl, rfl, rfl, trivial⟩, hw.pick 9 [6, 7, 8] (new := [rd v0 p0, bx 26 b1 p1, rd v3 p1.Parts]) rfl rfl (by decide) (by decide)⟩
  rintro σ w ⟨ha, hw⟩
  obtain ⟨τ, rfl⟩ := ha.ups
  refine thenQ_n ?_
  refine RC.cond (b := s147) rfl (fun hc => ?_) (fun hc => ?_)
  rotate_left
  ·replace hb := cF hc hb
   refine RC.skip ?_
   refine blkQ_n ?_
   refine blkQ_n ?_
   refine thenQ_n ?_
   refine RC.region ?_
   refine RL.inc trivial rfl hk hm rfl rfl ?_
   refine mv (vi ((k4 + 1 : Nat) : Int)) rfl rfl ?_
   refine RL.nil ?_
   obtain rfl := oi hb
   exact ⟨rfl, ⟨rfl, rfl, rfl, rfl, rfl, trivial⟩, hw.pick 3 [0, 1, 2] (new := [rd v0 p0, bx 26 b1 p1, rd v3 p1.Parts]) rfl rfl (by decide) (by decide)⟩
  replace hb := cT hc hb
  refine RC.sr ?_
  refine as_ (vi 8) rfl rfl ?_
  refine RL.nt ?_
  refine RC.rb ?_
  refine blkQ_r ?_
  refine thenQ_r ?_
  obtain rfl := oi hb
  exact ⟨rfl, fin1 rfl rfl ⟨rfl, hw.drop 3 rfl⟩⟩
 ·intro r σ w e hK
  subst e
  refine thenQ_r ?_
  obtain rfl := oi hb
  exact hK
 intro s5 σ w e hJ
 subst e
 rw [Fo.cs_go] at hb
 obtain ⟨ha, hw⟩ := hJ
 obtain ⟨τ, rfl⟩ := ha.ups
 refine thenQ_n ?_
 refine RC.seq ?_
 refine RC.sr ?_
 refine RL.fa_b trivial rfl rfl fa26_1 ?_
 refine RL.load_bf (i := 1) (f := (fun x => x.Nets)) trivial rfl hw rfl rfl fd_Netlist_1 ty24 fun v156 hw => ?_
 refine RL.len_rd (i := 0) (l := p1.Nets) trivial rfl hw rfl rfl un24 ?_
 refine ic ((p1.Nets.length : Int)) 1000 rfl rfl rfl rfl ?_
 refine RL.nt ?_
 refine RC.cond (b := (decide ((p1.Nets.length : Int) > 1000))) rfl (fun hc => ?_) (fun hc => ?_)
 ·replace hb := cT hc hb
  refine RC.sr ?_
  refine as_ (vi 2) rfl rfl ?_
  refine RL.nt ?_
  refine RC.rt ?_
  obtain rfl := oi hb
  exact fin1 rfl rfl ⟨rfl, hw.drop 4 rfl⟩
 replace hb := cF hc hb
 refine RC.ss ?_
 refine RC.sr ?_
 refine RL.fa_b trivial rfl rfl fa26_1 ?_
 refine RL.load_bf (i := 2) (f := (fun x => x.Nets)) trivial rfl hw rfl rfl fd_Netlist_1 ty24 fun v157 hw => ?_
 refine RL.len_rd (i := 0) (l := p1.Nets) trivial rfl hw rfl rfl un24 ?_
 refine mv (vi 0) rfl rfl ?_
 refine RL.nt ?_
 obtain ⟨o566, hN, hb⟩ := bd hb
 refine RC.range (fun (k158 : Nat) (s159 : Unit) (σ : Nat → Value) (w : World) => agree σ [(0, v0), (3, (vp b1 0)), (55, v157), (56, (vi (p1.Nets.length : Int))), (57, (vi (k158 : Int)))] ∧ Holds E w ([rd v0 p0, bx 26 b1 p1, rd v157 p1.Nets] ++ Γ)) (fun (s159 : Unit) (σ : Nat → Value) (w : World) => agree σ [] ∧ Holds E w ([rd v0 p0, bx 26 b1 p1, rd v157 p1.Nets] ++ Γ)) (etchhouseref2_checkList_K E Γ) hN ?_ ?_ ?_ ?_ ?_ 
 ·exact ⟨⟨rfl, rfl, rfl, rfl, rfl, trivial⟩, hw.pick 5 [2, 3, 0] (new := [rd v0 p0, bx 26 b1 p1, rd v157 p1.Nets]) rfl rfl (by decide) (by decide)⟩
 ·intro hm s159 σ w hI
  obtain ⟨ha, hw⟩ := hI
  obtain ⟨τ, rfl⟩ := ha.ups
  refine RC.sr ?_
  refine ic ((p1.Nets.length : Int)) ((p1.Nets.length : Int)) rfl rfl rfl rfl ?_
  refine RL.nq ?_
  refine RC.cond_f dge ?_
  refine RC.ex ?_
  exact ⟨rfl, trivial, hw.pick 3 [0, 1, 2] (new := [rd v0 p0, bx 26 b1 p1, rd v157 p1.Nets]) rfl rfl (by decide) (by decide)⟩
 ·intro hm k158 s159 fl σ w hk hI hb
  obtain ⟨ha, hw⟩ := hI
  obtain ⟨τ, rfl⟩ := ha.ups
  refine RC.sr ?_
  refine ic ((k158 : Int)) ((p1.Nets.length : Int)) rfl rfl rfl rfl ?_
  refine RL.nq ?_
  refine RC.cond_t (dlt hk) ?_
  refine RC.ss ?_
  refine RC.bs ?_
  refine mv (vi (k158 : Int)) rfl rfl ?_
  obtain ⟨x363, hx363, hb⟩ := bd hb
  refine RL.ia_rd (i := 2) trivial rfl hw rfl rfl rfl sl24 hx363 fun v364 hw => ?_
  refine RL.load_pt (i := 0) (x := x363) trivial rfl hw rfl rfl ty64 fun v365 hw => ?_
  refine RL.alloc trivial rfl hw ze64.z fun b366 w hw => ?_
  refine as_ (vi (k158 : Int)) rfl rfl ?_
  refine RL.store_raw (i := 0) (j := 1) trivial hw rfl rfl rfl rfl ty64 rfl fun w hw => ?_
  refine RL.nq ?_
  refine RC.bs ?_
  refine RL.fa_b trivial rfl rfl fa64_0 ?_
  refine RL.load_bfs (i := 0) (f := (fun x => x.Name)) trivial rfl hw rfl rfl fd_Net_0 ty9 ?_
  obtain ⟨x367, hx367, hb⟩ := bd hb
  refine RL.call trivial rfl fn102 [(str x363.Name)] rfl (Calls_ret (etchhouseref2_IsPath_ok N (p0 := x363.Name)  hw  hx367) ?_)
  rintro _ w ⟨rfl, hw⟩
  refine RL.not (b := x367) trivial rfl rfl ?_
  refine as_ (vb (!x367)) rfl rfl ?_
  refine RL.nt ?_
  refine RC.cond (b := (!x367)) rfl (fun hc => ?_) (fun hc => ?_)
  ·replace hb := cT hc hb
   refine RC.sr ?_
   refine as_ (vi 5) rfl rfl ?_
   refine RL.nt ?_
   refine RC.rb ?_
   refine thenQ_r ?_
   refine blkQ_r ?_
   refine thenQ_r ?_
   obtain rfl := oi hb
   exact ⟨rfl, fin1 rfl rfl ⟨rfl, hw.drop 6 rfl⟩⟩
  replace hb := cF hc hb
  refine RC.sr ?_
  refine RL.fa_b trivial rfl rfl fa64_1 ?_
  refine RL.load_bf (i := 0) (f := (fun x => x.Pins)) trivial rfl hw rfl rfl fd_Net_1 ty33 fun v371 hw => ?_
  refine RL.len_rd (i := 0) (l := x363.Pins) trivial rfl hw rfl rfl un33 ?_
  refine ic ((x363.Pins.length : Int)) 0 rfl rfl rfl rfl ?_
  refine as_ (vb ((x363.Pins.length : Int) == 0)) rfl rfl ?_
  refine RL.nt ?_
  refine RC.cond (b := ((x363.Pins.length : Int) == 0)) rfl (fun hc => ?_) (fun hc => ?_)
  ·replace hb := cT hc hb
   refine RC.sr ?_
   refine as_ (vi 9) rfl rfl ?_
   refine RL.nt ?_
   refine RC.rb ?_
   refine thenQ_r ?_
   refine blkQ_r ?_
   refine thenQ_r ?_
   obtain rfl := oi hb
   exact ⟨rfl, fin1 rfl rfl ⟨rfl, hw.drop 7 rfl⟩⟩
  replace hb := cF hc hb
  refine RC.sr ?_
  refine RL.fa_b trivial rfl rfl fa64_1 ?_
  refine RL.load_bf (i := 1) (f := (fun x => x.Pins)) trivial rfl hw rfl rfl fd_Net_1 ty33 fun v373 hw => ?_
  refine RL.len_rd (i := 0) (l := x363.Pins) trivial rfl hw rfl rfl un33 ?_
  refine ic ((x363.Pins.length : Int)) 500 rfl rfl rfl rfl ?_
  refine as_ (vb (decide ((x363.Pins.length : Int) > 500))) rfl rfl ?_
  refine RL.nt ?_
  refine RC.cond (b := (decide ((x363.Pins.length : Int) > 500))) rfl (fun hc => ?_) (fun hc => ?_)
  ·replace hb := cT hc hb
   refine RC.sr ?_
   refine as_ (vi 2) rfl rfl ?_
   refine RL.nt ?_
   refine RC.rb ?_
   refine thenQ_r ?_
   refine blkQ_r ?_
   refine thenQ_r ?_
   obtain rfl := oi hb
   exact ⟨rfl, fin1 rfl rfl ⟨rfl, hw.drop 8 rfl⟩⟩
  replace hb := cF hc hb
  refine RC.skip ?_
  refine blkQ_n ?_
  refine thenQ_n ?_
  refine RC.seq ?_
  refine RC.sr ?_
  refine RL.fa_b trivial rfl rfl fa64_1 ?_
  refine RL.load_bf (i := 2) (f := (fun x => x.Pins)) trivial rfl hw rfl rfl fd_Net_1 ty33 fun v374 hw => ?_
  refine RL.len_rd (i := 0) (l := x363.Pins) trivial rfl hw rfl rfl un33 ?_
  refine mv (vi 0) rfl rfl ?_
  refine RL.nt ?_
  obtain ⟨o565, hN, hb⟩ := bd hb
  refine RC.range (fun (k375 : Nat) (s376 : Unit) (σ : Nat → Value) (w : World) => agree σ [(0, v0), (3, (vp b1 0)), (7, (vi (k158 : Int))), (8, (vp b366 0)), (55, v157), (56, (vi (p1.Nets.length : Int))), (57, (vi (k158 : Int))), (78, v374), (79, (vi (x363.Pins.length : Int))), (80, (vi (k375 : Int)))] ∧ Holds E w ([rd v0 p0, bx 26 b1 p1, bx 64 b366 x363, rd v157 p1.Nets, rd v374 x363.Pins] ++ Γ)) (fun (s376 : Unit) (σ : Nat → Value) (w : World) => agree σ [(0, v0), (3, (vp b1 0)), (7, (vi (k158 : Int))), (8, (vp b366 0)), (55, v157), (56, (vi (p1.Nets.length : Int))), (57, (vi (k158 : Int)))] ∧ Holds E w ([rd v0 p0, bx 26 b1 p1, bx 64 b366 x363, rd v157 p1.Nets, rd v374 x363.Pins] ++ Γ)) (etchhouseref2_checkList_K E Γ) hN ?_ ?_ ?_ ?_ ?_ 
  ·exact ⟨⟨rfl, rfl, rfl, rfl, rfl, rfl, rfl, rfl, rfl, rfl, trivial⟩, hw.pick 9 [6, 7, 3, 8, 0] (new := [rd v0 p0, bx 26 b1 p1, bx 64 b366 x363, rd v157 p1.Nets, rd v374 x363.Pins]) rfl rfl (by decide) (by decide)⟩
  ·intro hm s376 σ w hI
   obtain ⟨ha, hw⟩ := hI
   obtain ⟨τ, rfl⟩ := ha.ups
   refine RC.sr ?_
   refine ic ((x363.Pins.length : Int)) ((x363.Pins.length : Int)) rfl rfl rfl rfl ?_
   refine RL.nq ?_
   refine RC.cond_f dge ?_
   refine RC.ex ?_
   exact ⟨rfl, ⟨rfl, rfl, rfl, rfl, rfl, rfl, rfl, trivial⟩, hw.pick 5 [0, 1, 2, 3, 4] (new := [rd v0 p0, bx 26 b1 p1, bx 64 b366 x363, rd v157 p1.Nets, rd v374 x363.Pins]) rfl rfl (by decide) (by decide)⟩
  ·intro hm k375 s376 fl σ w hk hI hb
   obtain ⟨ha, hw⟩ := hI
   obtain ⟨τ, rfl⟩ := ha.ups
   refine RC.sr ?_
   refine ic ((k375 : Int)) ((x363.Pins.length : Int)) rfl rfl rfl rfl ?_
   refine RL.nq ?_
   refine RC.cond_t (dlt hk) ?_
   refine RC.ss ?_
   refine RC.bs ?_
   refine mv (vi (k375 : Int)) rfl rfl ?_
   obtain ⟨x462, hx462, hb⟩ := bd hb
   refine RL.ia_rd (i := 4) trivial rfl hw rfl rfl rfl sl33 hx462 fun v463 hw => ?_
   refine RL.load_pt (i := 0) (x := x462) trivial rfl hw rfl rfl ty28 fun v464 hw => ?_
   refine RL.alloc trivial rfl hw ze28.z fun b465 w hw => ?_
   refine as_ (vi (k375 : Int)) rfl rfl ?_
   refine RL.store_raw (i := 0) (j := 1) trivial hw rfl rfl rfl rfl ty28 rfl fun w hw => ?_
   refine RL.nt ?_
   refine RC.bs ?_
   refine mv v0 rfl rfl ?_
   refine RL.load_bf (i := 4) (f := (fun x => x)) trivial rfl hw rfl rfl Fd.self ty26 fun v466 hw => ?_
   refine RL.load_bf (i := 1) (f := (fun x => x)) trivial rfl hw rfl rfl Fd.self ty28 fun v467 hw => ?_
   obtain ⟨x468, hx468, hb⟩ := bd hb
   refine RL.call trivial rfl fn38 [v0, v466, v467] rfl (Calls_ret (etchhouseref2_HasPin_ok N  (i0 := 5) (i1 := 1) (i2 := 0) hw rfl rfl rfl hx468) ?_)
   rintro _ w ⟨rfl, hw⟩
   refine RL.not (b := x468) trivial rfl rfl ?_
   refine as_ (vb (!x468)) rfl rfl ?_
   refine RL.nt ?_
   refine RC.cond (b := (!x468)) rfl (fun hc => ?_) (fun hc => ?_)
   ·replace hb := cT hc hb
    refine RC.sr ?_
    refine as_ (vi 9) rfl rfl ?_
    refine RL.nt ?_
    refine RC.rb ?_
    refine blkQ_r ?_
    refine thenQ_r ?_
    obtain rfl := oi hb
    exact ⟨rfl, fin1 rfl rfl ⟨rfl, hw.drop 10 rfl⟩⟩
   replace hb := cF hc hb
   refine RC.seq ?_
   obtain ⟨s519, hj, hb⟩ := bd hb
   refine RC.jn (fun (s519 : Bool) (σ : Nat → Value) (w : World) => agree σ [(0, v0), (3, (vp b1 0)), (7, (vi (k158 : Int))), (8, (vp b366 0)), (10, (vp b465 0)), (55, v157), (56, (vi (p1.Nets.length : Int))), (57, (vi (k158 : Int))), (78, v374), (79, (vi (x363.Pins.length : Int))), (80, (vi (k375 : Int))), (91, (vb s519))] ∧ Holds E w ([rd v0 p0, bx 26 b1 p1, bx 64 b366 x363, bx 28 b465 x462, rd v157 p1.Nets, rd v374 x363.Pins] ++ Γ)) s519 ?_ ?_
   ·rcases Bool.eq_false_or_eq_true (decide ((k375 : Int) > 0)) with hg520 | hg520
    rotate_left
    ·replace hj := cF hg520 hj
     refine RC.drw mixed rfl (fun (D : Nat → Bool) (σ : Nat → Value) (w : World) => doneV D σ [(0, 92, (vi (k375 : Int))), (1, 93, (vb (decide ((k375 : Int) > 0)))), (2, 94, (vb (decide ((k375 : Int) > 0)))), (3, 95, undef), (4, 96, undef), (5, 97, undef), (6, 98, undef), (7, 99, undef), (8, 100, undef), (9, 101, undef), (10, 102, undef), (11, 103, undef), (12, 104, (vb false)), (13, 91, (vb false))] ∧ agree σ [(0, v0), (3, (vp b1 0)), (7, (vi (k158 : Int))), (8, (vp b366 0)), (9, (vi (k375 : Int))), (10, (vp b465 0)), (55, v157), (56, (vi (p1.Nets.length : Int))), (57, (vi (k158 : Int))), (78, v374), (79, (vi (x363.Pins.length : Int))), (80, (vi (k375 : Int)))] ∧ Holds E w ([rd v467 x462, rd v466 p1, bx 28 b465 x462, rd v464 x462, pt v463 x462, rd v0 p0, bx 26 b1 p1, bx 64 b366 x363, rd v157 p1.Nets, rd v374 x363.Pins] ++ Γ)) ?_ ⟨?_, ?_, ?_, ?_, ?_, ?_, ?_, ?_, ?_, ?_, ?_, ?_, ?_, ?_, trivial⟩ ?_
     ·have hw := hw.drew
      exact ⟨doneV.none, ⟨rfl, rfl, rfl, rfl, rfl, rfl, rfl, rfl, rfl, rfl, rfl, rfl, trivial⟩, hw⟩
     ·rintro D σ w hD hdep hcl ⟨hv, ha, hw⟩
      obtain ⟨τ, rfl⟩ := (ac (ha.at 4 rfl) az).ups
      refine mv (vi (k375 : Int)) rfl rfl ?_
      refine RL.nil ?_
      exact ⟨rfl, hv.put 0 rfl rfl, ha.up rfl, hw⟩
     ·rintro D σ w hD hdep hcl ⟨hv, ha, hw⟩
      obtain ⟨τ, rfl⟩ := (ac (hv.at 0 rfl (hdep.1 rfl)) az).ups
      refine ic ((k375 : Int)) 0 rfl rfl rfl rfl ?_
      refine RL.nil ?_
      exact ⟨rfl, hv.put 1 rfl rfl, ha.up rfl, hw⟩
     ·rintro D σ w hD hdep hcl ⟨hv, ha, hw⟩
      obtain ⟨τ, rfl⟩ := (ac (hv.at 1 rfl (hdep.1 rfl)) az).ups
      refine mv (vb (decide ((k375 : Int) > 0))) rfl rfl ?_
      refine RL.nil ?_
      exact ⟨rfl, hv.put 2 rfl rfl, ha.up rfl, hw⟩
     ·rintro D σ w hD hdep hcl ⟨hv, ha, hw⟩
      obtain ⟨τ, rfl⟩ := (ac (hv.at 2 rfl (hdep.1 rfl)) (ac (ha.at 3 rfl) az)).ups
      refine sk rfl (.inl (cb hg520)) rfl ?_
      refine RL.nil ?_
      exact ⟨rfl, hv.put 3 rfl rfl, ha.up rfl, hw⟩
     ·rintro D σ w hD hdep hcl ⟨hv, ha, hw⟩
      obtain ⟨τ, rfl⟩ := (ac (hv.at 2 rfl (hdep.2.1 rfl)) (ac (hv.at 3 rfl (hdep.1 rfl)) az)).ups
      refine sk rfl (.inl (cb hg520)) rfl ?_
      refine RL.nil ?_
      exact ⟨rfl, hv.put 4 rfl rfl, ha.up rfl, hw⟩
     ·rintro D σ w hD hdep hcl ⟨hv, ha, hw⟩
      obtain ⟨τ, rfl⟩ := (ac (hv.at 2 rfl (hdep.1 rfl)) (ac (ha.at 4 rfl) az)).ups
      refine sk rfl (.inl (cb hg520)) rfl ?_
      refine RL.nil ?_
      exact ⟨rfl, hv.put 5 rfl rfl, ha.up rfl, hw⟩
     ·rintro D σ w hD hdep hcl ⟨hv, ha, hw⟩
      obtain ⟨τ, rfl⟩ := (ac (hv.at 2 rfl (hdep.2.1 rfl)) (ac (hv.at 5 rfl (hdep.1 rfl)) az)).ups
      refine sk rfl (.inl (cb hg520)) rfl ?_
      refine RL.nil ?_
      exact ⟨rfl, hv.put 6 rfl rfl, ha.up rfl, hw⟩
     ·rintro D σ w hD hdep hcl ⟨hv, ha, hw⟩
      obtain ⟨τ, rfl⟩ := (ac (hv.at 2 rfl (hdep.2.2.1 rfl)) (ac (hv.at 4 rfl (hdep.1 rfl)) (ac (hv.at 6 rfl (hdep.2.1 rfl)) az))).ups
      refine sk rfl (.inl (cb hg520)) rfl ?_
      refine RL.nil ?_
      exact ⟨rfl, hv.put 7 rfl rfl, ha.up rfl, hw⟩
     ·rintro D σ w hD hdep hcl ⟨hv, ha, hw⟩
      obtain ⟨τ, rfl⟩ := (ac (hv.at 2 rfl (hdep.2.1 rfl)) (ac (hv.at 7 rfl (hdep.1 rfl)) az)).ups
      refine sk rfl (.inl (cb hg520)) rfl ?_
      refine RL.nil ?_
      exact ⟨rfl, hv.put 8 rfl rfl, ha.up rfl, hw⟩
     ·rintro D σ w hD hdep hcl ⟨hv, ha, hw⟩
      obtain ⟨τ, rfl⟩ := (ac (hv.at 2 rfl (hdep.1 rfl)) (ac (ha.at 5 rfl) az)).ups
      refine sk rfl (.inl (cb hg520)) rfl ?_
      refine RL.nil ?_
      exact ⟨rfl, hv.put 9 rfl rfl, ha.up rfl, hw⟩
     ·rintro D σ w hD hdep hcl ⟨hv, ha, hw⟩
      obtain ⟨τ, rfl⟩ := (ac (hv.at 2 rfl (hdep.2.2.1 rfl)) (ac (hv.at 8 rfl (hdep.1 rfl)) (ac (hv.at 9 rfl (hdep.2.1 rfl)) az))).ups
      refine sk rfl (.inl (cb hg520)) rfl ?_
      refine RL.nil ?_
      exact ⟨rfl, hv.put 10 rfl rfl, ha.up rfl, hw⟩
     ·rintro D σ w hD hdep hcl ⟨hv, ha, hw⟩
      obtain ⟨τ, rfl⟩ := (ac (hv.at 2 rfl (hdep.2.1 rfl)) (ac (hv.at 10 rfl (hdep.1 rfl)) az)).ups
      refine sk rfl (.inl (cb hg520)) rfl ?_
      refine RL.nil ?_
      exact ⟨rfl, hv.put 11 rfl rfl, ha.up rfl, hw⟩
     ·rintro D σ w hD hdep hcl ⟨hv, ha, hw⟩
      obtain ⟨τ, rfl⟩ := (ac (hv.at 2 rfl (hdep.1 rfl)) (ac (hv.at 11 rfl (hdep.2.1 rfl)) az)).ups
      refine RL.pick (b := (decide ((k375 : Int) > 0))) (v := (vb false)) trivial rfl rfl (by rw [hg520]; rfl) ?_
      refine RL.nil ?_
      exact ⟨rfl, hv.put 12 rfl rfl, ha.up rfl, hw⟩
     ·rintro D σ w hD hdep hcl ⟨hv, ha, hw⟩
      obtain ⟨τ, rfl⟩ := (ac (hv.at 12 rfl (hdep.1 rfl)) az).ups
      refine as_ (vb false) rfl rfl ?_
      refine RL.nil ?_
      exact ⟨rfl, hv.put 13 rfl rfl, ha.up rfl, hw⟩
     rintro D σ w hall ⟨hv, ha, hw⟩
     obtain ⟨τ, rfl⟩ := (ac (hv.at 13 rfl (hall 13 (by decide))) (ac (ha.at 0 rfl) (ac (ha.at 1 rfl) (ac (ha.at 2 rfl) (ac (ha.at 3 rfl) (ac (ha.at 4 rfl) (ac (ha.at 5 rfl) (ac (ha.at 6 rfl) (ac (ha.at 7 rfl) (ac (ha.at 8 rfl) (ac (ha.at 9 rfl) (ac (ha.at 10 rfl) (ac (ha.at 11 rfl) az))))))))))))).ups
     obtain rfl := oi hj
     exact ⟨rfl, ⟨rfl, rfl, rfl, rfl, rfl, rfl, rfl, rfl, rfl, rfl, rfl, rfl, trivial⟩, hw.pick 10 [5, 6, 7, 2, 8, 9] (new := [rd v0 p0, bx 26 b1 p1, bx 64 b366 x363, bx 28 b465 x462, rd v157 p1.Nets, rd v374 x363.Pins]) rfl rfl (by decide) (by decide)⟩
    replace hj := cT hg520 hj
    obtain ⟨x522, hx522, hj⟩ := bd hj
    obtain ⟨x526, hx526, hj⟩ := bd hj
    refine RC.drw mixed rfl (fun (D : Nat → Bool) (σ : Nat → Value) (w : World) => ∃ (v521 : Value) (v523 : Value) (v524 : Value) (v525 : Value), doneV D σ [(0, 92, (vi (k375 : Int))), (1, 93, (vb (decide ((k375 : Int) > 0)))), (2, 94, (vb (decide ((k375 : Int) > 0)))), (3, 95, (vp b366 1)), (4, 96, v521), (5, 97, (vi (k375 : Int))), (6, 98, (vi (IntKind.wrap .i64 ((k375 : Int) - 1)))), (7, 99, v523), (8, 100, v524), (9, 101, v525), (10, 102, (vb x526)), (11, 103, (vb (!x526))), (12, 104, (vb (!x526))), (13, 91, (vb (!x526)))] ∧ agree σ [(0, v0), (3, (vp b1 0)), (7, (vi (k158 : Int))), (8, (vp b366 0)), (9, (vi (k375 : Int))), (10, (vp b465 0)), (55, v157), (56, (vi (p1.Nets.length : Int))), (57, (vi (k158 : Int))), (78, v374), (79, (vi (x363.Pins.length : Int))), (80, (vi (k375 : Int)))] ∧ Holds E w ([bif D 4 then (rd v521 x363.Pins) else junk, bif D 7 then (pt v523 x522) else junk, bif D 8 then (rd v524 x522) else junk, bif D 9 then (rd v525 x462) else junk, rd v467 x462, rd v466 p1, bx 28 b465 x462, rd v464 x462, pt v463 x462, rd v0 p0, bx 26 b1 p1, bx 64 b366 x363, rd v157 p1.Nets, rd v374 x363.Pins] ++ Γ)) ?_ ⟨?_, ?_, ?_, ?_, ?_, ?_, ?_, ?_, ?_, ?_, ?_, ?_, ?_, ?_, trivial⟩ ?_
    ·have hw := hw.drew
     have hw := hw.junk
     have hw := hw.junk
     have hw := hw.junk
     have hw := hw.junk
     exact ⟨undef, undef, undef, undef, doneV.none, ⟨rfl, rfl, rfl, rfl, rfl, rfl, rfl, rfl, rfl, rfl, rfl, rfl, trivial⟩, hw⟩
    ·rintro D σ w hD hdep hcl ⟨v521, v523, v524, v525, hv, ha, hw⟩
     obtain ⟨τ, rfl⟩ := (ac (ha.at 4 rfl) az).ups
     refine mv (vi (k375 : Int)) rfl rfl ?_
     refine RL.nil ?_
     exact ⟨rfl, v521, v523, v524, v525, hv.put 0 rfl rfl, ha.up rfl, hw⟩
    ·rintro D σ w hD hdep hcl ⟨v521, v523, v524, v525, hv, ha, hw⟩
     obtain ⟨τ, rfl⟩ := (ac (hv.at 0 rfl (hdep.1 rfl)) az).ups
     refine ic ((k375 : Int)) 0 rfl rfl rfl rfl ?_
     refine RL.nil ?_
     exact ⟨rfl, v521, v523, v524, v525, hv.put 1 rfl rfl, ha.up rfl, hw⟩
    ·rintro D σ w hD hdep hcl ⟨v521, v523, v524, v525, hv, ha, hw⟩
     obtain ⟨τ, rfl⟩ := (ac (hv.at 1 rfl (hdep.1 rfl)) az).ups
     refine mv (vb (decide ((k375 : Int) > 0))) rfl rfl ?_
     refine RL.nil ?_
     exact ⟨rfl, v521, v523, v524, v525, hv.put 2 rfl rfl, ha.up rfl, hw⟩
    ·rintro D σ w hD hdep hcl ⟨v521, v523, v524, v525, hv, ha, hw⟩
     obtain ⟨τ, rfl⟩ := (ac (hv.at 2 rfl (hdep.1 rfl)) (ac (ha.at 3 rfl) az)).ups
     refine RL.fa_b ⟨_, rfl, cb hg520⟩ rfl rfl fa64_1 ?_
     refine RL.nil ?_
     exact ⟨rfl, v521, v523, v524, v525, hv.put 3 rfl rfl, ha.up rfl, hw⟩
    ·rintro D σ w hD hdep hcl ⟨v521, v523, v524, v525, hv, ha, hw⟩
     obtain ⟨τ, rfl⟩ := (ac (hv.at 2 rfl (hdep.2.1 rfl)) (ac (hv.at 3 rfl (hdep.1 rfl)) az)).ups
     have hw := hw.selF (i := 0) rfl hD
     refine RL.load_bf (i := 11) (f := (fun x => x.Pins)) ⟨_, rfl, cb hg520⟩ rfl hw rfl rfl fd_Net_1 ty33 fun v527 hw => ?_
     have hw := hw.pick 15 [0, 2, 3, 4, 5, 6, 7, 8, 9, 10, 11, 12, 13, 14] (new := [rd v527 x363.Pins, bif D 7 then (pt v523 x522) else junk, bif D 8 then (rd v524 x522) else junk, bif D 9 then (rd v525 x462) else junk, rd v467 x462, rd v466 p1, bx 28 b465 x462, rd v464 x462, pt v463 x462, rd v0 p0, bx 26 b1 p1, bx 64 b366 x363, rd v157 p1.Nets, rd v374 x363.Pins]) rfl rfl (by decide) (by decide)
     have hw := hw.altT (i := 0) (b := true) rfl rfl (junk)
     refine RL.nil ?_
     exact ⟨rfl, v527, v523, v524, v525, hv.put 4 rfl rfl, ha.up rfl, hw⟩
    ·rintro D σ w hD hdep hcl ⟨v521, v523, v524, v525, hv, ha, hw⟩
     obtain ⟨τ, rfl⟩ := (ac (hv.at 2 rfl (hdep.1 rfl)) (ac (ha.at 4 rfl) az)).ups
     refine RL.move (v := (vi (k375 : Int))) ⟨_, rfl, cb hg520⟩ rfl rfl ?_
     refine RL.nil ?_
     exact ⟨rfl, v521, v523, v524, v525, hv.put 5 rfl rfl, ha.up rfl, hw⟩
    ·rintro D σ w hD hdep hcl ⟨v521, v523, v524, v525, hv, ha, hw⟩
     obtain ⟨τ, rfl⟩ := (ac (hv.at 2 rfl (hdep.2.1 rfl)) (ac (hv.at 5 rfl (hdep.1 rfl)) az)).ups
     refine RL.iar (a := (k375 : Int)) (b := 1) ⟨_, rfl, cb hg520⟩ rfl rfl rfl rfl ?_
     refine RL.nil ?_
     exact ⟨rfl, v521, v523, v524, v525, hv.put 6 rfl rfl, ha.up rfl, hw⟩
    ·rintro D σ w hD hdep hcl ⟨v521, v523, v524, v525, hv, ha, hw⟩
     obtain ⟨τ, rfl⟩ := (ac (hv.at 2 rfl (hdep.2.2.1 rfl)) (ac (hv.at 4 rfl (hdep.1 rfl)) (ac (hv.at 6 rfl (hdep.2.1 rfl)) az))).ups
     have hw := hw.selT (i := 0) rfl (hdep.1 rfl)
     have hw := hw.selF (i := 1) rfl hD
     refine RL.ia_rd (i := 0) ⟨_, rfl, cb hg520⟩ rfl hw rfl rfl rfl sl33 hx522 fun v528 hw => ?_
     have hw := hw.pick 15 [1, 0, 3, 4, 5, 6, 7, 8, 9, 10, 11, 12, 13, 14] (new := [rd v521 x363.Pins, pt v528 x522, bif D 8 then (rd v524 x522) else junk, bif D 9 then (rd v525 x462) else junk, rd v467 x462, rd v466 p1, bx 28 b465 x462, rd v464 x462, pt v463 x462, rd v0 p0, bx 26 b1 p1, bx 64 b366 x363, rd v157 p1.Nets, rd v374 x363.Pins]) rfl rfl (by decide) (by decide)
     have hw := hw.altT (i := 0) (b := D 4) rfl (hdep.1 rfl) (junk)
     have hw := hw.altT (i := 1) (b := true) rfl rfl (junk)
     refine RL.nil ?_
     exact ⟨rfl, v521, v528, v524, v525, hv.put 7 rfl rfl, ha.up rfl, hw⟩
    ·rintro D σ w hD hdep hcl ⟨v521, v523, v524, v525, hv, ha, hw⟩
     obtain ⟨τ, rfl⟩ := (ac (hv.at 2 rfl (hdep.2.1 rfl)) (ac (hv.at 7 rfl (hdep.1 rfl)) az)).ups
     have hw := hw.selT (i := 1) rfl (hdep.1 rfl)
     have hw := hw.selF (i := 2) rfl hD
     refine RL.load_pt (i := 1) (x := x522) ⟨_, rfl, cb hg520⟩ rfl hw rfl rfl ty28 fun v529 hw => ?_
     have hw := hw.pick 15 [1, 2, 0, 4, 5, 6, 7, 8, 9, 10, 11, 12, 13, 14] (new := [bif D 4 then (rd v521 x363.Pins) else junk, pt v523 x522, rd v529 x522, bif D 9 then (rd v525 x462) else junk, rd v467 x462, rd v466 p1, bx 28 b465 x462, rd v464 x462, pt v463 x462, rd v0 p0, bx 26 b1 p1, bx 64 b366 x363, rd v157 p1.Nets, rd v374 x363.Pins]) rfl rfl (by decide) (by decide)
     have hw := hw.altT (i := 1) (b := D 7) rfl (hdep.1 rfl) (junk)
     have hw := hw.altT (i := 2) (b := true) rfl rfl (junk)
     refine RL.nil ?_
     exact ⟨rfl, v521, v523, v529, v525, hv.put 8 rfl rfl, ha.up rfl, hw⟩
    ·rintro D σ w hD hdep hcl ⟨v521, v523, v524, v525, hv, ha, hw⟩
     obtain ⟨τ, rfl⟩ := (ac (hv.at 2 rfl (hdep.1 rfl)) (ac (ha.at 5 rfl) az)).ups
     have hw := hw.selF (i := 3) rfl hD
     refine RL.load_bf (i := 6) (f := (fun x => x)) ⟨_, rfl, cb hg520⟩ rfl hw rfl rfl Fd.self ty28 fun v530 hw => ?_
     have hw := hw.pick 15 [1, 2, 3, 0, 5, 6, 7, 8, 9, 10, 11, 12, 13, 14] (new := [bif D 4 then (rd v521 x363.Pins) else junk, bif D 7 then (pt v523 x522) else junk, bif D 8 then (rd v524 x522) else junk, rd v530 x462, rd v467 x462, rd v466 p1, bx 28 b465 x462, rd v464 x462, pt v463 x462, rd v0 p0, bx 26 b1 p1, bx 64 b366 x363, rd v157 p1.Nets, rd v374 x363.Pins]) rfl rfl (by decide) (by decide)
     have hw := hw.altT (i := 3) (b := true) rfl rfl (junk)
     refine RL.nil ?_
     exact ⟨rfl, v521, v523, v524, v530, hv.put 9 rfl rfl, ha.up rfl, hw⟩
    ·rintro D σ w hD hdep hcl ⟨v521, v523, v524, v525, hv, ha, hw⟩
     obtain ⟨τ, rfl⟩ := (ac (hv.at 2 rfl (hdep.2.2.1 rfl)) (ac (hv.at 8 rfl (hdep.1 rfl)) (ac (hv.at 9 rfl (hdep.2.1 rfl)) az))).ups
     have hw := hw.selT (i := 2) rfl (hdep.1 rfl)
     have hw := hw.selT (i := 3) rfl (hdep.2.1 rfl)
     refine RL.call ⟨_, rfl, cb hg520⟩ rfl fn103 [v524, v525] rfl (Calls_ret (etchhouseref2_before_ok N  (i0 := 2) (i1 := 3) hw rfl rfl hx526) ?_)
     rintro _ w ⟨rfl, hw⟩
     have hw := hw.altT (i := 2) (b := D 8) rfl (hdep.1 rfl) (junk)
     have hw := hw.altT (i := 3) (b := D 9) rfl (hdep.2.1 rfl) (junk)
     refine RL.nil ?_
     exact ⟨rfl, v521, v523, v524, v525, hv.put 10 rfl rfl, ha.up rfl, hw⟩
    ·rintro D σ w hD hdep hcl ⟨v521, v523, v524, v525, hv, ha, hw⟩
     obtain ⟨τ, rfl⟩ := (ac (hv.at 2 rfl (hdep.2.1 rfl)) (ac (hv.at 10 rfl (hdep.1 rfl)) az)).ups
     refine RL.not (b := x526) ⟨_, rfl, cb hg520⟩ rfl rfl ?_
     refine RL.nil ?_
     exact ⟨rfl, v521, v523, v524, v525, hv.put 11 rfl rfl, ha.up rfl, hw⟩
    ·rintro D σ w hD hdep hcl ⟨v521, v523, v524, v525, hv, ha, hw⟩
     obtain ⟨τ, rfl⟩ := (ac (hv.at 2 rfl (hdep.1 rfl)) (ac (hv.at 11 rfl (hdep.2.1 rfl)) az)).ups
     refine RL.pick (b := (decide ((k375 : Int) > 0))) (v := (vb (!x526))) trivial rfl rfl (by rw [hg520]; rfl) ?_
     refine RL.nil ?_
     exact ⟨rfl, v521, v523, v524, v525, hv.put 12 rfl rfl, ha.up rfl, hw⟩
    ·rintro D σ w hD hdep hcl ⟨v521, v523, v524, v525, hv, ha, hw⟩
     obtain ⟨τ, rfl⟩ := (ac (hv.at 12 rfl (hdep.1 rfl)) az).ups
     refine as_ (vb (!x526)) rfl rfl ?_
     refine RL.nil ?_
     exact ⟨rfl, v521, v523, v524, v525, hv.put 13 rfl rfl, ha.up rfl, hw⟩
    rintro D σ w hall ⟨v521, v523, v524, v525, hv, ha, hw⟩
    rw [hall 4 (by decide), hall 7 (by decide), hall 8 (by decide), hall 9 (by decide)] at hw
    obtain ⟨τ, rfl⟩ := (ac (hv.at 13 rfl (hall 13 (by decide))) (ac (ha.at 0 rfl) (ac (ha.at 1 rfl) (ac (ha.at 2 rfl) (ac (ha.at 3 rfl) (ac (ha.at 4 rfl) (ac (ha.at 5 rfl) (ac (ha.at 6 rfl) (ac (ha.at 7 rfl) (ac (ha.at 8 rfl) (ac (ha.at 9 rfl) (ac (ha.at 10 rfl) (ac (ha.at 11 rfl) az))))))))))))).ups
    obtain rfl := oi hj
    exact ⟨rfl, ⟨rfl, rfl, rfl, rfl, rfl, rfl, rfl, rfl, rfl, rfl, rfl, rfl, trivial⟩, hw.pick 14 [9, 10, 11, 6, 12, 13] (new := [rd v0 p0, bx 26 b1 p1, bx 64 b366 x363, bx 28 b465 x462, rd v157 p1.Nets, rd v374 x363.Pins]) rfl rfl (by decide) (by decide)⟩
   rintro σ w ⟨ha, hw⟩
   obtain ⟨τ, rfl⟩ := ha.ups
   refine thenQ_n ?_
   refine RC.cond (b := s519) rfl (fun hc => ?_) (fun hc => ?_)
   ·replace hb := cT hc hb
    refine RC.sr ?_
    refine as_ (vi 8) rfl rfl ?_
    refine RL.nt ?_
    refine RC.rb ?_
    refine blkQ_r ?_
    refine thenQ_r ?_
    obtain rfl := oi hb
    exact ⟨rfl, fin1 rfl rfl ⟨rfl, hw.drop 6 rfl⟩⟩
   replace hb := cF hc hb
   refine RC.seq ?_
   obtain ⟨x540, hx540, hb⟩ := bd hb
   obtain ⟨x543, hx543, hb⟩ := bd hb
   refine RC.drw mixed rfl (fun (D : Nat → Bool) (σ : Nat → Value) (w : World) => ∃ (v539 : Value) (v541 : Value) (v542 : Value), doneV D σ [(0, 106, (vp b1 1)), (1, 107, v539), (2, 108, (vi (k158 : Int))), (3, 109, v541), (4, 110, v542), (5, 111, (vb x543)), (6, 105, (vb x543))] ∧ agree σ [(0, v0), (3, (vp b1 0)), (7, (vi (k158 : Int))), (8, (vp b366 0)), (10, (vp b465 0)), (55, v157), (56, (vi (p1.Nets.length : Int))), (57, (vi (k158 : Int))), (78, v374), (79, (vi (x363.Pins.length : Int))), (80, (vi (k375 : Int)))] ∧ Holds E w ([bif D 1 then (rd v539 p1.Nets) else junk, bif D 3 then (rd v541 x540) else junk, bif D 4 then (rd v542 x462) else junk, rd v0 p0, bx 26 b1 p1, bx 64 b366 x363, bx 28 b465 x462, rd v157 p1.Nets, rd v374 x363.Pins] ++ Γ)) ?_ ⟨?_, ?_, ?_, ?_, ?_, ?_, ?_, trivial⟩ ?_
   ·have hw := hw.drew
    have hw := hw.junk
    have hw := hw.junk
    have hw := hw.junk
    exact ⟨undef, undef, undef, doneV.none, ⟨rfl, rfl, rfl, rfl, rfl, rfl, rfl, rfl, rfl, rfl, rfl, trivial⟩, hw⟩
   ·rintro D σ w hD hdep hcl ⟨v539, v541, v542, hv, ha, hw⟩
    obtain ⟨τ, rfl⟩ := (ac (ha.at 1 rfl) az).ups
    refine RL.fa_b trivial rfl rfl fa26_1 ?_
    refine RL.nil ?_
    exact ⟨rfl, v539, v541, v542, hv.put 0 rfl rfl, ha.up rfl, hw⟩
   ·rintro D σ w hD hdep hcl ⟨v539, v541, v542, hv, ha, hw⟩
    obtain ⟨τ, rfl⟩ := (ac (hv.at 0 rfl (hdep.1 rfl)) az).ups
    have hw := hw.selF (i := 0) rfl hD
    refine RL.load_bf (i := 4) (f := (fun x => x.Nets)) trivial rfl hw rfl rfl fd_Netlist_1 ty24 fun v544 hw => ?_
    have hw := hw.pick 10 [0, 2, 3, 4, 5, 6, 7, 8, 9] (new := [rd v544 p1.Nets, bif D 3 then (rd v541 x540) else junk, bif D 4 then (rd v542 x462) else junk, rd v0 p0, bx 26 b1 p1, bx 64 b366 x363, bx 28 b465 x462, rd v157 p1.Nets, rd v374 x363.Pins]) rfl rfl (by decide) (by decide)
    have hw := hw.altT (i := 0) (b := true) rfl rfl (junk)
    refine RL.nil ?_
    exact ⟨rfl, v544, v541, v542, hv.put 1 rfl rfl, ha.up rfl, hw⟩
   ·rintro D σ w hD hdep hcl ⟨v539, v541, v542, hv, ha, hw⟩
    obtain ⟨τ, rfl⟩ := (ac (ha.at 2 rfl) az).ups
    refine mv (vi (k158 : Int)) rfl rfl ?_
    refine RL.nil ?_
    exact ⟨rfl, v539, v541, v542, hv.put 2 rfl rfl, ha.up rfl, hw⟩
   ·rintro D σ w hD hdep hcl ⟨v539, v541, v542, hv, ha, hw⟩
    obtain ⟨τ, rfl⟩ := (ac (hv.at 1 rfl (hdep.1 rfl)) (ac (hv.at 2 rfl (hdep.2.1 rfl)) az)).ups
    have hw := hw.selT (i := 0) rfl (hdep.1 rfl)
    have hw := hw.selF (i := 1) rfl hD
    refine RL.cut (i := 0) trivial rfl hw rfl rfl sl24 (.inr ⟨rfl, rfl⟩) (.inl rfl) hx540 fun v545 hw => ?_
    have hw := hw.pick 10 [1, 0, 3, 4, 5, 6, 7, 8, 9] (new := [rd v539 p1.Nets, rd v545 x540, bif D 4 then (rd v542 x462) else junk, rd v0 p0, bx 26 b1 p1, bx 64 b366 x363, bx 28 b465 x462, rd v157 p1.Nets, rd v374 x363.Pins]) rfl rfl (by decide) (by decide)
    have hw := hw.altT (i := 0) (b := D 1) rfl (hdep.1 rfl) (junk)
    have hw := hw.altT (i := 1) (b := true) rfl rfl (junk)
    refine RL.nil ?_
    exact ⟨rfl, v539, v545, v542, hv.put 3 rfl rfl, ha.up rfl, hw⟩
   ·rintro D σ w hD hdep hcl ⟨v539, v541, v542, hv, ha, hw⟩
    obtain ⟨τ, rfl⟩ := (ac (ha.at 4 rfl) az).ups
    have hw := hw.selF (i := 2) rfl hD
    refine RL.load_bf (i := 6) (f := (fun x => x)) trivial rfl hw rfl rfl Fd.self ty28 fun v546 hw => ?_
    have hw := hw.pick 10 [1, 2, 0, 4, 5, 6, 7, 8, 9] (new := [bif D 1 then (rd v539 p1.Nets) else junk, bif D 3 then (rd v541 x540) else junk, rd v546 x462, rd v0 p0, bx 26 b1 p1, bx 64 b366 x363, bx 28 b465 x462, rd v157 p1.Nets, rd v374 x363.Pins]) rfl rfl (by decide) (by decide)
    have hw := hw.altT (i := 2) (b := true) rfl rfl (junk)
    refine RL.nil ?_
    exact ⟨rfl, v539, v541, v546, hv.put 4 rfl rfl, ha.up rfl, hw⟩
   ·rintro D σ w hD hdep hcl ⟨v539, v541, v542, hv, ha, hw⟩
    obtain ⟨τ, rfl⟩ := (ac (hv.at 3 rfl (hdep.1 rfl)) (ac (hv.at 4 rfl (hdep.2.1 rfl)) az)).ups
    have hw := hw.selT (i := 1) rfl (hdep.1 rfl)
    have hw := hw.selT (i := 2) rfl (hdep.2.1 rfl)
    refine RL.call trivial rfl fn104 [v541, v542] rfl (Calls_ret (etchhouseref2_inNets_ok N  (i0 := 1) (i1 := 2) hw rfl rfl hx543) ?_)
    rintro _ w ⟨rfl, hw⟩
    have hw := hw.altT (i := 1) (b := D 3) rfl (hdep.1 rfl) (junk)
    have hw := hw.altT (i := 2) (b := D 4) rfl (hdep.2.1 rfl) (junk)
    refine RL.nil ?_
    exact ⟨rfl, v539, v541, v542, hv.put 5 rfl rfl, ha.up rfl, hw⟩
   ·rintro D σ w hD hdep hcl ⟨v539, v541, v542, hv, ha, hw⟩
    obtain ⟨τ, rfl⟩ := (ac (hv.at 5 rfl (hdep.1 rfl)) az).ups
    refine as_ (vb x543) rfl rfl ?_
    refine RL.nil ?_
    exact ⟨rfl, v539, v541, v542, hv.put 6 rfl rfl, ha.up rfl, hw⟩
   rintro D σ w hall ⟨v539, v541, v542, hv, ha, hw⟩
   rw [hall 1 (by decide), hall 3 (by decide), hall 4 (by decide)] at hw
   obtain ⟨τ, rfl⟩ := (ac (hv.at 6 rfl (hall 6 (by decide))) (ac (ha.at 0 rfl) (ac (ha.at 1 rfl) (ac (ha.at 2 rfl) (ac (ha.at 3 rfl) (ac (ha.at 4 rfl) (ac (ha.at 5 rfl) (ac (ha.at 6 rfl) (ac (ha.at 7 rfl) (ac (ha.at 8 rfl) (ac (ha.at 9 rfl) (ac (ha.at 10 rfl) az)))))))))))).ups
   refine thenQ_n ?_
   refine RC.cond (b := x543) rfl (fun hc => ?_) (fun hc => ?_)
   rotate_left
   ·replace hb := cF hc hb
    refine RC.skip ?_
    refine blkQ_n ?_
    refine blkQ_n ?_
    refine thenQ_n ?_
    refine RC.region ?_
    refine RL.inc trivial rfl hk hm rfl rfl ?_
    refine mv (vi ((k375 + 1 : Nat) : Int)) rfl rfl ?_
    refine RL.nil ?_
    obtain rfl := oi hb
    exact ⟨rfl, ⟨rfl, rfl, rfl, rfl, rfl, rfl, rfl, rfl, rfl, rfl, trivial⟩, hw.pick 9 [3, 4, 5, 7, 8] (new := [rd v0 p0, bx 26 b1 p1, bx 64 b366 x363, rd v157 p1.Nets, rd v374 x363.Pins]) rfl rfl (by decide) (by decide)⟩
   replace hb := cT hc hb
   refine RC.sr ?_
   refine as_ (vi 7) rfl rfl ?_
   refine RL.nt ?_
   refine RC.rb ?_
   refine blkQ_r ?_
   refine thenQ_r ?_
   obtain rfl := oi hb
   exact ⟨rfl, fin1 rfl rfl ⟨rfl, hw.drop 9 rfl⟩⟩
  ·intro r σ w e hK
   subst e
   refine thenQ_r ?_
   refine blkQ_r ?_
   refine thenQ_r ?_
   obtain rfl := oi hb
   exact ⟨rfl, hK⟩
  intro s376 σ w e hJ
  subst e
  rw [Fo.cs_go] at hb
  obtain ⟨ha, hw⟩ := hJ
  obtain ⟨τ, rfl⟩ := ha.ups
  refine thenQ_n ?_
  refine RC.seq ?_
  refine RC.sr ?_
  refine RL.fa_b trivial rfl rfl fa64_2 ?_
  refine RL.load_bf (i := 2) (f := (fun x => x.Ports)) trivial rfl hw rfl rfl fd_Net_2 ty55 fun v547 hw => ?_
  refine RL.len_rd (i := 0) (l := x363.Ports) trivial rfl hw rfl rfl un55 ?_
  refine ic ((x363.Ports.length : Int)) 0 rfl rfl rfl rfl ?_
  refine RL.nt ?_
  refine RC.cond (b := (decide ((x363.Ports.length : Int) > 0))) rfl (fun hc => ?_) (fun hc => ?_)
  ·replace hb := cT hc hb
   refine RC.sr ?_
   refine as_ (vi 3) rfl rfl ?_
   refine RL.nt ?_
   refine RC.rt ?_
   refine blkQ_r ?_
   refine thenQ_r ?_
   obtain rfl := oi hb
   exact ⟨rfl, fin1 rfl rfl ⟨rfl, hw.drop 6 rfl⟩⟩
  replace hb := cF hc hb
  refine RC.ss ?_
  obtain ⟨s556, hj, hb⟩ := bd hb
  refine RC.jn (fun (s556 : Bool) (σ : Nat → Value) (w : World) => agree σ [(0, v0), (3, (vp b1 0)), (55, v157), (56, (vi (p1.Nets.length : Int))), (57, (vi (k158 : Int))), (130, (vb s556))] ∧ Holds E w ([rd v0 p0, bx 26 b1 p1, rd v157 p1.Nets] ++ Γ)) s556 ?_ ?_
  ·rcases Bool.eq_false_or_eq_true (decide ((k158 : Int) > 0)) with hg557 | hg557
   rotate_left
   ·replace hj := cF hg557 hj
    refine RC.drw mixed rfl (fun (D : Nat → Bool) (σ : Nat → Value) (w : World) => doneV D σ [(0, 117, (vi (k158 : Int))), (1, 118, (vb (decide ((k158 : Int) > 0)))), (2, 119, (vb (decide ((k158 : Int) > 0)))), (3, 120, undef), (4, 121, undef), (5, 122, undef), (6, 123, undef), (7, 124, undef), (8, 125, undef), (9, 126, undef), (10, 127, undef), (11, 128, undef), (12, 129, undef), (13, 130, (vb false))] ∧ agree σ [(0, v0), (3, (vp b1 0)), (7, (vi (k158 : Int))), (8, (vp b366 0)), (55, v157), (56, (vi (p1.Nets.length : Int))), (57, (vi (k158 : Int)))] ∧ Holds E w ([rd v547 x363.Ports, rd v0 p0, bx 26 b1 p1, bx 64 b366 x363, rd v157 p1.Nets, rd v374 x363.Pins] ++ Γ)) ?_ ⟨?_, ?_, ?_, ?_, ?_, ?_, ?_, ?_, ?_, ?_, ?_, ?_, ?_, ?_, trivial⟩ ?_
    ·have hw := hw.drew
     exact ⟨doneV.none, ⟨rfl, rfl, rfl, rfl, rfl, rfl, rfl, trivial⟩, hw⟩
    ·rintro D σ w hD hdep hcl ⟨hv, ha, hw⟩
     obtain ⟨τ, rfl⟩ := (ac (ha.at 2 rfl) az).ups
     refine mv (vi (k158 : Int)) rfl rfl ?_
     refine RL.nil ?_
     exact ⟨rfl, hv.put 0 rfl rfl, ha.up rfl, hw⟩
    ·rintro D σ w hD hdep hcl ⟨hv, ha, hw⟩
     obtain ⟨τ, rfl⟩ := (ac (hv.at 0 rfl (hdep.1 rfl)) az).ups
     refine ic ((k158 : Int)) 0 rfl rfl rfl rfl ?_
     refine RL.nil ?_
     exact ⟨rfl, hv.put 1 rfl rfl, ha.up rfl, hw⟩
    ·rintro D σ w hD hdep hcl ⟨hv, ha, hw⟩
     obtain ⟨τ, rfl⟩ := (ac (hv.at 1 rfl (hdep.1 rfl)) az).ups
     refine mv (vb (decide ((k158 : Int) > 0))) rfl rfl ?_
     refine RL.nil ?_
     exact ⟨rfl, hv.put 2 rfl rfl, ha.up rfl, hw⟩
    ·rintro D σ w hD hdep hcl ⟨hv, ha, hw⟩
     obtain ⟨τ, rfl⟩ := (ac (hv.at 2 rfl (hdep.1 rfl)) (ac (ha.at 3 rfl) az)).ups
     refine sk rfl (.inl (cb hg557)) rfl ?_
     refine RL.nil ?_
     exact ⟨rfl, hv.put 3 rfl rfl, ha.up rfl, hw⟩
    ·rintro D σ w hD hdep hcl ⟨hv, ha, hw⟩
     obtain ⟨τ, rfl⟩ := (ac (hv.at 2 rfl (hdep.2.1 rfl)) (ac (hv.at 3 rfl (hdep.1 rfl)) az)).ups
     refine sk rfl (.inl (cb hg557)) rfl ?_
     refine RL.nil ?_
     exact ⟨rfl, hv.put 4 rfl rfl, ha.up rfl, hw⟩
    ·rintro D σ w hD hdep hcl ⟨hv, ha, hw⟩
     obtain ⟨τ, rfl⟩ := (ac (hv.at 2 rfl (hdep.1 rfl)) (ac (ha.at 1 rfl) az)).ups
     refine sk rfl (.inl (cb hg557)) rfl ?_
     refine RL.nil ?_
     exact ⟨rfl, hv.put 5 rfl rfl, ha.up rfl, hw⟩
    ·rintro D σ w hD hdep hcl ⟨hv, ha, hw⟩
     obtain ⟨τ, rfl⟩ := (ac (hv.at 2 rfl (hdep.2.1 rfl)) (ac (hv.at 5 rfl (hdep.1 rfl)) az)).ups
     refine sk rfl (.inl (cb hg557)) rfl ?_
     refine RL.nil ?_
     exact ⟨rfl, hv.put 6 rfl rfl, ha.up rfl, hw⟩
    ·rintro D σ w hD hdep hcl ⟨hv, ha, hw⟩
     obtain ⟨τ, rfl⟩ := (ac (hv.at 2 rfl (hdep.1 rfl)) (ac (ha.at 2 rfl) az)).ups
     refine sk rfl (.inl (cb hg557)) rfl ?_
     refine RL.nil ?_
     exact ⟨rfl, hv.put 7 rfl rfl, ha.up rfl, hw⟩
    ·rintro D σ w hD hdep hcl ⟨hv, ha, hw⟩
     obtain ⟨τ, rfl⟩ := (ac (hv.at 2 rfl (hdep.2.1 rfl)) (ac (hv.at 7 rfl (hdep.1 rfl)) az)).ups
     refine sk rfl (.inl (cb hg557)) rfl ?_
     refine RL.nil ?_
     exact ⟨rfl, hv.put 8 rfl rfl, ha.up rfl, hw⟩
    ·rintro D σ w hD hdep hcl ⟨hv, ha, hw⟩
     obtain ⟨τ, rfl⟩ := (ac (hv.at 2 rfl (hdep.2.2.1 rfl)) (ac (hv.at 6 rfl (hdep.1 rfl)) (ac (hv.at 8 rfl (hdep.2.1 rfl)) az))).ups
     refine sk rfl (.inl (cb hg557)) rfl ?_
     refine RL.nil ?_
     exact ⟨rfl, hv.put 9 rfl rfl, ha.up rfl, hw⟩
    ·rintro D σ w hD hdep hcl ⟨hv, ha, hw⟩
     obtain ⟨τ, rfl⟩ := (ac (hv.at 2 rfl (hdep.2.1 rfl)) (ac (hv.at 9 rfl (hdep.1 rfl)) az)).ups
     refine sk rfl (.inl (cb hg557)) rfl ?_
     refine RL.nil ?_
     exact ⟨rfl, hv.put 10 rfl rfl, ha.up rfl, hw⟩
    ·rintro D σ w hD hdep hcl ⟨hv, ha, hw⟩
     obtain ⟨τ, rfl⟩ := (ac (hv.at 2 rfl (hdep.2.1 rfl)) (ac (hv.at 10 rfl (hdep.1 rfl)) az)).ups
     refine sk rfl (.inl (cb hg557)) rfl ?_
     refine RL.nil ?_
     exact ⟨rfl, hv.put 11 rfl rfl, ha.up rfl, hw⟩
    ·rintro D σ w hD hdep hcl ⟨hv, ha, hw⟩
     obtain ⟨τ, rfl⟩ := (ac (hv.at 2 rfl (hdep.2.2.1 rfl)) (ac (hv.at 4 rfl (hdep.1 rfl)) (ac (hv.at 11 rfl (hdep.2.1 rfl)) az))).ups
     refine sk rfl (.inl (cb hg557)) rfl ?_
     refine RL.nil ?_
     exact ⟨rfl, hv.put 12 rfl rfl, ha.up rfl, hw⟩
    ·rintro D σ w hD hdep hcl ⟨hv, ha, hw⟩
     obtain ⟨τ, rfl⟩ := (ac (hv.at 2 rfl (hdep.1 rfl)) (ac (hv.at 12 rfl (hdep.2.1 rfl)) az)).ups
     refine RL.pick (b := (decide ((k158 : Int) > 0))) (v := (vb false)) trivial rfl rfl (by rw [hg557]; rfl) ?_
     refine RL.nil ?_
     exact ⟨rfl, hv.put 13 rfl rfl, ha.up rfl, hw⟩
    rintro D σ w hall ⟨hv, ha, hw⟩
    obtain ⟨τ, rfl⟩ := (ac (hv.at 13 rfl (hall 13 (by decide))) (ac (ha.at 0 rfl) (ac (ha.at 1 rfl) (ac (ha.at 2 rfl) (ac (ha.at 3 rfl) (ac (ha.at 4 rfl) (ac (ha.at 5 rfl) (ac (ha.at 6 rfl) az)))))))).ups
    obtain rfl := oi hj
    exact ⟨rfl, ⟨rfl, rfl, rfl, rfl, rfl, rfl, trivial⟩, hw.pick 6 [1, 2, 4] (new := [rd v0 p0, bx 26 b1 p1, rd v157 p1.Nets]) rfl rfl (by decide) (by decide)⟩
   replace hj := cT hg557 hj
   obtain ⟨x559, hx559, hj⟩ := bd hj
   refine RC.drw mixed rfl (fun (D : Nat → Bool) (σ : Nat → Value) (w : World) => ∃ (v558 : Value) (v560 : Value) (v561 : Value), doneV D σ [(0, 117, (vi (k158 : Int))), (1, 118, (vb (decide ((k158 : Int) > 0)))), (2, 119, (vb (decide ((k158 : Int) > 0)))), (3, 120, (vp b366 0)), (4, 121, (str x363.Name)), (5, 122, (vp b1 1)), (6, 123, v558), (7, 124, (vi (k158 : Int))), (8, 125, (vi (IntKind.wrap .i64 ((k158 : Int) - 1)))), (9, 126, v560), (10, 127, v561), (11, 128, (str x559.Name)), (12, 129, (vb (x363.Name.ltb x559.Name || x363.Name.eqb x559.Name))), (13, 130, (vb (x363.Name.ltb x559.Name || x363.Name.eqb x559.Name)))] ∧ agree σ [(0, v0), (3, (vp b1 0)), (7, (vi (k158 : Int))), (8, (vp b366 0)), (55, v157), (56, (vi (p1.Nets.length : Int))), (57, (vi (k158 : Int)))] ∧ Holds E w ([bif D 6 then (rd v558 p1.Nets) else junk, bif D 9 then (pt v560 x559) else junk, bif D 10 then (pt v561 x559.Name) else junk, rd v547 x363.Ports, rd v0 p0, bx 26 b1 p1, bx 64 b366 x363, rd v157 p1.Nets, rd v374 x363.Pins] ++ Γ)) ?_ ⟨?_, ?_, ?_, ?_, ?_, ?_, ?_, ?_, ?_, ?_, ?_, ?_, ?_, ?_, trivial⟩ ?_
   ·have hw := hw.drew
    have hw := hw.junk
    have hw := hw.junk
    have hw := hw.junk
    exact ⟨undef, undef, undef, doneV.none, ⟨rfl, rfl, rfl, rfl, rfl, rfl, rfl, trivial⟩, hw⟩
   ·rintro D σ w hD hdep hcl ⟨v558, v560, v561, hv, ha, hw⟩
    obtain ⟨τ, rfl⟩ := (ac (ha.at 2 rfl) az).ups
    refine mv (vi (k158 : Int)) rfl rfl ?_
    refine RL.nil ?_
    exact ⟨rfl, v558, v560, v561, hv.put 0 rfl rfl, ha.up rfl, hw⟩
   ·rintro D σ w hD hdep hcl ⟨v558, v560, v561, hv, ha, hw⟩
    obtain ⟨τ, rfl⟩ := (ac (hv.at 0 rfl (hdep.1 rfl)) az).ups
    refine ic ((k158 : Int)) 0 rfl rfl rfl rfl ?_
    refine RL.nil ?_
    exact ⟨rfl, v558, v560, v561, hv.put 1 rfl rfl, ha.up rfl, hw⟩
   ·rintro D σ w hD hdep hcl ⟨v558, v560, v561, hv, ha, hw⟩
    obtain ⟨τ, rfl⟩ := (ac (hv.at 1 rfl (hdep.1 rfl)) az).ups
    refine mv (vb (decide ((k158 : Int) > 0))) rfl rfl ?_
    refine RL.nil ?_
    exact ⟨rfl, v558, v560, v561, hv.put 2 rfl rfl, ha.up rfl, hw⟩
   ·rintro D σ w hD hdep hcl ⟨v558, v560, v561, hv, ha, hw⟩
    obtain ⟨τ, rfl⟩ := (ac (hv.at 2 rfl (hdep.1 rfl)) (ac (ha.at 3 rfl) az)).ups
    refine RL.fa_b ⟨_, rfl, cb hg557⟩ rfl rfl fa64_0 ?_
    refine RL.nil ?_
    exact ⟨rfl, v558, v560, v561, hv.put 3 rfl rfl, ha.up rfl, hw⟩
   ·rintro D σ w hD hdep hcl ⟨v558, v560, v561, hv, ha, hw⟩
    obtain ⟨τ, rfl⟩ := (ac (hv.at 2 rfl (hdep.2.1 rfl)) (ac (hv.at 3 rfl (hdep.1 rfl)) az)).ups
    refine RL.load_bfs (i := 6) (f := (fun x => x.Name)) ⟨_, rfl, cb hg557⟩ rfl hw rfl rfl fd_Net_0 ty9 ?_
    refine RL.nil ?_
    exact ⟨rfl, v558, v560, v561, hv.put 4 rfl rfl, ha.up rfl, hw⟩
   ·rintro D σ w hD hdep hcl ⟨v558, v560, v561, hv, ha, hw⟩
    obtain ⟨τ, rfl⟩ := (ac (hv.at 2 rfl (hdep.1 rfl)) (ac (ha.at 1 rfl) az)).ups
    refine RL.fa_b ⟨_, rfl, cb hg557⟩ rfl rfl fa26_1 ?_
    refine RL.nil ?_
    exact ⟨rfl, v558, v560, v561, hv.put 5 rfl rfl, ha.up rfl, hw⟩
   ·rintro D σ w hD hdep hcl ⟨v558, v560, v561, hv, ha, hw⟩
    obtain ⟨τ, rfl⟩ := (ac (hv.at 2 rfl (hdep.2.1 rfl)) (ac (hv.at 5 rfl (hdep.1 rfl)) az)).ups
    have hw := hw.selF (i := 0) rfl hD
    refine RL.load_bf (i := 5) (f := (fun x => x.Nets)) ⟨_, rfl, cb hg557⟩ rfl hw rfl rfl fd_Netlist_1 ty24 fun v562 hw => ?_
    have hw := hw.pick 10 [0, 2, 3, 4, 5, 6, 7, 8, 9] (new := [rd v562 p1.Nets, bif D 9 then (pt v560 x559) else junk, bif D 10 then (pt v561 x559.Name) else junk, rd v547 x363.Ports, rd v0 p0, bx 26 b1 p1, bx 64 b366 x363, rd v157 p1.Nets, rd v374 x363.Pins]) rfl rfl (by decide) (by decide)
    have hw := hw.altT (i := 0) (b := true) rfl rfl (junk)
    refine RL.nil ?_
    exact ⟨rfl, v562, v560, v561, hv.put 6 rfl rfl, ha.up rfl, hw⟩
   ·rintro D σ w hD hdep hcl ⟨v558, v560, v561, hv, ha, hw⟩
    obtain ⟨τ, rfl⟩ := (ac (hv.at 2 rfl (hdep.1 rfl)) (ac (ha.at 2 rfl) az)).ups
    refine RL.move (v := (vi (k158 : Int))) ⟨_, rfl, cb hg557⟩ rfl rfl ?_
    refine RL.nil ?_
    exact ⟨rfl, v558, v560, v561, hv.put 7 rfl rfl, ha.up rfl, hw⟩
   ·rintro D σ w hD hdep hcl ⟨v558, v560, v561, hv, ha, hw⟩
    obtain ⟨τ, rfl⟩ := (ac (hv.at 2 rfl (hdep.2.1 rfl)) (ac (hv.at 7 rfl (hdep.1 rfl)) az)).ups
    refine RL.iar (a := (k158 : Int)) (b := 1) ⟨_, rfl, cb hg557⟩ rfl rfl rfl rfl ?_
    refine RL.nil ?_
    exact ⟨rfl, v558, v560, v561, hv.put 8 rfl rfl, ha.up rfl, hw⟩
   ·rintro D σ w hD hdep hcl ⟨v558, v560, v561, hv, ha, hw⟩
    obtain ⟨τ, rfl⟩ := (ac (hv.at 2 rfl (hdep.2.2.1 rfl)) (ac (hv.at 6 rfl (hdep.1 rfl)) (ac (hv.at 8 rfl (hdep.2.1 rfl)) az))).ups
    have hw := hw.selT (i := 0) rfl (hdep.1 rfl)
    have hw := hw.selF (i := 1) rfl hD
    refine RL.ia_rd (i := 0) ⟨_, rfl, cb hg557⟩ rfl hw rfl rfl rfl sl24 hx559 fun v563 hw => ?_
    have hw := hw.pick 10 [1, 0, 3, 4, 5, 6, 7, 8, 9] (new := [rd v558 p1.Nets, pt v563 x559, bif D 10 then (pt v561 x559.Name) else junk, rd v547 x363.Ports, rd v0 p0, bx 26 b1 p1, bx 64 b366 x363, rd v157 p1.Nets, rd v374 x363.Pins]) rfl rfl (by decide) (by decide)
    have hw := hw.altT (i := 0) (b := D 6) rfl (hdep.1 rfl) (junk)
    have hw := hw.altT (i := 1) (b := true) rfl rfl (junk)
    refine RL.nil ?_
    exact ⟨rfl, v558, v563, v561, hv.put 9 rfl rfl, ha.up rfl, hw⟩
   ·rintro D σ w hD hdep hcl ⟨v558, v560, v561, hv, ha, hw⟩
    obtain ⟨τ, rfl⟩ := (ac (hv.at 2 rfl (hdep.2.1 rfl)) (ac (hv.at 9 rfl (hdep.1 rfl)) az)).ups
    have hw := hw.selT (i := 1) rfl (hdep.1 rfl)
    have hw := hw.selF (i := 2) rfl hD
    refine RL.fa_pt (i := 1) (f := fun (x : Net) => x.Name) ⟨_, rfl, cb hg557⟩ rfl hw rfl rfl fa64_0 fd_Net_0 fun v564 hw => ?_
    have hw := hw.pick 10 [1, 2, 0, 4, 5, 6, 7, 8, 9] (new := [bif D 6 then (rd v558 p1.Nets) else junk, pt v560 x559, pt v564 x559.Name, rd v547 x363.Ports, rd v0 p0, bx 26 b1 p1, bx 64 b366 x363, rd v157 p1.Nets, rd v374 x363.Pins]) rfl rfl (by decide) (by decide)
    have hw := hw.altT (i := 1) (b := D 9) rfl (hdep.1 rfl) (junk)
    have hw := hw.altT (i := 2) (b := true) rfl rfl (junk)
    refine RL.nil ?_
    exact ⟨rfl, v558, v560, v564, hv.put 10 rfl rfl, ha.up rfl, hw⟩
   ·rintro D σ w hD hdep hcl ⟨v558, v560, v561, hv, ha, hw⟩
    obtain ⟨τ, rfl⟩ := (ac (hv.at 2 rfl (hdep.2.1 rfl)) (ac (hv.at 10 rfl (hdep.1 rfl)) az)).ups
    have hw := hw.selT (i := 2) rfl (hdep.1 rfl)
    refine RL.load_pts (i := 2) (y := x559.Name) ⟨_, rfl, cb hg557⟩ rfl hw rfl rfl ty9 ?_
    have hw := hw.altT (i := 2) (b := D 10) rfl (hdep.1 rfl) (junk)
    refine RL.nil ?_
    exact ⟨rfl, v558, v560, v561, hv.put 11 rfl rfl, ha.up rfl, hw⟩
   ·rintro D σ w hD hdep hcl ⟨v558, v560, v561, hv, ha, hw⟩
    obtain ⟨τ, rfl⟩ := (ac (hv.at 2 rfl (hdep.2.2.1 rfl)) (ac (hv.at 4 rfl (hdep.1 rfl)) (ac (hv.at 11 rfl (hdep.2.1 rfl)) az))).ups
    refine RL.scmp (a := x363.Name) (b := x559.Name) ⟨_, rfl, cb hg557⟩ rfl rfl rfl rfl ?_
    refine RL.nil ?_
    exact ⟨rfl, v558, v560, v561, hv.put 12 rfl rfl, ha.up rfl, hw⟩
   ·rintro D σ w hD hdep hcl ⟨v558, v560, v561, hv, ha, hw⟩
    obtain ⟨τ, rfl⟩ := (ac (hv.at 2 rfl (hdep.1 rfl)) (ac (hv.at 12 rfl (hdep.2.1 rfl)) az)).ups
    refine RL.pick (b := (decide ((k158 : Int) > 0))) (v := (vb (x363.Name.ltb x559.Name || x363.Name.eqb x559.Name))) trivial rfl rfl (by rw [hg557]; rfl) ?_
    refine RL.nil ?_
    exact ⟨rfl, v558, v560, v561, hv.put 13 rfl rfl, ha.up rfl, hw⟩
   rintro D σ w hall ⟨v558, v560, v561, hv, ha, hw⟩
   rw [hall 6 (by decide), hall 9 (by decide), hall 10 (by decide)] at hw
   obtain ⟨τ, rfl⟩ := (ac (hv.at 13 rfl (hall 13 (by decide))) (ac (ha.at 0 rfl) (ac (ha.at 1 rfl) (ac (ha.at 2 rfl) (ac (ha.at 3 rfl) (ac (ha.at 4 rfl) (ac (ha.at 5 rfl) (ac (ha.at 6 rfl) az)))))))).ups
   obtain rfl := oi hj
   exact ⟨rfl, ⟨rfl, rfl, rfl, rfl, rfl, rfl, trivial⟩, hw.pick 9 [4, 5, 7] (new := [rd v0 p0, bx 26 b1 p1, rd v157 p1.Nets]) rfl rfl (by decide) (by decide)⟩
  rintro σ w ⟨ha, hw⟩
  obtain ⟨τ, rfl⟩ := ha.ups
  refine thenQ_n ?_
  refine RC.cond (b := s556) rfl (fun hc => ?_) (fun hc => ?_)
  rotate_left
  ·replace hb := cF hc hb
   refine RC.skip ?_
   refine blkQ_n ?_
   refine thenQ_n ?_
   refine RC.region ?_
   refine RL.inc trivial rfl hk hm rfl rfl ?_
   refine mv (vi ((k158 + 1 : Nat) : Int)) rfl rfl ?_
   refine RL.nil ?_
   obtain rfl := oi hb
   exact ⟨rfl, ⟨rfl, rfl, rfl, rfl, rfl, trivial⟩, hw.pick 3 [0, 1, 2] (new := [rd v0 p0, bx 26 b1 p1, rd v157 p1.Nets]) rfl rfl (by decide) (by decide)⟩
  replace hb := cT hc hb
  refine RC.sr ?_
  refine as_ (vi 8) rfl rfl ?_
  refine RL.nt ?_
  refine RC.rb ?_
  refine thenQ_r ?_
  obtain rfl := oi hb
  exact ⟨rfl, fin1 rfl rfl ⟨rfl, hw.drop 3 rfl⟩⟩
 ·intro r σ w e hK
  subst e
  refine thenQ_r ?_
  obtain rfl := oi hb
  exact hK
 intro s159 σ w e hJ
 subst e
 rw [Fo.cs_go] at hb
 obtain ⟨ha, hw⟩ := hJ
 obtain ⟨τ, rfl⟩ := ha.ups
 refine thenQ_n ?_
 refine RC.sr ?_
 refine as_ (vi 0) rfl rfl ?_
 refine RL.nt ?_
 refine RC.ret ?_
 obtain rfl := oi hb
 exact fin1 rfl rfl ⟨rfl, hw.drop 3 rfl⟩
def etchhouseref2_CheckList_R (E : World) (Γ : List HP) (res : Int) (v : Value) (w : World) : Prop := v = (vi res) ∧ Holds E w Γ
def etchhouseref2_CheckList_K (E : World) (Γ : List HP) (r : Int) (σ : Nat → Value) (w : World) : Prop := finQ Tryd.prog 14 Tryd.f14 (etchhouseref2_CheckList_R E Γ r) .ret σ w
theorem etchhouseref2_CheckList_ok (N : Nat) {E w : World} {Γ : List HP} {i0 : Nat} {v0 : Value} {p0 : (List PartType)} {i1 : Nat} {v1 : Value} {p1 : Netlist} {res : Int} (hw : Holds E w Γ) (h0 : Γ[i0]? = some (rd v0 p0)) (h1 : Γ[i1]? = some (rd v1 p1)) (hb : etchhouseref2_CheckList N p0 p1 = some res) :
    Calls Tryd.prog 14 [v0, v1].toArray w (Ret (etchhouseref2_CheckList_R E Γ res)) := by
 unfold etchhouseref2_CheckList at hb
 refine enter Tryd.func14 rfl rfl (Nat.le_of_ble_eq_true rfl) ?_
 have hw := hw.dup (i := i0 + 0) h0
 have hw := hw.dup (i := i1 + 1) h1
 refine RC.sr ?_
 refine RL.box_rd (i := 0) (v := v1) trivial rfl hw rfl rfl fun b1 w hw => ?_
 refine as_ (vi 0) rfl rfl ?_
 refine RL.nq ?_
 refine RC.sr ?_
 refine mv v0 rfl rfl ?_
 obtain ⟨x2, hx2, hb⟩ := bd hb
 refine RL.call trivial rfl fn45 [v0] rfl (Calls_ret (etchhouseref2_CheckTypes_ok N  (i0 := 2) hw rfl hx2) ?_)
 rintro _ w ⟨rfl, hw⟩
 refine as_ (vi x2) rfl rfl ?_
 refine RL.ns ?_
 refine mv (vi x2) rfl rfl ?_
 refine ic x2 0 rfl rfl rfl rfl ?_
 refine RL.nt ?_
 refine RC.cond (b := (x2 != 0)) rfl (fun hc => ?_) (fun hc => ?_)
 ·replace hb := cT hc hb
  refine RC.sr ?_
  refine mv (vi x2) rfl rfl ?_
  refine as_ (vi x2) rfl rfl ?_
  refine RL.nt ?_
  refine RC.rt ?_
  obtain rfl := oi hb
  exact fin1 rfl rfl ⟨rfl, hw.drop 3 rfl⟩
 replace hb := cF hc hb
 refine RC.sx ?_
 refine mv v0 rfl rfl ?_
 refine RL.load_bf (i := 0) (f := (fun x => x)) trivial rfl hw rfl rfl Fd.self ty26 fun v3 hw => ?_
 obtain ⟨x4, hx4, hb⟩ := bd hb
 refine RL.call trivial rfl fn46 [v0, v3] rfl (Calls_ret (etchhouseref2_checkList_ok N  (i0 := 3) (i1 := 0) hw rfl rfl hx4) ?_)
 rintro _ w ⟨rfl, hw⟩
 refine as_ (vi x4) rfl rfl ?_
 refine RL.nt ?_
 refine RC.ret ?_
 obtain rfl := oi hb
 exact fin1 rfl rfl ⟨rfl, hw.drop 4 rfl⟩
def etchhouseref2_netOf_R (E : World) (Γ : List HP) (res : Int) (v : Value) (w : World) : Prop := v = (vi res) ∧ Holds E w Γ
def etchhouseref2_netOf_K (E : World) (Γ : List HP) (r : Int) (σ : Nat → Value) (w : World) : Prop := finQ Tryd.prog 21 Tryd.f39 (etchhouseref2_netOf_R E Γ r) .ret σ w
theorem etchhouseref2_netOf_ok (N : Nat) {E w : World} {Γ : List HP} {i0 : Nat} {v0 : Value} {p0 : Netlist} {i1 : Nat} {v1 : Value} {p1 : Pin} {res : Int} (hw : Holds E w Γ) (h0 : Γ[i0]? = some (rd v0 p0)) (h1 : Γ[i1]? = some (rd v1 p1)) (hb : etchhouseref2_netOf N p0 p1 = some res) :
    Calls Tryd.prog 39 [v0, v1].toArray w (Ret (etchhouseref2_netOf_R E Γ res)) := by
 unfold etchhouseref2_netOf at hb
 refine enter Tryd.func39 rfl rfl (Nat.le_of_ble_eq_true rfl) ?_
 have hw := hw.dup (i := i0 + 0) h0
 have hw := hw.dup (i := i1 + 1) h1
 refine RC.sr ?_
 refine RL.box_rd (i := 1) (v := v0) trivial rfl hw rfl rfl fun b1 w hw => ?_
 refine RL.box_rd (i := 1) (v := v1) trivial rfl hw rfl rfl fun b2 w hw => ?_
 refine as_ (vi 0) rfl rfl ?_
 refine RL.nq ?_
 refine RC.sr ?_
 refine RL.fa_b trivial rfl rfl fa26_1 ?_
 refine RL.load_bf (i := 1) (f := (fun x => x.Nets)) trivial rfl hw rfl rfl fd_Netlist_1 ty24 fun v3 hw => ?_
 refine RL.len_rd (i := 0) (l := p0.Nets) trivial rfl hw rfl rfl un24 ?_
 refine mv (vi 0) rfl rfl ?_
 refine RL.nt ?_
 obtain ⟨o20, hN, hb⟩ := bd hb
 refine RC.range (fun (k4 : Nat) (s5 : Unit) (σ : Nat → Value) (w : World) => agree σ [(3, (vp b2 0)), (8, v3), (9, (vi (p0.Nets.length : Int))), (10, (vi (k4 : Int)))] ∧ Holds E w ([bx 28 b2 p1, rd v3 p0.Nets] ++ Γ)) (fun (s5 : Unit) (σ : Nat → Value) (w : World) => agree σ [] ∧ Holds E w ([bx 28 b2 p1, rd v3 p0.Nets] ++ Γ)) (etchhouseref2_netOf_K E Γ) hN ?_ ?_ ?_ ?_ ?_ 
 ·exact ⟨⟨rfl, rfl, rfl, rfl, trivial⟩, hw.pick 5 [1, 0] (new := [bx 28 b2 p1, rd v3 p0.Nets]) rfl rfl (by decide) (by decide)⟩
 ·intro hm s5 σ w hI
  obtain ⟨ha, hw⟩ := hI
  obtain ⟨τ, rfl⟩ := ha.ups
  refine RC.sr ?_
  refine ic ((p0.Nets.length : Int)) ((p0.Nets.length : Int)) rfl rfl rfl rfl ?_
  refine RL.nq ?_
  refine RC.cond_f dge ?_
  refine RC.ex ?_
  exact ⟨rfl, trivial, hw.pick 2 [0, 1] (new := [bx 28 b2 p1, rd v3 p0.Nets]) rfl rfl (by decide) (by decide)⟩
 ·intro hm k4 s5 fl σ w hk hI hb
  obtain ⟨ha, hw⟩ := hI
  obtain ⟨τ, rfl⟩ := ha.ups
  refine RC.sr ?_
  refine ic ((k4 : Int)) ((p0.Nets.length : Int)) rfl rfl rfl rfl ?_
  refine RL.nq ?_
  refine RC.cond_t (dlt hk) ?_
  refine RC.ss ?_
  refine RC.bs ?_
  refine mv (vi (k4 : Int)) rfl rfl ?_
  obtain ⟨x13, hx13, hb⟩ := bd hb
  refine RL.ia_rd (i := 1) trivial rfl hw rfl rfl rfl sl24 hx13 fun v14 hw => ?_
  refine RL.load_pt (i := 0) (x := x13) trivial rfl hw rfl rfl ty64 fun v15 hw => ?_
  refine RL.alloc trivial rfl hw ze64.z fun b16 w hw => ?_
  refine as_ (vi (k4 : Int)) rfl rfl ?_
  refine RL.store_raw (i := 0) (j := 1) trivial hw rfl rfl rfl rfl ty64 rfl fun w hw => ?_
  refine RL.ns ?_
  refine RL.fa_b trivial rfl rfl fa64_1 ?_
  refine RL.load_bf (i := 0) (f := (fun x => x.Pins)) trivial rfl hw rfl rfl fd_Net_1 ty33 fun v17 hw => ?_
  refine RL.load_bf (i := 4) (f := (fun x => x)) trivial rfl hw rfl rfl Fd.self ty28 fun v18 hw => ?_
  obtain ⟨x19, hx19, hb⟩ := bd hb
  refine RL.call trivial rfl fn95 [v17, v18] rfl (Calls_ret (slices_Contains_Pin_ok N  (i0 := 1) (i1 := 0) hw rfl rfl hx19) ?_)
  rintro _ w ⟨rfl, hw⟩
  refine RL.nt ?_
  refine RC.cond (b := x19) rfl (fun hc => ?_) (fun hc => ?_)
  rotate_left
  ·replace hb := cF hc hb
   refine RC.skip ?_
   refine blkQ_n ?_
   refine thenQ_n ?_
   refine RC.region ?_
   refine RL.inc trivial rfl hk hm rfl rfl ?_
   refine mv (vi ((k4 + 1 : Nat) : Int)) rfl rfl ?_
   refine RL.nil ?_
   obtain rfl := oi hb
   exact ⟨rfl, ⟨rfl, rfl, rfl, rfl, trivial⟩, hw.pick 7 [5, 6] (new := [bx 28 b2 p1, rd v3 p0.Nets]) rfl rfl (by decide) (by decide)⟩
  replace hb := cT hc hb
  refine RC.sr ?_
  refine mv (vi (k4 : Int)) rfl rfl ?_
  refine as_ (vi (k4 : Int)) rfl rfl ?_
  refine RL.nt ?_
  refine RC.rb ?_
  refine thenQ_r ?_
  obtain rfl := oi hb
  exact ⟨rfl, fin1 rfl rfl ⟨rfl, hw.drop 7 rfl⟩⟩
 ·intro r σ w e hK
  subst e
  refine thenQ_r ?_
  obtain rfl := oi hb
  exact hK
 intro s5 σ w e hJ
 subst e
 rw [Fo.cs_go] at hb
 obtain ⟨ha, hw⟩ := hJ
 obtain ⟨τ, rfl⟩ := ha.ups
 refine thenQ_n ?_
 refine RC.sr ?_
 refine as_ (vi (-1)) rfl rfl ?_
 refine RL.nt ?_
 refine RC.ret ?_
 obtain rfl := oi hb
 exact fin1 rfl rfl ⟨rfl, hw.drop 2 rfl⟩
end Go.Gk
