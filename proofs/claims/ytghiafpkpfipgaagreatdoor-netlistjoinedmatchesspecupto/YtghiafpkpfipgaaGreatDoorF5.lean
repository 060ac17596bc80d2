/-
  Printed by gen.py: Go functions as plain functions, and that they are.
-/
import Derived.Test.YtghiafpkpfipgaaGreatDoorT
import Derived.Test.YtghiafpkpfipgaaGreatDoorS
import Derived.Test.YtghiafpkpfipgaaGreatDoorF4
set_option linter.unusedVariables false
set_option linter.unusedSimpArgs false
set_option linter.unusedSectionVars false
set_option maxRecDepth 100000
set_option maxHeartbeats 4000000

namespace Go.Gk
open Go Go.Proofs
def etchhouseref2_checkList_R (E : World) (Γ : List HP) (res : Int) (v : Value) (w : World) : Prop := v = (vi res) ∧ Holds E w Γ
def etchhouseref2_checkList_K (E : World) (Γ : List HP) (r : Int) (σ : Nat → Value) (w : World) : Prop := finQ Tryz.prog 132 Tryz.f37 (etchhouseref2_checkList_R E Γ r) .ret σ w
theorem etchhouseref2_checkList_ok (N : Nat) {E w : World} {Γ : List HP} {i0 : Nat} {v0 : Value} {p0 : (List PartType)} {i1 : Nat} {v1 : Value} {p1 : Netlist} {res : Int} (hw : Holds E w Γ) (h0 : Γ[i0]? = some (rd v0 p0)) (h1 : Γ[i1]? = some (rd v1 p1)) (hb : etchhouseref2_checkList N p0 p1 = some res) :
    Calls Tryz.prog 37 [v0, v1].toArray w (Ret (etchhouseref2_checkList_R E Γ res)) := by
 unfold etchhouseref2_checkList at hb
 refine enter Tryz.func37 rfl rfl (Nat.le_of_ble_eq_true rfl) ?_
 have hw := hw.dup (i := i0 + 0) h0
 have hw := hw.dup (i := i1 + 1) h1
 refine RC.sr ?_
 refine RL.box_rd (i := 0) (v := v1) trivial rfl hw rfl rfl fun b31 w hw => ?_
 refine as_ (vi 0) rfl rfl ?_
 refine RL.nq ?_
 refine RC.sr ?_
 refine RL.fa_b trivial rfl rfl fa26_0 ?_
 refine RL.load_bf (i := 0) (f := (fun x => x.Parts)) trivial rfl hw rfl rfl fd_Netlist_0 ty23 fun v32 hw => ?_
 refine RL.len_rd (i := 0) (l := p1.Parts) trivial rfl hw rfl rfl un23 ?_
 refine ic ((p1.Parts.length : Int)) 1000 rfl rfl rfl rfl ?_
 refine RL.nt ?_
 refine RC.cond (b := (decide ((p1.Parts.length : Int) > 1000))) rfl (fun hc => ?_) (fun hc => ?_)
 ·replace hb := cT hc hb
  refine RC.sr ?_
  refine as_ (vi 2) rfl rfl ?_
  refine RL.nt ?_
  refine RC.rt ?_
  obtain rfl := oi hb
  exact fin1 rfl rfl ⟨rfl, hw.drop 4 rfl⟩
 replace hb := cF hc hb
 refine RC.ss ?_
 refine RC.sr ?_
 refine RL.fa_b trivial rfl rfl fa26_0 ?_
 refine RL.load_bf (i := 1) (f := (fun x => x.Parts)) trivial rfl hw rfl rfl fd_Netlist_0 ty23 fun v33 hw => ?_
 refine RL.len_rd (i := 0) (l := p1.Parts) trivial rfl hw rfl rfl un23 ?_
 refine mv (vi 0) rfl rfl ?_
 refine RL.nt ?_
 obtain ⟨o597, hN, hb⟩ := bd hb
 refine RC.range (fun (k34 : Nat) (s35 : Unit) (σ : Nat → Value) (w : World) => agree σ [(0, v0), (3, (vp b31 0)), (16, v33), (17, (vi (p1.Parts.length : Int))), (18, (vi (k34 : Int)))] ∧ Holds E w ([rd v0 p0, bx 26 b31 p1, rd v33 p1.Parts] ++ Γ)) (fun (s35 : Unit) (σ : Nat → Value) (w : World) => agree σ [(0, v0), (3, (vp b31 0))] ∧ Holds E w ([rd v0 p0, bx 26 b31 p1, rd v33 p1.Parts] ++ Γ)) (etchhouseref2_checkList_K E Γ) hN ?_ ?_ ?_ ?_ ?_ 
 ·exact ⟨⟨rfl, rfl, rfl, rfl, rfl, trivial⟩, hw.pick 5 [4, 2, 0] (new := [rd v0 p0, bx 26 b31 p1, rd v33 p1.Parts]) rfl rfl (by decide) (by decide)⟩
 ·intro hm s35 σ w hI
  obtain ⟨ha, hw⟩ := hI
  obtain ⟨τ, rfl⟩ := ha.ups
  refine RC.sr ?_
  refine ic ((p1.Parts.length : Int)) ((p1.Parts.length : Int)) rfl rfl rfl rfl ?_
  refine RL.nq ?_
  refine RC.cond_f dge ?_
  refine RC.ex ?_
  exact ⟨rfl, ⟨rfl, rfl, trivial⟩, hw.pick 3 [0, 1, 2] (new := [rd v0 p0, bx 26 b31 p1, rd v33 p1.Parts]) rfl rfl (by decide) (by decide)⟩
 ·intro hm k34 s35 fl σ w hk hI hb
  obtain ⟨ha, hw⟩ := hI
  obtain ⟨τ, rfl⟩ := ha.ups
  refine RC.sr ?_
  refine ic ((k34 : Int)) ((p1.Parts.length : Int)) rfl rfl rfl rfl ?_
  refine RL.nq ?_
  refine RC.cond_t (dlt hk) ?_
  refine RC.ss ?_
  refine RC.bs ?_
  refine mv (vi (k34 : Int)) rfl rfl ?_
  obtain ⟨x111, hx111, hb⟩ := bd hb
  refine RL.ia_rd (i := 2) trivial rfl hw rfl rfl rfl sl23 hx111 fun v112 hw => ?_
  refine RL.load_pt (i := 0) (x := x111) trivial rfl hw rfl rfl ty48 fun v113 hw => ?_
  refine RL.alloc trivial rfl hw ze48.z fun b114 w hw => ?_
  refine as_ (vi (k34 : Int)) rfl rfl ?_
  refine RL.store_raw (i := 0) (j := 1) trivial hw rfl rfl rfl rfl ty48 rfl fun w hw => ?_
  refine RL.nt ?_
  refine RC.bs ?_
  refine RL.fa_b trivial rfl rfl fa48_0 ?_
  refine RL.load_bfs (i := 0) (f := (fun x => x.Name)) trivial rfl hw rfl rfl fd_Part_0 ty9 ?_
  obtain ⟨x115, hx115, hb⟩ := bd hb
  refine RL.call trivial rfl fn62 [(str x111.Name)] rfl (Calls_ret (etchhouseref2_IsPath_ok N (p0 := x111.Name)  hw  hx115) ?_)
  rintro _ w ⟨rfl, hw⟩
  refine RL.not (b := x115) trivial rfl rfl ?_
  refine as_ (vb (!x115)) rfl rfl ?_
  refine RL.nt ?_
  refine RC.cond (b := (!x115)) rfl (fun hc => ?_) (fun hc => ?_)
  ·replace hb := cT hc hb
   refine RC.sr ?_
   refine as_ (vi 5) rfl rfl ?_
   refine RL.nt ?_
   refine RC.rb ?_
   refine blkQ_r ?_
   refine thenQ_r ?_
   obtain rfl := oi hb
   exact ⟨rfl, fin1 rfl rfl ⟨rfl, hw.drop 6 rfl⟩⟩
  replace hb := cF hc hb
  refine RC.sr ?_
  refine mv v0 rfl rfl ?_
  refine RL.fa_b trivial rfl rfl fa48_1 ?_
  refine RL.load_bfs (i := 0) (f := (fun x => x.Type_)) trivial rfl hw rfl rfl fd_Part_1 ty9 ?_
  obtain ⟨x151, hx151, hb⟩ := bd hb
  refine RL.call trivial rfl fn63 [v0, (str x111.Type_)] rfl (Calls_ret (etchhouseref2_typeOf_ok N (p1 := x111.Type_) (i0 := 3) hw rfl hx151) ?_)
  rintro _ w ⟨rfl, hw⟩
  refine ic x151 0 rfl rfl rfl rfl ?_
  refine as_ (vb (decide (x151 < 0))) rfl rfl ?_
  refine RL.nt ?_
  refine RC.cond (b := (decide (x151 < 0))) rfl (fun hc => ?_) (fun hc => ?_)
  ·replace hb := cT hc hb
   refine RC.sr ?_
   refine as_ (vi 9) rfl rfl ?_
   refine RL.nt ?_
   refine RC.rb ?_
   refine blkQ_r ?_
   refine thenQ_r ?_
   obtain rfl := oi hb
   exact ⟨rfl, fin1 rfl rfl ⟨rfl, hw.drop 6 rfl⟩⟩
  replace hb := cF hc hb
  refine RC.seq ?_
  obtain ⟨s177, hj, hb⟩ := bd hb
  refine RC.jn (fun (s177 : Bool) (σ : Nat → Value) (w : World) => agree σ [(0, v0), (3, (vp b31 0)), (16, v33), (17, (vi (p1.Parts.length : Int))), (18, (vi (k34 : Int))), (34, (vb s177))] ∧ Holds E w ([rd v0 p0, bx 26 b31 p1, rd v33 p1.Parts] ++ Γ)) s177 ?_ ?_
  ·rcases Bool.eq_false_or_eq_true (decide ((k34 : Int) > 0)) with hg178 | hg178
   rotate_left
   ·replace hj := cF hg178 hj
    refine RC.drw mixed rfl (fun (D : Nat → Bool) (σ : Nat → Value) (w : World) => doneV D σ [(0, 35, (vi (k34 : Int))), (1, 36, (vb (decide ((k34 : Int) > 0)))), (2, 37, (vb (decide ((k34 : Int) > 0)))), (3, 38, undef), (4, 39, undef), (5, 40, undef), (6, 41, undef), (7, 42, undef), (8, 43, undef), (9, 44, undef), (10, 45, undef), (11, 46, undef), (12, 47, undef), (13, 48, (vb false)), (14, 34, (vb false))] ∧ agree σ [(0, v0), (3, (vp b31 0)), (5, (vi (k34 : Int))), (6, (vp b114 0)), (16, v33), (17, (vi (p1.Parts.length : Int))), (18, (vi (k34 : Int)))] ∧ Holds E w ([bx 48 b114 x111, rd v113 x111, pt v112 x111, rd v0 p0, bx 26 b31 p1, rd v33 p1.Parts] ++ Γ)) ?_ ⟨?_, ?_, ?_, ?_, ?_, ?_, ?_, ?_, ?_, ?_, ?_, ?_, ?_, ?_, ?_, trivial⟩ ?_
    ·have hw := hw.drew
     exact ⟨doneV.none, ⟨rfl, rfl, rfl, rfl, rfl, rfl, rfl, trivial⟩, hw⟩
    ·rintro D σ w hD hdep hcl ⟨hv, ha, hw⟩
     obtain ⟨τ, rfl⟩ := (ac (ha.at 2 rfl) az).ups
     refine mv (vi (k34 : Int)) rfl rfl ?_
     refine RL.nil ?_
     exact ⟨rfl, hv.put 0 rfl rfl, ha.up rfl, hw⟩
    ·rintro D σ w hD hdep hcl ⟨hv, ha, hw⟩
     obtain ⟨τ, rfl⟩ := (ac (hv.at 0 rfl (hdep.1 rfl)) az).ups
     refine ic ((k34 : Int)) 0 rfl rfl rfl rfl ?_
     refine RL.nil ?_
     exact ⟨rfl, hv.put 1 rfl rfl, ha.up rfl, hw⟩
    ·rintro D σ w hD hdep hcl ⟨hv, ha, hw⟩
     obtain ⟨τ, rfl⟩ := (ac (hv.at 1 rfl (hdep.1 rfl)) az).ups
     refine mv (vb (decide ((k34 : Int) > 0))) rfl rfl ?_
     refine RL.nil ?_
     exact ⟨rfl, hv.put 2 rfl rfl, ha.up rfl, hw⟩
    ·rintro D σ w hD hdep hcl ⟨hv, ha, hw⟩
     obtain ⟨τ, rfl⟩ := (ac (hv.at 2 rfl (hdep.1 rfl)) (ac (ha.at 3 rfl) az)).ups
     refine sk rfl (.inl (cb hg178)) rfl ?_
     refine RL.nil ?_
     exact ⟨rfl, hv.put 3 rfl rfl, ha.up rfl, hw⟩
    ·rintro D σ w hD hdep hcl ⟨hv, ha, hw⟩
     obtain ⟨τ, rfl⟩ := (ac (hv.at 2 rfl (hdep.2.1 rfl)) (ac (hv.at 3 rfl (hdep.1 rfl)) az)).ups
     refine sk rfl (.inl (cb hg178)) rfl ?_
     refine RL.nil ?_
     exact ⟨rfl, hv.put 4 rfl rfl, ha.up rfl, hw⟩
    ·rintro D σ w hD hdep hcl ⟨hv, ha, hw⟩
     obtain ⟨τ, rfl⟩ := (ac (hv.at 2 rfl (hdep.1 rfl)) (ac (ha.at 1 rfl) az)).ups
     refine sk rfl (.inl (cb hg178)) rfl ?_
     refine RL.nil ?_
     exact ⟨rfl, hv.put 5 rfl rfl, ha.up rfl, hw⟩
    ·rintro D σ w hD hdep hcl ⟨hv, ha, hw⟩
     obtain ⟨τ, rfl⟩ := (ac (hv.at 2 rfl (hdep.2.1 rfl)) (ac (hv.at 5 rfl (hdep.1 rfl)) az)).ups
     refine sk rfl (.inl (cb hg178)) rfl ?_
     refine RL.nil ?_
     exact ⟨rfl, hv.put 6 rfl rfl, ha.up rfl, hw⟩
    ·rintro D σ w hD hdep hcl ⟨hv, ha, hw⟩
     obtain ⟨τ, rfl⟩ := (ac (hv.at 2 rfl (hdep.1 rfl)) (ac (ha.at 2 rfl) az)).ups
     refine sk rfl (.inl (cb hg178)) rfl ?_
     refine RL.nil ?_
     exact ⟨rfl, hv.put 7 rfl rfl, ha.up rfl, hw⟩
    ·rintro D σ w hD hdep hcl ⟨hv, ha, hw⟩
     obtain ⟨τ, rfl⟩ := (ac (hv.at 2 rfl (hdep.2.1 rfl)) (ac (hv.at 7 rfl (hdep.1 rfl)) az)).ups
     refine sk rfl (.inl (cb hg178)) rfl ?_
     refine RL.nil ?_
     exact ⟨rfl, hv.put 8 rfl rfl, ha.up rfl, hw⟩
    ·rintro D σ w hD hdep hcl ⟨hv, ha, hw⟩
     obtain ⟨τ, rfl⟩ := (ac (hv.at 2 rfl (hdep.2.2.1 rfl)) (ac (hv.at 6 rfl (hdep.1 rfl)) (ac (hv.at 8 rfl (hdep.2.1 rfl)) az))).ups
     refine sk rfl (.inl (cb hg178)) rfl ?_
     refine RL.nil ?_
     exact ⟨rfl, hv.put 9 rfl rfl, ha.up rfl, hw⟩
    ·rintro D σ w hD hdep hcl ⟨hv, ha, hw⟩
     obtain ⟨τ, rfl⟩ := (ac (hv.at 2 rfl (hdep.2.1 rfl)) (ac (hv.at 9 rfl (hdep.1 rfl)) az)).ups
     refine sk rfl (.inl (cb hg178)) rfl ?_
     refine RL.nil ?_
     exact ⟨rfl, hv.put 10 rfl rfl, ha.up rfl, hw⟩
    ·rintro D σ w hD hdep hcl ⟨hv, ha, hw⟩
     obtain ⟨τ, rfl⟩ := (ac (hv.at 2 rfl (hdep.2.1 rfl)) (ac (hv.at 10 rfl (hdep.1 rfl)) az)).ups
     refine sk rfl (.inl (cb hg178)) rfl ?_
     refine RL.nil ?_
     exact ⟨rfl, hv.put 11 rfl rfl, ha.up rfl, hw⟩
    ·rintro D σ w hD hdep hcl ⟨hv, ha, hw⟩
     obtain ⟨τ, rfl⟩ := (ac (hv.at 2 rfl (hdep.2.2.1 rfl)) (ac (hv.at 4 rfl (hdep.1 rfl)) (ac (hv.at 11 rfl (hdep.2.1 rfl)) az))).ups
     refine sk rfl (.inl (cb hg178)) rfl ?_
     refine RL.nil ?_
     exact ⟨rfl, hv.put 12 rfl rfl, ha.up rfl, hw⟩
    ·rintro D σ w hD hdep hcl ⟨hv, ha, hw⟩
     obtain ⟨τ, rfl⟩ := (ac (hv.at 2 rfl (hdep.1 rfl)) (ac (hv.at 12 rfl (hdep.2.1 rfl)) az)).ups
     refine RL.pick (b := (decide ((k34 : Int) > 0))) (v := (vb false)) trivial rfl rfl (by rw [hg178]; rfl) ?_
     refine RL.nil ?_
     exact ⟨rfl, hv.put 13 rfl rfl, ha.up rfl, hw⟩
    ·rintro D σ w hD hdep hcl ⟨hv, ha, hw⟩
     obtain ⟨τ, rfl⟩ := (ac (hv.at 13 rfl (hdep.1 rfl)) az).ups
     refine as_ (vb false) rfl rfl ?_
     refine RL.nil ?_
     exact ⟨rfl, hv.put 14 rfl rfl, ha.up rfl, hw⟩
    rintro D σ w hall ⟨hv, ha, hw⟩
    obtain ⟨τ, rfl⟩ := (ac (hv.at 14 rfl (hall 14 (by decide))) (ac (ha.at 0 rfl) (ac (ha.at 1 rfl) (ac (ha.at 2 rfl) (ac (ha.at 3 rfl) (ac (ha.at 4 rfl) (ac (ha.at 5 rfl) (ac (ha.at 6 rfl) az)))))))).ups
    obtain rfl := oi hj
    exact ⟨rfl, ⟨rfl, rfl, rfl, rfl, rfl, rfl, trivial⟩, hw.pick 6 [3, 4, 5] (new := [rd v0 p0, bx 26 b31 p1, rd v33 p1.Parts]) rfl rfl (by decide) (by decide)⟩
   replace hj := cT hg178 hj
   obtain ⟨x180, hx180, hj⟩ := bd hj
   refine RC.drw mixed rfl (fun (D : Nat → Bool) (σ : Nat → Value) (w : World) => ∃ (v179 : Value) (v181 : Value) (v182 : Value), doneV D σ [(0, 35, (vi (k34 : Int))), (1, 36, (vb (decide ((k34 : Int) > 0)))), (2, 37, (vb (decide ((k34 : Int) > 0)))), (3, 38, (vp b114 0)), (4, 39, (str x111.Name)), (5, 40, (vp b31 0)), (6, 41, v179), (7, 42, (vi (k34 : Int))), (8, 43, (vi (IntKind.wrap .i64 ((k34 : Int) - 1)))), (9, 44, v181), (10, 45, v182), (11, 46, (str x180.Name)), (12, 47, (vb (x111.Name.ltb x180.Name || x111.Name.eqb x180.Name))), (13, 48, (vb (x111.Name.ltb x180.Name || x111.Name.eqb x180.Name))), (14, 34, (vb (x111.Name.ltb x180.Name || x111.Name.eqb x180.Name)))] ∧ agree σ [(0, v0), (3, (vp b31 0)), (5, (vi (k34 : Int))), (6, (vp b114 0)), (16, v33), (17, (vi (p1.Parts.length : Int))), (18, (vi (k34 : Int)))] ∧ Holds E w ([bif D 6 then (rd v179 p1.Parts) else junk, bif D 9 then (pt v181 x180) else junk, bif D 10 then (pt v182 x180.Name) else junk, bx 48 b114 x111, rd v113 x111, pt v112 x111, rd v0 p0, bx 26 b31 p1, rd v33 p1.Parts] ++ Γ)) ?_ ⟨?_, ?_, ?_, ?_, ?_, ?_, ?_, ?_, ?_, ?_, ?_, ?_, ?_, ?_, ?_, trivial⟩ ?_
   ·have hw := hw.drew
    have hw := hw.junk
    have hw := hw.junk
    have hw := hw.junk
    exact ⟨undef, undef, undef, doneV.none, ⟨rfl, rfl, rfl, rfl, rfl, rfl, rfl, trivial⟩, hw⟩
   ·rintro D σ w hD hdep hcl ⟨v179, v181, v182, hv, ha, hw⟩
    obtain ⟨τ, rfl⟩ := (ac (ha.at 2 rfl) az).ups
    refine mv (vi (k34 : Int)) rfl rfl ?_
    refine RL.nil ?_
    exact ⟨rfl, v179, v181, v182, hv.put 0 rfl rfl, ha.up rfl, hw⟩
   ·rintro D σ w hD hdep hcl ⟨v179, v181, v182, hv, ha, hw⟩
    obtain ⟨τ, rfl⟩ := (ac (hv.at 0 rfl (hdep.1 rfl)) az).ups
    refine ic ((k34 : Int)) 0 rfl rfl rfl rfl ?_
    refine RL.nil ?_
    exact ⟨rfl, v179, v181, v182, hv.put 1 rfl rfl, ha.up rfl, hw⟩
   ·rintro D σ w hD hdep hcl ⟨v179, v181, v182, hv, ha, hw⟩
    obtain ⟨τ, rfl⟩ := (ac (hv.at 1 rfl (hdep.1 rfl)) az).ups
    refine mv (vb (decide ((k34 : Int) > 0))) rfl rfl ?_
    refine RL.nil ?_
    exact ⟨rfl, v179, v181, v182, hv.put 2 rfl rfl, ha.up rfl, hw⟩
   ·rintro D σ w hD hdep hcl ⟨v179, v181, v182, hv, ha, hw⟩
    obtain ⟨τ, rfl⟩ := (ac (hv.at 2 rfl (hdep.1 rfl)) (ac (ha.at 3 rfl) az)).ups
    refine RL.fa_b ⟨_, rfl, cb hg178⟩ rfl rfl fa48_0 ?_
    refine RL.nil ?_
    exact ⟨rfl, v179, v181, v182, hv.put 3 rfl rfl, ha.up rfl, hw⟩
   ·rintro D σ w hD hdep hcl ⟨v179, v181, v182, hv, ha, hw⟩
    obtain ⟨τ, rfl⟩ := (ac (hv.at 2 rfl (hdep.2.1 rfl)) (ac (hv.at 3 rfl (hdep.1 rfl)) az)).ups
    refine RL.load_bfs (i := 3) (f := (fun x => x.Name)) ⟨_, rfl, cb hg178⟩ rfl hw rfl rfl fd_Part_0 ty9 ?_
    refine RL.nil ?_
    exact ⟨rfl, v179, v181, v182, hv.put 4 rfl rfl, ha.up rfl, hw⟩
   ·rintro D σ w hD hdep hcl ⟨v179, v181, v182, hv, ha, hw⟩
    obtain ⟨τ, rfl⟩ := (ac (hv.at 2 rfl (hdep.1 rfl)) (ac (ha.at 1 rfl) az)).ups
    refine RL.fa_b ⟨_, rfl, cb hg178⟩ rfl rfl fa26_0 ?_
    refine RL.nil ?_
    exact ⟨rfl, v179, v181, v182, hv.put 5 rfl rfl, ha.up rfl, hw⟩
   ·rintro D σ w hD hdep hcl ⟨v179, v181, v182, hv, ha, hw⟩
    obtain ⟨τ, rfl⟩ := (ac (hv.at 2 rfl (hdep.2.1 rfl)) (ac (hv.at 5 rfl (hdep.1 rfl)) az)).ups
    have hw := hw.selF (i := 0) rfl hD
    refine RL.load_bf (i := 7) (f := (fun x => x.Parts)) ⟨_, rfl, cb hg178⟩ rfl hw rfl rfl fd_Netlist_0 ty23 fun v183 hw => ?_
    have hw := hw.pick 10 [0, 2, 3, 4, 5, 6, 7, 8, 9] (new := [rd v183 p1.Parts, bif D 9 then (pt v181 x180) else junk, bif D 10 then (pt v182 x180.Name) else junk, bx 48 b114 x111, rd v113 x111, pt v112 x111, rd v0 p0, bx 26 b31 p1, rd v33 p1.Parts]) rfl rfl (by decide) (by decide)
    have hw := hw.altT (i := 0) (b := true) rfl rfl (junk)
    refine RL.nil ?_
    exact ⟨rfl, v183, v181, v182, hv.put 6 rfl rfl, ha.up rfl, hw⟩
   ·rintro D σ w hD hdep hcl ⟨v179, v181, v182, hv, ha, hw⟩
    obtain ⟨τ, rfl⟩ := (ac (hv.at 2 rfl (hdep.1 rfl)) (ac (ha.at 2 rfl) az)).ups
    refine RL.move (v := (vi (k34 : Int))) ⟨_, rfl, cb hg178⟩ rfl rfl ?_
    refine RL.nil ?_
    exact ⟨rfl, v179, v181, v182, hv.put 7 rfl rfl, ha.up rfl, hw⟩
   ·rintro D σ w hD hdep hcl ⟨v179, v181, v182, hv, ha, hw⟩
    obtain ⟨τ, rfl⟩ := (ac (hv.at 2 rfl (hdep.2.1 rfl)) (ac (hv.at 7 rfl (hdep.1 rfl)) az)).ups
    refine RL.iar (a := (k34 : Int)) (b := 1) ⟨_, rfl, cb hg178⟩ rfl rfl rfl rfl ?_
    refine RL.nil ?_
    exact ⟨rfl, v179, v181, v182, hv.put 8 rfl rfl, ha.up rfl, hw⟩
   ·rintro D σ w hD hdep hcl ⟨v179, v181, v182, hv, ha, hw⟩
    obtain ⟨τ, rfl⟩ := (ac (hv.at 2 rfl (hdep.2.2.1 rfl)) (ac (hv.at 6 rfl (hdep.1 rfl)) (ac (hv.at 8 rfl (hdep.2.1 rfl)) az))).ups
    have hw := hw.selT (i := 0) rfl (hdep.1 rfl)
    have hw := hw.selF (i := 1) rfl hD
    refine RL.ia_rd (i := 0) ⟨_, rfl, cb hg178⟩ rfl hw rfl rfl rfl sl23 hx180 fun v184 hw => ?_
    have hw := hw.pick 10 [1, 0, 3, 4, 5, 6, 7, 8, 9] (new := [rd v179 p1.Parts, pt v184 x180, bif D 10 then (pt v182 x180.Name) else junk, bx 48 b114 x111, rd v113 x111, pt v112 x111, rd v0 p0, bx 26 b31 p1, rd v33 p1.Parts]) rfl rfl (by decide) (by decide)
    have hw := hw.altT (i := 0) (b := D 6) rfl (hdep.1 rfl) (junk)
    have hw := hw.altT (i := 1) (b := true) rfl rfl (junk)
    refine RL.nil ?_
    exact ⟨rfl, v179, v184, v182, hv.put 9 rfl rfl, ha.up rfl, hw⟩
   ·rintro D σ w hD hdep hcl ⟨v179, v181, v182, hv, ha, hw⟩
    obtain ⟨τ, rfl⟩ := (ac (hv.at 2 rfl (hdep.2.1 rfl)) (ac (hv.at 9 rfl (hdep.1 rfl)) az)).ups
    have hw := hw.selT (i := 1) rfl (hdep.1 rfl)
    have hw := hw.selF (i := 2) rfl hD
    refine RL.fa_pt (i := 1) (f := fun (x : Part) => x.Name) ⟨_, rfl, cb hg178⟩ rfl hw rfl rfl fa48_0 fd_Part_0 fun v185 hw => ?_
    have hw := hw.pick 10 [1, 2, 0, 4, 5, 6, 7, 8, 9] (new := [bif D 6 then (rd v179 p1.Parts) else junk, pt v181 x180, pt v185 x180.Name, bx 48 b114 x111, rd v113 x111, pt v112 x111, rd v0 p0, bx 26 b31 p1, rd v33 p1.Parts]) rfl rfl (by decide) (by decide)
    have hw := hw.altT (i := 1) (b := D 9) rfl (hdep.1 rfl) (junk)
    have hw := hw.altT (i := 2) (b := true) rfl rfl (junk)
    refine RL.nil ?_
    exact ⟨rfl, v179, v181, v185, hv.put 10 rfl rfl, ha.up rfl, hw⟩
   ·rintro D σ w hD hdep hcl ⟨v179, v181, v182, hv, ha, hw⟩
    obtain ⟨τ, rfl⟩ := (ac (hv.at 2 rfl (hdep.2.1 rfl)) (ac (hv.at 10 rfl (hdep.1 rfl)) az)).ups
    have hw := hw.selT (i := 2) rfl (hdep.1 rfl)
    refine RL.load_pts (i := 2) (y := x180.Name) ⟨_, rfl, cb hg178⟩ rfl hw rfl rfl ty9 ?_
    have hw := hw.altT (i := 2) (b := D 10) rfl (hdep.1 rfl) (junk)
    refine RL.nil ?_
    exact ⟨rfl, v179, v181, v182, hv.put 11 rfl rfl, ha.up rfl, hw⟩
   ·rintro D σ w hD hdep hcl ⟨v179, v181, v182, hv, ha, hw⟩
    obtain ⟨τ, rfl⟩ := (ac (hv.at 2 rfl (hdep.2.2.1 rfl)) (ac (hv.at 4 rfl (hdep.1 rfl)) (ac (hv.at 11 rfl (hdep.2.1 rfl)) az))).ups
    refine RL.scmp (a := x111.Name) (b := x180.Name) ⟨_, rfl, cb hg178⟩ rfl rfl rfl rfl ?_
    refine RL.nil ?_
    exact ⟨rfl, v179, v181, v182, hv.put 12 rfl rfl, ha.up rfl, hw⟩
   ·rintro D σ w hD hdep hcl ⟨v179, v181, v182, hv, ha, hw⟩
    obtain ⟨τ, rfl⟩ := (ac (hv.at 2 rfl (hdep.1 rfl)) (ac (hv.at 12 rfl (hdep.2.1 rfl)) az)).ups
    refine RL.pick (b := (decide ((k34 : Int) > 0))) (v := (vb (x111.Name.ltb x180.Name || x111.Name.eqb x180.Name))) trivial rfl rfl (by rw [hg178]; rfl) ?_
    refine RL.nil ?_
    exact ⟨rfl, v179, v181, v182, hv.put 13 rfl rfl, ha.up rfl, hw⟩
   ·rintro D σ w hD hdep hcl ⟨v179, v181, v182, hv, ha, hw⟩
    obtain ⟨τ, rfl⟩ := (ac (hv.at 13 rfl (hdep.1 rfl)) az).ups
    refine as_ (vb (x111.Name.ltb x180.Name || x111.Name.eqb x180.Name)) rfl rfl ?_
    refine RL.nil ?_
    exact ⟨rfl, v179, v181, v182, hv.put 14 rfl rfl, ha.up rfl, hw⟩
   rintro D σ w hall ⟨v179, v181, v182, hv, ha, hw⟩
   rw [hall 6 (by decide), hall 9 (by decide), hall 10 (by decide)] at hw
   obtain ⟨τ, rfl⟩ := (ac (hv.at 14 rfl (hall 14 (by decide))) (ac (ha.at 0 rfl) (ac (ha.at 1 rfl) (ac (ha.at 2 rfl) (ac (ha.at 3 rfl) (ac (ha.at 4 rfl) (ac (ha.at 5 rfl) (ac (ha.at 6 rfl) az)))))))).ups
   obtain rfl := oi hj
   exact ⟨rfl, ⟨rfl, rfl, rfl, rfl, rfl, rfl, trivial⟩, hw.pick 9 [6, 7, 8] (new := [rd v0 p0, bx 26 b31 p1, rd v33 p1.Parts]) rfl rfl (by decide) (by decide)⟩
  rintro σ w ⟨ha, hw⟩
  obtain ⟨τ, rfl⟩ := ha.ups
  refine thenQ_n ?_
  refine RC.cond (b := s177) rfl (fun hc => ?_) (fun hc => ?_)
  rotate_left
  ·replace hb := cF hc hb
   refine RC.skip ?_
   refine blkQ_n ?_
   refine blkQ_n ?_
   refine thenQ_n ?_
   refine RC.region ?_
   refine RL.inc trivial rfl hk hm rfl rfl ?_
   refine mv (vi ((k34 + 1 : Nat) : Int)) rfl rfl ?_
   refine RL.nil ?_
   obtain rfl := oi hb
   exact ⟨rfl, ⟨rfl, rfl, rfl, rfl, rfl, trivial⟩, hw.pick 3 [0, 1, 2] (new := [rd v0 p0, bx 26 b31 p1, rd v33 p1.Parts]) rfl rfl (by decide) (by decide)⟩
  replace hb := cT hc hb
  refine RC.sr ?_
  refine as_ (vi 8) rfl rfl ?_
  refine RL.nt ?_
  refine RC.rb ?_
  refine blkQ_r ?_
  refine thenQ_r ?_
  obtain rfl := oi hb
  exact ⟨rfl, fin1 rfl rfl ⟨rfl, hw.drop 3 rfl⟩⟩
 ·intro r σ w e hK
  subst e
  refine thenQ_r ?_
  obtain rfl := oi hb
  exact hK
 intro s35 σ w e hJ
 subst e
 rw [Fo.cs_go] at hb
 obtain ⟨ha, hw⟩ := hJ
 obtain ⟨τ, rfl⟩ := ha.ups
 refine thenQ_n ?_
 refine RC.seq ?_
 refine RC.sr ?_
 refine RL.fa_b trivial rfl rfl fa26_1 ?_
 refine RL.load_bf (i := 1) (f := (fun x => x.Nets)) trivial rfl hw rfl rfl fd_Netlist_1 ty24 fun v186 hw => ?_
 refine RL.len_rd (i := 0) (l := p1.Nets) trivial rfl hw rfl rfl un24 ?_
 refine ic ((p1.Nets.length : Int)) 1000 rfl rfl rfl rfl ?_
 refine RL.nt ?_
 refine RC.cond (b := (decide ((p1.Nets.length : Int) > 1000))) rfl (fun hc => ?_) (fun hc => ?_)
 ·replace hb := cT hc hb
  refine RC.sr ?_
  refine as_ (vi 2) rfl rfl ?_
  refine RL.nt ?_
  refine RC.rt ?_
  obtain rfl := oi hb
  exact fin1 rfl rfl ⟨rfl, hw.drop 4 rfl⟩
 replace hb := cF hc hb
 refine RC.ss ?_
 refine RC.sr ?_
 refine RL.fa_b trivial rfl rfl fa26_1 ?_
 refine RL.load_bf (i := 2) (f := (fun x => x.Nets)) trivial rfl hw rfl rfl fd_Netlist_1 ty24 fun v187 hw => ?_
 refine RL.len_rd (i := 0) (l := p1.Nets) trivial rfl hw rfl rfl un24 ?_
 refine mv (vi 0) rfl rfl ?_
 refine RL.nt ?_
 obtain ⟨o596, hN, hb⟩ := bd hb
 refine RC.range (fun (k188 : Nat) (s189 : Unit) (σ : Nat → Value) (w : World) => agree σ [(0, v0), (3, (vp b31 0)), (55, v187), (56, (vi (p1.Nets.length : Int))), (57, (vi (k188 : Int)))] ∧ Holds E w ([rd v0 p0, bx 26 b31 p1, rd v187 p1.Nets] ++ Γ)) (fun (s189 : Unit) (σ : Nat → Value) (w : World) => agree σ [] ∧ Holds E w ([rd v0 p0, bx 26 b31 p1, rd v187 p1.Nets] ++ Γ)) (etchhouseref2_checkList_K E Γ) hN ?_ ?_ ?_ ?_ ?_ 
 ·exact ⟨⟨rfl, rfl, rfl, rfl, rfl, trivial⟩, hw.pick 5 [2, 3, 0] (new := [rd v0 p0, bx 26 b31 p1, rd v187 p1.Nets]) rfl rfl (by decide) (by decide)⟩
 ·intro hm s189 σ w hI
  obtain ⟨ha, hw⟩ := hI
  obtain ⟨τ, rfl⟩ := ha.ups
  refine RC.sr ?_
  refine ic ((p1.Nets.length : Int)) ((p1.Nets.length : Int)) rfl rfl rfl rfl ?_
  refine RL.nq ?_
  refine RC.cond_f dge ?_
  refine RC.ex ?_
  exact ⟨rfl, trivial, hw.pick 3 [0, 1, 2] (new := [rd v0 p0, bx 26 b31 p1, rd v187 p1.Nets]) rfl rfl (by decide) (by decide)⟩
 ·intro hm k188 s189 fl σ w hk hI hb
  obtain ⟨ha, hw⟩ := hI
  obtain ⟨τ, rfl⟩ := ha.ups
  refine RC.sr ?_
  refine ic ((k188 : Int)) ((p1.Nets.length : Int)) rfl rfl rfl rfl ?_
  refine RL.nq ?_
  refine RC.cond_t (dlt hk) ?_
  refine RC.ss ?_
  refine RC.bs ?_
  refine mv (vi (k188 : Int)) rfl rfl ?_
  obtain ⟨x393, hx393, hb⟩ := bd hb
  refine RL.ia_rd (i := 2) trivial rfl hw rfl rfl rfl sl24 hx393 fun v394 hw => ?_
  refine RL.load_pt (i := 0) (x := x393) trivial rfl hw rfl rfl ty38 fun v395 hw => ?_
  refine RL.alloc trivial rfl hw ze38.z fun b396 w hw => ?_
  refine as_ (vi (k188 : Int)) rfl rfl ?_
  refine RL.store_raw (i := 0) (j := 1) trivial hw rfl rfl rfl rfl ty38 rfl fun w hw => ?_
  refine RL.nq ?_
  refine RC.bs ?_
  refine RL.fa_b trivial rfl rfl fa38_0 ?_
  refine RL.load_bfs (i := 0) (f := (fun x => x.Name)) trivial rfl hw rfl rfl fd_Net_0 ty9 ?_
  obtain ⟨x397, hx397, hb⟩ := bd hb
  refine RL.call trivial rfl fn62 [(str x393.Name)] rfl (Calls_ret (etchhouseref2_IsPath_ok N (p0 := x393.Name)  hw  hx397) ?_)
  rintro _ w ⟨rfl, hw⟩
  refine RL.not (b := x397) trivial rfl rfl ?_
  refine as_ (vb (!x397)) rfl rfl ?_
  refine RL.nt ?_
  refine RC.cond (b := (!x397)) rfl (fun hc => ?_) (fun hc => ?_)
  ·replace hb := cT hc hb
   refine RC.sr ?_
   refine as_ (vi 5) rfl rfl ?_
   refine RL.nt ?_
   refine RC.rb ?_
   refine thenQ_r ?_
   refine blkQ_r ?_
   refine thenQ_r ?_
   obtain rfl := oi hb
   exact ⟨rfl, fin1 rfl rfl ⟨rfl, hw.drop 6 rfl⟩⟩
  replace hb := cF hc hb
  refine RC.sr ?_
  refine RL.fa_b trivial rfl rfl fa38_1 ?_
  refine RL.load_bf (i := 0) (f := (fun x => x.Pins)) trivial rfl hw rfl rfl fd_Net_1 ty35 fun v401 hw => ?_
  refine RL.len_rd (i := 0) (l := x393.Pins) trivial rfl hw rfl rfl un35 ?_
  refine ic ((x393.Pins.length : Int)) 0 rfl rfl rfl rfl ?_
  refine as_ (vb ((x393.Pins.length : Int) == 0)) rfl rfl ?_
  refine RL.nt ?_
  refine RC.cond (b := ((x393.Pins.length : Int) == 0)) rfl (fun hc => ?_) (fun hc => ?_)
  ·replace hb := cT hc hb
   refine RC.sr ?_
   refine as_ (vi 9) rfl rfl ?_
   refine RL.nt ?_
   refine RC.rb ?_
   refine thenQ_r ?_
   refine blkQ_r ?_
   refine thenQ_r ?_
   obtain rfl := oi hb
   exact ⟨rfl, fin1 rfl rfl ⟨rfl, hw.drop 7 rfl⟩⟩
  replace hb := cF hc hb
  refine RC.sr ?_
  refine RL.fa_b trivial rfl rfl fa38_1 ?_
  refine RL.load_bf (i := 1) (f := (fun x => x.Pins)) trivial rfl hw rfl rfl fd_Net_1 ty35 fun v403 hw => ?_
  refine RL.len_rd (i := 0) (l := x393.Pins) trivial rfl hw rfl rfl un35 ?_
  refine ic ((x393.Pins.length : Int)) 500 rfl rfl rfl rfl ?_
  refine as_ (vb (decide ((x393.Pins.length : Int) > 500))) rfl rfl ?_
  refine RL.nt ?_
  refine RC.cond (b := (decide ((x393.Pins.length : Int) > 500))) rfl (fun hc => ?_) (fun hc => ?_)
  ·replace hb := cT hc hb
   refine RC.sr ?_
   refine as_ (vi 2) rfl rfl ?_
   refine RL.nt ?_
   refine RC.rb ?_
   refine thenQ_r ?_
   refine blkQ_r ?_
   refine thenQ_r ?_
   obtain rfl := oi hb
   exact ⟨rfl, fin1 rfl rfl ⟨rfl, hw.drop 8 rfl⟩⟩
  replace hb := cF hc hb
  refine RC.skip ?_
  refine blkQ_n ?_
  refine thenQ_n ?_
  refine RC.seq ?_
  refine RC.sr ?_
  refine RL.fa_b trivial rfl rfl fa38_1 ?_
  refine RL.load_bf (i := 2) (f := (fun x => x.Pins)) trivial rfl hw rfl rfl fd_Net_1 ty35 fun v404 hw => ?_
  refine RL.len_rd (i := 0) (l := x393.Pins) trivial rfl hw rfl rfl un35 ?_
  refine mv (vi 0) rfl rfl ?_
  refine RL.nt ?_
  obtain ⟨o595, hN, hb⟩ := bd hb
  refine RC.range (fun (k405 : Nat) (s406 : Unit) (σ : Nat → Value) (w : World) => agree σ [(0, v0), (3, (vp b31 0)), (7, (vi (k188 : Int))), (8, (vp b396 0)), (55, v187), (56, (vi (p1.Nets.length : Int))), (57, (vi (k188 : Int))), (78, v404), (79, (vi (x393.Pins.length : Int))), (80, (vi (k405 : Int)))] ∧ Holds E w ([rd v0 p0, bx 26 b31 p1, bx 38 b396 x393, rd v187 p1.Nets, rd v404 x393.Pins] ++ Γ)) (fun (s406 : Unit) (σ : Nat → Value) (w : World) => agree σ [(0, v0), (3, (vp b31 0)), (7, (vi (k188 : Int))), (8, (vp b396 0)), (55, v187), (56, (vi (p1.Nets.length : Int))), (57, (vi (k188 : Int)))] ∧ Holds E w ([rd v0 p0, bx 26 b31 p1, bx 38 b396 x393, rd v187 p1.Nets, rd v404 x393.Pins] ++ Γ)) (etchhouseref2_checkList_K E Γ) hN ?_ ?_ ?_ ?_ ?_ 
  ·exact ⟨⟨rfl, rfl, rfl, rfl, rfl, rfl, rfl, rfl, rfl, rfl, trivial⟩, hw.pick 9 [6, 7, 3, 8, 0] (new := [rd v0 p0, bx 26 b31 p1, bx 38 b396 x393, rd v187 p1.Nets, rd v404 x393.Pins]) rfl rfl (by decide) (by decide)⟩
  ·intro hm s406 σ w hI
   obtain ⟨ha, hw⟩ := hI
   obtain ⟨τ, rfl⟩ := ha.ups
   refine RC.sr ?_
   refine ic ((x393.Pins.length : Int)) ((x393.Pins.length : Int)) rfl rfl rfl rfl ?_
   refine RL.nq ?_
   refine RC.cond_f dge ?_
   refine RC.ex ?_
   exact ⟨rfl, ⟨rfl, rfl, rfl, rfl, rfl, rfl, rfl, trivial⟩, hw.pick 5 [0, 1, 2, 3, 4] (new := [rd v0 p0, bx 26 b31 p1, bx 38 b396 x393, rd v187 p1.Nets, rd v404 x393.Pins]) rfl rfl (by decide) (by decide)⟩
  ·intro hm k405 s406 fl σ w hk hI hb
   obtain ⟨ha, hw⟩ := hI
   obtain ⟨τ, rfl⟩ := ha.ups
   refine RC.sr ?_
   refine ic ((k405 : Int)) ((x393.Pins.length : Int)) rfl rfl rfl rfl ?_
   refine RL.nq ?_
   refine RC.cond_t (dlt hk) ?_
   refine RC.ss ?_
   refine RC.bs ?_
   refine mv (vi (k405 : Int)) rfl rfl ?_
   obtain ⟨x492, hx492, hb⟩ := bd hb
   refine RL.ia_rd (i := 4) trivial rfl hw rfl rfl rfl sl35 hx492 fun v493 hw => ?_
   refine RL.load_pt (i := 0) (x := x492) trivial rfl hw rfl rfl ty43 fun v494 hw => ?_
   refine RL.alloc trivial rfl hw ze43.z fun b495 w hw => ?_
   refine as_ (vi (k405 : Int)) rfl rfl ?_
   refine RL.store_raw (i := 0) (j := 1) trivial hw rfl rfl rfl rfl ty43 rfl fun w hw => ?_
   refine RL.nt ?_
   refine RC.bs ?_
   refine mv v0 rfl rfl ?_
   refine RL.load_bf (i := 4) (f := (fun x => x)) trivial rfl hw rfl rfl Fd.self ty26 fun v496 hw => ?_
   refine RL.load_bf (i := 1) (f := (fun x => x)) trivial rfl hw rfl rfl Fd.self ty43 fun v497 hw => ?_
   obtain ⟨x498, hx498, hb⟩ := bd hb
   refine RL.call trivial rfl fn64 [v0, v496, v497] rfl (Calls_ret (etchhouseref2_HasPin_ok N  (i0 := 5) (i1 := 1) (i2 := 0) hw rfl rfl rfl hx498) ?_)
   rintro _ w ⟨rfl, hw⟩
   refine RL.not (b := x498) trivial rfl rfl ?_
   refine as_ (vb (!x498)) rfl rfl ?_
   refine RL.nt ?_
   refine RC.cond (b := (!x498)) rfl (fun hc => ?_) (fun hc => ?_)
   ·replace hb := cT hc hb
    refine RC.sr ?_
    refine as_ (vi 9) rfl rfl ?_
    refine RL.nt ?_
    refine RC.rb ?_
    refine blkQ_r ?_
    refine thenQ_r ?_
    obtain rfl := oi hb
    exact ⟨rfl, fin1 rfl rfl ⟨rfl, hw.drop 10 rfl⟩⟩
   replace hb := cF hc hb
   refine RC.seq ?_
   obtain ⟨s549, hj, hb⟩ := bd hb
   refine RC.jn (fun (s549 : Bool) (σ : Nat → Value) (w : World) => agree σ [(0, v0), (3, (vp b31 0)), (7, (vi (k188 : Int))), (8, (vp b396 0)), (10, (vp b495 0)), (55, v187), (56, (vi (p1.Nets.length : Int))), (57, (vi (k188 : Int))), (78, v404), (79, (vi (x393.Pins.length : Int))), (80, (vi (k405 : Int))), (91, (vb s549))] ∧ Holds E w ([rd v0 p0, bx 26 b31 p1, bx 38 b396 x393, bx 43 b495 x492, rd v187 p1.Nets, rd v404 x393.Pins] ++ Γ)) s549 ?_ ?_
   ·rcases Bool.eq_false_or_eq_true (decide ((k405 : Int) > 0)) with hg550 | hg550
    rotate_left
    ·replace hj := cF hg550 hj
     refine RC.drw mixed rfl (fun (D : Nat → Bool) (σ : Nat → Value) (w : World) => doneV D σ [(0, 92, (vi (k405 : Int))), (1, 93, (vb (decide ((k405 : Int) > 0)))), (2, 94, (vb (decide ((k405 : Int) > 0)))), (3, 95, undef), (4, 96, undef), (5, 97, undef), (6, 98, undef), (7, 99, undef), (8, 100, undef), (9, 101, undef), (10, 102, undef), (11, 103, undef), (12, 104, (vb false)), (13, 91, (vb false))] ∧ agree σ [(0, v0), (3, (vp b31 0)), (7, (vi (k188 : Int))), (8, (vp b396 0)), (9, (vi (k405 : Int))), (10, (vp b495 0)), (55, v187), (56, (vi (p1.Nets.length : Int))), (57, (vi (k188 : Int))), (78, v404), (79, (vi (x393.Pins.length : Int))), (80, (vi (k405 : Int)))] ∧ Holds E w ([rd v497 x492, rd v496 p1, bx 43 b495 x492, rd v494 x492, pt v493 x492, rd v0 p0, bx 26 b31 p1, bx 38 b396 x393, rd v187 p1.Nets, rd v404 x393.Pins] ++ Γ)) ?_ ⟨?_, ?_, ?_, ?_, ?_, ?_, ?_, ?_, ?_, ?_, ?_, ?_, ?_, ?_, trivial⟩ ?_
     ·have hw := hw.drew
      exact ⟨doneV.none, ⟨rfl, rfl, rfl, rfl, rfl, rfl, rfl, rfl, rfl, rfl, rfl, rfl, trivial⟩, hw⟩
     ·rintro D σ w hD hdep hcl ⟨hv, ha, hw⟩
      obtain ⟨τ, rfl⟩ := (ac (ha.at 4 rfl) az).ups
      refine mv (vi (k405 : Int)) rfl rfl ?_
      refine RL.nil ?_
      exact ⟨rfl, hv.put 0 rfl rfl, ha.up rfl, hw⟩
     ·rintro D σ w hD hdep hcl ⟨hv, ha, hw⟩
      obtain ⟨τ, rfl⟩ := (ac (hv.at 0 rfl (hdep.1 rfl)) az).ups
      refine ic ((k405 : Int)) 0 rfl rfl rfl rfl ?_
      refine RL.nil ?_
      exact ⟨rfl, hv.put 1 rfl rfl, ha.up rfl, hw⟩
     ·rintro D σ w hD hdep hcl ⟨hv, ha, hw⟩
      obtain ⟨τ, rfl⟩ := (ac (hv.at 1 rfl (hdep.1 rfl)) az).ups
      refine mv (vb (decide ((k405 : Int) > 0))) rfl rfl ?_
      refine RL.nil ?_
      exact ⟨rfl, hv.put 2 rfl rfl, ha.up rfl, hw⟩
     ·rintro D σ w hD hdep hcl ⟨hv, ha, hw⟩
      obtain ⟨τ, rfl⟩ := (ac (hv.at 2 rfl (hdep.1 rfl)) (ac (ha.at 3 rfl) az)).ups
      refine sk rfl (.inl (cb hg550)) rfl ?_
      refine RL.nil ?_
      exact ⟨rfl, hv.put 3 rfl rfl, ha.up rfl, hw⟩
     ·rintro D σ w hD hdep hcl ⟨hv, ha, hw⟩
      obtain ⟨τ, rfl⟩ := (ac (hv.at 2 rfl (hdep.2.1 rfl)) (ac (hv.at 3 rfl (hdep.1 rfl)) az)).ups
      refine sk rfl (.inl (cb hg550)) rfl ?_
      refine RL.nil ?_
      exact ⟨rfl, hv.put 4 rfl rfl, ha.up rfl, hw⟩
     ·rintro D σ w hD hdep hcl ⟨hv, ha, hw⟩
      obtain ⟨τ, rfl⟩ := (ac (hv.at 2 rfl (hdep.1 rfl)) (ac (ha.at 4 rfl) az)).ups
      refine sk rfl (.inl (cb hg550)) rfl ?_
      refine RL.nil ?_
      exact ⟨rfl, hv.put 5 rfl rfl, ha.up rfl, hw⟩
     ·rintro D σ w hD hdep hcl ⟨hv, ha, hw⟩
      obtain ⟨τ, rfl⟩ := (ac (hv.at 2 rfl (hdep.2.1 rfl)) (ac (hv.at 5 rfl (hdep.1 rfl)) az)).ups
      refine sk rfl (.inl (cb hg550)) rfl ?_
      refine RL.nil ?_
      exact ⟨rfl, hv.put 6 rfl rfl, ha.up rfl, hw⟩
     ·rintro D σ w hD hdep hcl ⟨hv, ha, hw⟩
      obtain ⟨τ, rfl⟩ := (ac (hv.at 2 rfl (hdep.2.2.1 rfl)) (ac (hv.at 4 rfl (hdep.1 rfl)) (ac (hv.at 6 rfl (hdep.2.1 rfl)) az))).ups
      refine sk rfl (.inl (cb hg550)) rfl ?_
      refine RL.nil ?_
      exact ⟨rfl, hv.put 7 rfl rfl, ha.up rfl, hw⟩
     ·rintro D σ w hD hdep hcl ⟨hv, ha, hw⟩
      obtain ⟨τ, rfl⟩ := (ac (hv.at 2 rfl (hdep.2.1 rfl)) (ac (hv.at 7 rfl (hdep.1 rfl)) az)).ups
      refine sk rfl (.inl (cb hg550)) rfl ?_
      refine RL.nil ?_
      exact ⟨rfl, hv.put 8 rfl rfl, ha.up rfl, hw⟩
     ·rintro D σ w hD hdep hcl ⟨hv, ha, hw⟩
      obtain ⟨τ, rfl⟩ := (ac (hv.at 2 rfl (hdep.1 rfl)) (ac (ha.at 5 rfl) az)).ups
      refine sk rfl (.inl (cb hg550)) rfl ?_
      refine RL.nil ?_
      exact ⟨rfl, hv.put 9 rfl rfl, ha.up rfl, hw⟩
     ·rintro D σ w hD hdep hcl ⟨hv, ha, hw⟩
      obtain ⟨τ, rfl⟩ := (ac (hv.at 2 rfl (hdep.2.2.1 rfl)) (ac (hv.at 8 rfl (hdep.1 rfl)) (ac (hv.at 9 rfl (hdep.2.1 rfl)) az))).ups
      refine sk rfl (.inl (cb hg550)) rfl ?_
      refine RL.nil ?_
      exact ⟨rfl, hv.put 10 rfl rfl, ha.up rfl, hw⟩
     ·rintro D σ w hD hdep hcl ⟨hv, ha, hw⟩
      obtain ⟨τ, rfl⟩ := (ac (hv.at 2 rfl (hdep.2.1 rfl)) (ac (hv.at 10 rfl (hdep.1 rfl)) az)).ups
      refine sk rfl (.inl (cb hg550)) rfl ?_
      refine RL.nil ?_
      exact ⟨rfl, hv.put 11 rfl rfl, ha.up rfl, hw⟩
     ·rintro D σ w hD hdep hcl ⟨hv, ha, hw⟩
      obtain ⟨τ, rfl⟩ := (ac (hv.at 2 rfl (hdep.1 rfl)) (ac (hv.at 11 rfl (hdep.2.1 rfl)) az)).ups
      refine RL.pick (b := (decide ((k405 : Int) > 0))) (v := (vb false)) trivial rfl rfl (by rw [hg550]; rfl) ?_
      refine RL.nil ?_
      exact ⟨rfl, hv.put 12 rfl rfl, ha.up rfl, hw⟩
     ·rintro D σ w hD hdep hcl ⟨hv, ha, hw⟩
      obtain ⟨τ, rfl⟩ := (ac (hv.at 12 rfl (hdep.1 rfl)) az).ups
      refine as_ (vb false) rfl rfl ?_
      refine RL.nil ?_
      exact ⟨rfl, hv.put 13 rfl rfl, ha.up rfl, hw⟩
     rintro D σ w hall ⟨hv, ha, hw⟩
     obtain ⟨τ, rfl⟩ := (ac (hv.at 13 rfl (hall 13 (by decide))) (ac (ha.at 0 rfl) (ac (ha.at 1 rfl) (ac (ha.at 2 rfl) (ac (ha.at 3 rfl) (ac (ha.at 4 rfl) (ac (ha.at 5 rfl) (ac (ha.at 6 rfl) (ac (ha.at 7 rfl) (ac (ha.at 8 rfl) (ac (ha.at 9 rfl) (ac (ha.at 10 rfl) (ac (ha.at 11 rfl) az))))))))))))).ups
     obtain rfl := oi hj
     exact ⟨rfl, ⟨rfl, rfl, rfl, rfl, rfl, rfl, rfl, rfl, rfl, rfl, rfl, rfl, trivial⟩, hw.pick 10 [5, 6, 7, 2, 8, 9] (new := [rd v0 p0, bx 26 b31 p1, bx 38 b396 x393, bx 43 b495 x492, rd v187 p1.Nets, rd v404 x393.Pins]) rfl rfl (by decide) (by decide)⟩
    replace hj := cT hg550 hj
    obtain ⟨x552, hx552, hj⟩ := bd hj
    obtain ⟨x556, hx556, hj⟩ := bd hj
    refine RC.drw mixed rfl (fun (D : Nat → Bool) (σ : Nat → Value) (w : World) => ∃ (v551 : Value) (v553 : Value) (v554 : Value) (v555 : Value), doneV D σ [(0, 92, (vi (k405 : Int))), (1, 93, (vb (decide ((k405 : Int) > 0)))), (2, 94, (vb (decide ((k405 : Int) > 0)))), (3, 95, (vp b396 1)), (4, 96, v551), (5, 97, (vi (k405 : Int))), (6, 98, (vi (IntKind.wrap .i64 ((k405 : Int) - 1)))), (7, 99, v553), (8, 100, v554), (9, 101, v555), (10, 102, (vb x556)), (11, 103, (vb (!x556))), (12, 104, (vb (!x556))), (13, 91, (vb (!x556)))] ∧ agree σ [(0, v0), (3, (vp b31 0)), (7, (vi (k188 : Int))), (8, (vp b396 0)), (9, (vi (k405 : Int))), (10, (vp b495 0)), (55, v187), (56, (vi (p1.Nets.length : Int))), (57, (vi (k188 : Int))), (78, v404), (79, (vi (x393.Pins.length : Int))), (80, (vi (k405 : Int)))] ∧ Holds E w ([bif D 4 then (rd v551 x393.Pins) else junk, bif D 7 then (pt v553 x552) else junk, bif D 8 then (rd v554 x552) else junk, bif D 9 then (rd v555 x492) else junk, rd v497 x492, rd v496 p1, bx 43 b495 x492, rd v494 x492, pt v493 x492, rd v0 p0, bx 26 b31 p1, bx 38 b396 x393, rd v187 p1.Nets, rd v404 x393.Pins] ++ Γ)) ?_ ⟨?_, ?_, ?_, ?_, ?_, ?_, ?_, ?_, ?_, ?_, ?_, ?_, ?_, ?_, trivial⟩ ?_
    ·have hw := hw.drew
     have hw := hw.junk
     have hw := hw.junk
     have hw := hw.junk
     have hw := hw.junk
     exact ⟨undef, undef, undef, undef, doneV.none, ⟨rfl, rfl, rfl, rfl, rfl, rfl, rfl, rfl, rfl, rfl, rfl, rfl, trivial⟩, hw⟩
    ·rintro D σ w hD hdep hcl ⟨v551, v553, v554, v555, hv, ha, hw⟩
     obtain ⟨τ, rfl⟩ := (ac (ha.at 4 rfl) az).ups
     refine mv (vi (k405 : Int)) rfl rfl ?_
     refine RL.nil ?_
     exact ⟨rfl, v551, v553, v554, v555, hv.put 0 rfl rfl, ha.up rfl, hw⟩
    ·rintro D σ w hD hdep hcl ⟨v551, v553, v554, v555, hv, ha, hw⟩
     obtain ⟨τ, rfl⟩ := (ac (hv.at 0 rfl (hdep.1 rfl)) az).ups
     refine ic ((k405 : Int)) 0 rfl rfl rfl rfl ?_
     refine RL.nil ?_
     exact ⟨rfl, v551, v553, v554, v555, hv.put 1 rfl rfl, ha.up rfl, hw⟩
    ·rintro D σ w hD hdep hcl ⟨v551, v553, v554, v555, hv, ha, hw⟩
     obtain ⟨τ, rfl⟩ := (ac (hv.at 1 rfl (hdep.1 rfl)) az).ups
     refine mv (vb (decide ((k405 : Int) > 0))) rfl rfl ?_
     refine RL.nil ?_
     exact ⟨rfl, v551, v553, v554, v555, hv.put 2 rfl rfl, ha.up rfl, hw⟩
    ·rintro D σ w hD hdep hcl ⟨v551, v553, v554, v555, hv, ha, hw⟩
     obtain ⟨τ, rfl⟩ := (ac (hv.at 2 rfl (hdep.1 rfl)) (ac (ha.at 3 rfl) az)).ups
     refine RL.fa_b ⟨_, rfl, cb hg550⟩ rfl rfl fa38_1 ?_
     refine RL.nil ?_
     exact ⟨rfl, v551, v553, v554, v555, hv.put 3 rfl rfl, ha.up rfl, hw⟩
    ·rintro D σ w hD hdep hcl ⟨v551, v553, v554, v555, hv, ha, hw⟩
     obtain ⟨τ, rfl⟩ := (ac (hv.at 2 rfl (hdep.2.1 rfl)) (ac (hv.at 3 rfl (hdep.1 rfl)) az)).ups
     have hw := hw.selF (i := 0) rfl hD
     refine RL.load_bf (i := 11) (f := (fun x => x.Pins)) ⟨_, rfl, cb hg550⟩ rfl hw rfl rfl fd_Net_1 ty35 fun v557 hw => ?_
     have hw := hw.pick 15 [0, 2, 3, 4, 5, 6, 7, 8, 9, 10, 11, 12, 13, 14] (new := [rd v557 x393.Pins, bif D 7 then (pt v553 x552) else junk, bif D 8 then (rd v554 x552) else junk, bif D 9 then (rd v555 x492) else junk, rd v497 x492, rd v496 p1, bx 43 b495 x492, rd v494 x492, pt v493 x492, rd v0 p0, bx 26 b31 p1, bx 38 b396 x393, rd v187 p1.Nets, rd v404 x393.Pins]) rfl rfl (by decide) (by decide)
     have hw := hw.altT (i := 0) (b := true) rfl rfl (junk)
     refine RL.nil ?_
     exact ⟨rfl, v557, v553, v554, v555, hv.put 4 rfl rfl, ha.up rfl, hw⟩
    ·rintro D σ w hD hdep hcl ⟨v551, v553, v554, v555, hv, ha, hw⟩
     obtain ⟨τ, rfl⟩ := (ac (hv.at 2 rfl (hdep.1 rfl)) (ac (ha.at 4 rfl) az)).ups
     refine RL.move (v := (vi (k405 : Int))) ⟨_, rfl, cb hg550⟩ rfl rfl ?_
     refine RL.nil ?_
     exact ⟨rfl, v551, v553, v554, v555, hv.put 5 rfl rfl, ha.up rfl, hw⟩
    ·rintro D σ w hD hdep hcl ⟨v551, v553, v554, v555, hv, ha, hw⟩
     obtain ⟨τ, rfl⟩ := (ac (hv.at 2 rfl (hdep.2.1 rfl)) (ac (hv.at 5 rfl (hdep.1 rfl)) az)).ups
     refine RL.iar (a := (k405 : Int)) (b := 1) ⟨_, rfl, cb hg550⟩ rfl rfl rfl rfl ?_
     refine RL.nil ?_
     exact ⟨rfl, v551, v553, v554, v555, hv.put 6 rfl rfl, ha.up rfl, hw⟩
    ·rintro D σ w hD hdep hcl ⟨v551, v553, v554, v555, hv, ha, hw⟩
     obtain ⟨τ, rfl⟩ := (ac (hv.at 2 rfl (hdep.2.2.1 rfl)) (ac (hv.at 4 rfl (hdep.1 rfl)) (ac (hv.at 6 rfl (hdep.2.1 rfl)) az))).ups
     have hw := hw.selT (i := 0) rfl (hdep.1 rfl)
     have hw := hw.selF (i := 1) rfl hD
     refine RL.ia_rd (i := 0) ⟨_, rfl, cb hg550⟩ rfl hw rfl rfl rfl sl35 hx552 fun v558 hw => ?_
     have hw := hw.pick 15 [1, 0, 3, 4, 5, 6, 7, 8, 9, 10, 11, 12, 13, 14] (new := [rd v551 x393.Pins, pt v558 x552, bif D 8 then (rd v554 x552) else junk, bif D 9 then (rd v555 x492) else junk, rd v497 x492, rd v496 p1, bx 43 b495 x492, rd v494 x492, pt v493 x492, rd v0 p0, bx 26 b31 p1, bx 38 b396 x393, rd v187 p1.Nets, rd v404 x393.Pins]) rfl rfl (by decide) (by decide)
     have hw := hw.altT (i := 0) (b := D 4) rfl (hdep.1 rfl) (junk)
     have hw := hw.altT (i := 1) (b := true) rfl rfl (junk)
     refine RL.nil ?_
     exact ⟨rfl, v551, v558, v554, v555, hv.put 7 rfl rfl, ha.up rfl, hw⟩
    ·rintro D σ w hD hdep hcl ⟨v551, v553, v554, v555, hv, ha, hw⟩
     obtain ⟨τ, rfl⟩ := (ac (hv.at 2 rfl (hdep.2.1 rfl)) (ac (hv.at 7 rfl (hdep.1 rfl)) az)).ups
     have hw := hw.selT (i := 1) rfl (hdep.1 rfl)
     have hw := hw.selF (i := 2) rfl hD
     refine RL.load_pt (i := 1) (x := x552) ⟨_, rfl, cb hg550⟩ rfl hw rfl rfl ty43 fun v559 hw => ?_
     have hw := hw.pick 15 [1, 2, 0, 4, 5, 6, 7, 8, 9, 10, 11, 12, 13, 14] (new := [bif D 4 then (rd v551 x393.Pins) else junk, pt v553 x552, rd v559 x552, bif D 9 then (rd v555 x492) else junk, rd v497 x492, rd v496 p1, bx 43 b495 x492, rd v494 x492, pt v493 x492, rd v0 p0, bx 26 b31 p1, bx 38 b396 x393, rd v187 p1.Nets, rd v404 x393.Pins]) rfl rfl (by decide) (by decide)
     have hw := hw.altT (i := 1) (b := D 7) rfl (hdep.1 rfl) (junk)
     have hw := hw.altT (i := 2) (b := true) rfl rfl (junk)
     refine RL.nil ?_
     exact ⟨rfl, v551, v553, v559, v555, hv.put 8 rfl rfl, ha.up rfl, hw⟩
    ·rintro D σ w hD hdep hcl ⟨v551, v553, v554, v555, hv, ha, hw⟩
     obtain ⟨τ, rfl⟩ := (ac (hv.at 2 rfl (hdep.1 rfl)) (ac (ha.at 5 rfl) az)).ups
     have hw := hw.selF (i := 3) rfl hD
     refine RL.load_bf (i := 6) (f := (fun x => x)) ⟨_, rfl, cb hg550⟩ rfl hw rfl rfl Fd.self ty43 fun v560 hw => ?_
     have hw := hw.pick 15 [1, 2, 3, 0, 5, 6, 7, 8, 9, 10, 11, 12, 13, 14] (new := [bif D 4 then (rd v551 x393.Pins) else junk, bif D 7 then (pt v553 x552) else junk, bif D 8 then (rd v554 x552) else junk, rd v560 x492, rd v497 x492, rd v496 p1, bx 43 b495 x492, rd v494 x492, pt v493 x492, rd v0 p0, bx 26 b31 p1, bx 38 b396 x393, rd v187 p1.Nets, rd v404 x393.Pins]) rfl rfl (by decide) (by decide)
     have hw := hw.altT (i := 3) (b := true) rfl rfl (junk)
     refine RL.nil ?_
     exact ⟨rfl, v551, v553, v554, v560, hv.put 9 rfl rfl, ha.up rfl, hw⟩
    ·rintro D σ w hD hdep hcl ⟨v551, v553, v554, v555, hv, ha, hw⟩
     obtain ⟨τ, rfl⟩ := (ac (hv.at 2 rfl (hdep.2.2.1 rfl)) (ac (hv.at 8 rfl (hdep.1 rfl)) (ac (hv.at 9 rfl (hdep.2.1 rfl)) az))).ups
     have hw := hw.selT (i := 2) rfl (hdep.1 rfl)
     have hw := hw.selT (i := 3) rfl (hdep.2.1 rfl)
     refine RL.call ⟨_, rfl, cb hg550⟩ rfl fn38 [v554, v555] rfl (Calls_ret (etchhouseref2_before_ok N  (i0 := 2) (i1 := 3) hw rfl rfl hx556) ?_)
     rintro _ w ⟨rfl, hw⟩
     have hw := hw.altT (i := 2) (b := D 8) rfl (hdep.1 rfl) (junk)
     have hw := hw.altT (i := 3) (b := D 9) rfl (hdep.2.1 rfl) (junk)
     refine RL.nil ?_
     exact ⟨rfl, v551, v553, v554, v555, hv.put 10 rfl rfl, ha.up rfl, hw⟩
    ·rintro D σ w hD hdep hcl ⟨v551, v553, v554, v555, hv, ha, hw⟩
     obtain ⟨τ, rfl⟩ := (ac (hv.at 2 rfl (hdep.2.1 rfl)) (ac (hv.at 10 rfl (hdep.1 rfl)) az)).ups
     refine RL.not (b := x556) ⟨_, rfl, cb hg550⟩ rfl rfl ?_
     refine RL.nil ?_
     exact ⟨rfl, v551, v553, v554, v555, hv.put 11 rfl rfl, ha.up rfl, hw⟩
    ·rintro D σ w hD hdep hcl ⟨v551, v553, v554, v555, hv, ha, hw⟩
     obtain ⟨τ, rfl⟩ := (ac (hv.at 2 rfl (hdep.1 rfl)) (ac (hv.at 11 rfl (hdep.2.1 rfl)) az)).ups
     refine RL.pick (b := (decide ((k405 : Int) > 0))) (v := (vb (!x556))) trivial rfl rfl (by rw [hg550]; rfl) ?_
     refine RL.nil ?_
     exact ⟨rfl, v551, v553, v554, v555, hv.put 12 rfl rfl, ha.up rfl, hw⟩
    ·rintro D σ w hD hdep hcl ⟨v551, v553, v554, v555, hv, ha, hw⟩
     obtain ⟨τ, rfl⟩ := (ac (hv.at 12 rfl (hdep.1 rfl)) az).ups
     refine as_ (vb (!x556)) rfl rfl ?_
     refine RL.nil ?_
     exact ⟨rfl, v551, v553, v554, v555, hv.put 13 rfl rfl, ha.up rfl, hw⟩
    rintro D σ w hall ⟨v551, v553, v554, v555, hv, ha, hw⟩
    rw [hall 4 (by decide), hall 7 (by decide), hall 8 (by decide), hall 9 (by decide)] at hw
    obtain ⟨τ, rfl⟩ := (ac (hv.at 13 rfl (hall 13 (by decide))) (ac (ha.at 0 rfl) (ac (ha.at 1 rfl) (ac (ha.at 2 rfl) (ac (ha.at 3 rfl) (ac (ha.at 4 rfl) (ac (ha.at 5 rfl) (ac (ha.at 6 rfl) (ac (ha.at 7 rfl) (ac (ha.at 8 rfl) (ac (ha.at 9 rfl) (ac (ha.at 10 rfl) (ac (ha.at 11 rfl) az))))))))))))).ups
    obtain rfl := oi hj
    exact ⟨rfl, ⟨rfl, rfl, rfl, rfl, rfl, rfl, rfl, rfl, rfl, rfl, rfl, rfl, trivial⟩, hw.pick 14 [9, 10, 11, 6, 12, 13] (new := [rd v0 p0, bx 26 b31 p1, bx 38 b396 x393, bx 43 b495 x492, rd v187 p1.Nets, rd v404 x393.Pins]) rfl rfl (by decide) (by decide)⟩
   rintro σ w ⟨ha, hw⟩
   obtain ⟨τ, rfl⟩ := ha.ups
   refine thenQ_n ?_
   refine RC.cond (b := s549) rfl (fun hc => ?_) (fun hc => ?_)
   ·replace hb := cT hc hb
    refine RC.sr ?_
    refine as_ (vi 8) rfl rfl ?_
    refine RL.nt ?_
    refine RC.rb ?_
    refine blkQ_r ?_
    refine thenQ_r ?_
    obtain rfl := oi hb
    exact ⟨rfl, fin1 rfl rfl ⟨rfl, hw.drop 6 rfl⟩⟩
   replace hb := cF hc hb
   refine RC.seq ?_
   obtain ⟨x570, hx570, hb⟩ := bd hb
   obtain ⟨x573, hx573, hb⟩ := bd hb
   refine RC.drw mixed rfl (fun (D : Nat → Bool) (σ : Nat → Value) (w : World) => ∃ (v569 : Value) (v571 : Value) (v572 : Value), doneV D σ [(0, 106, (vp b31 1)), (1, 107, v569), (2, 108, (vi (k188 : Int))), (3, 109, v571), (4, 110, v572), (5, 111, (vb x573)), (6, 105, (vb x573))] ∧ agree σ [(0, v0), (3, (vp b31 0)), (7, (vi (k188 : Int))), (8, (vp b396 0)), (10, (vp b495 0)), (55, v187), (56, (vi (p1.Nets.length : Int))), (57, (vi (k188 : Int))), (78, v404), (79, (vi (x393.Pins.length : Int))), (80, (vi (k405 : Int)))] ∧ Holds E w ([bif D 1 then (rd v569 p1.Nets) else junk, bif D 3 then (rd v571 x570) else junk, bif D 4 then (rd v572 x492) else junk, rd v0 p0, bx 26 b31 p1, bx 38 b396 x393, bx 43 b495 x492, rd v187 p1.Nets, rd v404 x393.Pins] ++ Γ)) ?_ ⟨?_, ?_, ?_, ?_, ?_, ?_, ?_, trivial⟩ ?_
   ·have hw := hw.drew
    have hw := hw.junk
    have hw := hw.junk
    have hw := hw.junk
    exact ⟨undef, undef, undef, doneV.none, ⟨rfl, rfl, rfl, rfl, rfl, rfl, rfl, rfl, rfl, rfl, rfl, trivial⟩, hw⟩
   ·rintro D σ w hD hdep hcl ⟨v569, v571, v572, hv, ha, hw⟩
    obtain ⟨τ, rfl⟩ := (ac (ha.at 1 rfl) az).ups
    refine RL.fa_b trivial rfl rfl fa26_1 ?_
    refine RL.nil ?_
    exact ⟨rfl, v569, v571, v572, hv.put 0 rfl rfl, ha.up rfl, hw⟩
   ·rintro D σ w hD hdep hcl ⟨v569, v571, v572, hv, ha, hw⟩
    obtain ⟨τ, rfl⟩ := (ac (hv.at 0 rfl (hdep.1 rfl)) az).ups
    have hw := hw.selF (i := 0) rfl hD
    refine RL.load_bf (i := 4) (f := (fun x => x.Nets)) trivial rfl hw rfl rfl fd_Netlist_1 ty24 fun v574 hw => ?_
    have hw := hw.pick 10 [0, 2, 3, 4, 5, 6, 7, 8, 9] (new := [rd v574 p1.Nets, bif D 3 then (rd v571 x570) else junk, bif D 4 then (rd v572 x492) else junk, rd v0 p0, bx 26 b31 p1, bx 38 b396 x393, bx 43 b495 x492, rd v187 p1.Nets, rd v404 x393.Pins]) rfl rfl (by decide) (by decide)
    have hw := hw.altT (i := 0) (b := true) rfl rfl (junk)
    refine RL.nil ?_
    exact ⟨rfl, v574, v571, v572, hv.put 1 rfl rfl, ha.up rfl, hw⟩
   ·rintro D σ w hD hdep hcl ⟨v569, v571, v572, hv, ha, hw⟩
    obtain ⟨τ, rfl⟩ := (ac (ha.at 2 rfl) az).ups
    refine mv (vi (k188 : Int)) rfl rfl ?_
    refine RL.nil ?_
    exact ⟨rfl, v569, v571, v572, hv.put 2 rfl rfl, ha.up rfl, hw⟩
   ·rintro D σ w hD hdep hcl ⟨v569, v571, v572, hv, ha, hw⟩
    obtain ⟨τ, rfl⟩ := (ac (hv.at 1 rfl (hdep.1 rfl)) (ac (hv.at 2 rfl (hdep.2.1 rfl)) az)).ups
    have hw := hw.selT (i := 0) rfl (hdep.1 rfl)
    have hw := hw.selF (i := 1) rfl hD
    refine RL.cut (i := 0) trivial rfl hw rfl rfl sl24 (.inr ⟨rfl, rfl⟩) (.inl rfl) hx570 fun v575 hw => ?_
    have hw := hw.pick 10 [1, 0, 3, 4, 5, 6, 7, 8, 9] (new := [rd v569 p1.Nets, rd v575 x570, bif D 4 then (rd v572 x492) else junk, rd v0 p0, bx 26 b31 p1, bx 38 b396 x393, bx 43 b495 x492, rd v187 p1.Nets, rd v404 x393.Pins]) rfl rfl (by decide) (by decide)
    have hw := hw.altT (i := 0) (b := D 1) rfl (hdep.1 rfl) (junk)
    have hw := hw.altT (i := 1) (b := true) rfl rfl (junk)
    refine RL.nil ?_
    exact ⟨rfl, v569, v575, v572, hv.put 3 rfl rfl, ha.up rfl, hw⟩
   ·rintro D σ w hD hdep hcl ⟨v569, v571, v572, hv, ha, hw⟩
    obtain ⟨τ, rfl⟩ := (ac (ha.at 4 rfl) az).ups
    have hw := hw.selF (i := 2) rfl hD
    refine RL.load_bf (i := 6) (f := (fun x => x)) trivial rfl hw rfl rfl Fd.self ty43 fun v576 hw => ?_
    have hw := hw.pick 10 [1, 2, 0, 4, 5, 6, 7, 8, 9] (new := [bif D 1 then (rd v569 p1.Nets) else junk, bif D 3 then (rd v571 x570) else junk, rd v576 x492, rd v0 p0, bx 26 b31 p1, bx 38 b396 x393, bx 43 b495 x492, rd v187 p1.Nets, rd v404 x393.Pins]) rfl rfl (by decide) (by decide)
    have hw := hw.altT (i := 2) (b := true) rfl rfl (junk)
    refine RL.nil ?_
    exact ⟨rfl, v569, v571, v576, hv.put 4 rfl rfl, ha.up rfl, hw⟩
   ·rintro D σ w hD hdep hcl ⟨v569, v571, v572, hv, ha, hw⟩
    obtain ⟨τ, rfl⟩ := (ac (hv.at 3 rfl (hdep.1 rfl)) (ac (hv.at 4 rfl (hdep.2.1 rfl)) az)).ups
    have hw := hw.selT (i := 1) rfl (hdep.1 rfl)
    have hw := hw.selT (i := 2) rfl (hdep.2.1 rfl)
    refine RL.call trivial rfl fn65 [v571, v572] rfl (Calls_ret (etchhouseref2_inNets_ok N  (i0 := 1) (i1 := 2) hw rfl rfl hx573) ?_)
    rintro _ w ⟨rfl, hw⟩
    have hw := hw.altT (i := 1) (b := D 3) rfl (hdep.1 rfl) (junk)
    have hw := hw.altT (i := 2) (b := D 4) rfl (hdep.2.1 rfl) (junk)
    refine RL.nil ?_
    exact ⟨rfl, v569, v571, v572, hv.put 5 rfl rfl, ha.up rfl, hw⟩
   ·rintro D σ w hD hdep hcl ⟨v569, v571, v572, hv, ha, hw⟩
    obtain ⟨τ, rfl⟩ := (ac (hv.at 5 rfl (hdep.1 rfl)) az).ups
    refine as_ (vb x573) rfl rfl ?_
    refine RL.nil ?_
    exact ⟨rfl, v569, v571, v572, hv.put 6 rfl rfl, ha.up rfl, hw⟩
   rintro D σ w hall ⟨v569, v571, v572, hv, ha, hw⟩
   rw [hall 1 (by decide), hall 3 (by decide), hall 4 (by decide)] at hw
   obtain ⟨τ, rfl⟩ := (ac (hv.at 6 rfl (hall 6 (by decide))) (ac (ha.at 0 rfl) (ac (ha.at 1 rfl) (ac (ha.at 2 rfl) (ac (ha.at 3 rfl) (ac (ha.at 4 rfl) (ac (ha.at 5 rfl) (ac (ha.at 6 rfl) (ac (ha.at 7 rfl) (ac (ha.at 8 rfl) (ac (ha.at 9 rfl) (ac (ha.at 10 rfl) az)))))))))))).ups
   refine thenQ_n ?_
   refine RC.cond (b := x573) rfl (fun hc => ?_) (fun hc => ?_)
   rotate_left
   ·replace hb := cF hc hb
    refine RC.skip ?_
    refine blkQ_n ?_
    refine blkQ_n ?_
    refine thenQ_n ?_
    refine RC.region ?_
    refine RL.inc trivial rfl hk hm rfl rfl ?_
    refine mv (vi ((k405 + 1 : Nat) : Int)) rfl rfl ?_
    refine RL.nil ?_
    obtain rfl := oi hb
    exact ⟨rfl, ⟨rfl, rfl, rfl, rfl, rfl, rfl, rfl, rfl, rfl, rfl, trivial⟩, hw.pick 9 [3, 4, 5, 7, 8] (new := [rd v0 p0, bx 26 b31 p1, bx 38 b396 x393, rd v187 p1.Nets, rd v404 x393.Pins]) rfl rfl (by decide) (by decide)⟩
   replace hb := cT hc hb
   refine RC.sr ?_
   refine as_ (vi 7) rfl rfl ?_
   refine RL.nt ?_
   refine RC.rb ?_
   refine blkQ_r ?_
   refine thenQ_r ?_
   obtain rfl := oi hb
   exact ⟨rfl, fin1 rfl rfl ⟨rfl, hw.drop 9 rfl⟩⟩
  ·intro r σ w e hK
   subst e
   refine thenQ_r ?_
   refine blkQ_r ?_
   refine thenQ_r ?_
   obtain rfl := oi hb
   exact ⟨rfl, hK⟩
  intro s406 σ w e hJ
  subst e
  rw [Fo.cs_go] at hb
  obtain ⟨ha, hw⟩ := hJ
  obtain ⟨τ, rfl⟩ := ha.ups
  refine thenQ_n ?_
  refine RC.seq ?_
  refine RC.sr ?_
  refine RL.fa_b trivial rfl rfl fa38_2 ?_
  refine RL.load_bf (i := 2) (f := (fun x => x.Ports)) trivial rfl hw rfl rfl fd_Net_2 ty36 fun v577 hw => ?_
  refine RL.len_rd (i := 0) (l := x393.Ports) trivial rfl hw rfl rfl un36 ?_
  refine ic ((x393.Ports.length : Int)) 0 rfl rfl rfl rfl ?_
  refine RL.nt ?_
  refine RC.cond (b := (decide ((x393.Ports.length : Int) > 0))) rfl (fun hc => ?_) (fun hc => ?_)
  ·replace hb := cT hc hb
   refine RC.sr ?_
   refine as_ (vi 3) rfl rfl ?_
   refine RL.nt ?_
   refine RC.rt ?_
   refine blkQ_r ?_
   refine thenQ_r ?_
   obtain rfl := oi hb
   exact ⟨rfl, fin1 rfl rfl ⟨rfl, hw.drop 6 rfl⟩⟩
  replace hb := cF hc hb
  refine RC.ss ?_
  obtain ⟨s586, hj, hb⟩ := bd hb
  refine RC.jn (fun (s586 : Bool) (σ : Nat → Value) (w : World) => agree σ [(0, v0), (3, (vp b31 0)), (55, v187), (56, (vi (p1.Nets.length : Int))), (57, (vi (k188 : Int))), (130, (vb s586))] ∧ Holds E w ([rd v0 p0, bx 26 b31 p1, rd v187 p1.Nets] ++ Γ)) s586 ?_ ?_
  ·rcases Bool.eq_false_or_eq_true (decide ((k188 : Int) > 0)) with hg587 | hg587
   rotate_left
   ·replace hj := cF hg587 hj
    refine RC.drw mixed rfl (fun (D : Nat → Bool) (σ : Nat → Value) (w : World) => doneV D σ [(0, 117, (vi (k188 : Int))), (1, 118, (vb (decide ((k188 : Int) > 0)))), (2, 119, (vb (decide ((k188 : Int) > 0)))), (3, 120, undef), (4, 121, undef), (5, 122, undef), (6, 123, undef), (7, 124, undef), (8, 125, undef), (9, 126, undef), (10, 127, undef), (11, 128, undef), (12, 129, undef), (13, 130, (vb false))] ∧ agree σ [(0, v0), (3, (vp b31 0)), (7, (vi (k188 : Int))), (8, (vp b396 0)), (55, v187), (56, (vi (p1.Nets.length : Int))), (57, (vi (k188 : Int)))] ∧ Holds E w ([rd v577 x393.Ports, rd v0 p0, bx 26 b31 p1, bx 38 b396 x393, rd v187 p1.Nets, rd v404 x393.Pins] ++ Γ)) ?_ ⟨?_, ?_, ?_, ?_, ?_, ?_, ?_, ?_, ?_, ?_, ?_, ?_, ?_, ?_, trivial⟩ ?_
    ·have hw := hw.drew
     exact ⟨doneV.none, ⟨rfl, rfl, rfl, rfl, rfl, rfl, rfl, trivial⟩, hw⟩
    ·rintro D σ w hD hdep hcl ⟨hv, ha, hw⟩
     obtain ⟨τ, rfl⟩ := (ac (ha.at 2 rfl) az).ups
     refine mv (vi (k188 : Int)) rfl rfl ?_
     refine RL.nil ?_
     exact ⟨rfl, hv.put 0 rfl rfl, ha.up rfl, hw⟩
    ·rintro D σ w hD hdep hcl ⟨hv, ha, hw⟩
     obtain ⟨τ, rfl⟩ := (ac (hv.at 0 rfl (hdep.1 rfl)) az).ups
     refine ic ((k188 : Int)) 0 rfl rfl rfl rfl ?_
     refine RL.nil ?_
     exact ⟨rfl, hv.put 1 rfl rfl, ha.up rfl, hw⟩
    ·rintro D σ w hD hdep hcl ⟨hv, ha, hw⟩
     obtain ⟨τ, rfl⟩ := (ac (hv.at 1 rfl (hdep.1 rfl)) az).ups
     refine mv (vb (decide ((k188 : Int) > 0))) rfl rfl ?_
     refine RL.nil ?_
     exact ⟨rfl, hv.put 2 rfl rfl, ha.up rfl, hw⟩
    ·rintro D σ w hD hdep hcl ⟨hv, ha, hw⟩
     obtain ⟨τ, rfl⟩ := (ac (hv.at 2 rfl (hdep.1 rfl)) (ac (ha.at 3 rfl) az)).ups
     refine sk rfl (.inl (cb hg587)) rfl ?_
     refine RL.nil ?_
     exact ⟨rfl, hv.put 3 rfl rfl, ha.up rfl, hw⟩
    ·rintro D σ w hD hdep hcl ⟨hv, ha, hw⟩
     obtain ⟨τ, rfl⟩ := (ac (hv.at 2 rfl (hdep.2.1 rfl)) (ac (hv.at 3 rfl (hdep.1 rfl)) az)).ups
     refine sk rfl (.inl (cb hg587)) rfl ?_
     refine RL.nil ?_
     exact ⟨rfl, hv.put 4 rfl rfl, ha.up rfl, hw⟩
    ·rintro D σ w hD hdep hcl ⟨hv, ha, hw⟩
     obtain ⟨τ, rfl⟩ := (ac (hv.at 2 rfl (hdep.1 rfl)) (ac (ha.at 1 rfl) az)).ups
     refine sk rfl (.inl (cb hg587)) rfl ?_
     refine RL.nil ?_
     exact ⟨rfl, hv.put 5 rfl rfl, ha.up rfl, hw⟩
    ·rintro D σ w hD hdep hcl ⟨hv, ha, hw⟩
     obtain ⟨τ, rfl⟩ := (ac (hv.at 2 rfl (hdep.2.1 rfl)) (ac (hv.at 5 rfl (hdep.1 rfl)) az)).ups
     refine sk rfl (.inl (cb hg587)) rfl ?_
     refine RL.nil ?_
     exact ⟨rfl, hv.put 6 rfl rfl, ha.up rfl, hw⟩
    ·rintro D σ w hD hdep hcl ⟨hv, ha, hw⟩
     obtain ⟨τ, rfl⟩ := (ac (hv.at 2 rfl (hdep.1 rfl)) (ac (ha.at 2 rfl) az)).ups
     refine sk rfl (.inl (cb hg587)) rfl ?_
     refine RL.nil ?_
     exact ⟨rfl, hv.put 7 rfl rfl, ha.up rfl, hw⟩
    ·rintro D σ w hD hdep hcl ⟨hv, ha, hw⟩
     obtain ⟨τ, rfl⟩ := (ac (hv.at 2 rfl (hdep.2.1 rfl)) (ac (hv.at 7 rfl (hdep.1 rfl)) az)).ups
     refine sk rfl (.inl (cb hg587)) rfl ?_
     refine RL.nil ?_
     exact ⟨rfl, hv.put 8 rfl rfl, ha.up rfl, hw⟩
    ·rintro D σ w hD hdep hcl ⟨hv, ha, hw⟩
     obtain ⟨τ, rfl⟩ := (ac (hv.at 2 rfl (hdep.2.2.1 rfl)) (ac (hv.at 6 rfl (hdep.1 rfl)) (ac (hv.at 8 rfl (hdep.2.1 rfl)) az))).ups
     refine sk rfl (.inl (cb hg587)) rfl ?_
     refine RL.nil ?_
     exact ⟨rfl, hv.put 9 rfl rfl, ha.up rfl, hw⟩
    ·rintro D σ w hD hdep hcl ⟨hv, ha, hw⟩
     obtain ⟨τ, rfl⟩ := (ac (hv.at 2 rfl (hdep.2.1 rfl)) (ac (hv.at 9 rfl (hdep.1 rfl)) az)).ups
     refine sk rfl (.inl (cb hg587)) rfl ?_
     refine RL.nil ?_
     exact ⟨rfl, hv.put 10 rfl rfl, ha.up rfl, hw⟩
    ·rintro D σ w hD hdep hcl ⟨hv, ha, hw⟩
     obtain ⟨τ, rfl⟩ := (ac (hv.at 2 rfl (hdep.2.1 rfl)) (ac (hv.at 10 rfl (hdep.1 rfl)) az)).ups
     refine sk rfl (.inl (cb hg587)) rfl ?_
     refine RL.nil ?_
     exact ⟨rfl, hv.put 11 rfl rfl, ha.up rfl, hw⟩
    ·rintro D σ w hD hdep hcl ⟨hv, ha, hw⟩
     obtain ⟨τ, rfl⟩ := (ac (hv.at 2 rfl (hdep.2.2.1 rfl)) (ac (hv.at 4 rfl (hdep.1 rfl)) (ac (hv.at 11 rfl (hdep.2.1 rfl)) az))).ups
     refine sk rfl (.inl (cb hg587)) rfl ?_
     refine RL.nil ?_
     exact ⟨rfl, hv.put 12 rfl rfl, ha.up rfl, hw⟩
    ·rintro D σ w hD hdep hcl ⟨hv, ha, hw⟩
     obtain ⟨τ, rfl⟩ := (ac (hv.at 2 rfl (hdep.1 rfl)) (ac (hv.at 12 rfl (hdep.2.1 rfl)) az)).ups
     refine RL.pick (b := (decide ((k188 : Int) > 0))) (v := (vb false)) trivial rfl rfl (by rw [hg587]; rfl) ?_
     refine RL.nil ?_
     exact ⟨rfl, hv.put 13 rfl rfl, ha.up rfl, hw⟩
    rintro D σ w hall ⟨hv, ha, hw⟩
    obtain ⟨τ, rfl⟩ := (ac (hv.at 13 rfl (hall 13 (by decide))) (ac (ha.at 0 rfl) (ac (ha.at 1 rfl) (ac (ha.at 2 rfl) (ac (ha.at 3 rfl) (ac (ha.at 4 rfl) (ac (ha.at 5 rfl) (ac (ha.at 6 rfl) az)))))))).ups
    obtain rfl := oi hj
    exact ⟨rfl, ⟨rfl, rfl, rfl, rfl, rfl, rfl, trivial⟩, hw.pick 6 [1, 2, 4] (new := [rd v0 p0, bx 26 b31 p1, rd v187 p1.Nets]) rfl rfl (by decide) (by decide)⟩
   replace hj := cT hg587 hj
   obtain ⟨x589, hx589, hj⟩ := bd hj
   refine RC.drw mixed rfl (fun (D : Nat → Bool) (σ : Nat → Value) (w : World) => ∃ (v588 : Value) (v590 : Value) (v591 : Value), doneV D σ [(0, 117, (vi (k188 : Int))), (1, 118, (vb (decide ((k188 : Int) > 0)))), (2, 119, (vb (decide ((k188 : Int) > 0)))), (3, 120, (vp b396 0)), (4, 121, (str x393.Name)), (5, 122, (vp b31 1)), (6, 123, v588), (7, 124, (vi (k188 : Int))), (8, 125, (vi (IntKind.wrap .i64 ((k188 : Int) - 1)))), (9, 126, v590), (10, 127, v591), (11, 128, (str x589.Name)), (12, 129, (vb (x393.Name.ltb x589.Name || x393.Name.eqb x589.Name))), (13, 130, (vb (x393.Name.ltb x589.Name || x393.Name.eqb x589.Name)))] ∧ agree σ [(0, v0), (3, (vp b31 0)), (7, (vi (k188 : Int))), (8, (vp b396 0)), (55, v187), (56, (vi (p1.Nets.length : Int))), (57, (vi (k188 : Int)))] ∧ Holds E w ([bif D 6 then (rd v588 p1.Nets) else junk, bif D 9 then (pt v590 x589) else junk, bif D 10 then (pt v591 x589.Name) else junk, rd v577 x393.Ports, rd v0 p0, bx 26 b31 p1, bx 38 b396 x393, rd v187 p1.Nets, rd v404 x393.Pins] ++ Γ)) ?_ ⟨?_, ?_, ?_, ?_, ?_, ?_, ?_, ?_, ?_, ?_, ?_, ?_, ?_, ?_, trivial⟩ ?_
   ·have hw := hw.drew
    have hw := hw.junk
    have hw := hw.junk
    have hw := hw.junk
    exact ⟨undef, undef, undef, doneV.none, ⟨rfl, rfl, rfl, rfl, rfl, rfl, rfl, trivial⟩, hw⟩
   ·rintro D σ w hD hdep hcl ⟨v588, v590, v591, hv, ha, hw⟩
    obtain ⟨τ, rfl⟩ := (ac (ha.at 2 rfl) az).ups
    refine mv (vi (k188 : Int)) rfl rfl ?_
    refine RL.nil ?_
    exact ⟨rfl, v588, v590, v591, hv.put 0 rfl rfl, ha.up rfl, hw⟩
   ·rintro D σ w hD hdep hcl ⟨v588, v590, v591, hv, ha, hw⟩
    obtain ⟨τ, rfl⟩ := (ac (hv.at 0 rfl (hdep.1 rfl)) az).ups
    refine ic ((k188 : Int)) 0 rfl rfl rfl rfl ?_
    refine RL.nil ?_
    exact ⟨rfl, v588, v590, v591, hv.put 1 rfl rfl, ha.up rfl, hw⟩
   ·rintro D σ w hD hdep hcl ⟨v588, v590, v591, hv, ha, hw⟩
    obtain ⟨τ, rfl⟩ := (ac (hv.at 1 rfl (hdep.1 rfl)) az).ups
    refine mv (vb (decide ((k188 : Int) > 0))) rfl rfl ?_
    refine RL.nil ?_
    exact ⟨rfl, v588, v590, v591, hv.put 2 rfl rfl, ha.up rfl, hw⟩
   ·rintro D σ w hD hdep hcl ⟨v588, v590, v591, hv, ha, hw⟩
    obtain ⟨τ, rfl⟩ := (ac (hv.at 2 rfl (hdep.1 rfl)) (ac (ha.at 3 rfl) az)).ups
    refine RL.fa_b ⟨_, rfl, cb hg587⟩ rfl rfl fa38_0 ?_
    refine RL.nil ?_
    exact ⟨rfl, v588, v590, v591, hv.put 3 rfl rfl, ha.up rfl, hw⟩
   ·rintro D σ w hD hdep hcl ⟨v588, v590, v591, hv, ha, hw⟩
    obtain ⟨τ, rfl⟩ := (ac (hv.at 2 rfl (hdep.2.1 rfl)) (ac (hv.at 3 rfl (hdep.1 rfl)) az)).ups
    refine RL.load_bfs (i := 6) (f := (fun x => x.Name)) ⟨_, rfl, cb hg587⟩ rfl hw rfl rfl fd_Net_0 ty9 ?_
    refine RL.nil ?_
    exact ⟨rfl, v588, v590, v591, hv.put 4 rfl rfl, ha.up rfl, hw⟩
   ·rintro D σ w hD hdep hcl ⟨v588, v590, v591, hv, ha, hw⟩
    obtain ⟨τ, rfl⟩ := (ac (hv.at 2 rfl (hdep.1 rfl)) (ac (ha.at 1 rfl) az)).ups
    refine RL.fa_b ⟨_, rfl, cb hg587⟩ rfl rfl fa26_1 ?_
    refine RL.nil ?_
    exact ⟨rfl, v588, v590, v591, hv.put 5 rfl rfl, ha.up rfl, hw⟩
   ·rintro D σ w hD hdep hcl ⟨v588, v590, v591, hv, ha, hw⟩
    obtain ⟨τ, rfl⟩ := (ac (hv.at 2 rfl (hdep.2.1 rfl)) (ac (hv.at 5 rfl (hdep.1 rfl)) az)).ups
    have hw := hw.selF (i := 0) rfl hD
    refine RL.load_bf (i := 5) (f := (fun x => x.Nets)) ⟨_, rfl, cb hg587⟩ rfl hw rfl rfl fd_Netlist_1 ty24 fun v592 hw => ?_
    have hw := hw.pick 10 [0, 2, 3, 4, 5, 6, 7, 8, 9] (new := [rd v592 p1.Nets, bif D 9 then (pt v590 x589) else junk, bif D 10 then (pt v591 x589.Name) else junk, rd v577 x393.Ports, rd v0 p0, bx 26 b31 p1, bx 38 b396 x393, rd v187 p1.Nets, rd v404 x393.Pins]) rfl rfl (by decide) (by decide)
    have hw := hw.altT (i := 0) (b := true) rfl rfl (junk)
    refine RL.nil ?_
    exact ⟨rfl, v592, v590, v591, hv.put 6 rfl rfl, ha.up rfl, hw⟩
   ·rintro D σ w hD hdep hcl ⟨v588, v590, v591, hv, ha, hw⟩
    obtain ⟨τ, rfl⟩ := (ac (hv.at 2 rfl (hdep.1 rfl)) (ac (ha.at 2 rfl) az)).ups
    refine RL.move (v := (vi (k188 : Int))) ⟨_, rfl, cb hg587⟩ rfl rfl ?_
    refine RL.nil ?_
    exact ⟨rfl, v588, v590, v591, hv.put 7 rfl rfl, ha.up rfl, hw⟩
   ·rintro D σ w hD hdep hcl ⟨v588, v590, v591, hv, ha, hw⟩
    obtain ⟨τ, rfl⟩ := (ac (hv.at 2 rfl (hdep.2.1 rfl)) (ac (hv.at 7 rfl (hdep.1 rfl)) az)).ups
    refine RL.iar (a := (k188 : Int)) (b := 1) ⟨_, rfl, cb hg587⟩ rfl rfl rfl rfl ?_
    refine RL.nil ?_
    exact ⟨rfl, v588, v590, v591, hv.put 8 rfl rfl, ha.up rfl, hw⟩
   ·rintro D σ w hD hdep hcl ⟨v588, v590, v591, hv, ha, hw⟩
    obtain ⟨τ, rfl⟩ := (ac (hv.at 2 rfl (hdep.2.2.1 rfl)) (ac (hv.at 6 rfl (hdep.1 rfl)) (ac (hv.at 8 rfl (hdep.2.1 rfl)) az))).ups
    have hw := hw.selT (i := 0) rfl (hdep.1 rfl)
    have hw := hw.selF (i := 1) rfl hD
    refine RL.ia_rd (i := 0) ⟨_, rfl, cb hg587⟩ rfl hw rfl rfl rfl sl24 hx589 fun v593 hw => ?_
    have hw := hw.pick 10 [1, 0, 3, 4, 5, 6, 7, 8, 9] (new := [rd v588 p1.Nets, pt v593 x589, bif D 10 then (pt v591 x589.Name) else junk, rd v577 x393.Ports, rd v0 p0, bx 26 b31 p1, bx 38 b396 x393, rd v187 p1.Nets, rd v404 x393.Pins]) rfl rfl (by decide) (by decide)
    have hw := hw.altT (i := 0) (b := D 6) rfl (hdep.1 rfl) (junk)
    have hw := hw.altT (i := 1) (b := true) rfl rfl (junk)
    refine RL.nil ?_
    exact ⟨rfl, v588, v593, v591, hv.put 9 rfl rfl, ha.up rfl, hw⟩
   ·rintro D σ w hD hdep hcl ⟨v588, v590, v591, hv, ha, hw⟩
    obtain ⟨τ, rfl⟩ := (ac (hv.at 2 rfl (hdep.2.1 rfl)) (ac (hv.at 9 rfl (hdep.1 rfl)) az)).ups
    have hw := hw.selT (i := 1) rfl (hdep.1 rfl)
    have hw := hw.selF (i := 2) rfl hD
    refine RL.fa_pt (i := 1) (f := fun (x : Net) => x.Name) ⟨_, rfl, cb hg587⟩ rfl hw rfl rfl fa38_0 fd_Net_0 fun v594 hw => ?_
    have hw := hw.pick 10 [1, 2, 0, 4, 5, 6, 7, 8, 9] (new := [bif D 6 then (rd v588 p1.Nets) else junk, pt v590 x589, pt v594 x589.Name, rd v577 x393.Ports, rd v0 p0, bx 26 b31 p1, bx 38 b396 x393, rd v187 p1.Nets, rd v404 x393.Pins]) rfl rfl (by decide) (by decide)
    have hw := hw.altT (i := 1) (b := D 9) rfl (hdep.1 rfl) (junk)
    have hw := hw.altT (i := 2) (b := true) rfl rfl (junk)
    refine RL.nil ?_
    exact ⟨rfl, v588, v590, v594, hv.put 10 rfl rfl, ha.up rfl, hw⟩
   ·rintro D σ w hD hdep hcl ⟨v588, v590, v591, hv, ha, hw⟩
    obtain ⟨τ, rfl⟩ := (ac (hv.at 2 rfl (hdep.2.1 rfl)) (ac (hv.at 10 rfl (hdep.1 rfl)) az)).ups
    have hw := hw.selT (i := 2) rfl (hdep.1 rfl)
    refine RL.load_pts (i := 2) (y := x589.Name) ⟨_, rfl, cb hg587⟩ rfl hw rfl rfl ty9 ?_
    have hw := hw.altT (i := 2) (b := D 10) rfl (hdep.1 rfl) (junk)
    refine RL.nil ?_
    exact ⟨rfl, v588, v590, v591, hv.put 11 rfl rfl, ha.up rfl, hw⟩
   ·rintro D σ w hD hdep hcl ⟨v588, v590, v591, hv, ha, hw⟩
    obtain ⟨τ, rfl⟩ := (ac (hv.at 2 rfl (hdep.2.2.1 rfl)) (ac (hv.at 4 rfl (hdep.1 rfl)) (ac (hv.at 11 rfl (hdep.2.1 rfl)) az))).ups
    refine RL.scmp (a := x393.Name) (b := x589.Name) ⟨_, rfl, cb hg587⟩ rfl rfl rfl rfl ?_
    refine RL.nil ?_
    exact ⟨rfl, v588, v590, v591, hv.put 12 rfl rfl, ha.up rfl, hw⟩
   ·rintro D σ w hD hdep hcl ⟨v588, v590, v591, hv, ha, hw⟩
    obtain ⟨τ, rfl⟩ := (ac (hv.at 2 rfl (hdep.1 rfl)) (ac (hv.at 12 rfl (hdep.2.1 rfl)) az)).ups
    refine RL.pick (b := (decide ((k188 : Int) > 0))) (v := (vb (x393.Name.ltb x589.Name || x393.Name.eqb x589.Name))) trivial rfl rfl (by rw [hg587]; rfl) ?_
    refine RL.nil ?_
    exact ⟨rfl, v588, v590, v591, hv.put 13 rfl rfl, ha.up rfl, hw⟩
   rintro D σ w hall ⟨v588, v590, v591, hv, ha, hw⟩
   rw [hall 6 (by decide), hall 9 (by decide), hall 10 (by decide)] at hw
   obtain ⟨τ, rfl⟩ := (ac (hv.at 13 rfl (hall 13 (by decide))) (ac (ha.at 0 rfl) (ac (ha.at 1 rfl) (ac (ha.at 2 rfl) (ac (ha.at 3 rfl) (ac (ha.at 4 rfl) (ac (ha.at 5 rfl) (ac (ha.at 6 rfl) az)))))))).ups
   obtain rfl := oi hj
   exact ⟨rfl, ⟨rfl, rfl, rfl, rfl, rfl, rfl, trivial⟩, hw.pick 9 [4, 5, 7] (new := [rd v0 p0, bx 26 b31 p1, rd v187 p1.Nets]) rfl rfl (by decide) (by decide)⟩
  rintro σ w ⟨ha, hw⟩
  obtain ⟨τ, rfl⟩ := ha.ups
  refine thenQ_n ?_
  refine RC.cond (b := s586) rfl (fun hc => ?_) (fun hc => ?_)
  rotate_left
  ·replace hb := cF hc hb
   refine RC.skip ?_
   refine blkQ_n ?_
   refine thenQ_n ?_
   refine RC.region ?_
   refine RL.inc trivial rfl hk hm rfl rfl ?_
   refine mv (vi ((k188 + 1 : Nat) : Int)) rfl rfl ?_
   refine RL.nil ?_
   obtain rfl := oi hb
   exact ⟨rfl, ⟨rfl, rfl, rfl, rfl, rfl, trivial⟩, hw.pick 3 [0, 1, 2] (new := [rd v0 p0, bx 26 b31 p1, rd v187 p1.Nets]) rfl rfl (by decide) (by decide)⟩
  replace hb := cT hc hb
  refine RC.sr ?_
  refine as_ (vi 8) rfl rfl ?_
  refine RL.nt ?_
  refine RC.rb ?_
  refine thenQ_r ?_
  obtain rfl := oi hb
  exact ⟨rfl, fin1 rfl rfl ⟨rfl, hw.drop 3 rfl⟩⟩
 ·intro r σ w e hK
  subst e
  refine thenQ_r ?_
  obtain rfl := oi hb
  exact hK
 intro s189 σ w e hJ
 subst e
 rw [Fo.cs_go] at hb
 obtain ⟨ha, hw⟩ := hJ
 obtain ⟨τ, rfl⟩ := ha.ups
 refine thenQ_n ?_
 refine RC.sr ?_
 refine as_ (vi 0) rfl rfl ?_
 refine RL.nt ?_
 refine RC.ret ?_
 obtain rfl := oi hb
 exact fin1 rfl rfl ⟨rfl, hw.drop 3 rfl⟩
def etchhouseref2_CheckList_R (E : World) (Γ : List HP) (res : Int) (v : Value) (w : World) : Prop := v = (vi res) ∧ Holds E w Γ
theorem etchhouseref2_CheckList_ok (N : Nat) {E w : World} {Γ : List HP} {i0 : Nat} {v0 : Value} {p0 : (List PartType)} {i1 : Nat} {v1 : Value} {p1 : Netlist} {res : Int} (hw : Holds E w Γ) (h0 : Γ[i0]? = some (rd v0 p0)) (h1 : Γ[i1]? = some (rd v1 p1)) (hb : etchhouseref2_CheckList N p0 p1 = some res) :
    Calls Tryz.prog 14 [v0, v1].toArray w (Ret (etchhouseref2_CheckList_R E Γ res)) := by
 unfold etchhouseref2_CheckList at hb
 refine enter Tryz.func14 rfl rfl (Nat.le_of_ble_eq_true rfl) ?_
 have hw := hw.dup (i := i0 + 0) h0
 have hw := hw.dup (i := i1 + 1) h1
 refine RC.sr ?_
 refine RL.box_rd (i := 0) (v := v1) trivial rfl hw rfl rfl fun b31 w hw => ?_
 refine as_ (vi 0) rfl rfl ?_
 refine RL.nq ?_
 refine RC.sr ?_
 refine mv v0 rfl rfl ?_
 obtain ⟨x32, hx32, hb⟩ := bd hb
 refine RL.call trivial rfl fn36 [v0] rfl (Calls_ret (etchhouseref2_CheckTypes_ok N  (i0 := 2) hw rfl hx32) ?_)
 rintro _ w ⟨rfl, hw⟩
 refine as_ (vi x32) rfl rfl ?_
 refine RL.ns ?_
 refine mv (vi x32) rfl rfl ?_
 refine ic x32 0 rfl rfl rfl rfl ?_
 refine RL.nt ?_
 refine RC.cond (b := (x32 != 0)) rfl (fun hc => ?_) (fun hc => ?_)
 ·replace hb := cT hc hb
  refine RC.sr ?_
  refine mv (vi x32) rfl rfl ?_
  refine as_ (vi x32) rfl rfl ?_
  refine RL.nt ?_
  refine RC.rt ?_
  obtain rfl := oi hb
  exact fin1 rfl rfl ⟨rfl, hw.drop 3 rfl⟩
 replace hb := cF hc hb
 refine RC.sx ?_
 refine mv v0 rfl rfl ?_
 refine RL.load_bf (i := 0) (f := (fun x => x)) trivial rfl hw rfl rfl Fd.self ty26 fun v33 hw => ?_
 obtain ⟨x34, hx34, hb⟩ := bd hb
 refine RL.call trivial rfl fn37 [v0, v33] rfl (Calls_ret (etchhouseref2_checkList_ok N  (i0 := 3) (i1 := 0) hw rfl rfl hx34) ?_)
 rintro _ w ⟨rfl, hw⟩
 refine as_ (vi x34) rfl rfl ?_
 refine RL.nt ?_
 refine RC.ret ?_
 obtain rfl := oi hb
 exact fin1 rfl rfl ⟨rfl, hw.drop 4 rfl⟩
def etchhouseref2_netNamed_R (E : World) (Γ : List HP) (res : Int) (v : Value) (w : World) : Prop := v = (vi res) ∧ Holds E w Γ
def etchhouseref2_netNamed_K (E : World) (Γ : List HP) (r : Int) (σ : Nat → Value) (w : World) : Prop := finQ Tryz.prog 21 Tryz.f15 (etchhouseref2_netNamed_R E Γ r) .ret σ w
theorem etchhouseref2_netNamed_ok (N : Nat) {E w : World} {Γ : List HP} {i0 : Nat} {v0 : Value} {p0 : Netlist} {p1 : Str} {res : Int} (hw : Holds E w Γ) (h0 : Γ[i0]? = some (rd v0 p0)) (hb : etchhouseref2_netNamed N p0 p1 = some res) :
    Calls Tryz.prog 15 [v0, (str p1)].toArray w (Ret (etchhouseref2_netNamed_R E Γ res)) := by
 unfold etchhouseref2_netNamed at hb
 refine enter Tryz.func15 rfl rfl (Nat.le_of_ble_eq_true rfl) ?_
 have hw := hw.dup (i := i0 + 0) h0
 refine RC.sr ?_
 refine RL.box_rd (i := 0) (v := v0) trivial rfl hw rfl rfl fun b31 w hw => ?_
 refine as_ (vi 0) rfl rfl ?_
 refine RL.nq ?_
 refine RC.sr ?_
 refine RL.fa_b trivial rfl rfl fa26_1 ?_
 refine RL.load_bf (i := 0) (f := (fun x => x.Nets)) trivial rfl hw rfl rfl fd_Netlist_1 ty24 fun v32 hw => ?_
 refine RL.len_rd (i := 0) (l := p0.Nets) trivial rfl hw rfl rfl un24 ?_
 refine mv (vi 0) rfl rfl ?_
 refine RL.nt ?_
 obtain ⟨o43, hN, hb⟩ := bd hb
 refine RC.range (fun (k33 : Nat) (s34 : Unit) (σ : Nat → Value) (w : World) => agree σ [(1, (str p1)), (8, v32), (9, (vi (p0.Nets.length : Int))), (10, (vi (k33 : Int)))] ∧ Holds E w ([rd v32 p0.Nets] ++ Γ)) (fun (s34 : Unit) (σ : Nat → Value) (w : World) => agree σ [] ∧ Holds E w ([rd v32 p0.Nets] ++ Γ)) (etchhouseref2_netNamed_K E Γ) hN ?_ ?_ ?_ ?_ ?_ 
 ·exact ⟨⟨rfl, rfl, rfl, rfl, trivial⟩, hw.pick 3 [0] (new := [rd v32 p0.Nets]) rfl rfl (by decide) (by decide)⟩
 ·intro hm s34 σ w hI
  obtain ⟨ha, hw⟩ := hI
  obtain ⟨τ, rfl⟩ := ha.ups
  refine RC.sr ?_
  refine ic ((p0.Nets.length : Int)) ((p0.Nets.length : Int)) rfl rfl rfl rfl ?_
  refine RL.nq ?_
  refine RC.cond_f dge ?_
  refine RC.ex ?_
  exact ⟨rfl, trivial, hw.pick 1 [0] (new := [rd v32 p0.Nets]) rfl rfl (by decide) (by decide)⟩
 ·intro hm k33 s34 fl σ w hk hI hb
  obtain ⟨ha, hw⟩ := hI
  obtain ⟨τ, rfl⟩ := ha.ups
  refine RC.sr ?_
  refine ic ((k33 : Int)) ((p0.Nets.length : Int)) rfl rfl rfl rfl ?_
  refine RL.nq ?_
  refine RC.cond_t (dlt hk) ?_
  refine RC.ss ?_
  refine RC.bs ?_
  refine mv (vi (k33 : Int)) rfl rfl ?_
  obtain ⟨x39, hx39, hb⟩ := bd hb
  refine RL.ia_rd (i := 0) trivial rfl hw rfl rfl rfl sl24 hx39 fun v40 hw => ?_
  refine RL.load_pt (i := 0) (x := x39) trivial rfl hw rfl rfl ty38 fun v41 hw => ?_
  refine RL.alloc trivial rfl hw ze38.z fun b42 w hw => ?_
  refine as_ (vi (k33 : Int)) rfl rfl ?_
  refine RL.store_raw (i := 0) (j := 1) trivial hw rfl rfl rfl rfl ty38 rfl fun w hw => ?_
  refine RL.ns ?_
  refine RL.fa_b trivial rfl rfl fa38_0 ?_
  refine RL.load_bfs (i := 0) (f := (fun x => x.Name)) trivial rfl hw rfl rfl fd_Net_0 ty9 ?_
  refine mv (str p1) rfl rfl ?_
  refine RL.scmp (a := x39.Name) (b := p1) trivial rfl rfl rfl rfl ?_
  refine RL.nt ?_
  refine RC.cond (b := (x39.Name.eqb p1)) rfl (fun hc => ?_) (fun hc => ?_)
  rotate_left
  ·replace hb := cF hc hb
   refine RC.skip ?_
   refine blkQ_n ?_
   refine thenQ_n ?_
   refine RC.region ?_
   refine RL.inc trivial rfl hk hm rfl rfl ?_
   refine mv (vi ((k33 + 1 : Nat) : Int)) rfl rfl ?_
   refine RL.nil ?_
   obtain rfl := oi hb
   exact ⟨rfl, ⟨rfl, rfl, rfl, rfl, trivial⟩, hw.pick 4 [3] (new := [rd v32 p0.Nets]) rfl rfl (by decide) (by decide)⟩
  replace hb := cT hc hb
  refine RC.sr ?_
  refine mv (vi (k33 : Int)) rfl rfl ?_
  refine as_ (vi (k33 : Int)) rfl rfl ?_
  refine RL.nt ?_
  refine RC.rb ?_
  refine thenQ_r ?_
  obtain rfl := oi hb
  exact ⟨rfl, fin1 rfl rfl ⟨rfl, hw.drop 4 rfl⟩⟩
 ·intro r σ w e hK
  subst e
  refine thenQ_r ?_
  obtain rfl := oi hb
  exact hK
 intro s34 σ w e hJ
 subst e
 rw [Fo.cs_go] at hb
 obtain ⟨ha, hw⟩ := hJ
 obtain ⟨τ, rfl⟩ := ha.ups
 refine thenQ_n ?_
 refine RC.sr ?_
 refine as_ (vi (-1)) rfl rfl ?_
 refine RL.nt ?_
 refine RC.ret ?_
 obtain rfl := oi hb
 exact fin1 rfl rfl ⟨rfl, hw.drop 1 rfl⟩
def slices_Grow_Pin_nil_R (E : World) (Γ : List HP) (res : (List Pin)) (v : Value) (w : World) : Prop := Holds E w (own 43 v res :: Γ)
theorem slices_Grow_Pin_nil_ok (N : Nat) {E w : World} {Γ : List HP} {p1 : Int} {res : (List Pin)} (hw : Holds E w Γ)  (hb : slices_Grow_Pin_nil N p1 = some res) :
    Calls Tryz.prog 40 [(.slice none 0 0), (vi p1)].toArray w (Ret (slices_Grow_Pin_nil_R E Γ res)) := by
 unfold slices_Grow_Pin_nil at hb
 refine enter Tryz.func40 rfl rfl (Nat.le_of_ble_eq_true rfl) ?_
 refine RC.sr ?_
 refine as_ (.slice none 0 0) rfl rfl ?_
 refine RL.nq ?_
 refine RC.sr ?_
 refine mv (vi p1) rfl rfl ?_
 refine ic p1 0 rfl rfl rfl rfl ?_
 refine RL.nt ?_
 refine RC.cond (b := (decide (p1 < 0))) rfl (fun hc => ?_) (fun hc => ?_)
 ·replace hb := cT hc hb
  cases hb
 replace hb := cF hc hb
 refine RC.ss ?_
 refine RC.sr ?_
 refine mv (vi p1) rfl rfl ?_
 refine mv (.slice none 0 0) rfl rfl ?_
 refine RL.cap_nil trivial rfl rfl un35 ?_
 refine mv (.slice none 0 0) rfl rfl ?_
 refine RL.lenl (m := 0) trivial rfl rfl un35 ?_
 refine RL.iar (a := ((0 : Nat) : Int)) (b := ((0 : Nat) : Int)) trivial rfl rfl rfl rfl ?_
 refine RL.iar (a := p1) (b := (IntKind.wrap .i64 (((0 : Nat) : Int) - ((0 : Nat) : Int)))) trivial rfl rfl rfl rfl ?_
 refine as_ (vi (IntKind.wrap .i64 (p1 - (IntKind.wrap .i64 (((0 : Nat) : Int) - ((0 : Nat) : Int)))))) rfl rfl ?_
 refine RL.ns ?_
 refine mv (vi (IntKind.wrap .i64 (p1 - (IntKind.wrap .i64 (((0 : Nat) : Int) - ((0 : Nat) : Int)))))) rfl rfl ?_
 refine ic ((IntKind.wrap .i64 (p1 - (IntKind.wrap .i64 (((0 : Nat) : Int) - ((0 : Nat) : Int)))))) 0 rfl rfl rfl rfl ?_
 refine RL.nt ?_
 obtain ⟨s35, hj, hb⟩ := bd hb
 refine RC.jn (fun (s35 : (List Pin)) (σ : Nat → Value) (w : World) => ∃ v36 : Value, agree σ [(0, v36)] ∧ Holds E w ([own 43 v36 s35] ++ Γ)) s35 ?_ ?_
 ·refine RC.cond (b := (decide ((IntKind.wrap .i64 (p1 - (IntKind.wrap .i64 (((0 : Nat) : Int) - ((0 : Nat) : Int))))) > 0))) rfl (fun hc => ?_) (fun hc => ?_)
  rotate_left
  ·replace hj := cF hc hj
   refine RC.skip ?_
   obtain rfl := oi hj
   have hw := hw.own_nil Pin 43
   exact ⟨rfl, (.slice none 0 0), ⟨rfl, trivial⟩, hw.pick 1 [0] (new := [own 43 (.slice none 0 0) ([] : (List Pin))]) rfl rfl (by decide) (by decide)⟩
  replace hj := cT hc hj
  refine RC.region ?_
  refine mv (.slice none 0 0) rfl rfl ?_
  refine mv (.slice none 0 0) rfl rfl ?_
  refine RL.cap_nil trivial rfl rfl un35 ?_
  refine RL.cut_nil Pin trivial rfl rfl sl35 (.inr ⟨rfl, rfl⟩) (.inl rfl) rfl rfl ?_
  refine mv (vi (IntKind.wrap .i64 (p1 - (IntKind.wrap .i64 (((0 : Nat) : Int) - ((0 : Nat) : Int)))))) rfl rfl ?_
  obtain ⟨x37, hx37, hj⟩ := bd hj
  refine RL.appz_nil (k := (IntKind.wrap .i64 (p1 - (IntKind.wrap .i64 (((0 : Nat) : Int) - ((0 : Nat) : Int)))))) trivial rfl hw rfl rfl el35 un3 zd43 hx37 fun v38 w hw => ?_
  refine mv (.slice none 0 0) rfl rfl ?_
  refine RL.lenl (m := 0) trivial rfl rfl un35 ?_
  obtain ⟨x39, hx39, hj⟩ := bd hj
  refine RL.cut_own (i := 0) trivial rfl hw rfl rfl sl35 (.inr ⟨rfl, rfl⟩) (.inl rfl) hx39 fun v40 hw => ?_
  refine as_ v40 rfl rfl ?_
  refine RL.nil ?_
  obtain rfl := oi hj
  exact ⟨rfl, v40, ⟨rfl, trivial⟩, hw.pick 1 [0] (new := [own 43 v40 x39]) rfl rfl (by decide) (by decide)⟩
 rintro σ w ⟨v36, ha, hw⟩
 obtain ⟨τ, rfl⟩ := ha.ups
 refine thenQ_n ?_
 refine RC.sr ?_
 refine mv v36 rfl rfl ?_
 refine as_ v36 rfl rfl ?_
 refine RL.nt ?_
 refine RC.ret ?_
 obtain rfl := oi hb
 exact fin1 rfl rfl (hw.pick 1 [0] (new := [own 43 v36 s35]) rfl rfl (by decide) (by decide))
def slices_Concat_Pin_R (E : World) (Γ : List HP) (res : (List Pin)) (v : Value) (w : World) : Prop := Holds E w (own 43 v res :: Γ)
theorem slices_Concat_Pin_ok (N : Nat) {E w : World} {Γ : List HP} {i0 : Nat} {v0 : Value} {p0 : (List (List Pin))} {res : (List Pin)} (hw : Holds E w Γ) (h0 : Γ[i0]? = some (rd v0 p0)) (hb : slices_Concat_Pin N p0 = some res) :
    Calls Tryz.prog 18 [v0].toArray w (Ret (slices_Concat_Pin_R E Γ res)) := by
 unfold slices_Concat_Pin at hb
 refine enter Tryz.func18 rfl rfl (Nat.le_of_ble_eq_true rfl) ?_
 have hw := hw.dup (i := i0 + 0) h0
 refine RC.sr ?_
 refine as_ (.slice none 0 0) rfl rfl ?_
 refine RL.ns ?_
 refine as_ (vi 0) rfl rfl ?_
 refine RL.nq ?_
 refine RC.sr ?_
 refine mv v0 rfl rfl ?_
 refine RL.len_rd (i := 0) (l := p0) trivial rfl hw rfl rfl un78 ?_
 refine mv (vi 0) rfl rfl ?_
 refine RL.nt ?_
 obtain ⟨s32, hN, hb⟩ := bd hb
 refine RC.fold (fun (k31 : Nat) (s32 : Int) (σ : Nat → Value) (w : World) => agree σ [(0, v0), (3, (vi s32)), (9, v0), (10, (vi (p0.length : Int))), (11, (vi (k31 : Int)))] ∧ Holds E w ([rd v0 p0] ++ Γ)) (fun (s32 : Int) (σ : Nat → Value) (w : World) => agree σ [(0, v0), (3, (vi s32))] ∧ Holds E w ([rd v0 p0] ++ Γ)) hN ?_ ?_ ?_ ?_
 ·exact ⟨⟨rfl, rfl, rfl, rfl, rfl, trivial⟩, hw.pick 1 [0] (new := [rd v0 p0]) rfl rfl (by decide) (by decide)⟩
 ·intro hm s32 σ w hI
  obtain ⟨ha, hw⟩ := hI
  obtain ⟨τ, rfl⟩ := ha.ups
  refine RC.sr ?_
  refine ic ((p0.length : Int)) ((p0.length : Int)) rfl rfl rfl rfl ?_
  refine RL.nq ?_
  refine RC.cond_f dge ?_
  refine RC.ex ?_
  exact ⟨rfl, ⟨rfl, rfl, trivial⟩, hw.pick 1 [0] (new := [rd v0 p0]) rfl rfl (by decide) (by decide)⟩
 ·intro hm k31 s32 s' σ w hk hI hb
  obtain ⟨ha, hw⟩ := hI
  obtain ⟨τ, rfl⟩ := ha.ups
  refine RC.sr ?_
  refine ic ((k31 : Int)) ((p0.length : Int)) rfl rfl rfl rfl ?_
  refine RL.nq ?_
  refine RC.cond_t (dlt hk) ?_
  refine RC.ss ?_
  refine RC.bs ?_
  obtain ⟨x39, hx39, hb⟩ := bd hb
  refine RL.ia_rd (i := 0) trivial rfl hw rfl rfl rfl sl78 hx39 fun v40 hw => ?_
  refine RL.load_pt (i := 0) (x := x39) trivial rfl hw rfl rfl ty35 fun v41 hw => ?_
  refine as_ v41 rfl rfl ?_
  refine RL.ns ?_
  refine mv (vi s32) rfl rfl ?_
  refine mv v41 rfl rfl ?_
  refine RL.len_rd (i := 0) (l := x39) trivial rfl hw rfl rfl un35 ?_
  refine RL.iar (a := s32) (b := (x39.length : Int)) trivial rfl rfl rfl rfl ?_
  refine as_ (vi (IntKind.wrap .i64 (s32 + (x39.length : Int)))) rfl rfl ?_
  refine RL.ns ?_
  refine mv (vi (IntKind.wrap .i64 (s32 + (x39.length : Int)))) rfl rfl ?_
  refine ic ((IntKind.wrap .i64 (s32 + (x39.length : Int)))) 0 rfl rfl rfl rfl ?_
  refine RL.nt ?_
  refine RC.cond (b := (decide ((IntKind.wrap .i64 (s32 + (x39.length : Int))) < 0))) rfl (fun hc => ?_) (fun hc => ?_)
  ·replace hb := cT hc hb
   cases hb
  replace hb := cF hc hb
  refine RC.skip ?_
  refine blkQ_n ?_
  refine thenQ_n ?_
  refine RC.region ?_
  refine RL.inc trivial rfl hk hm rfl rfl ?_
  refine mv (vi ((k31 + 1 : Nat) : Int)) rfl rfl ?_
  refine RL.nil ?_
  obtain rfl := oi hb
  exact ⟨rfl, ⟨rfl, rfl, rfl, rfl, rfl, trivial⟩, hw.pick 3 [2] (new := [rd v0 p0]) rfl rfl (by decide) (by decide)⟩
 intro σ w hJ
 obtain ⟨ha, hw⟩ := hJ
 obtain ⟨τ, rfl⟩ := ha.ups
 refine thenQ_n ?_
 refine RC.sr ?_
 refine mv (vi s32) rfl rfl ?_
 obtain ⟨x42, hx42, hb⟩ := bd hb
 refine RL.call trivial rfl fn40 [(.slice none 0 0), (vi s32)] rfl (Calls_ret (slices_Grow_Pin_nil_ok N (p1 := s32)  hw  hx42) ?_)
 rintro v43 w hw
 refine as_ v43 rfl rfl ?_
 refine RL.nq ?_
 refine RC.sr ?_
 refine mv v0 rfl rfl ?_
 refine RL.len_rd (i := 1) (l := p0) trivial rfl hw rfl rfl un78 ?_
 refine mv (vi 0) rfl rfl ?_
 refine RL.nt ?_
 obtain ⟨s45, hN, hb⟩ := bd hb
 refine RC.fold (fun (k44 : Nat) (s45 : (List Pin)) (σ : Nat → Value) (w : World) => ∃ v58 : Value, agree σ [(6, v58), (25, v0), (26, (vi (p0.length : Int))), (27, (vi (k44 : Int)))] ∧ Holds E w ([rd v0 p0, own 43 v58 s45] ++ Γ)) (fun (s45 : (List Pin)) (σ : Nat → Value) (w : World) => ∃ v59 : Value, agree σ [(6, v59)] ∧ Holds E w ([rd v0 p0, own 43 v59 s45] ++ Γ)) hN ?_ ?_ ?_ ?_
 ·exact ⟨v43, ⟨rfl, rfl, rfl, rfl, trivial⟩, hw.pick 2 [1, 0] (new := [rd v0 p0, own 43 v43 x42]) rfl rfl (by decide) (by decide)⟩
 ·intro hm s45 σ w hI
  obtain ⟨v66, ha, hw⟩ := hI
  obtain ⟨τ, rfl⟩ := ha.ups
  refine RC.sr ?_
  refine ic ((p0.length : Int)) ((p0.length : Int)) rfl rfl rfl rfl ?_
  refine RL.nq ?_
  refine RC.cond_f dge ?_
  refine RC.ex ?_
  exact ⟨rfl, v66, ⟨rfl, trivial⟩, hw.pick 2 [0, 1] (new := [rd v0 p0, own 43 v66 s45]) rfl rfl (by decide) (by decide)⟩
 ·intro hm k44 s45 s' σ w hk hI hb
  obtain ⟨v60, ha, hw⟩ := hI
  obtain ⟨τ, rfl⟩ := ha.ups
  refine RC.sr ?_
  refine ic ((k44 : Int)) ((p0.length : Int)) rfl rfl rfl rfl ?_
  refine RL.nq ?_
  refine RC.cond_t (dlt hk) ?_
  refine RC.ss ?_
  refine RC.bs ?_
  obtain ⟨x61, hx61, hb⟩ := bd hb
  refine RL.ia_rd (i := 0) trivial rfl hw rfl rfl rfl sl78 hx61 fun v62 hw => ?_
  refine RL.load_pt (i := 0) (x := x61) trivial rfl hw rfl rfl ty35 fun v63 hw => ?_
  refine as_ v63 rfl rfl ?_
  refine RL.nt ?_
  refine RC.region ?_
  refine mv v60 rfl rfl ?_
  refine mv v63 rfl rfl ?_
  obtain ⟨x64, hx64, hb⟩ := bd hb
  refine RL.app (i := 3) (j := 0) trivial rfl hw rfl rfl rfl rfl el35 hx64 fun v65 w hw => ?_
  refine as_ v65 rfl rfl ?_
  refine RL.nil ?_
  refine blkQ_n ?_
  refine thenQ_n ?_
  refine RC.region ?_
  refine RL.inc trivial rfl hk hm rfl rfl ?_
  refine mv (vi ((k44 + 1 : Nat) : Int)) rfl rfl ?_
  refine RL.nil ?_
  obtain rfl := oi hb
  exact ⟨rfl, v65, ⟨rfl, rfl, rfl, rfl, trivial⟩, hw.pick 4 [2, 3] (new := [rd v0 p0, own 43 v65 x64]) rfl rfl (by decide) (by decide)⟩
 intro σ w hJ
 obtain ⟨v59, ha, hw⟩ := hJ
 obtain ⟨τ, rfl⟩ := ha.ups
 refine thenQ_n ?_
 refine RC.sr ?_
 refine mv v59 rfl rfl ?_
 refine as_ v59 rfl rfl ?_
 refine RL.nt ?_
 refine RC.ret ?_
 obtain rfl := oi hb
 exact fin1 rfl rfl (hw.pick 2 [1] (new := [own 43 v59 s45]) rfl rfl (by decide) (by decide))
def etchhouseref2_sortedPins_R (E : World) (Γ : List HP) (res : (List Pin)) (v : Value) (w : World) : Prop := Holds E w (own 43 v res :: Γ)
theorem etchhouseref2_sortedPins_ok (N : Nat) {E w : World} {Γ : List HP} {i0 : Nat} {v0 : Value} {p0 : (List Pin)} {res : (List Pin)} (hw : Holds E w Γ) (h0 : Γ[i0]? = some (rd v0 p0)) (hb : etchhouseref2_sortedPins N p0 = some res) :
    Calls Tryz.prog 17 [v0].toArray w (Ret (etchhouseref2_sortedPins_R E Γ res)) := by
 unfold etchhouseref2_sortedPins at hb
 refine enter Tryz.func17 rfl rfl (Nat.le_of_ble_eq_true rfl) ?_
 have hw := hw.dup (i := i0 + 0) h0
 refine RC.sr ?_
 refine as_ (.slice none 0 0) rfl rfl ?_
 refine RL.ns ?_
 refine as_ (.slice none 0 0) rfl rfl ?_
 refine RL.nq ?_
 refine RC.sr ?_
 refine mv v0 rfl rfl ?_
 refine RL.len_rd (i := 0) (l := p0) trivial rfl hw rfl rfl un35 ?_
 refine mv (vi 0) rfl rfl ?_
 refine RL.nt ?_
 obtain ⟨s32, hN, hb⟩ := bd hb
 refine RC.fold (fun (k31 : Nat) (s32 : (List Pin)) (σ : Nat → Value) (w : World) => ∃ v159 : Value, agree σ [(3, v159), (7, v0), (8, (vi (p0.length : Int))), (9, (vi (k31 : Int)))] ∧ Holds E w ([rd v0 p0, own 43 v159 s32] ++ Γ)) (fun (s32 : (List Pin)) (σ : Nat → Value) (w : World) => ∃ v160 : Value, agree σ [(3, v160)] ∧ Holds E w ([rd v0 p0, own 43 v160 s32] ++ Γ)) hN ?_ ?_ ?_ ?_
 ·have hw := hw.own_nil Pin 43
  exact ⟨(.slice none 0 0), ⟨rfl, rfl, rfl, rfl, trivial⟩, hw.pick 2 [1, 0] (new := [rd v0 p0, own 43 (.slice none 0 0) ([] : (List Pin))]) rfl rfl (by decide) (by decide)⟩
 ·intro hm s32 σ w hI
  obtain ⟨v218, ha, hw⟩ := hI
  obtain ⟨τ, rfl⟩ := ha.ups
  refine RC.sr ?_
  refine ic ((p0.length : Int)) ((p0.length : Int)) rfl rfl rfl rfl ?_
  refine RL.nq ?_
  refine RC.cond_f dge ?_
  refine RC.ex ?_
  exact ⟨rfl, v218, ⟨rfl, trivial⟩, hw.pick 2 [0, 1] (new := [rd v0 p0, own 43 v218 s32]) rfl rfl (by decide) (by decide)⟩
 ·intro hm k31 s32 s' σ w hk hI hb
  obtain ⟨v161, ha, hw⟩ := hI
  obtain ⟨τ, rfl⟩ := ha.ups
  refine RC.sr ?_
  refine ic ((k31 : Int)) ((p0.length : Int)) rfl rfl rfl rfl ?_
  refine RL.nq ?_
  refine RC.cond_t (dlt hk) ?_
  refine RC.ss ?_
  refine RC.bs ?_
  obtain ⟨x162, hx162, hb⟩ := bd hb
  refine RL.ia_rd (i := 0) trivial rfl hw rfl rfl rfl sl35 hx162 fun v163 hw => ?_
  refine RL.load_pt (i := 0) (x := x162) trivial rfl hw rfl rfl ty43 fun v164 hw => ?_
  refine RL.alloc trivial rfl hw ze43.z fun b165 w hw => ?_
  refine RL.store_raw (i := 0) (j := 1) trivial hw rfl rfl rfl rfl ty43 rfl fun w hw => ?_
  refine RL.ns ?_
  refine mv v161 rfl rfl ?_
  refine RL.len_own (i := 4) (l := s32) trivial rfl hw rfl rfl un35 ?_
  refine as_ (vi (s32.length : Int)) rfl rfl ?_
  refine RL.nq ?_
  obtain ⟨o217, hN, hb⟩ := bd hb
  refine RC.iter (fun (s167 : Int) (σ : Nat → Value) (w : World) => agree σ [(3, v161), (5, (vp b165 0)), (6, (vi s167)), (7, v0), (8, (vi (p0.length : Int))), (9, (vi (k31 : Int)))] ∧ Holds E w ([own 43 v161 s32, bx 43 b165 x162, rd v0 p0] ++ Γ)) (fun (s167 : Int) (σ : Nat → Value) (w : World) => agree σ [(3, v161), (5, (vp b165 0)), (6, (vi s167)), (7, v0), (8, (vi (p0.length : Int))), (9, (vi (k31 : Int)))] ∧ Holds E w ([own 43 v161 s32, bx 43 b165 x162, rd v0 p0] ++ Γ)) (fun (r : Empty) (_ : Nat → Value) (_ : World) => r.elim) hN ?_ ?_ ?_ ?_ 
  ·exact ⟨⟨rfl, rfl, rfl, rfl, rfl, rfl, trivial⟩, hw.pick 5 [4, 0, 3] (new := [own 43 v161 s32, bx 43 b165 x162, rd v0 p0]) rfl rfl (by decide) (by decide)⟩
  ·intro s167 fl σ w hI hb
   obtain ⟨ha, hw⟩ := hI
   obtain ⟨τ, rfl⟩ := ha.ups
   refine RC.seq ?_
   refine RC.seq ?_
   obtain ⟨s205, hj, hb⟩ := bd hb
   refine RC.jn (fun (s205 : Bool) (σ : Nat → Value) (w : World) => agree σ [(3, v161), (5, (vp b165 0)), (6, (vi s167)), (7, v0), (8, (vi (p0.length : Int))), (9, (vi (k31 : Int))), (25, (vb s205))] ∧ Holds E w ([own 43 v161 s32, bx 43 b165 x162, rd v0 p0] ++ Γ)) s205 ?_ ?_
   ·rcases Bool.eq_false_or_eq_true (decide (s167 > 0)) with hg206 | hg206
    rotate_left
    ·replace hj := cF hg206 hj
     refine RC.drw mixed rfl (fun (D : Nat → Bool) (σ : Nat → Value) (w : World) => doneV D σ [(0, 15, (vi s167)), (1, 16, (vb (decide (s167 > 0)))), (2, 17, (vb (decide (s167 > 0)))), (3, 18, undef), (4, 19, undef), (5, 20, undef), (6, 21, undef), (7, 22, undef), (8, 23, undef), (9, 24, undef), (10, 25, (vb false))] ∧ agree σ [(3, v161), (5, (vp b165 0)), (6, (vi s167)), (7, v0), (8, (vi (p0.length : Int))), (9, (vi (k31 : Int)))] ∧ Holds E w ([own 43 v161 s32, bx 43 b165 x162, rd v0 p0] ++ Γ)) ?_ ⟨?_, ?_, ?_, ?_, ?_, ?_, ?_, ?_, ?_, ?_, ?_, trivial⟩ ?_
     ·have hw := hw.drew
      exact ⟨doneV.none, ⟨rfl, rfl, rfl, rfl, rfl, rfl, trivial⟩, hw⟩
     ·rintro D σ w hD hdep hcl ⟨hv, ha, hw⟩
      obtain ⟨τ, rfl⟩ := (ac (ha.at 2 rfl) az).ups
      refine mv (vi s167) rfl rfl ?_
      refine RL.nil ?_
      exact ⟨rfl, hv.put 0 rfl rfl, ha.up rfl, hw⟩
     ·rintro D σ w hD hdep hcl ⟨hv, ha, hw⟩
      obtain ⟨τ, rfl⟩ := (ac (hv.at 0 rfl (hdep.1 rfl)) az).ups
      refine ic s167 0 rfl rfl rfl rfl ?_
      refine RL.nil ?_
      exact ⟨rfl, hv.put 1 rfl rfl, ha.up rfl, hw⟩
     ·rintro D σ w hD hdep hcl ⟨hv, ha, hw⟩
      obtain ⟨τ, rfl⟩ := (ac (hv.at 1 rfl (hdep.1 rfl)) az).ups
      refine mv (vb (decide (s167 > 0))) rfl rfl ?_
      refine RL.nil ?_
      exact ⟨rfl, hv.put 2 rfl rfl, ha.up rfl, hw⟩
     ·rintro D σ w hD hdep hcl ⟨hv, ha, hw⟩
      obtain ⟨τ, rfl⟩ := (ac (hv.at 2 rfl (hdep.1 rfl)) (ac (ha.at 1 rfl) az)).ups
      refine sk rfl (.inl (cb hg206)) rfl ?_
      refine RL.nil ?_
      exact ⟨rfl, hv.put 3 rfl rfl, ha.up rfl, hw⟩
     ·rintro D σ w hD hdep hcl ⟨hv, ha, hw⟩
      obtain ⟨τ, rfl⟩ := (ac (hv.at 2 rfl (hdep.1 rfl)) (ac (ha.at 0 rfl) az)).ups
      refine sk rfl (.inl (cb hg206)) rfl ?_
      refine RL.nil ?_
      exact ⟨rfl, hv.put 4 rfl rfl, ha.up rfl, hw⟩
     ·rintro D σ w hD hdep hcl ⟨hv, ha, hw⟩
      obtain ⟨τ, rfl⟩ := (ac (hv.at 2 rfl (hdep.1 rfl)) (ac (ha.at 2 rfl) az)).ups
      refine sk rfl (.inl (cb hg206)) rfl ?_
      refine RL.nil ?_
      exact ⟨rfl, hv.put 5 rfl rfl, ha.up rfl, hw⟩
     ·rintro D σ w hD hdep hcl ⟨hv, ha, hw⟩
      obtain ⟨τ, rfl⟩ := (ac (hv.at 2 rfl (hdep.2.1 rfl)) (ac (hv.at 5 rfl (hdep.1 rfl)) az)).ups
      refine sk rfl (.inl (cb hg206)) rfl ?_
      refine RL.nil ?_
      exact ⟨rfl, hv.put 6 rfl rfl, ha.up rfl, hw⟩
     ·rintro D σ w hD hdep hcl ⟨hv, ha, hw⟩
      obtain ⟨τ, rfl⟩ := (ac (hv.at 2 rfl (hdep.2.2.1 rfl)) (ac (hv.at 4 rfl (hdep.1 rfl)) (ac (hv.at 6 rfl (hdep.2.1 rfl)) az))).ups
      refine sk rfl (.inl (cb hg206)) rfl ?_
      refine RL.nil ?_
      exact ⟨rfl, hv.put 7 rfl rfl, ha.up rfl, hw⟩
     ·rintro D σ w hD hdep hcl ⟨hv, ha, hw⟩
      obtain ⟨τ, rfl⟩ := (ac (hv.at 2 rfl (hdep.2.1 rfl)) (ac (hv.at 7 rfl (hdep.1 rfl)) az)).ups
      refine sk rfl (.inl (cb hg206)) rfl ?_
      refine RL.nil ?_
      exact ⟨rfl, hv.put 8 rfl rfl, ha.up rfl, hw⟩
     ·rintro D σ w hD hdep hcl ⟨hv, ha, hw⟩
      obtain ⟨τ, rfl⟩ := (ac (hv.at 2 rfl (hdep.2.2.1 rfl)) (ac (hv.at 3 rfl (hdep.1 rfl)) (ac (hv.at 8 rfl (hdep.2.1 rfl)) az))).ups
      refine sk rfl (.inl (cb hg206)) rfl ?_
      refine RL.nil ?_
      exact ⟨rfl, hv.put 9 rfl rfl, ha.up rfl, hw⟩
     ·rintro D σ w hD hdep hcl ⟨hv, ha, hw⟩
      obtain ⟨τ, rfl⟩ := (ac (hv.at 2 rfl (hdep.1 rfl)) (ac (hv.at 9 rfl (hdep.2.1 rfl)) az)).ups
      refine RL.pick (b := (decide (s167 > 0))) (v := (vb false)) trivial rfl rfl (by rw [hg206]; rfl) ?_
      refine RL.nil ?_
      exact ⟨rfl, hv.put 10 rfl rfl, ha.up rfl, hw⟩
     rintro D σ w hall ⟨hv, ha, hw⟩
     obtain ⟨τ, rfl⟩ := (ac (hv.at 10 rfl (hall 10 (by decide))) (ac (ha.at 0 rfl) (ac (ha.at 1 rfl) (ac (ha.at 2 rfl) (ac (ha.at 3 rfl) (ac (ha.at 4 rfl) (ac (ha.at 5 rfl) az))))))).ups
     obtain rfl := oi hj
     exact ⟨rfl, ⟨rfl, rfl, rfl, rfl, rfl, rfl, rfl, trivial⟩, hw.pick 3 [0, 1, 2] (new := [own 43 v161 s32, bx 43 b165 x162, rd v0 p0]) rfl rfl (by decide) (by decide)⟩
    replace hj := cT hg206 hj
    obtain ⟨x208, hx208, hj⟩ := bd hj
    obtain ⟨x210, hx210, hj⟩ := bd hj
    refine RC.drw mixed rfl (fun (D : Nat → Bool) (σ : Nat → Value) (w : World) => ∃ (v207 : Value) (v209 : Value), doneV D σ [(0, 15, (vi s167)), (1, 16, (vb (decide (s167 > 0)))), (2, 17, (vb (decide (s167 > 0)))), (3, 18, v207), (4, 19, v161), (5, 20, (vi s167)), (6, 21, (vi (IntKind.wrap .i64 (s167 - 1)))), (7, 22, (elA v161 (Int.toNat (IntKind.wrap .i64 (s167 - 1))) 2 0)), (8, 23, v209), (9, 24, (vb x210)), (10, 25, (vb x210))] ∧ agree σ [(3, v161), (5, (vp b165 0)), (6, (vi s167)), (7, v0), (8, (vi (p0.length : Int))), (9, (vi (k31 : Int)))] ∧ Holds E w ([bif D 3 then (rd v207 x162) else junk, bif D 8 then (rd v209 x208) else junk, own 43 v161 s32, bx 43 b165 x162, rd v0 p0] ++ Γ)) ?_ ⟨?_, ?_, ?_, ?_, ?_, ?_, ?_, ?_, ?_, ?_, ?_, trivial⟩ ?_
    ·have hw := hw.drew
     have hw := hw.junk
     have hw := hw.junk
     exact ⟨undef, undef, doneV.none, ⟨rfl, rfl, rfl, rfl, rfl, rfl, trivial⟩, hw⟩
    ·rintro D σ w hD hdep hcl ⟨v207, v209, hv, ha, hw⟩
     obtain ⟨τ, rfl⟩ := (ac (ha.at 2 rfl) az).ups
     refine mv (vi s167) rfl rfl ?_
     refine RL.nil ?_
     exact ⟨rfl, v207, v209, hv.put 0 rfl rfl, ha.up rfl, hw⟩
    ·rintro D σ w hD hdep hcl ⟨v207, v209, hv, ha, hw⟩
     obtain ⟨τ, rfl⟩ := (ac (hv.at 0 rfl (hdep.1 rfl)) az).ups
     refine ic s167 0 rfl rfl rfl rfl ?_
     refine RL.nil ?_
     exact ⟨rfl, v207, v209, hv.put 1 rfl rfl, ha.up rfl, hw⟩
    ·rintro D σ w hD hdep hcl ⟨v207, v209, hv, ha, hw⟩
     obtain ⟨τ, rfl⟩ := (ac (hv.at 1 rfl (hdep.1 rfl)) az).ups
     refine mv (vb (decide (s167 > 0))) rfl rfl ?_
     refine RL.nil ?_
     exact ⟨rfl, v207, v209, hv.put 2 rfl rfl, ha.up rfl, hw⟩
    ·rintro D σ w hD hdep hcl ⟨v207, v209, hv, ha, hw⟩
     obtain ⟨τ, rfl⟩ := (ac (hv.at 2 rfl (hdep.1 rfl)) (ac (ha.at 1 rfl) az)).ups
     have hw := hw.selF (i := 0) rfl hD
     refine RL.load_bf (i := 3) (f := (fun x => x)) ⟨_, rfl, cb hg206⟩ rfl hw rfl rfl Fd.self ty43 fun v211 hw => ?_
     have hw := hw.pick 6 [0, 2, 3, 4, 5] (new := [rd v211 x162, bif D 8 then (rd v209 x208) else junk, own 43 v161 s32, bx 43 b165 x162, rd v0 p0]) rfl rfl (by decide) (by decide)
     have hw := hw.altT (i := 0) (b := true) rfl rfl (junk)
     refine RL.nil ?_
     exact ⟨rfl, v211, v209, hv.put 3 rfl rfl, ha.up rfl, hw⟩
    ·rintro D σ w hD hdep hcl ⟨v207, v209, hv, ha, hw⟩
     obtain ⟨τ, rfl⟩ := (ac (hv.at 2 rfl (hdep.1 rfl)) (ac (ha.at 0 rfl) az)).ups
     refine RL.move (v := v161) ⟨_, rfl, cb hg206⟩ rfl rfl ?_
     refine RL.nil ?_
     exact ⟨rfl, v207, v209, hv.put 4 rfl rfl, ha.up rfl, hw⟩
    ·rintro D σ w hD hdep hcl ⟨v207, v209, hv, ha, hw⟩
     obtain ⟨τ, rfl⟩ := (ac (hv.at 2 rfl (hdep.1 rfl)) (ac (ha.at 2 rfl) az)).ups
     refine RL.move (v := (vi s167)) ⟨_, rfl, cb hg206⟩ rfl rfl ?_
     refine RL.nil ?_
     exact ⟨rfl, v207, v209, hv.put 5 rfl rfl, ha.up rfl, hw⟩
    ·rintro D σ w hD hdep hcl ⟨v207, v209, hv, ha, hw⟩
     obtain ⟨τ, rfl⟩ := (ac (hv.at 2 rfl (hdep.2.1 rfl)) (ac (hv.at 5 rfl (hdep.1 rfl)) az)).ups
     refine RL.iar (a := s167) (b := 1) ⟨_, rfl, cb hg206⟩ rfl rfl rfl rfl ?_
     refine RL.nil ?_
     exact ⟨rfl, v207, v209, hv.put 6 rfl rfl, ha.up rfl, hw⟩
    ·rintro D σ w hD hdep hcl ⟨v207, v209, hv, ha, hw⟩
     obtain ⟨τ, rfl⟩ := (ac (hv.at 2 rfl (hdep.2.2.1 rfl)) (ac (hv.at 4 rfl (hdep.1 rfl)) (ac (hv.at 6 rfl (hdep.2.1 rfl)) az))).ups
     refine RL.ia_ownA (i := 2) ⟨_, rfl, cb hg206⟩ rfl hw rfl rfl rfl sl35 hx208 ?_
     refine RL.nil ?_
     exact ⟨rfl, v207, v209, hv.put 7 rfl rfl, ha.up rfl, hw⟩
    ·rintro D σ w hD hdep hcl ⟨v207, v209, hv, ha, hw⟩
     obtain ⟨τ, rfl⟩ := (ac (hv.at 2 rfl (hdep.2.1 rfl)) (ac (hv.at 7 rfl (hdep.1 rfl)) az)).ups
     have hw := hw.selF (i := 1) rfl hD
     refine RL.load_el (i := 2) (f := (fun x => x)) ⟨_, rfl, cb hg206⟩ rfl hw rfl (elp hw (i := 2) rfl hx208 0) rfl (idx_some hx208).2.1 Fd.self ty43 fun v212 hw => ?_
     have hw := hw.pick 6 [1, 0, 3, 4, 5] (new := [bif D 3 then (rd v207 x162) else junk, rd v212 x208, own 43 v161 s32, bx 43 b165 x162, rd v0 p0]) rfl rfl (by decide) (by decide)
     have hw := hw.altT (i := 1) (b := true) rfl rfl (junk)
     refine RL.nil ?_
     exact ⟨rfl, v207, v212, hv.put 8 rfl rfl, ha.up rfl, hw⟩
    ·rintro D σ w hD hdep hcl ⟨v207, v209, hv, ha, hw⟩
     obtain ⟨τ, rfl⟩ := (ac (hv.at 2 rfl (hdep.2.2.1 rfl)) (ac (hv.at 3 rfl (hdep.1 rfl)) (ac (hv.at 8 rfl (hdep.2.1 rfl)) az))).ups
     have hw := hw.selT (i := 0) rfl (hdep.1 rfl)
     have hw := hw.selT (i := 1) rfl (hdep.2.1 rfl)
     refine RL.call ⟨_, rfl, cb hg206⟩ rfl fn38 [v207, v209] rfl (Calls_ret (etchhouseref2_before_ok N  (i0 := 0) (i1 := 1) hw rfl rfl hx210) ?_)
     rintro _ w ⟨rfl, hw⟩
     have hw := hw.altT (i := 0) (b := D 3) rfl (hdep.1 rfl) (junk)
     have hw := hw.altT (i := 1) (b := D 8) rfl (hdep.2.1 rfl) (junk)
     refine RL.nil ?_
     exact ⟨rfl, v207, v209, hv.put 9 rfl rfl, ha.up rfl, hw⟩
    ·rintro D σ w hD hdep hcl ⟨v207, v209, hv, ha, hw⟩
     obtain ⟨τ, rfl⟩ := (ac (hv.at 2 rfl (hdep.1 rfl)) (ac (hv.at 9 rfl (hdep.2.1 rfl)) az)).ups
     refine RL.pick (b := (decide (s167 > 0))) (v := (vb x210)) trivial rfl rfl (by rw [hg206]; rfl) ?_
     refine RL.nil ?_
     exact ⟨rfl, v207, v209, hv.put 10 rfl rfl, ha.up rfl, hw⟩
    rintro D σ w hall ⟨v207, v209, hv, ha, hw⟩
    rw [hall 3 (by decide), hall 8 (by decide)] at hw
    obtain ⟨τ, rfl⟩ := (ac (hv.at 10 rfl (hall 10 (by decide))) (ac (ha.at 0 rfl) (ac (ha.at 1 rfl) (ac (ha.at 2 rfl) (ac (ha.at 3 rfl) (ac (ha.at 4 rfl) (ac (ha.at 5 rfl) az))))))).ups
    obtain rfl := oi hj
    exact ⟨rfl, ⟨rfl, rfl, rfl, rfl, rfl, rfl, rfl, trivial⟩, hw.pick 5 [2, 3, 4] (new := [own 43 v161 s32, bx 43 b165 x162, rd v0 p0]) rfl rfl (by decide) (by decide)⟩
   rintro σ w ⟨ha, hw⟩
   obtain ⟨τ, rfl⟩ := ha.ups
   refine thenQ_n ?_
   refine RC.cond (b := s205) rfl (fun hc => ?_) (fun hc => ?_)
   rotate_left
   ·replace hb := cF hc hb
    refine RC.ex ?_
    obtain rfl := oi hb
    exact ⟨rfl, ⟨rfl, rfl, rfl, rfl, rfl, rfl, trivial⟩, hw.pick 3 [0, 1, 2] (new := [own 43 v161 s32, bx 43 b165 x162, rd v0 p0]) rfl rfl (by decide) (by decide)⟩
   replace hb := cT hc hb
   refine RC.sn ?_
   refine RC.block ?_
   refine RC.region ?_
   refine mv (vi s167) rfl rfl ?_
   refine RL.iar (a := s167) (b := 1) trivial rfl rfl rfl rfl ?_
   refine as_ (vi (IntKind.wrap .i64 (s167 - 1))) rfl rfl ?_
   refine RL.nil ?_
   refine blkQ_n ?_
   obtain rfl := oi hb
   exact ⟨rfl, ⟨rfl, rfl, rfl, rfl, rfl, rfl, trivial⟩, hw.pick 3 [0, 1, 2] (new := [own 43 v161 s32, bx 43 b165 x162, rd v0 p0]) rfl rfl (by decide) (by decide)⟩
  ·intro r _ _ _ _
   exact r.elim
  intro s167 σ w e hJ
  subst e
  rw [Fo.cs_go] at hb
  obtain ⟨ha, hw⟩ := hJ
  obtain ⟨τ, rfl⟩ := ha.ups
  refine thenQ_n ?_
  refine RC.region ?_
  refine mv v161 rfl rfl ?_
  refine mv (vi s167) rfl rfl ?_
  refine RL.load_bf (i := 1) (f := (fun x => x)) trivial rfl hw rfl rfl Fd.self ty43 fun v213 hw => ?_
  refine RL.bslice (l := ([x162] : (List Pin))) trivial rfl hw [v213] rfl rfl rfl sl35 ze43 (fun M hs g => ⟨(g.sat 0 _ rfl).1, trivial⟩) fun v214 w hw => ?_
  obtain ⟨x215, hx215, hb⟩ := bd hb
  have hw := hw.pull (i := 0) rfl
  have hw := hw.pull (i := 3) rfl
  refine RL.call trivial rfl fn39 [v161, (vi s167), v214] rfl (Calls_ret (ins39_ok sl35 el35 zd43 hw hx215) ?_)
  rintro v216 w hw
  refine as_ v216 rfl rfl ?_
  refine RL.nil ?_
  refine blkQ_n ?_
  refine thenQ_n ?_
  refine RC.region ?_
  refine RL.inc trivial rfl hk hm rfl rfl ?_
  refine mv (vi ((k31 + 1 : Nat) : Int)) rfl rfl ?_
  refine RL.nil ?_
  obtain rfl := oi hb
  exact ⟨rfl, v216, ⟨rfl, rfl, rfl, rfl, trivial⟩, hw.pick 6 [5, 0] (new := [rd v0 p0, own 43 v216 x215]) rfl rfl (by decide) (by decide)⟩
 intro σ w hJ
 obtain ⟨v160, ha, hw⟩ := hJ
 obtain ⟨τ, rfl⟩ := ha.ups
 refine thenQ_n ?_
 refine RC.sr ?_
 refine mv v160 rfl rfl ?_
 refine as_ v160 rfl rfl ?_
 refine RL.nt ?_
 refine RC.ret ?_
 obtain rfl := oi hb
 exact fin1 rfl rfl (hw.pick 2 [1] (new := [own 43 v160 s32]) rfl rfl (by decide) (by decide))
end Go.Gk
