/-
  Printed by gen.py: Go functions as plain functions, and that they are.
-/
import Derived.Test.YtnjoaggeheokeaaDoorT
import Derived.Test.YtnjoaggeheokeaaDoorF4
import Derived.Test.YtnjoaggeheokeaaDoorF5
import Derived.Test.YtnjoaggeheokeaaDoorF8
import Derived.Test.YtnjoaggeheokeaaDoorF22
import Derived.Test.YtnjoaggeheokeaaDoorF28
import Derived.Test.YtnjoaggeheokeaaDoorF30
set_option linter.unusedVariables false
set_option linter.unusedSimpArgs false
set_option linter.unusedSectionVars false
set_option maxRecDepth 100000
set_option maxHeartbeats 4000000

namespace Go.Gk
open Go Go.Proofs
def etchhouseref2_Without_R (E : World) (Γ : List HP) (res : Netlist × Int) (v : Value) (w : World) : Prop := ∃ u0 : Value, v = .tuple #[u0, (vi res.2)] ∧ Holds E w (rd u0 res.1 :: Γ)
def etchhouseref2_Without_K (E : World) (Γ : List HP) (r : Netlist × Int) (σ : Nat → Value) (w : World) : Prop := finQ Tryd.prog 116 Tryd.f30 (etchhouseref2_Without_R E Γ r) .ret σ w
theorem etchhouseref2_Without_ok (N : Nat) {E w : World} {Γ : List HP} {i0 : Nat} {v0 : Value} {p0 : (List PartType)} {i1 : Nat} {v1 : Value} {p1 : Netlist} {i2 : Nat} {v2 : Value} {p2 : (List Str)} {res : Netlist × Int} (hw : Holds E w Γ) (h0 : Γ[i0]? = some (rd v0 p0)) (h1 : Γ[i1]? = some (rd v1 p1)) (h2 : Γ[i2]? = some (rd v2 p2)) (hb : etchhouseref2_Without N p0 p1 p2 = some res) :
    Calls Tryd.prog 30 [v0, v1, v2].toArray w (Ret (etchhouseref2_Without_R E Γ res)) := by
 unfold etchhouseref2_Without at hb
 refine enter Tryd.func30 rfl rfl (Nat.le_of_ble_eq_true rfl) ?_
 have hw := hw.dup (i := i0 + 0) h0
 have hw := hw.dup (i := i1 + 1) h1
 have hw := hw.dup (i := i2 + 2) h2
 refine RC.sr ?_
 refine RL.box_rd (i := 1) (v := v1) trivial rfl hw rfl rfl fun b31 w hw => ?_
 refine RL.alloc trivial rfl hw ze26.z fun b32 w hw => ?_
 refine as_ (vi 0) rfl rfl ?_
 refine RL.nq ?_
 refine RC.sr ?_
 refine mv v0 rfl rfl ?_
 refine RL.load_bf (i := 1) (f := (fun x => x)) trivial rfl hw rfl rfl Fd.self ty26 fun v33 hw => ?_
 obtain ⟨x34, hx34, hb⟩ := bd hb
 refine RL.call trivial rfl fn14 [v0, v33] rfl (Calls_ret (etchhouseref2_CheckList_ok N  (i0 := 5) (i1 := 0) hw rfl rfl hx34) ?_)
 rintro _ w ⟨rfl, hw⟩
 refine as_ (vi x34) rfl rfl ?_
 refine RL.ns ?_
 refine mv (vi x34) rfl rfl ?_
 refine ic x34 0 rfl rfl rfl rfl ?_
 refine RL.nt ?_
 refine RC.cond (b := (x34 != 0)) rfl (fun hc => ?_) (fun hc => ?_)
 ·replace hb := cT hc hb
  refine RC.sr ?_
  refine RL.buildc (zs := [(.slice none 0 0), (.slice none 0 0)]) (cs := [(.slice none 0 0), (.slice none 0 0)]) trivial rfl [] rfl st26 trivial rfl ?_
  refine mv (vi x34) rfl rfl ?_
  have hw := hw.rd_nil Part
  have hw := hw.rd_nil Net
  have hw := hw.rd_agg (cs := [(.slice none 0 0), (.slice none 0 0)]) (x := (⟨([] : (List Part)), ([] : (List Net))⟩ : Netlist)) (fun M hs g => ⟨[(.slice none 0 0)], [(.slice none 0 0)], rfl, (rd_one rfl (g.sat 1 _ rfl).1), (rd_one rfl (g.sat 0 _ rfl).1)⟩) rfl
  refine RL.store_raw (i := 4) (j := 0) trivial hw rfl rfl rfl rfl ty26 rfl fun w hw => ?_
  refine as_ (vi x34) rfl rfl ?_
  refine RL.nt ?_
  refine RC.rt ?_
  obtain rfl := oi hb
  exact finC2 (i := 4) rfl hw rfl rfl ty26 rfl fun v35 hw => ⟨v35, rfl, hw.pick 10 [0] (new := [rd v35 (⟨([] : (List Part)), ([] : (List Net))⟩ : Netlist)]) rfl rfl (by decide) (by decide)⟩
 replace hb := cF hc hb
 refine RC.ss ?_
 refine RC.sr ?_
 refine mv v2 rfl rfl ?_
 refine RL.len_rd (i := 3) (l := p2) trivial rfl hw rfl rfl un55 ?_
 refine ic ((p2.length : Int)) 1000 rfl rfl rfl rfl ?_
 refine RL.nt ?_
 refine RC.cond (b := (decide ((p2.length : Int) > 1000))) rfl (fun hc => ?_) (fun hc => ?_)
 ·replace hb := cT hc hb
  refine RC.sr ?_
  refine RL.buildc (zs := [(.slice none 0 0), (.slice none 0 0)]) (cs := [(.slice none 0 0), (.slice none 0 0)]) trivial rfl [] rfl st26 trivial rfl ?_
  have hw := hw.rd_nil Part
  have hw := hw.rd_nil Net
  have hw := hw.rd_agg (cs := [(.slice none 0 0), (.slice none 0 0)]) (x := (⟨([] : (List Part)), ([] : (List Net))⟩ : Netlist)) (fun M hs g => ⟨[(.slice none 0 0)], [(.slice none 0 0)], rfl, (rd_one rfl (g.sat 1 _ rfl).1), (rd_one rfl (g.sat 0 _ rfl).1)⟩) rfl
  refine RL.store_raw (i := 4) (j := 0) trivial hw rfl rfl rfl rfl ty26 rfl fun w hw => ?_
  refine as_ (vi 2) rfl rfl ?_
  refine RL.nt ?_
  refine RC.rt ?_
  obtain rfl := oi hb
  exact finC2 (i := 4) rfl hw rfl rfl ty26 rfl fun v36 hw => ⟨v36, rfl, hw.pick 10 [0] (new := [rd v36 (⟨([] : (List Part)), ([] : (List Net))⟩ : Netlist)]) rfl rfl (by decide) (by decide)⟩
 replace hb := cF hc hb
 refine RC.ss ?_
 refine RC.sr ?_
 refine mv v2 rfl rfl ?_
 refine RL.len_rd (i := 3) (l := p2) trivial rfl hw rfl rfl un55 ?_
 refine mv (vi 0) rfl rfl ?_
 refine RL.nt ?_
 obtain ⟨o341, hN, hb⟩ := bd hb
 refine RC.range (fun (k37 : Nat) (s38 : Unit) (σ : Nat → Value) (w : World) => agree σ [(2, v2), (4, (vp b31 0)), (6, (vp b32 0)), (30, v2), (31, (vi (p2.length : Int))), (32, (vi (k37 : Int)))] ∧ Holds E w ([rd v2 p2, bx 26 b31 p1, raw 26 b32 2] ++ Γ)) (fun (s38 : Unit) (σ : Nat → Value) (w : World) => agree σ [(2, v2), (4, (vp b31 0)), (6, (vp b32 0))] ∧ Holds E w ([rd v2 p2, bx 26 b31 p1, raw 26 b32 2] ++ Γ)) (etchhouseref2_Without_K E Γ) hN ?_ ?_ ?_ ?_ ?_ 
 ·exact ⟨⟨rfl, rfl, rfl, rfl, rfl, rfl, trivial⟩, hw.pick 6 [3, 2, 1] (new := [rd v2 p2, bx 26 b31 p1, raw 26 b32 2]) rfl rfl (by decide) (by decide)⟩
 ·intro hm s38 σ w hI
  obtain ⟨ha, hw⟩ := hI
  obtain ⟨τ, rfl⟩ := ha.ups
  refine RC.sr ?_
  refine ic ((p2.length : Int)) ((p2.length : Int)) rfl rfl rfl rfl ?_
  refine RL.nq ?_
  refine RC.cond_f dge ?_
  refine RC.ex ?_
  exact ⟨rfl, ⟨rfl, rfl, rfl, trivial⟩, hw.pick 3 [0, 1, 2] (new := [rd v2 p2, bx 26 b31 p1, raw 26 b32 2]) rfl rfl (by decide) (by decide)⟩
 ·intro hm k37 s38 fl σ w hk hI hb
  obtain ⟨ha, hw⟩ := hI
  obtain ⟨τ, rfl⟩ := ha.ups
  refine RC.sr ?_
  refine ic ((k37 : Int)) ((p2.length : Int)) rfl rfl rfl rfl ?_
  refine RL.nq ?_
  refine RC.cond_t (dlt hk) ?_
  refine RC.ss ?_
  refine RC.bs ?_
  refine mv (vi (k37 : Int)) rfl rfl ?_
  obtain ⟨x50, hx50, hb⟩ := bd hb
  refine RL.ia_rd (i := 0) trivial rfl hw rfl rfl rfl sl55 hx50 fun v51 hw => ?_
  refine RL.load_pts (i := 0) (y := x50) trivial rfl hw rfl rfl ty9 ?_
  refine as_ (vi (k37 : Int)) rfl rfl ?_
  refine as_ (str x50) rfl rfl ?_
  refine RL.nq ?_
  refine RC.sr ?_
  refine RL.fa_b trivial rfl rfl fa26_0 ?_
  refine RL.load_bf (i := 2) (f := (fun x => x.Parts)) trivial rfl hw rfl rfl fd_Netlist_0 ty23 fun v52 hw => ?_
  refine mv (str x50) rfl rfl ?_
  obtain ⟨x53, hx53, hb⟩ := bd hb
  refine RL.call trivial rfl fn68 [v52, (str x50)] rfl (Calls_ret (etchhouseref2_partOf_ok N (p1 := x50) (i0 := 0) hw rfl hx53) ?_)
  rintro _ w ⟨rfl, hw⟩
  refine ic x53 0 rfl rfl rfl rfl ?_
  refine RL.nt ?_
  refine RC.cond (b := (decide (x53 < 0))) rfl (fun hc => ?_) (fun hc => ?_)
  ·replace hb := cT hc hb
   refine RC.sr ?_
   refine RL.buildc (zs := [(.slice none 0 0), (.slice none 0 0)]) (cs := [(.slice none 0 0), (.slice none 0 0)]) trivial rfl [] rfl st26 trivial rfl ?_
   have hw := hw.rd_nil Part
   have hw := hw.rd_nil Net
   have hw := hw.rd_agg (cs := [(.slice none 0 0), (.slice none 0 0)]) (x := (⟨([] : (List Part)), ([] : (List Net))⟩ : Netlist)) (fun M hs g => ⟨[(.slice none 0 0)], [(.slice none 0 0)], rfl, (rd_one rfl (g.sat 1 _ rfl).1), (rd_one rfl (g.sat 0 _ rfl).1)⟩) rfl
   refine RL.store_raw (i := 7) (j := 0) trivial hw rfl rfl rfl rfl ty26 rfl fun w hw => ?_
   refine as_ (vi 9) rfl rfl ?_
   refine RL.nt ?_
   refine RC.rt ?_
   refine blkQ_r ?_
   refine thenQ_r ?_
   obtain rfl := oi hb
   exact ⟨rfl, finC2 (i := 7) rfl hw rfl rfl ty26 rfl fun v54 hw => ⟨v54, rfl, hw.pick 9 [0] (new := [rd v54 (⟨([] : (List Part)), ([] : (List Net))⟩ : Netlist)]) rfl rfl (by decide) (by decide)⟩⟩
  replace hb := cF hc hb
  refine RC.ss ?_
  obtain ⟨s58, hj, hb⟩ := bd hb
  refine RC.jn (fun (s58 : Bool) (σ : Nat → Value) (w : World) => agree σ [(2, v2), (4, (vp b31 0)), (6, (vp b32 0)), (30, v2), (31, (vi (p2.length : Int))), (32, (vi (k37 : Int))), (53, (vb s58))] ∧ Holds E w ([rd v2 p2, bx 26 b31 p1, raw 26 b32 2] ++ Γ)) s58 ?_ ?_
  ·refine RC.region ?_
   refine mv (vi (k37 : Int)) rfl rfl ?_
   refine ic ((k37 : Int)) 0 rfl rfl rfl rfl ?_
   refine mv (vb (decide ((k37 : Int) > 0))) rfl rfl ?_
   rcases Bool.eq_false_or_eq_true (decide ((k37 : Int) > 0)) with hg59 | hg59
   rotate_left
   ·replace hj := cF hg59 hj
    refine sk rfl (.inl (cb hg59)) rfl ?_
    refine sk rfl (.inl (cb hg59)) rfl ?_
    refine sk rfl (.inl (cb hg59)) rfl ?_
    refine sk rfl (.inl (cb hg59)) rfl ?_
    refine sk rfl (.inl (cb hg59)) rfl ?_
    refine sk rfl (.inl (cb hg59)) rfl ?_
    refine sk rfl (.inl (cb hg59)) rfl ?_
    refine RL.pick (b := (decide ((k37 : Int) > 0))) (v := (vb false)) trivial rfl rfl (by rw [hg59]; rfl) ?_
    refine RL.nil ?_
    obtain rfl := oi hj
    exact ⟨rfl, ⟨rfl, rfl, rfl, rfl, rfl, rfl, rfl, trivial⟩, hw.pick 5 [2, 3, 4] (new := [rd v2 p2, bx 26 b31 p1, raw 26 b32 2]) rfl rfl (by decide) (by decide)⟩
   replace hj := cT hg59 hj
   refine RL.move (v := (str x50)) ⟨_, rfl, cb hg59⟩ rfl rfl ?_
   refine RL.move (v := v2) ⟨_, rfl, cb hg59⟩ rfl rfl ?_
   refine RL.move (v := (vi (k37 : Int))) ⟨_, rfl, cb hg59⟩ rfl rfl ?_
   refine RL.iar (a := (k37 : Int)) (b := 1) ⟨_, rfl, cb hg59⟩ rfl rfl rfl rfl ?_
   obtain ⟨x60, hx60, hj⟩ := bd hj
   refine RL.ia_rd (i := 2) ⟨_, rfl, cb hg59⟩ rfl hw rfl rfl rfl sl55 hx60 fun v61 hw => ?_
   refine RL.load_pts (i := 0) (y := x60) ⟨_, rfl, cb hg59⟩ rfl hw rfl rfl ty9 ?_
   refine RL.scmp (a := x50) (b := x60) ⟨_, rfl, cb hg59⟩ rfl rfl rfl rfl ?_
   refine RL.pick (b := (decide ((k37 : Int) > 0))) (v := (vb (x50.ltb x60 || x50.eqb x60))) trivial rfl rfl (by rw [hg59]; rfl) ?_
   refine RL.nil ?_
   obtain rfl := oi hj
   exact ⟨rfl, ⟨rfl, rfl, rfl, rfl, rfl, rfl, rfl, trivial⟩, hw.pick 6 [3, 4, 5] (new := [rd v2 p2, bx 26 b31 p1, raw 26 b32 2]) rfl rfl (by decide) (by decide)⟩
  rintro σ w ⟨ha, hw⟩
  obtain ⟨τ, rfl⟩ := ha.ups
  refine thenQ_n ?_
  refine RC.cond (b := s58) rfl (fun hc => ?_) (fun hc => ?_)
  rotate_left
  ·replace hb := cF hc hb
   refine RC.skip ?_
   refine blkQ_n ?_
   refine thenQ_n ?_
   refine RC.region ?_
   refine RL.inc trivial rfl hk hm rfl rfl ?_
   refine mv (vi ((k37 + 1 : Nat) : Int)) rfl rfl ?_
   refine RL.nil ?_
   obtain rfl := oi hb
   exact ⟨rfl, ⟨rfl, rfl, rfl, rfl, rfl, rfl, trivial⟩, hw.pick 3 [0, 1, 2] (new := [rd v2 p2, bx 26 b31 p1, raw 26 b32 2]) rfl rfl (by decide) (by decide)⟩
  replace hb := cT hc hb
  refine RC.sr ?_
  refine RL.buildc (zs := [(.slice none 0 0), (.slice none 0 0)]) (cs := [(.slice none 0 0), (.slice none 0 0)]) trivial rfl [] rfl st26 trivial rfl ?_
  have hw := hw.rd_nil Part
  have hw := hw.rd_nil Net
  have hw := hw.rd_agg (cs := [(.slice none 0 0), (.slice none 0 0)]) (x := (⟨([] : (List Part)), ([] : (List Net))⟩ : Netlist)) (fun M hs g => ⟨[(.slice none 0 0)], [(.slice none 0 0)], rfl, (rd_one rfl (g.sat 1 _ rfl).1), (rd_one rfl (g.sat 0 _ rfl).1)⟩) rfl
  refine RL.store_raw (i := 5) (j := 0) trivial hw rfl rfl rfl rfl ty26 rfl fun w hw => ?_
  refine as_ (vi 8) rfl rfl ?_
  refine RL.nt ?_
  refine RC.rb ?_
  refine thenQ_r ?_
  obtain rfl := oi hb
  exact ⟨rfl, finC2 (i := 5) rfl hw rfl rfl ty26 rfl fun v62 hw => ⟨v62, rfl, hw.pick 7 [0] (new := [rd v62 (⟨([] : (List Part)), ([] : (List Net))⟩ : Netlist)]) rfl rfl (by decide) (by decide)⟩⟩
 ·intro r σ w e hK
  subst e
  refine thenQ_r ?_
  obtain rfl := oi hb
  exact hK
 intro s38 σ w e hJ
 subst e
 rw [Fo.cs_go] at hb
 obtain ⟨ha, hw⟩ := hJ
 obtain ⟨τ, rfl⟩ := ha.ups
 refine thenQ_n ?_
 refine RC.sr ?_
 refine RL.alloc_bc trivial rfl hw zc26 rfl fun b63 w hw => ?_
 refine RL.nq ?_
 refine RC.sr ?_
 refine RL.fa_b trivial rfl rfl fa26_0 ?_
 refine RL.load_bf (i := 2) (f := (fun x => x.Parts)) trivial rfl hw rfl rfl fd_Netlist_0 ty23 fun v64 hw => ?_
 refine RL.len_rd (i := 0) (l := p1.Parts) trivial rfl hw rfl rfl un23 ?_
 refine mv (vi 0) rfl rfl ?_
 refine RL.nt ?_
 obtain ⟨s66, hN, hb⟩ := bd hb
 refine RC.fold (fun (k65 : Nat) (s66 : (List Part)) (σ : Nat → Value) (w : World) => ∃ v99 : Value, agree σ [(2, v2), (4, (vp b31 0)), (6, (vp b32 0)), (11, (vp b63 0)), (57, v64), (58, (vi (p1.Parts.length : Int))), (59, (vi (k65 : Int)))] ∧ Holds E w ([rd v2 p2, bx 26 b31 p1, raw 26 b32 2, bc 26 b63 [v99, (.slice none 0 0)], own 87 v99 s66, rd v64 p1.Parts] ++ Γ)) (fun (s66 : (List Part)) (σ : Nat → Value) (w : World) => ∃ v100 : Value, agree σ [(2, v2), (4, (vp b31 0)), (6, (vp b32 0)), (11, (vp b63 0))] ∧ Holds E w ([rd v2 p2, bx 26 b31 p1, raw 26 b32 2, bc 26 b63 [v100, (.slice none 0 0)], own 87 v100 s66, rd v64 p1.Parts] ++ Γ)) hN ?_ ?_ ?_ ?_
 ·have hw := hw.own_nil Part 87
  exact ⟨(.slice none 0 0), ⟨rfl, rfl, rfl, rfl, rfl, rfl, rfl, trivial⟩, hw.pick 6 [3, 4, 5, 2, 0, 1] (new := [rd v2 p2, bx 26 b31 p1, raw 26 b32 2, bc 26 b63 [(.slice none 0 0), (.slice none 0 0)], own 87 (.slice none 0 0) ([] : (List Part)), rd v64 p1.Parts]) rfl rfl (by decide) (by decide)⟩
 ·intro hm s66 σ w hI
  obtain ⟨v117, ha, hw⟩ := hI
  obtain ⟨τ, rfl⟩ := ha.ups
  refine RC.sr ?_
  refine ic ((p1.Parts.length : Int)) ((p1.Parts.length : Int)) rfl rfl rfl rfl ?_
  refine RL.nq ?_
  refine RC.cond_f dge ?_
  refine RC.ex ?_
  exact ⟨rfl, v117, ⟨rfl, rfl, rfl, rfl, trivial⟩, hw.pick 6 [0, 1, 2, 3, 4, 5] (new := [rd v2 p2, bx 26 b31 p1, raw 26 b32 2, bc 26 b63 [v117, (.slice none 0 0)], own 87 v117 s66, rd v64 p1.Parts]) rfl rfl (by decide) (by decide)⟩
 ·intro hm k65 s66 s' σ w hk hI hb
  obtain ⟨v101, ha, hw⟩ := hI
  obtain ⟨τ, rfl⟩ := ha.ups
  refine RC.sr ?_
  refine ic ((k65 : Int)) ((p1.Parts.length : Int)) rfl rfl rfl rfl ?_
  refine RL.nq ?_
  refine RC.cond_t (dlt hk) ?_
  refine RC.ss ?_
  refine RC.bs ?_
  obtain ⟨x102, hx102, hb⟩ := bd hb
  refine RL.ia_rd (i := 5) trivial rfl hw rfl rfl rfl sl23 hx102 fun v103 hw => ?_
  refine RL.load_pt (i := 0) (x := x102) trivial rfl hw rfl rfl ty87 fun v104 hw => ?_
  refine RL.alloc trivial rfl hw ze87.z fun b105 w hw => ?_
  refine RL.store_raw (i := 0) (j := 1) trivial hw rfl rfl rfl rfl ty87 rfl fun w hw => ?_
  refine RL.ns ?_
  refine mv v2 rfl rfl ?_
  refine RL.fa_b trivial rfl rfl fa87_0 ?_
  refine RL.load_bfs (i := 0) (f := (fun x => x.Name)) trivial rfl hw rfl rfl fd_Part_0 ty9 ?_
  obtain ⟨x106, hx106, hb⟩ := bd hb
  refine RL.call trivial rfl fn82 [v2, (str x102.Name)] rfl (Calls_ret (slices_Contains_string_ok N (p1 := x102.Name) (i0 := 3) hw rfl hx106) ?_)
  rintro _ w ⟨rfl, hw⟩
  refine RL.not (b := x106) trivial rfl rfl ?_
  refine RL.nt ?_
  obtain ⟨s111, hj, hb⟩ := bd hb
  refine RC.jn (fun (s111 : (List Part)) (σ : Nat → Value) (w : World) => ∃ v112 : Value, agree σ [(2, v2), (4, (vp b31 0)), (6, (vp b32 0)), (11, (vp b63 0)), (57, v64), (58, (vi (p1.Parts.length : Int))), (59, (vi (k65 : Int)))] ∧ Holds E w ([rd v2 p2, bx 26 b31 p1, raw 26 b32 2, bc 26 b63 [v112, (.slice none 0 0)], own 87 v112 s111, rd v64 p1.Parts] ++ Γ)) s111 ?_ ?_
  ·refine RC.cond (b := (!x106)) rfl (fun hc => ?_) (fun hc => ?_)
   rotate_left
   ·replace hj := cF hc hj
    refine RC.skip ?_
    obtain rfl := oi hj
    exact ⟨rfl, v101, ⟨rfl, rfl, rfl, rfl, rfl, rfl, rfl, trivial⟩, hw.pick 9 [3, 4, 5, 6, 7, 8] (new := [rd v2 p2, bx 26 b31 p1, raw 26 b32 2, bc 26 b63 [v101, (.slice none 0 0)], own 87 v101 s66, rd v64 p1.Parts]) rfl rfl (by decide) (by decide)⟩
   replace hj := cT hc hj
   refine RC.region ?_
   refine RL.fa_b trivial rfl rfl fa26_0 ?_
   refine RL.load_bc (i := 6) (v := v101) trivial rfl hw rfl rfl rfl ty23 ?_
   refine RL.load_bf (i := 0) (f := (fun x => x)) trivial rfl hw rfl rfl Fd.self ty87 fun v113 hw => ?_
   refine RL.bslice (l := ([x102] : (List Part))) trivial rfl hw [v113] rfl rfl rfl sl23 ze87 (fun M hs g => ⟨(g.sat 0 _ rfl).1, trivial⟩) fun v114 w hw => ?_
   have hw := hw.freeze (i := 0) rfl
   obtain ⟨x115, hx115, hj⟩ := bd hj
   refine RL.app (i := 9) (j := 0) trivial rfl hw rfl rfl rfl rfl el23 hx115 fun v116 w hw => ?_
   refine RL.fa_b trivial rfl rfl fa26_0 ?_
   refine RL.store_bc (i := 8) (v := v116) trivial hw rfl rfl rfl rfl (one_own hw (i := 9) rfl) ty23 fun w hw => ?_
   refine RL.nil ?_
   obtain rfl := oi hj
   exact ⟨rfl, v116, ⟨rfl, rfl, rfl, rfl, rfl, rfl, rfl, trivial⟩, hw.pick 11 [5, 6, 7, 8, 9, 10] (new := [rd v2 p2, bx 26 b31 p1, raw 26 b32 2, bc 26 b63 [v116, (.slice none 0 0)], own 87 v116 x115, rd v64 p1.Parts]) rfl rfl (by decide) (by decide)⟩
  rintro σ w ⟨v112, ha, hw⟩
  obtain ⟨τ, rfl⟩ := ha.ups
  refine blkQ_n ?_
  refine thenQ_n ?_
  refine RC.region ?_
  refine RL.inc trivial rfl hk hm rfl rfl ?_
  refine mv (vi ((k65 + 1 : Nat) : Int)) rfl rfl ?_
  refine RL.nil ?_
  obtain rfl := oi hb
  exact ⟨rfl, v112, ⟨rfl, rfl, rfl, rfl, rfl, rfl, rfl, trivial⟩, hw.pick 6 [0, 1, 2, 3, 4, 5] (new := [rd v2 p2, bx 26 b31 p1, raw 26 b32 2, bc 26 b63 [v112, (.slice none 0 0)], own 87 v112 s111, rd v64 p1.Parts]) rfl rfl (by decide) (by decide)⟩
 intro σ w hJ
 obtain ⟨v100, ha, hw⟩ := hJ
 obtain ⟨τ, rfl⟩ := ha.ups
 refine thenQ_n ?_
 refine RC.seq ?_
 refine RC.sr ?_
 refine RL.fa_b trivial rfl rfl fa26_1 ?_
 refine RL.load_bf (i := 1) (f := (fun x => x.Nets)) trivial rfl hw rfl rfl fd_Netlist_1 ty24 fun v118 hw => ?_
 refine RL.len_rd (i := 0) (l := p1.Nets) trivial rfl hw rfl rfl un24 ?_
 refine mv (vi 0) rfl rfl ?_
 refine RL.nt ?_
 obtain ⟨s120, hN, hb⟩ := bd hb
 refine RC.fold (fun (k119 : Nat) (s120 : (List Net)) (σ : Nat → Value) (w : World) => ∃ v263 : Value, agree σ [(2, v2), (6, (vp b32 0)), (11, (vp b63 0)), (76, v118), (77, (vi (p1.Nets.length : Int))), (78, (vi (k119 : Int)))] ∧ Holds E w ([rd v2 p2, raw 26 b32 2, bc 26 b63 [v100, v263], own 64 v263 s120, own 87 v100 s66, rd v118 p1.Nets] ++ Γ)) (fun (s120 : (List Net)) (σ : Nat → Value) (w : World) => ∃ v264 : Value, agree σ [(6, (vp b32 0)), (11, (vp b63 0))] ∧ Holds E w ([rd v2 p2, raw 26 b32 2, bc 26 b63 [v100, v264], own 64 v264 s120, own 87 v100 s66, rd v118 p1.Nets] ++ Γ)) hN ?_ ?_ ?_ ?_
 ·have hw := hw.own_nil Net 64
  exact ⟨(.slice none 0 0), ⟨rfl, rfl, rfl, rfl, rfl, rfl, trivial⟩, hw.pick 8 [2, 4, 5, 0, 6, 1] (new := [rd v2 p2, raw 26 b32 2, bc 26 b63 [v100, (.slice none 0 0)], own 64 (.slice none 0 0) ([] : (List Net)), own 87 v100 s66, rd v118 p1.Nets]) rfl rfl (by decide) (by decide)⟩
 ·intro hm s120 σ w hI
  obtain ⟨v336, ha, hw⟩ := hI
  obtain ⟨τ, rfl⟩ := ha.ups
  refine RC.sr ?_
  refine ic ((p1.Nets.length : Int)) ((p1.Nets.length : Int)) rfl rfl rfl rfl ?_
  refine RL.nq ?_
  refine RC.cond_f dge ?_
  refine RC.ex ?_
  exact ⟨rfl, v336, ⟨rfl, rfl, trivial⟩, hw.pick 6 [0, 1, 2, 3, 4, 5] (new := [rd v2 p2, raw 26 b32 2, bc 26 b63 [v100, v336], own 64 v336 s120, own 87 v100 s66, rd v118 p1.Nets]) rfl rfl (by decide) (by decide)⟩
 ·intro hm k119 s120 s' σ w hk hI hb
  obtain ⟨v265, ha, hw⟩ := hI
  obtain ⟨τ, rfl⟩ := ha.ups
  refine RC.sr ?_
  refine ic ((k119 : Int)) ((p1.Nets.length : Int)) rfl rfl rfl rfl ?_
  refine RL.nq ?_
  refine RC.cond_t (dlt hk) ?_
  refine RC.ss ?_
  refine RC.bs ?_
  obtain ⟨x266, hx266, hb⟩ := bd hb
  refine RL.ia_rd (i := 5) trivial rfl hw rfl rfl rfl sl24 hx266 fun v267 hw => ?_
  refine RL.load_pt (i := 0) (x := x266) trivial rfl hw rfl rfl ty64 fun v268 hw => ?_
  refine RL.alloc trivial rfl hw ze64.z fun b269 w hw => ?_
  refine RL.store_raw (i := 0) (j := 1) trivial hw rfl rfl rfl rfl ty64 rfl fun w hw => ?_
  refine RL.ns ?_
  refine RL.fa_b trivial rfl rfl fa64_0 ?_
  refine RL.load_bfs (i := 0) (f := (fun x => x.Name)) trivial rfl hw rfl rfl fd_Net_0 ty9 ?_
  refine RL.buildc (zs := [(.string ⟨#[]⟩), (.slice none 0 0), (.slice none 0 0)]) (cs := [(str x266.Name), (.slice none 0 0), (.slice none 0 0)]) trivial rfl [(0, (str x266.Name))] rfl st64 ⟨rfl, trivial⟩ rfl ?_
  refine RL.alloc_bc trivial rfl hw zc64 rfl fun b270 w hw => ?_
  refine RL.store_bca (i := 0) (cs := [(str x266.Name), (.slice none 0 0), (.slice none 0 0)]) trivial hw rfl rfl rfl (oneL.all (⟨rfl, rfl, rfl, trivial⟩ : oneL [(str x266.Name), (.slice none 0 0), (.slice none 0 0)])) ty64 rfl rfl fun w hw => ?_
  refine RL.nq ?_
  refine RC.sr ?_
  refine RL.fa_b trivial rfl rfl fa64_1 ?_
  refine RL.load_bf (i := 1) (f := (fun x => x.Pins)) trivial rfl hw rfl rfl fd_Net_1 ty33 fun v271 hw => ?_
  refine RL.len_rd (i := 0) (l := x266.Pins) trivial rfl hw rfl rfl un33 ?_
  refine mv (vi 0) rfl rfl ?_
  refine RL.nt ?_
  obtain ⟨s273, hN, hb⟩ := bd hb
  refine RC.fold (fun (k272 : Nat) (s273 : (List Pin)) (σ : Nat → Value) (w : World) => ∃ v306 : Value, agree σ [(2, v2), (6, (vp b32 0)), (11, (vp b63 0)), (16, (vp b270 0)), (76, v118), (77, (vi (p1.Nets.length : Int))), (78, (vi (k119 : Int))), (86, v271), (87, (vi (x266.Pins.length : Int))), (88, (vi (k272 : Int)))] ∧ Holds E w ([rd v2 p2, raw 26 b32 2, bc 26 b63 [v100, v265], own 87 v100 s66, own 64 v265 s120, bc 64 b270 [(str x266.Name), v306, (.slice none 0 0)], own 28 v306 s273, rd v118 p1.Nets, rd v271 x266.Pins] ++ Γ)) (fun (s273 : (List Pin)) (σ : Nat → Value) (w : World) => ∃ v307 : Value, agree σ [(2, v2), (6, (vp b32 0)), (11, (vp b63 0)), (16, (vp b270 0)), (76, v118), (77, (vi (p1.Nets.length : Int))), (78, (vi (k119 : Int)))] ∧ Holds E w ([rd v2 p2, raw 26 b32 2, bc 26 b63 [v100, v265], own 87 v100 s66, own 64 v265 s120, bc 64 b270 [(str x266.Name), v307, (.slice none 0 0)], own 28 v307 s273, rd v118 p1.Nets, rd v271 x266.Pins] ++ Γ)) hN ?_ ?_ ?_ ?_
  ·have hw := hw.own_nil Pin 28
   exact ⟨(.slice none 0 0), ⟨rfl, rfl, rfl, rfl, rfl, rfl, rfl, rfl, rfl, rfl, trivial⟩, hw.pick 12 [6, 7, 8, 10, 9, 2, 0, 11, 1] (new := [rd v2 p2, raw 26 b32 2, bc 26 b63 [v100, v265], own 87 v100 s66, own 64 v265 s120, bc 64 b270 [(str x266.Name), (.slice none 0 0), (.slice none 0 0)], own 28 (.slice none 0 0) ([] : (List Pin)), rd v118 p1.Nets, rd v271 x266.Pins]) rfl rfl (by decide) (by decide)⟩
  ·intro hm s273 σ w hI
   obtain ⟨v324, ha, hw⟩ := hI
   obtain ⟨τ, rfl⟩ := ha.ups
   refine RC.sr ?_
   refine ic ((x266.Pins.length : Int)) ((x266.Pins.length : Int)) rfl rfl rfl rfl ?_
   refine RL.nq ?_
   refine RC.cond_f dge ?_
   refine RC.ex ?_
   exact ⟨rfl, v324, ⟨rfl, rfl, rfl, rfl, rfl, rfl, rfl, trivial⟩, hw.pick 9 [0, 1, 2, 3, 4, 5, 6, 7, 8] (new := [rd v2 p2, raw 26 b32 2, bc 26 b63 [v100, v265], own 87 v100 s66, own 64 v265 s120, bc 64 b270 [(str x266.Name), v324, (.slice none 0 0)], own 28 v324 s273, rd v118 p1.Nets, rd v271 x266.Pins]) rfl rfl (by decide) (by decide)⟩
  ·intro hm k272 s273 s' σ w hk hI hb
   obtain ⟨v308, ha, hw⟩ := hI
   obtain ⟨τ, rfl⟩ := ha.ups
   refine RC.sr ?_
   refine ic ((k272 : Int)) ((x266.Pins.length : Int)) rfl rfl rfl rfl ?_
   refine RL.nq ?_
   refine RC.cond_t (dlt hk) ?_
   refine RC.ss ?_
   refine RC.bs ?_
   obtain ⟨x309, hx309, hb⟩ := bd hb
   refine RL.ia_rd (i := 8) trivial rfl hw rfl rfl rfl sl33 hx309 fun v310 hw => ?_
   refine RL.load_pt (i := 0) (x := x309) trivial rfl hw rfl rfl ty28 fun v311 hw => ?_
   refine RL.alloc trivial rfl hw ze28.z fun b312 w hw => ?_
   refine RL.store_raw (i := 0) (j := 1) trivial hw rfl rfl rfl rfl ty28 rfl fun w hw => ?_
   refine RL.ns ?_
   refine mv v2 rfl rfl ?_
   refine RL.fa_b trivial rfl rfl fa28_0 ?_
   refine RL.load_bfs (i := 0) (f := (fun x => x.Part)) trivial rfl hw rfl rfl fd_Pin_0 ty9 ?_
   obtain ⟨x313, hx313, hb⟩ := bd hb
   refine RL.call trivial rfl fn82 [v2, (str x309.Part)] rfl (Calls_ret (slices_Contains_string_ok N (p1 := x309.Part) (i0 := 3) hw rfl hx313) ?_)
   rintro _ w ⟨rfl, hw⟩
   refine RL.not (b := x313) trivial rfl rfl ?_
   refine RL.nt ?_
   obtain ⟨s318, hj, hb⟩ := bd hb
   refine RC.jn (fun (s318 : (List Pin)) (σ : Nat → Value) (w : World) => ∃ v319 : Value, agree σ [(2, v2), (6, (vp b32 0)), (11, (vp b63 0)), (16, (vp b270 0)), (76, v118), (77, (vi (p1.Nets.length : Int))), (78, (vi (k119 : Int))), (86, v271), (87, (vi (x266.Pins.length : Int))), (88, (vi (k272 : Int)))] ∧ Holds E w ([rd v2 p2, raw 26 b32 2, bc 26 b63 [v100, v265], own 87 v100 s66, own 64 v265 s120, bc 64 b270 [(str x266.Name), v319, (.slice none 0 0)], own 28 v319 s318, rd v118 p1.Nets, rd v271 x266.Pins] ++ Γ)) s318 ?_ ?_
   ·refine RC.cond (b := (!x313)) rfl (fun hc => ?_) (fun hc => ?_)
    rotate_left
    ·replace hj := cF hc hj
     refine RC.skip ?_
     obtain rfl := oi hj
     exact ⟨rfl, v308, ⟨rfl, rfl, rfl, rfl, rfl, rfl, rfl, rfl, rfl, rfl, trivial⟩, hw.pick 12 [3, 4, 5, 6, 7, 8, 9, 10, 11] (new := [rd v2 p2, raw 26 b32 2, bc 26 b63 [v100, v265], own 87 v100 s66, own 64 v265 s120, bc 64 b270 [(str x266.Name), v308, (.slice none 0 0)], own 28 v308 s273, rd v118 p1.Nets, rd v271 x266.Pins]) rfl rfl (by decide) (by decide)⟩
    replace hj := cT hc hj
    refine RC.region ?_
    refine RL.fa_b trivial rfl rfl fa64_1 ?_
    refine RL.load_bc (i := 8) (v := v308) trivial rfl hw rfl rfl rfl ty33 ?_
    refine RL.load_bf (i := 0) (f := (fun x => x)) trivial rfl hw rfl rfl Fd.self ty28 fun v320 hw => ?_
    refine RL.bslice (l := ([x309] : (List Pin))) trivial rfl hw [v320] rfl rfl rfl sl33 ze28 (fun M hs g => ⟨(g.sat 0 _ rfl).1, trivial⟩) fun v321 w hw => ?_
    have hw := hw.freeze (i := 0) rfl
    obtain ⟨x322, hx322, hj⟩ := bd hj
    refine RL.app (i := 11) (j := 0) trivial rfl hw rfl rfl rfl rfl el33 hx322 fun v323 w hw => ?_
    refine RL.fa_b trivial rfl rfl fa64_1 ?_
    refine RL.store_bc (i := 10) (v := v323) trivial hw rfl rfl rfl rfl (one_own hw (i := 11) rfl) ty33 fun w hw => ?_
    refine RL.nil ?_
    obtain rfl := oi hj
    exact ⟨rfl, v323, ⟨rfl, rfl, rfl, rfl, rfl, rfl, rfl, rfl, rfl, rfl, trivial⟩, hw.pick 14 [5, 6, 7, 8, 9, 10, 11, 12, 13] (new := [rd v2 p2, raw 26 b32 2, bc 26 b63 [v100, v265], own 87 v100 s66, own 64 v265 s120, bc 64 b270 [(str x266.Name), v323, (.slice none 0 0)], own 28 v323 x322, rd v118 p1.Nets, rd v271 x266.Pins]) rfl rfl (by decide) (by decide)⟩
   rintro σ w ⟨v319, ha, hw⟩
   obtain ⟨τ, rfl⟩ := ha.ups
   refine blkQ_n ?_
   refine thenQ_n ?_
   refine RC.region ?_
   refine RL.inc trivial rfl hk hm rfl rfl ?_
   refine mv (vi ((k272 + 1 : Nat) : Int)) rfl rfl ?_
   refine RL.nil ?_
   obtain rfl := oi hb
   exact ⟨rfl, v319, ⟨rfl, rfl, rfl, rfl, rfl, rfl, rfl, rfl, rfl, rfl, trivial⟩, hw.pick 9 [0, 1, 2, 3, 4, 5, 6, 7, 8] (new := [rd v2 p2, raw 26 b32 2, bc 26 b63 [v100, v265], own 87 v100 s66, own 64 v265 s120, bc 64 b270 [(str x266.Name), v319, (.slice none 0 0)], own 28 v319 s318, rd v118 p1.Nets, rd v271 x266.Pins]) rfl rfl (by decide) (by decide)⟩
  intro σ w hJ
  obtain ⟨v307, ha, hw⟩ := hJ
  obtain ⟨τ, rfl⟩ := ha.ups
  refine thenQ_n ?_
  refine RC.sr ?_
  refine RL.fa_b trivial rfl rfl fa64_1 ?_
  refine RL.load_bc (i := 5) (v := v307) trivial rfl hw rfl rfl rfl ty33 ?_
  refine RL.len_own (i := 6) (l := s273) trivial rfl hw rfl rfl un33 ?_
  refine ic ((s273.length : Int)) 0 rfl rfl rfl rfl ?_
  refine RL.nt ?_
  obtain ⟨s329, hj, hb⟩ := bd hb
  refine RC.jn (fun (s329 : (List Net)) (σ : Nat → Value) (w : World) => ∃ v330 : Value, agree σ [(2, v2), (6, (vp b32 0)), (11, (vp b63 0)), (76, v118), (77, (vi (p1.Nets.length : Int))), (78, (vi (k119 : Int)))] ∧ Holds E w ([rd v2 p2, raw 26 b32 2, bc 26 b63 [v100, v330], own 64 v330 s329, own 87 v100 s66, rd v118 p1.Nets] ++ Γ)) s329 ?_ ?_
  ·refine RC.cond (b := (decide ((s273.length : Int) > 0))) rfl (fun hc => ?_) (fun hc => ?_)
   rotate_left
   ·replace hj := cF hc hj
    refine RC.skip ?_
    obtain rfl := oi hj
    exact ⟨rfl, v265, ⟨rfl, rfl, rfl, rfl, rfl, rfl, trivial⟩, hw.pick 9 [0, 1, 2, 4, 3, 7] (new := [rd v2 p2, raw 26 b32 2, bc 26 b63 [v100, v265], own 64 v265 s120, own 87 v100 s66, rd v118 p1.Nets]) rfl rfl (by decide) (by decide)⟩
   replace hj := cT hc hj
   refine RC.region ?_
   refine RL.fa_b trivial rfl rfl fa26_1 ?_
   refine RL.load_bc (i := 2) (v := v265) trivial rfl hw rfl rfl rfl ty24 ?_
   have hw := hw.freeze (i := 6) rfl
   have hw := hw.rd_nil Str
   have hw := hw.close_bc (i := 6) (x := (⟨x266.Name, s273, ([] : (List Str))⟩ : Net)) rfl (fun M hs g => ⟨[(str x266.Name)], [v307, (.slice none 0 0)], rfl, rfl, ⟨[v307], [(.slice none 0 0)], rfl, (rd_one rfl (g.sat 7 _ rfl).1), (rd_one rfl (g.sat 0 _ rfl).1)⟩⟩)
   refine RL.load_bf (i := 6) (f := (fun x => x)) trivial rfl hw rfl rfl Fd.self ty64 fun v331 hw => ?_
   refine RL.bslice (l := ([(⟨x266.Name, s273, ([] : (List Str))⟩ : Net)] : (List Net))) trivial rfl hw [v331] rfl rfl rfl sl24 ze64 (fun M hs g => ⟨(g.sat 0 _ rfl).1, trivial⟩) fun v332 w hw => ?_
   have hw := hw.freeze (i := 0) rfl
   obtain ⟨x333, hx333, hj⟩ := bd hj
   refine RL.app (i := 7) (j := 0) trivial rfl hw rfl rfl rfl rfl el24 hx333 fun v334 w hw => ?_
   refine RL.fa_b trivial rfl rfl fa26_1 ?_
   refine RL.store_bc (i := 5) (v := v334) trivial hw rfl rfl rfl rfl (one_own hw (i := 7) rfl) ty24 fun w hw => ?_
   refine RL.nil ?_
   obtain rfl := oi hj
   exact ⟨rfl, v334, ⟨rfl, rfl, rfl, rfl, rfl, rfl, trivial⟩, hw.pick 12 [3, 4, 5, 7, 6, 10] (new := [rd v2 p2, raw 26 b32 2, bc 26 b63 [v100, v334], own 64 v334 x333, own 87 v100 s66, rd v118 p1.Nets]) rfl rfl (by decide) (by decide)⟩
  rintro σ w ⟨v330, ha, hw⟩
  obtain ⟨τ, rfl⟩ := ha.ups
  refine blkQ_n ?_
  refine thenQ_n ?_
  refine RC.region ?_
  refine RL.inc trivial rfl hk hm rfl rfl ?_
  refine mv (vi ((k119 + 1 : Nat) : Int)) rfl rfl ?_
  refine RL.nil ?_
  obtain rfl := oi hb
  exact ⟨rfl, v330, ⟨rfl, rfl, rfl, rfl, rfl, rfl, trivial⟩, hw.pick 6 [0, 1, 2, 3, 4, 5] (new := [rd v2 p2, raw 26 b32 2, bc 26 b63 [v100, v330], own 64 v330 s329, own 87 v100 s66, rd v118 p1.Nets]) rfl rfl (by decide) (by decide)⟩
 intro σ w hJ
 obtain ⟨v264, ha, hw⟩ := hJ
 obtain ⟨τ, rfl⟩ := ha.ups
 refine thenQ_n ?_
 refine RC.sr ?_
 have hw := hw.freeze (i := 4) rfl
 have hw := hw.freeze (i := 3) rfl
 have hw := hw.close_bc (i := 2) (x := (⟨s66, s120⟩ : Netlist)) rfl (fun M hs g => ⟨[v100], [v264], rfl, (rd_one rfl (g.sat 4 _ rfl).1), (rd_one rfl (g.sat 3 _ rfl).1)⟩)
 refine RL.load_bf (i := 2) (f := (fun x => x)) trivial rfl hw rfl rfl Fd.self ty26 fun v337 hw => ?_
 refine RL.store_raw (i := 2) (j := 0) trivial hw rfl rfl rfl rfl ty26 rfl fun w hw => ?_
 refine as_ (vi 0) rfl rfl ?_
 refine RL.nt ?_
 refine RC.ret ?_
 obtain rfl := oi hb
 exact finC2 (i := 2) rfl hw rfl rfl ty26 rfl fun v338 hw => ⟨v338, rfl, hw.pick 8 [0] (new := [rd v338 (⟨s66, s120⟩ : Netlist)]) rfl rfl (by decide) (by decide)⟩
def etchhouselaw2_NetlistWithoutMatchesSpec_R (E : World) (Γ : List HP) (res : Bool) (v : Value) (w : World) : Prop := v = (vb res) ∧ Holds E w Γ
def etchhouselaw2_NetlistWithoutMatchesSpec_K (E : World) (Γ : List HP) (r : Bool) (σ : Nat → Value) (w : World) : Prop := finQ Tryd.prog 36 Tryd.f8 (etchhouselaw2_NetlistWithoutMatchesSpec_R E Γ r) .ret σ w
theorem etchhouselaw2_NetlistWithoutMatchesSpec_ok (N : Nat) {E w : World} {Γ : List HP} {i0 : Nat} {v0 : Value} {p0 : (List PartType)} {i1 : Nat} {v1 : Value} {p1 : Netlist} {i2 : Nat} {v2 : Value} {p2 : (List Str)} {res : Bool} (hw : Holds E w Γ) (h0 : Γ[i0]? = some (rd v0 p0)) (h1 : Γ[i1]? = some (rd v1 p1)) (h2 : Γ[i2]? = some (rd v2 p2)) (hb : etchhouselaw2_NetlistWithoutMatchesSpec N p0 p1 p2 = some res) :
    Calls Tryd.prog 8 [v0, v1, v2].toArray w (Ret (etchhouselaw2_NetlistWithoutMatchesSpec_R E Γ res)) := by
 unfold etchhouselaw2_NetlistWithoutMatchesSpec at hb
 refine enter Tryd.func8 rfl rfl (Nat.le_of_ble_eq_true rfl) ?_
 have hw := hw.dup (i := i0 + 0) h0
 have hw := hw.dup (i := i1 + 1) h1
 have hw := hw.dup (i := i2 + 2) h2
 refine RC.sr ?_
 refine RL.box_rd (i := 1) (v := v1) trivial rfl hw rfl rfl fun b31 w hw => ?_
 refine as_ (vb false) rfl rfl ?_
 refine RL.ns ?_
 refine mv v0 rfl rfl ?_
 refine RL.load_bf (i := 0) (f := (fun x => x)) trivial rfl hw rfl rfl Fd.self ty26 fun v32 hw => ?_
 refine mv v2 rfl rfl ?_
 obtain ⟨x33, hx33, hb⟩ := bd hb
 refine RL.call trivial rfl fn28 [v0, v32, v2] rfl (Calls_ret (netlist_Without_ok N  (i0 := 4) (i1 := 0) (i2 := 2) hw rfl rfl rfl hx33) ?_)
 rintro _ w ⟨v34, rfl, hw⟩
 refine mv (.tuple #[v34, (vi x33.2)]) rfl rfl ?_
 refine RL.extract (v := v34) trivial rfl rfl rfl ?_
 refine RL.extract (v := (vi x33.2)) trivial rfl rfl rfl ?_
 refine RL.alloc trivial rfl hw ze26.z fun b35 w hw => ?_
 refine RL.store_raw (i := 0) (j := 1) trivial hw rfl rfl rfl rfl ty26 rfl fun w hw => ?_
 refine as_ (vi x33.2) rfl rfl ?_
 refine RL.ns ?_
 refine mv v0 rfl rfl ?_
 refine RL.load_bf (i := 3) (f := (fun x => x)) trivial rfl hw rfl rfl Fd.self ty26 fun v36 hw => ?_
 refine mv v2 rfl rfl ?_
 obtain ⟨x37, hx37, hb⟩ := bd hb
 refine RL.call trivial rfl fn30 [v0, v36, v2] rfl (Calls_ret (etchhouseref2_Without_ok N  (i0 := 7) (i1 := 0) (i2 := 5) hw rfl rfl rfl hx37) ?_)
 rintro _ w ⟨v38, rfl, hw⟩
 refine mv (.tuple #[v38, (vi x37.2)]) rfl rfl ?_
 refine RL.extract (v := v38) trivial rfl rfl rfl ?_
 refine RL.extract (v := (vi x37.2)) trivial rfl rfl rfl ?_
 refine RL.alloc trivial rfl hw ze26.z fun b39 w hw => ?_
 refine RL.store_raw (i := 0) (j := 1) trivial hw rfl rfl rfl rfl ty26 rfl fun w hw => ?_
 refine as_ (vi x37.2) rfl rfl ?_
 refine RL.nq ?_
 obtain ⟨s50, hj, hb⟩ := bd hb
 refine RC.jn (fun (s50 : Bool) (σ : Nat → Value) (w : World) => agree σ [(6, (vb s50))] ∧ Holds E w ([] ++ Γ)) s50 ?_ ?_
 ·refine RC.region ?_
  refine mv (vi x33.2) rfl rfl ?_
  refine mv (vi x37.2) rfl rfl ?_
  refine ic (x33.2) (x37.2) rfl rfl rfl rfl ?_
  refine mv (vb (x33.2 == x37.2)) rfl rfl ?_
  rcases Bool.eq_false_or_eq_true (x33.2 == x37.2) with hg51 | hg51
  rotate_left
  ·replace hj := cF hg51 hj
   refine sk rfl (.inl (cb hg51)) rfl ?_
   refine sk rfl (.inl (cb hg51)) rfl ?_
   refine sk rfl (.inl (cb hg51)) rfl ?_
   refine RL.pick (b := (x33.2 == x37.2)) (v := (vb false)) trivial rfl rfl (by rw [hg51]; rfl) ?_
   refine mv (vb false) rfl rfl ?_
   refine sk rfl (.inl rfl) rfl ?_
   refine RL.pick (b := false) (v := (vb false)) trivial rfl rfl rfl ?_
   refine as_ (vb false) rfl rfl ?_
   refine RL.nil ?_
   obtain rfl := oi hj
   exact ⟨rfl, ⟨rfl, trivial⟩, hw.pick 10 [] (new := []) rfl rfl (by decide) (by decide)⟩
  replace hj := cT hg51 hj
  refine RL.load_bf (i := 3) (f := (fun x => x)) ⟨_, rfl, cb hg51⟩ rfl hw rfl rfl Fd.self ty26 fun v52 hw => ?_
  refine RL.load_bf (i := 1) (f := (fun x => x)) ⟨_, rfl, cb hg51⟩ rfl hw rfl rfl Fd.self ty26 fun v53 hw => ?_
  obtain ⟨x54, hx54, hj⟩ := bd hj
  refine RL.call ⟨_, rfl, cb hg51⟩ rfl fn24 [v52, v53] rfl (Calls_ret (etchhouseref2_Same_ok N  (i0 := 1) (i1 := 0) hw rfl rfl hx54) ?_)
  rintro _ w ⟨rfl, hw⟩
  refine RL.pick (b := (x33.2 == x37.2)) (v := (vb x54)) trivial rfl rfl (by rw [hg51]; rfl) ?_
  refine mv (vb x54) rfl rfl ?_
  rcases Bool.eq_false_or_eq_true x54 with hg55 | hg55
  rotate_left
  ·replace hj := cF hg55 hj
   refine sk rfl (.inl (cb hg55)) rfl ?_
   refine RL.pick (b := x54) (v := (vb false)) trivial rfl rfl (by rw [hg55]; rfl) ?_
   refine as_ (vb false) rfl rfl ?_
   refine RL.nil ?_
   obtain rfl := oi hj
   exact ⟨rfl, ⟨rfl, trivial⟩, hw.pick 12 [] (new := []) rfl rfl (by decide) (by decide)⟩
  replace hj := cT hg55 hj
  obtain ⟨x56, hx56, hj⟩ := bd hj
  refine RL.call ⟨_, rfl, cb hg55⟩ rfl fn18 [] rfl (Calls_ret (etchhouselaw2_awake_ok N   hw  hx56) ?_)
  rintro _ w ⟨rfl, hw⟩
  refine RL.pick (b := x54) (v := (vb x56)) trivial rfl rfl (by rw [hg55]; rfl) ?_
  refine as_ (vb x56) rfl rfl ?_
  refine RL.nil ?_
  obtain rfl := oi hj
  exact ⟨rfl, ⟨rfl, trivial⟩, hw.pick 12 [] (new := []) rfl rfl (by decide) (by decide)⟩
 rintro σ w ⟨ha, hw⟩
 obtain ⟨τ, rfl⟩ := ha.ups
 refine thenQ_n ?_
 refine RC.ret ?_
 obtain rfl := oi hb
 exact fin1 rfl rfl ⟨rfl, hw.drop 0 rfl⟩
end Go.Gk
