/-
  Printed by gen.py: Go functions as plain functions, and that they are.
-/
import Derived.Test.YtnjoaggeheokeaaDoorT
import Derived.Test.YtnjoaggeheokeaaDoorF4
import Derived.Test.YtnjoaggeheokeaaDoorF5
import Derived.Test.YtnjoaggeheokeaaDoorF7
import Derived.Test.YtnjoaggeheokeaaDoorF12
set_option linter.unusedVariables false
set_option linter.unusedSimpArgs false
set_option linter.unusedSectionVars false
set_option maxRecDepth 100000
set_option maxHeartbeats 4000000

namespace Go.Gk
open Go Go.Proofs
def etchhouseref2_Changes_R (E : World) (Γ : List HP) (res : (List ListChange) × Int) (v : Value) (w : World) : Prop := ∃ u0 : Value, v = .tuple #[u0, (vi res.2)] ∧ Holds E w (own 53 u0 res.1 :: Γ)
def etchhouseref2_Changes_K (E : World) (Γ : List HP) (r : (List ListChange) × Int) (σ : Nat → Value) (w : World) : Prop := finQ Tryd.prog 130 Tryd.f26 (etchhouseref2_Changes_R E Γ r) .ret σ w
theorem etchhouseref2_Changes_ok (N : Nat) {E w : World} {Γ : List HP} {i0 : Nat} {v0 : Value} {p0 : (List PartType)} {i1 : Nat} {v1 : Value} {p1 : Netlist} {i2 : Nat} {v2 : Value} {p2 : Netlist} {res : (List ListChange) × Int} (hw : Holds E w Γ) (h0 : Γ[i0]? = some (rd v0 p0)) (h1 : Γ[i1]? = some (rd v1 p1)) (h2 : Γ[i2]? = some (rd v2 p2)) (hb : etchhouseref2_Changes N p0 p1 p2 = some res) :
    Calls Tryd.prog 26 [v0, v1, v2].toArray w (Ret (etchhouseref2_Changes_R E Γ res)) := by
 unfold etchhouseref2_Changes at hb
 refine enter Tryd.func26 rfl rfl (Nat.le_of_ble_eq_true rfl) ?_
 have hw := hw.dup (i := i0 + 0) h0
 have hw := hw.dup (i := i1 + 1) h1
 have hw := hw.dup (i := i2 + 2) h2
 refine RC.sr ?_
 refine RL.box_rd (i := 1) (v := v1) trivial rfl hw rfl rfl fun b1 w hw => ?_
 refine RL.box_rd (i := 1) (v := v2) trivial rfl hw rfl rfl fun b2 w hw => ?_
 refine as_ (.slice none 0 0) rfl rfl ?_
 refine as_ (vi 0) rfl rfl ?_
 refine RL.nq ?_
 refine RC.sr ?_
 refine mv v0 rfl rfl ?_
 refine RL.load_bf (i := 1) (f := (fun x => x)) trivial rfl hw rfl rfl Fd.self ty26 fun v3 hw => ?_
 obtain ⟨x4, hx4, hb⟩ := bd hb
 refine RL.call trivial rfl fn14 [v0, v3] rfl (Calls_ret (etchhouseref2_CheckList_ok N  (i0 := 5) (i1 := 0) hw rfl rfl hx4) ?_)
 rintro _ w ⟨rfl, hw⟩
 refine as_ (vi x4) rfl rfl ?_
 refine RL.ns ?_
 refine mv (vi x4) rfl rfl ?_
 refine ic x4 0 rfl rfl rfl rfl ?_
 refine RL.nt ?_
 refine RC.cond (b := (x4 != 0)) rfl (fun hc => ?_) (fun hc => ?_)
 ·replace hb := cT hc hb
  refine RC.sr ?_
  refine mv (vi x4) rfl rfl ?_
  refine as_ (.slice none 0 0) rfl rfl ?_
  refine as_ (vi x4) rfl rfl ?_
  refine RL.nt ?_
  refine RC.rt ?_
  obtain rfl := oi hb
  have hw := hw.own_nil ListChange 53
  exact fin2 rfl rfl rfl ⟨(.slice none 0 0), rfl, hw.pick 7 [0] (new := [own 53 (.slice none 0 0) ([] : (List ListChange))]) rfl rfl (by decide) (by decide)⟩
 replace hb := cF hc hb
 refine RC.ss ?_
 refine RC.sr ?_
 refine mv v0 rfl rfl ?_
 refine RL.load_bf (i := 1) (f := (fun x => x)) trivial rfl hw rfl rfl Fd.self ty26 fun v5 hw => ?_
 obtain ⟨x6, hx6, hb⟩ := bd hb
 refine RL.call trivial rfl fn46 [v0, v5] rfl (Calls_ret (etchhouseref2_checkList_ok N  (i0 := 6) (i1 := 0) hw rfl rfl hx6) ?_)
 rintro _ w ⟨rfl, hw⟩
 refine as_ (vi x6) rfl rfl ?_
 refine RL.ns ?_
 refine mv (vi x6) rfl rfl ?_
 refine ic x6 0 rfl rfl rfl rfl ?_
 refine RL.nt ?_
 refine RC.cond (b := (x6 != 0)) rfl (fun hc => ?_) (fun hc => ?_)
 ·replace hb := cT hc hb
  refine RC.sr ?_
  refine mv (vi x6) rfl rfl ?_
  refine as_ (.slice none 0 0) rfl rfl ?_
  refine as_ (vi x6) rfl rfl ?_
  refine RL.nt ?_
  refine RC.rt ?_
  obtain rfl := oi hb
  have hw := hw.own_nil ListChange 53
  exact fin2 rfl rfl rfl ⟨(.slice none 0 0), rfl, hw.pick 8 [0] (new := [own 53 (.slice none 0 0) ([] : (List ListChange))]) rfl rfl (by decide) (by decide)⟩
 replace hb := cF hc hb
 refine RC.sx ?_
 refine as_ (.slice none 0 0) rfl rfl ?_
 refine as_ (.slice none 0 0) rfl rfl ?_
 refine as_ (.slice none 0 0) rfl rfl ?_
 refine as_ (.slice none 0 0) rfl rfl ?_
 refine RL.nq ?_
 refine RC.sr ?_
 refine RL.fa_b trivial rfl rfl fa26_0 ?_
 refine RL.load_bf (i := 2) (f := (fun x => x.Parts)) trivial rfl hw rfl rfl fd_Netlist_0 ty23 fun v7 hw => ?_
 refine RL.len_rd (i := 0) (l := p2.Parts) trivial rfl hw rfl rfl un23 ?_
 refine mv (vi 0) rfl rfl ?_
 refine RL.nt ?_
 obtain ⟨s9, hN, hb⟩ := bd hb
 refine RC.fold (fun (k8 : Nat) (s9 : (List ListChange)) (σ : Nat → Value) (w : World) => ∃ v44 : Value, agree σ [(0, v0), (4, (vp b1 0)), (5, (vp b2 0)), (10, v44), (11, (.slice none 0 0)), (12, (.slice none 0 0)), (13, (.slice none 0 0)), (35, v7), (36, (vi (p2.Parts.length : Int))), (37, (vi (k8 : Int)))] ∧ Holds E w ([rd v0 p0, bx 26 b1 p1, bx 26 b2 p2, rd v7 p2.Parts, own 53 v44 s9] ++ Γ)) (fun (s9 : (List ListChange)) (σ : Nat → Value) (w : World) => ∃ v45 : Value, agree σ [(0, v0), (4, (vp b1 0)), (5, (vp b2 0)), (10, v45), (11, (.slice none 0 0)), (12, (.slice none 0 0)), (13, (.slice none 0 0))] ∧ Holds E w ([rd v0 p0, bx 26 b1 p1, bx 26 b2 p2, rd v7 p2.Parts, own 53 v45 s9] ++ Γ)) hN ?_ ?_ ?_ ?_
 ·have hw := hw.own_nil ListChange 53
  exact ⟨(.slice none 0 0), ⟨rfl, rfl, rfl, rfl, rfl, rfl, rfl, rfl, rfl, rfl, trivial⟩, hw.pick 9 [8, 5, 4, 1, 0] (new := [rd v0 p0, bx 26 b1 p1, bx 26 b2 p2, rd v7 p2.Parts, own 53 (.slice none 0 0) ([] : (List ListChange))]) rfl rfl (by decide) (by decide)⟩
 ·intro hm s9 σ w hI
  obtain ⟨v63, ha, hw⟩ := hI
  obtain ⟨τ, rfl⟩ := ha.ups
  refine RC.sr ?_
  refine ic ((p2.Parts.length : Int)) ((p2.Parts.length : Int)) rfl rfl rfl rfl ?_
  refine RL.nq ?_
  refine RC.cond_f dge ?_
  refine RC.ex ?_
  exact ⟨rfl, v63, ⟨rfl, rfl, rfl, rfl, rfl, rfl, rfl, trivial⟩, hw.pick 5 [0, 1, 2, 3, 4] (new := [rd v0 p0, bx 26 b1 p1, bx 26 b2 p2, rd v7 p2.Parts, own 53 v63 s9]) rfl rfl (by decide) (by decide)⟩
 ·intro hm k8 s9 s' σ w hk hI hb
  obtain ⟨v46, ha, hw⟩ := hI
  obtain ⟨τ, rfl⟩ := ha.ups
  refine RC.sr ?_
  refine ic ((k8 : Int)) ((p2.Parts.length : Int)) rfl rfl rfl rfl ?_
  refine RL.nq ?_
  refine RC.cond_t (dlt hk) ?_
  refine RC.ss ?_
  refine RC.bs ?_
  obtain ⟨x47, hx47, hb⟩ := bd hb
  refine RL.ia_rd (i := 3) trivial rfl hw rfl rfl rfl sl23 hx47 fun v48 hw => ?_
  refine RL.load_pt (i := 0) (x := x47) trivial rfl hw rfl rfl ty87 fun v49 hw => ?_
  refine RL.alloc trivial rfl hw ze87.z fun b50 w hw => ?_
  refine RL.store_raw (i := 0) (j := 1) trivial hw rfl rfl rfl rfl ty87 rfl fun w hw => ?_
  refine RL.ns ?_
  refine RL.fa_b trivial rfl rfl fa26_0 ?_
  refine RL.load_bf (i := 4) (f := (fun x => x.Parts)) trivial rfl hw rfl rfl fd_Netlist_0 ty23 fun v51 hw => ?_
  refine RL.fa_b trivial rfl rfl fa87_0 ?_
  refine RL.load_bfs (i := 1) (f := (fun x => x.Name)) trivial rfl hw rfl rfl fd_Part_0 ty9 ?_
  obtain ⟨x52, hx52, hb⟩ := bd hb
  refine RL.call trivial rfl fn68 [v51, (str x47.Name)] rfl (Calls_ret (etchhouseref2_partOf_ok N (p1 := x47.Name) (i0 := 0) hw rfl hx52) ?_)
  rintro _ w ⟨rfl, hw⟩
  refine ic x52 0 rfl rfl rfl rfl ?_
  refine RL.nt ?_
  obtain ⟨s57, hj, hb⟩ := bd hb
  refine RC.jn (fun (s57 : (List ListChange)) (σ : Nat → Value) (w : World) => ∃ v58 : Value, agree σ [(0, v0), (4, (vp b1 0)), (5, (vp b2 0)), (10, v58), (11, (.slice none 0 0)), (12, (.slice none 0 0)), (13, (.slice none 0 0)), (35, v7), (36, (vi (p2.Parts.length : Int))), (37, (vi (k8 : Int)))] ∧ Holds E w ([rd v0 p0, bx 26 b1 p1, bx 26 b2 p2, rd v7 p2.Parts, own 53 v58 s57] ++ Γ)) s57 ?_ ?_
  ·refine RC.cond (b := (decide (x52 < 0))) rfl (fun hc => ?_) (fun hc => ?_)
   rotate_left
   ·replace hj := cF hc hj
    refine RC.skip ?_
    obtain rfl := oi hj
    exact ⟨rfl, v46, ⟨rfl, rfl, rfl, rfl, rfl, rfl, rfl, rfl, rfl, rfl, trivial⟩, hw.pick 9 [4, 5, 6, 7, 8] (new := [rd v0 p0, bx 26 b1 p1, bx 26 b2 p2, rd v7 p2.Parts, own 53 v46 s9]) rfl rfl (by decide) (by decide)⟩
   replace hj := cT hc hj
   refine RC.region ?_
   refine mv v46 rfl rfl ?_
   refine RL.fa_b trivial rfl rfl fa87_0 ?_
   refine RL.load_bfs (i := 1) (f := (fun x => x.Name)) trivial rfl hw rfl rfl fd_Part_0 ty9 ?_
   have hw := hw.sc (γ := Int) 1
   have hw := hw.sc (γ := Str) x47.Name
   refine RL.build (y := (⟨1, x47.Name, ⟨[]⟩⟩ : ListChange)) trivial rfl hw [(0, (vi 1)), (1, (str x47.Name))] rfl st53 rfl (fun M hs g => by have h := z_ListChange M; exact Fills.cons (f := fun (x : ListChange) y => { x with Kind := y }) rfl h fs_ListChange_0 (by decide) (g.sat 1 _ rfl).1 fun _ h => Fills.cons (f := fun (x : ListChange) y => { x with Name := y }) rfl h fs_ListChange_1 (by decide) (g.sat 0 _ rfl).1 fun _ h => Fills.nil h) fun v59 hw => ?_
   refine RL.bslice (l := ([(⟨1, x47.Name, ⟨[]⟩⟩ : ListChange)] : (List ListChange))) trivial rfl hw [v59] rfl rfl rfl sl48 ze53 (fun M hs g => ⟨(g.sat 0 _ rfl).1, trivial⟩) fun v60 w hw => ?_
   have hw := hw.freeze (i := 0) rfl
   obtain ⟨x61, hx61, hj⟩ := bd hj
   refine RL.app (i := 12) (j := 0) trivial rfl hw rfl rfl rfl rfl el48 hx61 fun v62 w hw => ?_
   refine as_ v62 rfl rfl ?_
   refine RL.nil ?_
   obtain rfl := oi hj
   exact ⟨rfl, v62, ⟨rfl, rfl, rfl, rfl, rfl, rfl, rfl, rfl, rfl, rfl, trivial⟩, hw.pick 13 [8, 9, 10, 11, 12] (new := [rd v0 p0, bx 26 b1 p1, bx 26 b2 p2, rd v7 p2.Parts, own 53 v62 x61]) rfl rfl (by decide) (by decide)⟩
  rintro σ w ⟨v58, ha, hw⟩
  obtain ⟨τ, rfl⟩ := ha.ups
  refine blkQ_n ?_
  refine thenQ_n ?_
  refine RC.region ?_
  refine RL.inc trivial rfl hk hm rfl rfl ?_
  refine mv (vi ((k8 + 1 : Nat) : Int)) rfl rfl ?_
  refine RL.nil ?_
  obtain rfl := oi hb
  exact ⟨rfl, v58, ⟨rfl, rfl, rfl, rfl, rfl, rfl, rfl, rfl, rfl, rfl, trivial⟩, hw.pick 5 [0, 1, 2, 3, 4] (new := [rd v0 p0, bx 26 b1 p1, bx 26 b2 p2, rd v7 p2.Parts, own 53 v58 s57]) rfl rfl (by decide) (by decide)⟩
 intro σ w hJ
 obtain ⟨v45, ha, hw⟩ := hJ
 obtain ⟨τ, rfl⟩ := ha.ups
 refine thenQ_n ?_
 refine RC.seq ?_
 refine RC.sr ?_
 refine RL.fa_b trivial rfl rfl fa26_0 ?_
 refine RL.load_bf (i := 1) (f := (fun x => x.Parts)) trivial rfl hw rfl rfl fd_Netlist_0 ty23 fun v64 hw => ?_
 refine RL.len_rd (i := 0) (l := p1.Parts) trivial rfl hw rfl rfl un23 ?_
 refine mv (vi 0) rfl rfl ?_
 refine RL.nt ?_
 obtain ⟨s66, hN, hb⟩ := bd hb
 refine RC.fold (fun (k65 : Nat) (s66 : (List ListChange) × (List ListChange) × (List ListChange)) (σ : Nat → Value) (w : World) => ∃ v315 v316 v317 : Value, agree σ [(0, v0), (4, (vp b1 0)), (5, (vp b2 0)), (10, v45), (11, v315), (12, v316), (13, v317), (55, v64), (56, (vi (p1.Parts.length : Int))), (57, (vi (k65 : Int)))] ∧ Holds E w ([rd v0 p0, bx 26 b1 p1, bx 26 b2 p2, own 53 v45 s9, rd v64 p1.Parts, own 53 v315 s66.1, own 53 v316 s66.2.1, own 53 v317 s66.2.2] ++ Γ)) (fun (s66 : (List ListChange) × (List ListChange) × (List ListChange)) (σ : Nat → Value) (w : World) => ∃ v318 v319 v320 : Value, agree σ [(10, v45), (11, v318), (12, v319), (13, v320)] ∧ Holds E w ([rd v0 p0, bx 26 b1 p1, bx 26 b2 p2, own 53 v45 s9, rd v64 p1.Parts, own 53 v318 s66.1, own 53 v319 s66.2.1, own 53 v320 s66.2.2] ++ Γ)) hN ?_ ?_ ?_ ?_
 ·have hw := hw.own_nil ListChange 53
  have hw := hw.own_nil ListChange 53
  have hw := hw.own_nil ListChange 53
  exact ⟨(.slice none 0 0), (.slice none 0 0), (.slice none 0 0), ⟨rfl, rfl, rfl, rfl, rfl, rfl, rfl, rfl, rfl, rfl, trivial⟩, hw.pick 9 [4, 5, 6, 8, 3, 2, 1, 0] (new := [rd v0 p0, bx 26 b1 p1, bx 26 b2 p2, own 53 v45 s9, rd v64 p1.Parts, own 53 (.slice none 0 0) ([] : (List ListChange)), own 53 (.slice none 0 0) ([] : (List ListChange)), own 53 (.slice none 0 0) ([] : (List ListChange))]) rfl rfl (by decide) (by decide)⟩
 ·intro hm s66 σ w hI
  obtain ⟨v445, v446, v447, ha, hw⟩ := hI
  obtain ⟨τ, rfl⟩ := ha.ups
  refine RC.sr ?_
  refine ic ((p1.Parts.length : Int)) ((p1.Parts.length : Int)) rfl rfl rfl rfl ?_
  refine RL.nq ?_
  refine RC.cond_f dge ?_
  refine RC.ex ?_
  exact ⟨rfl, v445, v446, v447, ⟨rfl, rfl, rfl, rfl, trivial⟩, hw.pick 8 [0, 1, 2, 3, 4, 5, 6, 7] (new := [rd v0 p0, bx 26 b1 p1, bx 26 b2 p2, own 53 v45 s9, rd v64 p1.Parts, own 53 v445 s66.1, own 53 v446 s66.2.1, own 53 v447 s66.2.2]) rfl rfl (by decide) (by decide)⟩
 ·intro hm k65 s66 s' σ w hk hI hb
  obtain ⟨v321, v322, v323, ha, hw⟩ := hI
  obtain ⟨τ, rfl⟩ := ha.ups
  refine RC.sr ?_
  refine ic ((k65 : Int)) ((p1.Parts.length : Int)) rfl rfl rfl rfl ?_
  refine RL.nq ?_
  refine RC.cond_t (dlt hk) ?_
  refine RC.ss ?_
  refine RC.bs ?_
  obtain ⟨x324, hx324, hb⟩ := bd hb
  refine RL.ia_rd (i := 4) trivial rfl hw rfl rfl rfl sl23 hx324 fun v325 hw => ?_
  refine RL.load_pt (i := 0) (x := x324) trivial rfl hw rfl rfl ty87 fun v326 hw => ?_
  refine RL.alloc trivial rfl hw ze87.z fun b327 w hw => ?_
  refine RL.store_raw (i := 0) (j := 1) trivial hw rfl rfl rfl rfl ty87 rfl fun w hw => ?_
  refine RL.ns ?_
  refine RL.fa_b trivial rfl rfl fa26_0 ?_
  refine RL.load_bf (i := 5) (f := (fun x => x.Parts)) trivial rfl hw rfl rfl fd_Netlist_0 ty23 fun v328 hw => ?_
  refine RL.fa_b trivial rfl rfl fa87_0 ?_
  refine RL.load_bfs (i := 1) (f := (fun x => x.Name)) trivial rfl hw rfl rfl fd_Part_0 ty9 ?_
  obtain ⟨x329, hx329, hb⟩ := bd hb
  refine RL.call trivial rfl fn68 [v328, (str x324.Name)] rfl (Calls_ret (etchhouseref2_partOf_ok N (p1 := x324.Name) (i0 := 0) hw rfl hx329) ?_)
  rintro _ w ⟨rfl, hw⟩
  refine as_ (vi x329) rfl rfl ?_
  refine RL.nq ?_
  refine RC.sr ?_
  refine mv (vi x329) rfl rfl ?_
  refine ic x329 0 rfl rfl rfl rfl ?_
  refine RL.nt ?_
  refine RC.cond (b := (decide (x329 < 0))) rfl (fun hc => ?_) (fun hc => ?_)
  ·replace hb := cT hc hb
   refine RC.sr ?_
   refine mv v321 rfl rfl ?_
   refine RL.fa_b trivial rfl rfl fa87_0 ?_
   refine RL.load_bfs (i := 1) (f := (fun x => x.Name)) trivial rfl hw rfl rfl fd_Part_0 ty9 ?_
   have hw := hw.sc (γ := Int) 2
   have hw := hw.sc (γ := Str) x324.Name
   refine RL.build (y := (⟨2, x324.Name, ⟨[]⟩⟩ : ListChange)) trivial rfl hw [(0, (vi 2)), (1, (str x324.Name))] rfl st53 rfl (fun M hs g => by have h := z_ListChange M; exact Fills.cons (f := fun (x : ListChange) y => { x with Kind := y }) rfl h fs_ListChange_0 (by decide) (g.sat 1 _ rfl).1 fun _ h => Fills.cons (f := fun (x : ListChange) y => { x with Name := y }) rfl h fs_ListChange_1 (by decide) (g.sat 0 _ rfl).1 fun _ h => Fills.nil h) fun v334 hw => ?_
   refine RL.bslice (l := ([(⟨2, x324.Name, ⟨[]⟩⟩ : ListChange)] : (List ListChange))) trivial rfl hw [v334] rfl rfl rfl sl48 ze53 (fun M hs g => ⟨(g.sat 0 _ rfl).1, trivial⟩) fun v335 w hw => ?_
   have hw := hw.freeze (i := 0) rfl
   obtain ⟨x336, hx336, hb⟩ := bd hb
   refine RL.app (i := 13) (j := 0) trivial rfl hw rfl rfl rfl rfl el48 hx336 fun v337 w hw => ?_
   refine as_ v337 rfl rfl ?_
   refine RL.nt ?_
   refine RC.ex ?_
   refine blkQ_e ?_
   refine thenQ_n ?_
   refine RC.region ?_
   refine RL.inc trivial rfl hk hm rfl rfl ?_
   refine mv (vi ((k65 + 1 : Nat) : Int)) rfl rfl ?_
   refine RL.nil ?_
   obtain rfl := oi hb
   exact ⟨rfl, v337, v322, v323, ⟨rfl, rfl, rfl, rfl, rfl, rfl, rfl, rfl, rfl, rfl, trivial⟩, hw.pick 16 [8, 9, 10, 11, 12, 13, 14, 15] (new := [rd v0 p0, bx 26 b1 p1, bx 26 b2 p2, own 53 v45 s9, rd v64 p1.Parts, own 53 v337 x336, own 53 v322 s66.2.1, own 53 v323 s66.2.2]) rfl rfl (by decide) (by decide)⟩
  replace hb := cF hc hb
  refine RC.ss ?_
  refine RC.seq ?_
  obtain ⟨x339, hx339, hb⟩ := bd hb
  refine RC.drw mixed rfl (fun (D : Nat → Bool) (σ : Nat → Value) (w : World) => ∃ (v338 : Value) (v340 : Value) (v341 : Value), doneV D σ [(0, 74, (vp b2 0)), (1, 75, v338), (2, 76, (vi x329)), (3, 77, v340), (4, 78, v341), (5, 79, (str x339.Type_)), (6, 80, (vp b327 1)), (7, 81, (str x324.Type_)), (8, 82, (vb (!x339.Type_.eqb x324.Type_)))] ∧ agree σ [(0, v0), (4, (vp b1 0)), (5, (vp b2 0)), (10, v45), (11, v321), (12, v322), (13, v323), (17, (vp b327 0)), (18, (vi x329)), (55, v64), (56, (vi (p1.Parts.length : Int))), (57, (vi (k65 : Int)))] ∧ Holds E w ([bif D 1 then (rd v338 p2.Parts) else junk, bif D 3 then (pt v340 x339) else junk, bif D 4 then (pt v341 x339.Type_) else junk, rd v328 p2.Parts, bx 87 b327 x324, rd v326 x324, pt v325 x324, rd v0 p0, bx 26 b1 p1, bx 26 b2 p2, own 53 v45 s9, rd v64 p1.Parts, own 53 v321 s66.1, own 53 v322 s66.2.1, own 53 v323 s66.2.2] ++ Γ)) ?_ ⟨?_, ?_, ?_, ?_, ?_, ?_, ?_, ?_, ?_, trivial⟩ ?_
  ·have hw := hw.drew
   have hw := hw.junk
   have hw := hw.junk
   have hw := hw.junk
   exact ⟨undef, undef, undef, doneV.none, ⟨rfl, rfl, rfl, rfl, rfl, rfl, rfl, rfl, rfl, rfl, rfl, rfl, trivial⟩, hw⟩
  ·rintro D σ w hD hdep hcl ⟨v338, v340, v341, hv, ha, hw⟩
   obtain ⟨τ, rfl⟩ := (ac (ha.at 2 rfl) az).ups
   refine RL.fa_b trivial rfl rfl fa26_0 ?_
   refine RL.nil ?_
   exact ⟨rfl, v338, v340, v341, hv.put 0 rfl rfl, ha.up rfl, hw⟩
  ·rintro D σ w hD hdep hcl ⟨v338, v340, v341, hv, ha, hw⟩
   obtain ⟨τ, rfl⟩ := (ac (hv.at 0 rfl (hdep.1 rfl)) az).ups
   have hw := hw.selF (i := 0) rfl hD
   refine RL.load_bf (i := 9) (f := (fun x => x.Parts)) trivial rfl hw rfl rfl fd_Netlist_0 ty23 fun v342 hw => ?_
   have hw := hw.pick 16 [0, 2, 3, 4, 5, 6, 7, 8, 9, 10, 11, 12, 13, 14, 15] (new := [rd v342 p2.Parts, bif D 3 then (pt v340 x339) else junk, bif D 4 then (pt v341 x339.Type_) else junk, rd v328 p2.Parts, bx 87 b327 x324, rd v326 x324, pt v325 x324, rd v0 p0, bx 26 b1 p1, bx 26 b2 p2, own 53 v45 s9, rd v64 p1.Parts, own 53 v321 s66.1, own 53 v322 s66.2.1, own 53 v323 s66.2.2]) rfl rfl (by decide) (by decide)
   have hw := hw.altT (i := 0) (b := true) rfl rfl (junk)
   refine RL.nil ?_
   exact ⟨rfl, v342, v340, v341, hv.put 1 rfl rfl, ha.up rfl, hw⟩
  ·rintro D σ w hD hdep hcl ⟨v338, v340, v341, hv, ha, hw⟩
   obtain ⟨τ, rfl⟩ := (ac (ha.at 8 rfl) az).ups
   refine mv (vi x329) rfl rfl ?_
   refine RL.nil ?_
   exact ⟨rfl, v338, v340, v341, hv.put 2 rfl rfl, ha.up rfl, hw⟩
  ·rintro D σ w hD hdep hcl ⟨v338, v340, v341, hv, ha, hw⟩
   obtain ⟨τ, rfl⟩ := (ac (hv.at 1 rfl (hdep.1 rfl)) (ac (hv.at 2 rfl (hdep.2.1 rfl)) az)).ups
   have hw := hw.selT (i := 0) rfl (hdep.1 rfl)
   have hw := hw.selF (i := 1) rfl hD
   refine RL.ia_rd (i := 0) trivial rfl hw rfl rfl rfl sl23 hx339 fun v343 hw => ?_
   have hw := hw.pick 16 [1, 0, 3, 4, 5, 6, 7, 8, 9, 10, 11, 12, 13, 14, 15] (new := [rd v338 p2.Parts, pt v343 x339, bif D 4 then (pt v341 x339.Type_) else junk, rd v328 p2.Parts, bx 87 b327 x324, rd v326 x324, pt v325 x324, rd v0 p0, bx 26 b1 p1, bx 26 b2 p2, own 53 v45 s9, rd v64 p1.Parts, own 53 v321 s66.1, own 53 v322 s66.2.1, own 53 v323 s66.2.2]) rfl rfl (by decide) (by decide)
   have hw := hw.altT (i := 0) (b := D 1) rfl (hdep.1 rfl) (junk)
   have hw := hw.altT (i := 1) (b := true) rfl rfl (junk)
   refine RL.nil ?_
   exact ⟨rfl, v338, v343, v341, hv.put 3 rfl rfl, ha.up rfl, hw⟩
  ·rintro D σ w hD hdep hcl ⟨v338, v340, v341, hv, ha, hw⟩
   obtain ⟨τ, rfl⟩ := (ac (hv.at 3 rfl (hdep.1 rfl)) az).ups
   have hw := hw.selT (i := 1) rfl (hdep.1 rfl)
   have hw := hw.selF (i := 2) rfl hD
   refine RL.fa_pt (i := 1) (f := fun (x : Part) => x.Type_) trivial rfl hw rfl rfl fa87_1 fd_Part_1 fun v344 hw => ?_
   have hw := hw.pick 16 [1, 2, 0, 4, 5, 6, 7, 8, 9, 10, 11, 12, 13, 14, 15] (new := [bif D 1 then (rd v338 p2.Parts) else junk, pt v340 x339, pt v344 x339.Type_, rd v328 p2.Parts, bx 87 b327 x324, rd v326 x324, pt v325 x324, rd v0 p0, bx 26 b1 p1, bx 26 b2 p2, own 53 v45 s9, rd v64 p1.Parts, own 53 v321 s66.1, own 53 v322 s66.2.1, own 53 v323 s66.2.2]) rfl rfl (by decide) (by decide)
   have hw := hw.altT (i := 1) (b := D 3) rfl (hdep.1 rfl) (junk)
   have hw := hw.altT (i := 2) (b := true) rfl rfl (junk)
   refine RL.nil ?_
   exact ⟨rfl, v338, v340, v344, hv.put 4 rfl rfl, ha.up rfl, hw⟩
  ·rintro D σ w hD hdep hcl ⟨v338, v340, v341, hv, ha, hw⟩
   obtain ⟨τ, rfl⟩ := (ac (hv.at 4 rfl (hdep.1 rfl)) az).ups
   have hw := hw.selT (i := 2) rfl (hdep.1 rfl)
   refine RL.load_pts (i := 2) (y := x339.Type_) trivial rfl hw rfl rfl ty9 ?_
   have hw := hw.altT (i := 2) (b := D 4) rfl (hdep.1 rfl) (junk)
   refine RL.nil ?_
   exact ⟨rfl, v338, v340, v341, hv.put 5 rfl rfl, ha.up rfl, hw⟩
  ·rintro D σ w hD hdep hcl ⟨v338, v340, v341, hv, ha, hw⟩
   obtain ⟨τ, rfl⟩ := (ac (ha.at 7 rfl) az).ups
   refine RL.fa_b trivial rfl rfl fa87_1 ?_
   refine RL.nil ?_
   exact ⟨rfl, v338, v340, v341, hv.put 6 rfl rfl, ha.up rfl, hw⟩
  ·rintro D σ w hD hdep hcl ⟨v338, v340, v341, hv, ha, hw⟩
   obtain ⟨τ, rfl⟩ := (ac (hv.at 6 rfl (hdep.1 rfl)) az).ups
   refine RL.load_bfs (i := 4) (f := (fun x => x.Type_)) trivial rfl hw rfl rfl fd_Part_1 ty9 ?_
   refine RL.nil ?_
   exact ⟨rfl, v338, v340, v341, hv.put 7 rfl rfl, ha.up rfl, hw⟩
  ·rintro D σ w hD hdep hcl ⟨v338, v340, v341, hv, ha, hw⟩
   obtain ⟨τ, rfl⟩ := (ac (hv.at 5 rfl (hdep.1 rfl)) (ac (hv.at 7 rfl (hdep.2.1 rfl)) az)).ups
   refine RL.scmp (a := x339.Type_) (b := x324.Type_) trivial rfl rfl rfl rfl ?_
   refine RL.nil ?_
   exact ⟨rfl, v338, v340, v341, hv.put 8 rfl rfl, ha.up rfl, hw⟩
  rintro D σ w hall ⟨v338, v340, v341, hv, ha, hw⟩
  rw [hall 1 (by decide), hall 3 (by decide), hall 4 (by decide)] at hw
  obtain ⟨τ, rfl⟩ := (ac (hv.at 8 rfl (hall 8 (by decide))) (ac (ha.at 0 rfl) (ac (ha.at 1 rfl) (ac (ha.at 2 rfl) (ac (ha.at 3 rfl) (ac (ha.at 4 rfl) (ac (ha.at 5 rfl) (ac (ha.at 6 rfl) (ac (ha.at 7 rfl) (ac (ha.at 8 rfl) (ac (ha.at 9 rfl) (ac (ha.at 10 rfl) (ac (ha.at 11 rfl) az))))))))))))).ups
  refine thenQ_n ?_
  refine RC.cond (b := (!x339.Type_.eqb x324.Type_)) rfl (fun hc => ?_) (fun hc => ?_)
  ·replace hb := cT hc hb
   refine RC.sr ?_
   refine mv v322 rfl rfl ?_
   refine RL.fa_b trivial rfl rfl fa87_0 ?_
   refine RL.load_bfs (i := 4) (f := (fun x => x.Name)) trivial rfl hw rfl rfl fd_Part_0 ty9 ?_
   have hw := hw.sc (γ := Int) 3
   have hw := hw.sc (γ := Str) x324.Name
   refine RL.build (y := (⟨3, x324.Name, ⟨[]⟩⟩ : ListChange)) trivial rfl hw [(0, (vi 3)), (1, (str x324.Name))] rfl st53 rfl (fun M hs g => by have h := z_ListChange M; exact Fills.cons (f := fun (x : ListChange) y => { x with Kind := y }) rfl h fs_ListChange_0 (by decide) (g.sat 1 _ rfl).1 fun _ h => Fills.cons (f := fun (x : ListChange) y => { x with Name := y }) rfl h fs_ListChange_1 (by decide) (g.sat 0 _ rfl).1 fun _ h => Fills.nil h) fun v349 hw => ?_
   refine RL.bslice (l := ([(⟨3, x324.Name, ⟨[]⟩⟩ : ListChange)] : (List ListChange))) trivial rfl hw [v349] rfl rfl rfl sl48 ze53 (fun M hs g => ⟨(g.sat 0 _ rfl).1, trivial⟩) fun v350 w hw => ?_
   have hw := hw.freeze (i := 0) rfl
   obtain ⟨x351, hx351, hb⟩ := bd hb
   refine RL.app (i := 17) (j := 0) trivial rfl hw rfl rfl rfl rfl el48 hx351 fun v352 w hw => ?_
   refine as_ v352 rfl rfl ?_
   refine RL.nt ?_
   refine RC.ex ?_
   refine blkQ_e ?_
   refine thenQ_n ?_
   refine RC.region ?_
   refine RL.inc trivial rfl hk hm rfl rfl ?_
   refine mv (vi ((k65 + 1 : Nat) : Int)) rfl rfl ?_
   refine RL.nil ?_
   obtain rfl := oi hb
   exact ⟨rfl, v321, v352, v323, ⟨rfl, rfl, rfl, rfl, rfl, rfl, rfl, rfl, rfl, rfl, trivial⟩, hw.pick 19 [11, 12, 13, 14, 15, 16, 17, 18] (new := [rd v0 p0, bx 26 b1 p1, bx 26 b2 p2, own 53 v45 s9, rd v64 p1.Parts, own 53 v321 s66.1, own 53 v352 x351, own 53 v323 s66.2.2]) rfl rfl (by decide) (by decide)⟩
  replace hb := cF hc hb
  refine RC.sx ?_
  refine mv v0 rfl rfl ?_
  refine mv v0 rfl rfl ?_
  refine RL.fa_b trivial rfl rfl fa87_1 ?_
  refine RL.load_bfs (i := 4) (f := (fun x => x.Type_)) trivial rfl hw rfl rfl fd_Part_1 ty9 ?_
  obtain ⟨x353, hx353, hb⟩ := bd hb
  refine RL.call trivial rfl fn69 [v0, (str x324.Type_)] rfl (Calls_ret (etchhouseref2_typeOf_ok N (p1 := x324.Type_) (i0 := 7) hw rfl hx353) ?_)
  rintro _ w ⟨rfl, hw⟩
  obtain ⟨x354, hx354, hb⟩ := bd hb
  refine RL.ia_rd (i := 7) trivial rfl hw rfl rfl rfl sl22 hx354 fun v355 hw => ?_
  refine RL.fa_pt (i := 0) (f := fun (x : PartType) => x.Pins) trivial rfl hw rfl rfl fa85_1 fd_PartType_1 fun v356 hw => ?_
  refine RL.load_pt (i := 0) (x := x354.Pins) trivial rfl hw rfl rfl ty83 fun v357 hw => ?_
  refine RL.len_rd (i := 0) (l := x354.Pins) trivial rfl hw rfl rfl un83 ?_
  refine mv (vi 0) rfl rfl ?_
  refine RL.nt ?_
  obtain ⟨s359, hN, hb⟩ := bd hb
  refine RC.fold (fun (k358 : Nat) (s359 : (List ListChange)) (σ : Nat → Value) (w : World) => ∃ v414 : Value, agree σ [(0, v0), (4, (vp b1 0)), (5, (vp b2 0)), (10, v45), (11, v321), (12, v322), (13, v414), (17, (vp b327 0)), (55, v64), (56, (vi (p1.Parts.length : Int))), (57, (vi (k65 : Int))), (96, v357), (97, (vi (x354.Pins.length : Int))), (98, (vi (k358 : Int)))] ∧ Holds E w ([rd v0 p0, bx 26 b1 p1, bx 26 b2 p2, own 53 v45 s9, own 53 v321 s66.1, own 53 v322 s66.2.1, bx 87 b327 x324, rd v64 p1.Parts, rd v357 x354.Pins, own 53 v414 s359] ++ Γ)) (fun (s359 : (List ListChange)) (σ : Nat → Value) (w : World) => ∃ v415 : Value, agree σ [(0, v0), (4, (vp b1 0)), (5, (vp b2 0)), (10, v45), (11, v321), (12, v322), (13, v415), (55, v64), (56, (vi (p1.Parts.length : Int))), (57, (vi (k65 : Int)))] ∧ Holds E w ([rd v0 p0, bx 26 b1 p1, bx 26 b2 p2, own 53 v45 s9, own 53 v321 s66.1, own 53 v322 s66.2.1, bx 87 b327 x324, rd v64 p1.Parts, rd v357 x354.Pins, own 53 v415 s359] ++ Γ)) hN ?_ ?_ ?_ ?_
  ·exact ⟨v323, ⟨rfl, rfl, rfl, rfl, rfl, rfl, rfl, rfl, rfl, rfl, rfl, rfl, rfl, rfl, trivial⟩, hw.pick 18 [10, 11, 12, 13, 15, 16, 7, 14, 0, 17] (new := [rd v0 p0, bx 26 b1 p1, bx 26 b2 p2, own 53 v45 s9, own 53 v321 s66.1, own 53 v322 s66.2.1, bx 87 b327 x324, rd v64 p1.Parts, rd v357 x354.Pins, own 53 v323 s66.2.2]) rfl rfl (by decide) (by decide)⟩
  ·intro hm s359 σ w hI
   obtain ⟨v443, ha, hw⟩ := hI
   obtain ⟨τ, rfl⟩ := ha.ups
   refine RC.sr ?_
   refine ic ((x354.Pins.length : Int)) ((x354.Pins.length : Int)) rfl rfl rfl rfl ?_
   refine RL.nq ?_
   refine RC.cond_f dge ?_
   refine RC.ex ?_
   exact ⟨rfl, v443, ⟨rfl, rfl, rfl, rfl, rfl, rfl, rfl, rfl, rfl, rfl, trivial⟩, hw.pick 10 [0, 1, 2, 3, 4, 5, 6, 7, 8, 9] (new := [rd v0 p0, bx 26 b1 p1, bx 26 b2 p2, own 53 v45 s9, own 53 v321 s66.1, own 53 v322 s66.2.1, bx 87 b327 x324, rd v64 p1.Parts, rd v357 x354.Pins, own 53 v443 s359]) rfl rfl (by decide) (by decide)⟩
  ·intro hm k358 s359 s' σ w hk hI hb
   obtain ⟨v416, ha, hw⟩ := hI
   obtain ⟨τ, rfl⟩ := ha.ups
   refine RC.sr ?_
   refine ic ((k358 : Int)) ((x354.Pins.length : Int)) rfl rfl rfl rfl ?_
   refine RL.nq ?_
   refine RC.cond_t (dlt hk) ?_
   refine RC.ss ?_
   refine RC.bs ?_
   obtain ⟨x417, hx417, hb⟩ := bd hb
   refine RL.ia_rd (i := 8) trivial rfl hw rfl rfl rfl sl83 hx417 fun v418 hw => ?_
   refine RL.load_pt (i := 0) (x := x417) trivial rfl hw rfl rfl ty82 fun v419 hw => ?_
   refine RL.alloc trivial rfl hw ze82.z fun b420 w hw => ?_
   refine RL.store_raw (i := 0) (j := 1) trivial hw rfl rfl rfl rfl ty82 rfl fun w hw => ?_
   refine RL.ns ?_
   refine RL.fa_b trivial rfl rfl fa87_0 ?_
   refine RL.load_bfs (i := 9) (f := (fun x => x.Name)) trivial rfl hw rfl rfl fd_Part_0 ty9 ?_
   refine RL.fa_b trivial rfl rfl fa82_0 ?_
   refine RL.load_bfs (i := 0) (f := (fun x => x.Name)) trivial rfl hw rfl rfl fd_PinType_0 ty9 ?_
   have hw := hw.sc (γ := Str) x324.Name
   have hw := hw.sc (γ := Str) x417.Name
   refine RL.build (y := (⟨x324.Name, x417.Name⟩ : Pin)) trivial rfl hw [(0, (str x324.Name)), (1, (str x417.Name))] rfl st28 rfl (fun M hs g => by have h := z_Pin M; exact Fills.cons (f := fun (x : Pin) y => { x with Part := y }) rfl h fs_Pin_0 (by decide) (g.sat 1 _ rfl).1 fun _ h => Fills.cons (f := fun (x : Pin) y => { x with Pin := y }) rfl h fs_Pin_1 (by decide) (g.sat 0 _ rfl).1 fun _ h => Fills.nil h) fun v421 hw => ?_
   refine RL.alloc trivial rfl hw ze28.z fun b422 w hw => ?_
   refine RL.store_raw (i := 0) (j := 1) trivial hw rfl rfl rfl rfl ty28 rfl fun w hw => ?_
   refine RL.nq ?_
   obtain ⟨x425, hx425, hb⟩ := bd hb
   obtain ⟨x428, hx428, hb⟩ := bd hb
   refine RC.drw mixed rfl (fun (D : Nat → Bool) (σ : Nat → Value) (w : World) => ∃ (v423 : Value) (v424 : Value) (v426 : Value) (v427 : Value), doneV D σ [(0, 107, v423), (1, 108, v424), (2, 109, (str x425)), (3, 110, v426), (4, 111, v427), (5, 112, (str x428)), (6, 113, (vb (!x425.eqb x428)))] ∧ agree σ [(0, v0), (4, (vp b1 0)), (5, (vp b2 0)), (10, v45), (11, v321), (12, v322), (13, v416), (17, (vp b327 0)), (20, (vp b420 0)), (21, (vp b422 0)), (55, v64), (56, (vi (p1.Parts.length : Int))), (57, (vi (k65 : Int))), (96, v357), (97, (vi (x354.Pins.length : Int))), (98, (vi (k358 : Int)))] ∧ Holds E w ([bif D 0 then (rd v423 p1) else junk, bif D 1 then (rd v424 (⟨x324.Name, x417.Name⟩ : Pin)) else junk, bif D 3 then (rd v426 p2) else junk, bif D 4 then (rd v427 (⟨x324.Name, x417.Name⟩ : Pin)) else junk, bx 28 b422 (⟨x324.Name, x417.Name⟩ : Pin), rd v421 (⟨x324.Name, x417.Name⟩ : Pin), rd (str x417.Name) x417.Name, rd (str x324.Name) x324.Name, bx 82 b420 x417, rd v419 x417, pt v418 x417, rd v0 p0, bx 26 b1 p1, bx 26 b2 p2, own 53 v45 s9, own 53 v321 s66.1, own 53 v322 s66.2.1, bx 87 b327 x324, rd v64 p1.Parts, rd v357 x354.Pins, own 53 v416 s359] ++ Γ)) ?_ ⟨?_, ?_, ?_, ?_, ?_, ?_, ?_, trivial⟩ ?_
   ·have hw := hw.drew
    have hw := hw.junk
    have hw := hw.junk
    have hw := hw.junk
    have hw := hw.junk
    exact ⟨undef, undef, undef, undef, doneV.none, ⟨rfl, rfl, rfl, rfl, rfl, rfl, rfl, rfl, rfl, rfl, rfl, rfl, rfl, rfl, rfl, rfl, trivial⟩, hw⟩
   ·rintro D σ w hD hdep hcl ⟨v423, v424, v426, v427, hv, ha, hw⟩
    obtain ⟨τ, rfl⟩ := (ac (ha.at 1 rfl) az).ups
    have hw := hw.selF (i := 0) rfl hD
    refine RL.load_bf (i := 12) (f := (fun x => x)) trivial rfl hw rfl rfl Fd.self ty26 fun v429 hw => ?_
    have hw := hw.pick 22 [0, 2, 3, 4, 5, 6, 7, 8, 9, 10, 11, 12, 13, 14, 15, 16, 17, 18, 19, 20, 21] (new := [rd v429 p1, bif D 1 then (rd v424 (⟨x324.Name, x417.Name⟩ : Pin)) else junk, bif D 3 then (rd v426 p2) else junk, bif D 4 then (rd v427 (⟨x324.Name, x417.Name⟩ : Pin)) else junk, bx 28 b422 (⟨x324.Name, x417.Name⟩ : Pin), rd v421 (⟨x324.Name, x417.Name⟩ : Pin), rd (str x417.Name) x417.Name, rd (str x324.Name) x324.Name, bx 82 b420 x417, rd v419 x417, pt v418 x417, rd v0 p0, bx 26 b1 p1, bx 26 b2 p2, own 53 v45 s9, own 53 v321 s66.1, own 53 v322 s66.2.1, bx 87 b327 x324, rd v64 p1.Parts, rd v357 x354.Pins, own 53 v416 s359]) rfl rfl (by decide) (by decide)
    have hw := hw.altT (i := 0) (b := true) rfl rfl (junk)
    refine RL.nil ?_
    exact ⟨rfl, v429, v424, v426, v427, hv.put 0 rfl rfl, ha.up rfl, hw⟩
   ·rintro D σ w hD hdep hcl ⟨v423, v424, v426, v427, hv, ha, hw⟩
    obtain ⟨τ, rfl⟩ := (ac (ha.at 9 rfl) az).ups
    have hw := hw.selF (i := 1) rfl hD
    refine RL.load_bf (i := 4) (f := (fun x => x)) trivial rfl hw rfl rfl Fd.self ty28 fun v430 hw => ?_
    have hw := hw.pick 22 [1, 0, 3, 4, 5, 6, 7, 8, 9, 10, 11, 12, 13, 14, 15, 16, 17, 18, 19, 20, 21] (new := [bif D 0 then (rd v423 p1) else junk, rd v430 (⟨x324.Name, x417.Name⟩ : Pin), bif D 3 then (rd v426 p2) else junk, bif D 4 then (rd v427 (⟨x324.Name, x417.Name⟩ : Pin)) else junk, bx 28 b422 (⟨x324.Name, x417.Name⟩ : Pin), rd v421 (⟨x324.Name, x417.Name⟩ : Pin), rd (str x417.Name) x417.Name, rd (str x324.Name) x324.Name, bx 82 b420 x417, rd v419 x417, pt v418 x417, rd v0 p0, bx 26 b1 p1, bx 26 b2 p2, own 53 v45 s9, own 53 v321 s66.1, own 53 v322 s66.2.1, bx 87 b327 x324, rd v64 p1.Parts, rd v357 x354.Pins, own 53 v416 s359]) rfl rfl (by decide) (by decide)
    have hw := hw.altT (i := 1) (b := true) rfl rfl (junk)
    refine RL.nil ?_
    exact ⟨rfl, v423, v430, v426, v427, hv.put 1 rfl rfl, ha.up rfl, hw⟩
   ·rintro D σ w hD hdep hcl ⟨v423, v424, v426, v427, hv, ha, hw⟩
    obtain ⟨τ, rfl⟩ := (ac (hv.at 0 rfl (hdep.1 rfl)) (ac (hv.at 1 rfl (hdep.2.1 rfl)) az)).ups
    have hw := hw.selT (i := 0) rfl (hdep.1 rfl)
    have hw := hw.selT (i := 1) rfl (hdep.2.1 rfl)
    refine RL.call trivial rfl fn70 [v423, v424] rfl (Calls_ret (etchhouseref2_netName_ok N  (i0 := 0) (i1 := 1) hw rfl rfl hx425) ?_)
    rintro _ w ⟨rfl, hw⟩
    have hw := hw.altT (i := 0) (b := D 0) rfl (hdep.1 rfl) (junk)
    have hw := hw.altT (i := 1) (b := D 1) rfl (hdep.2.1 rfl) (junk)
    refine RL.nil ?_
    exact ⟨rfl, v423, v424, v426, v427, hv.put 2 rfl rfl, ha.up rfl, hw⟩
   ·rintro D σ w hD hdep hcl ⟨v423, v424, v426, v427, hv, ha, hw⟩
    obtain ⟨τ, rfl⟩ := (ac (ha.at 2 rfl) az).ups
    have hw := hw.selF (i := 2) rfl hD
    refine RL.load_bf (i := 13) (f := (fun x => x)) trivial rfl hw rfl rfl Fd.self ty26 fun v431 hw => ?_
    have hw := hw.pick 22 [1, 2, 0, 4, 5, 6, 7, 8, 9, 10, 11, 12, 13, 14, 15, 16, 17, 18, 19, 20, 21] (new := [bif D 0 then (rd v423 p1) else junk, bif D 1 then (rd v424 (⟨x324.Name, x417.Name⟩ : Pin)) else junk, rd v431 p2, bif D 4 then (rd v427 (⟨x324.Name, x417.Name⟩ : Pin)) else junk, bx 28 b422 (⟨x324.Name, x417.Name⟩ : Pin), rd v421 (⟨x324.Name, x417.Name⟩ : Pin), rd (str x417.Name) x417.Name, rd (str x324.Name) x324.Name, bx 82 b420 x417, rd v419 x417, pt v418 x417, rd v0 p0, bx 26 b1 p1, bx 26 b2 p2, own 53 v45 s9, own 53 v321 s66.1, own 53 v322 s66.2.1, bx 87 b327 x324, rd v64 p1.Parts, rd v357 x354.Pins, own 53 v416 s359]) rfl rfl (by decide) (by decide)
    have hw := hw.altT (i := 2) (b := true) rfl rfl (junk)
    refine RL.nil ?_
    exact ⟨rfl, v423, v424, v431, v427, hv.put 3 rfl rfl, ha.up rfl, hw⟩
   ·rintro D σ w hD hdep hcl ⟨v423, v424, v426, v427, hv, ha, hw⟩
    obtain ⟨τ, rfl⟩ := (ac (ha.at 9 rfl) az).ups
    have hw := hw.selF (i := 3) rfl hD
    refine RL.load_bf (i := 4) (f := (fun x => x)) trivial rfl hw rfl rfl Fd.self ty28 fun v432 hw => ?_
    have hw := hw.pick 22 [1, 2, 3, 0, 5, 6, 7, 8, 9, 10, 11, 12, 13, 14, 15, 16, 17, 18, 19, 20, 21] (new := [bif D 0 then (rd v423 p1) else junk, bif D 1 then (rd v424 (⟨x324.Name, x417.Name⟩ : Pin)) else junk, bif D 3 then (rd v426 p2) else junk, rd v432 (⟨x324.Name, x417.Name⟩ : Pin), bx 28 b422 (⟨x324.Name, x417.Name⟩ : Pin), rd v421 (⟨x324.Name, x417.Name⟩ : Pin), rd (str x417.Name) x417.Name, rd (str x324.Name) x324.Name, bx 82 b420 x417, rd v419 x417, pt v418 x417, rd v0 p0, bx 26 b1 p1, bx 26 b2 p2, own 53 v45 s9, own 53 v321 s66.1, own 53 v322 s66.2.1, bx 87 b327 x324, rd v64 p1.Parts, rd v357 x354.Pins, own 53 v416 s359]) rfl rfl (by decide) (by decide)
    have hw := hw.altT (i := 3) (b := true) rfl rfl (junk)
    refine RL.nil ?_
    exact ⟨rfl, v423, v424, v426, v432, hv.put 4 rfl rfl, ha.up rfl, hw⟩
   ·rintro D σ w hD hdep hcl ⟨v423, v424, v426, v427, hv, ha, hw⟩
    obtain ⟨τ, rfl⟩ := (ac (hv.at 3 rfl (hdep.1 rfl)) (ac (hv.at 4 rfl (hdep.2.1 rfl)) az)).ups
    have hw := hw.selT (i := 2) rfl (hdep.1 rfl)
    have hw := hw.selT (i := 3) rfl (hdep.2.1 rfl)
    refine RL.call trivial rfl fn70 [v426, v427] rfl (Calls_ret (etchhouseref2_netName_ok N  (i0 := 2) (i1 := 3) hw rfl rfl hx428) ?_)
    rintro _ w ⟨rfl, hw⟩
    have hw := hw.altT (i := 2) (b := D 3) rfl (hdep.1 rfl) (junk)
    have hw := hw.altT (i := 3) (b := D 4) rfl (hdep.2.1 rfl) (junk)
    refine RL.nil ?_
    exact ⟨rfl, v423, v424, v426, v427, hv.put 5 rfl rfl, ha.up rfl, hw⟩
   ·rintro D σ w hD hdep hcl ⟨v423, v424, v426, v427, hv, ha, hw⟩
    obtain ⟨τ, rfl⟩ := (ac (hv.at 2 rfl (hdep.1 rfl)) (ac (hv.at 5 rfl (hdep.2.1 rfl)) az)).ups
    refine RL.scmp (a := x425) (b := x428) trivial rfl rfl rfl rfl ?_
    refine RL.nil ?_
    exact ⟨rfl, v423, v424, v426, v427, hv.put 6 rfl rfl, ha.up rfl, hw⟩
   rintro D σ w hall ⟨v423, v424, v426, v427, hv, ha, hw⟩
   rw [hall 0 (by decide), hall 1 (by decide), hall 3 (by decide), hall 4 (by decide)] at hw
   obtain ⟨τ, rfl⟩ := (ac (hv.at 6 rfl (hall 6 (by decide))) (ac (ha.at 0 rfl) (ac (ha.at 1 rfl) (ac (ha.at 2 rfl) (ac (ha.at 3 rfl) (ac (ha.at 4 rfl) (ac (ha.at 5 rfl) (ac (ha.at 6 rfl) (ac (ha.at 7 rfl) (ac (ha.at 8 rfl) (ac (ha.at 9 rfl) (ac (ha.at 10 rfl) (ac (ha.at 11 rfl) (ac (ha.at 12 rfl) (ac (ha.at 13 rfl) (ac (ha.at 14 rfl) (ac (ha.at 15 rfl) az))))))))))))))))).ups
   refine thenQ_n ?_
   obtain ⟨s437, hj, hb⟩ := bd hb
   refine RC.jn (fun (s437 : (List ListChange)) (σ : Nat → Value) (w : World) => ∃ v438 : Value, agree σ [(0, v0), (4, (vp b1 0)), (5, (vp b2 0)), (10, v45), (11, v321), (12, v322), (13, v438), (17, (vp b327 0)), (55, v64), (56, (vi (p1.Parts.length : Int))), (57, (vi (k65 : Int))), (96, v357), (97, (vi (x354.Pins.length : Int))), (98, (vi (k358 : Int)))] ∧ Holds E w ([rd v0 p0, bx 26 b1 p1, bx 26 b2 p2, own 53 v45 s9, own 53 v321 s66.1, own 53 v322 s66.2.1, bx 87 b327 x324, rd v64 p1.Parts, rd v357 x354.Pins, own 53 v438 s437] ++ Γ)) s437 ?_ ?_
   ·refine RC.cond (b := (!x425.eqb x428)) rfl (fun hc => ?_) (fun hc => ?_)
    rotate_left
    ·replace hj := cF hc hj
     refine RC.skip ?_
     obtain rfl := oi hj
     exact ⟨rfl, v416, ⟨rfl, rfl, rfl, rfl, rfl, rfl, rfl, rfl, rfl, rfl, rfl, rfl, rfl, rfl, trivial⟩, hw.pick 21 [11, 12, 13, 14, 15, 16, 17, 18, 19, 20] (new := [rd v0 p0, bx 26 b1 p1, bx 26 b2 p2, own 53 v45 s9, own 53 v321 s66.1, own 53 v322 s66.2.1, bx 87 b327 x324, rd v64 p1.Parts, rd v357 x354.Pins, own 53 v416 s359]) rfl rfl (by decide) (by decide)⟩
    replace hj := cT hc hj
    refine RC.region ?_
    refine mv v416 rfl rfl ?_
    refine RL.fa_b trivial rfl rfl fa87_0 ?_
    refine RL.load_bfs (i := 17) (f := (fun x => x.Name)) trivial rfl hw rfl rfl fd_Part_0 ty9 ?_
    refine RL.fa_b trivial rfl rfl fa82_0 ?_
    refine RL.load_bfs (i := 8) (f := (fun x => x.Name)) trivial rfl hw rfl rfl fd_PinType_0 ty9 ?_
    have hw := hw.sc (γ := Int) 4
    have hw := hw.sc (γ := Str) x324.Name
    have hw := hw.sc (γ := Str) x417.Name
    refine RL.build (y := (⟨4, x324.Name, x417.Name⟩ : ListChange)) trivial rfl hw [(0, (vi 4)), (1, (str x324.Name)), (2, (str x417.Name))] rfl st53 rfl (fun M hs g => by have h := z_ListChange M; exact Fills.cons (f := fun (x : ListChange) y => { x with Kind := y }) rfl h fs_ListChange_0 (by decide) (g.sat 2 _ rfl).1 fun _ h => Fills.cons (f := fun (x : ListChange) y => { x with Name := y }) rfl h fs_ListChange_1 (by decide) (g.sat 1 _ rfl).1 fun _ h => Fills.cons (f := fun (x : ListChange) y => { x with Pin := y }) rfl h fs_ListChange_2 (by decide) (g.sat 0 _ rfl).1 fun _ h => Fills.nil h) fun v439 hw => ?_
    refine RL.bslice (l := ([(⟨4, x324.Name, x417.Name⟩ : ListChange)] : (List ListChange))) trivial rfl hw [v439] rfl rfl rfl sl48 ze53 (fun M hs g => ⟨(g.sat 0 _ rfl).1, trivial⟩) fun v440 w hw => ?_
    have hw := hw.freeze (i := 0) rfl
    obtain ⟨x441, hx441, hj⟩ := bd hj
    refine RL.app (i := 25) (j := 0) trivial rfl hw rfl rfl rfl rfl el48 hx441 fun v442 w hw => ?_
    refine as_ v442 rfl rfl ?_
    refine RL.nil ?_
    obtain rfl := oi hj
    exact ⟨rfl, v442, ⟨rfl, rfl, rfl, rfl, rfl, rfl, rfl, rfl, rfl, rfl, rfl, rfl, rfl, rfl, trivial⟩, hw.pick 26 [16, 17, 18, 19, 20, 21, 22, 23, 24, 25] (new := [rd v0 p0, bx 26 b1 p1, bx 26 b2 p2, own 53 v45 s9, own 53 v321 s66.1, own 53 v322 s66.2.1, bx 87 b327 x324, rd v64 p1.Parts, rd v357 x354.Pins, own 53 v442 x441]) rfl rfl (by decide) (by decide)⟩
   rintro σ w ⟨v438, ha, hw⟩
   obtain ⟨τ, rfl⟩ := ha.ups
   refine blkQ_n ?_
   refine thenQ_n ?_
   refine RC.region ?_
   refine RL.inc trivial rfl hk hm rfl rfl ?_
   refine mv (vi ((k358 + 1 : Nat) : Int)) rfl rfl ?_
   refine RL.nil ?_
   obtain rfl := oi hb
   exact ⟨rfl, v438, ⟨rfl, rfl, rfl, rfl, rfl, rfl, rfl, rfl, rfl, rfl, rfl, rfl, rfl, rfl, trivial⟩, hw.pick 10 [0, 1, 2, 3, 4, 5, 6, 7, 8, 9] (new := [rd v0 p0, bx 26 b1 p1, bx 26 b2 p2, own 53 v45 s9, own 53 v321 s66.1, own 53 v322 s66.2.1, bx 87 b327 x324, rd v64 p1.Parts, rd v357 x354.Pins, own 53 v438 s437]) rfl rfl (by decide) (by decide)⟩
  intro σ w hJ
  obtain ⟨v415, ha, hw⟩ := hJ
  obtain ⟨τ, rfl⟩ := ha.ups
  refine blkQ_n ?_
  refine thenQ_n ?_
  refine RC.region ?_
  refine RL.inc trivial rfl hk hm rfl rfl ?_
  refine mv (vi ((k65 + 1 : Nat) : Int)) rfl rfl ?_
  refine RL.nil ?_
  obtain rfl := oi hb
  exact ⟨rfl, v321, v322, v415, ⟨rfl, rfl, rfl, rfl, rfl, rfl, rfl, rfl, rfl, rfl, trivial⟩, hw.pick 10 [0, 1, 2, 3, 7, 4, 5, 9] (new := [rd v0 p0, bx 26 b1 p1, bx 26 b2 p2, own 53 v45 s9, rd v64 p1.Parts, own 53 v321 s66.1, own 53 v322 s66.2.1, own 53 v415 s359]) rfl rfl (by decide) (by decide)⟩
 intro σ w hJ
 obtain ⟨v318, v319, v320, ha, hw⟩ := hJ
 obtain ⟨τ, rfl⟩ := ha.ups
 refine thenQ_n ?_
 refine RC.sr ?_
 refine mv v45 rfl rfl ?_
 refine mv v318 rfl rfl ?_
 refine mv v319 rfl rfl ?_
 refine mv v320 rfl rfl ?_
 have hw := hw.freeze (i := 3) rfl
 have hw := hw.freeze (i := 5) rfl
 have hw := hw.freeze (i := 6) rfl
 have hw := hw.freeze (i := 7) rfl
 refine RL.bslice (l := ([s9, s66.1, s66.2.1, s66.2.2] : (List (List ListChange)))) trivial rfl hw [v45, v318, v319, v320] rfl rfl rfl sl157 ze48 (fun M hs g => ⟨(g.sat 3 _ rfl).1, ⟨(g.sat 5 _ rfl).1, ⟨(g.sat 6 _ rfl).1, ⟨(g.sat 7 _ rfl).1, trivial⟩⟩⟩⟩) fun v448 w hw => ?_
 have hw := hw.freeze (i := 0) rfl
 obtain ⟨x449, hx449, hb⟩ := bd hb
 refine RL.call trivial rfl fn71 [v448] rfl (Calls_ret (slices_Concat_ListChange_ok N  (i0 := 0) hw rfl hx449) ?_)
 rintro v450 w hw
 refine as_ v450 rfl rfl ?_
 refine as_ (vi 0) rfl rfl ?_
 refine RL.nt ?_
 refine RC.ret ?_
 obtain rfl := oi hb
 exact fin2 rfl rfl rfl ⟨v450, rfl, hw.pick 10 [0] (new := [own 53 v450 x449]) rfl rfl (by decide) (by decide)⟩
def slices_Equal_ListChange_R (E : World) (Γ : List HP) (res : Bool) (v : Value) (w : World) : Prop := v = (vb res) ∧ Holds E w Γ
def slices_Equal_ListChange_K (E : World) (Γ : List HP) (r : Bool) (σ : Nat → Value) (w : World) : Prop := finQ Tryd.prog 26 Tryd.f27 (slices_Equal_ListChange_R E Γ r) .ret σ w
theorem slices_Equal_ListChange_ok (N : Nat) {E w : World} {Γ : List HP} {i0 : Nat} {v0 : Value} {p0 : (List ListChange)} {i1 : Nat} {v1 : Value} {p1 : (List ListChange)} {res : Bool} (hw : Holds E w Γ) (h0 : Γ[i0]? = some (rd v0 p0)) (h1 : Γ[i1]? = some (rd v1 p1)) (hb : slices_Equal_ListChange N p0 p1 = some res) :
    Calls Tryd.prog 27 [v0, v1].toArray w (Ret (slices_Equal_ListChange_R E Γ res)) := by
 unfold slices_Equal_ListChange at hb
 refine enter Tryd.func27 rfl rfl (Nat.le_of_ble_eq_true rfl) ?_
 have hw := hw.dup (i := i0 + 0) h0
 have hw := hw.dup (i := i1 + 1) h1
 refine RC.sr ?_
 refine as_ (vb false) rfl rfl ?_
 refine RL.nq ?_
 refine RC.sr ?_
 refine mv v0 rfl rfl ?_
 refine RL.len_rd (i := 1) (l := p0) trivial rfl hw rfl rfl un48 ?_
 refine mv v1 rfl rfl ?_
 refine RL.len_rd (i := 0) (l := p1) trivial rfl hw rfl rfl un48 ?_
 refine ic ((p0.length : Int)) ((p1.length : Int)) rfl rfl rfl rfl ?_
 refine RL.nt ?_
 refine RC.cond (b := ((p0.length : Int) != (p1.length : Int))) rfl (fun hc => ?_) (fun hc => ?_)
 ·replace hb := cT hc hb
  refine RC.sr ?_
  refine as_ (vb false) rfl rfl ?_
  refine RL.nt ?_
  refine RC.rt ?_
  obtain rfl := oi hb
  exact fin1 rfl rfl ⟨rfl, hw.drop 2 rfl⟩
 replace hb := cF hc hb
 refine RC.ss ?_
 refine RC.sr ?_
 refine mv v0 rfl rfl ?_
 refine RL.len_rd (i := 1) (l := p0) trivial rfl hw rfl rfl un48 ?_
 refine mv (vi 0) rfl rfl ?_
 refine RL.nt ?_
 obtain ⟨o23, hN, hb⟩ := bd hb
 refine RC.range (fun (k1 : Nat) (s2 : Unit) (σ : Nat → Value) (w : World) => agree σ [(0, v0), (1, v1), (12, (vi (p0.length : Int))), (13, (vi (k1 : Int)))] ∧ Holds E w ([rd v0 p0, rd v1 p1] ++ Γ)) (fun (s2 : Unit) (σ : Nat → Value) (w : World) => agree σ [] ∧ Holds E w ([rd v0 p0, rd v1 p1] ++ Γ)) (slices_Equal_ListChange_K E Γ) hN ?_ ?_ ?_ ?_ ?_ 
 ·exact ⟨⟨rfl, rfl, rfl, rfl, trivial⟩, hw.pick 2 [1, 0] (new := [rd v0 p0, rd v1 p1]) rfl rfl (by decide) (by decide)⟩
 ·intro hm s2 σ w hI
  obtain ⟨ha, hw⟩ := hI
  obtain ⟨τ, rfl⟩ := ha.ups
  refine RC.sr ?_
  refine ic ((p0.length : Int)) ((p0.length : Int)) rfl rfl rfl rfl ?_
  refine RL.nq ?_
  refine RC.cond_f dge ?_
  refine RC.ex ?_
  exact ⟨rfl, trivial, hw.pick 2 [0, 1] (new := [rd v0 p0, rd v1 p1]) rfl rfl (by decide) (by decide)⟩
 ·intro hm k1 s2 fl σ w hk hI hb
  obtain ⟨ha, hw⟩ := hI
  obtain ⟨τ, rfl⟩ := ha.ups
  refine RC.sr ?_
  refine ic ((k1 : Int)) ((p0.length : Int)) rfl rfl rfl rfl ?_
  refine RL.nq ?_
  refine RC.cond_t (dlt hk) ?_
  refine RC.ss ?_
  refine RC.bs ?_
  refine mv (vi (k1 : Int)) rfl rfl ?_
  refine as_ (vi (k1 : Int)) rfl rfl ?_
  refine RL.nq ?_
  obtain ⟨x13, hx13, hb⟩ := bd hb
  obtain ⟨x16, hx16, hb⟩ := bd hb
  refine RC.drw mixed rfl (fun (D : Nat → Bool) (σ : Nat → Value) (w : World) => ∃ (v14 : Value) (v15 : Value) (v17 : Value) (v18 : Value), doneV D σ [(0, 16, v0), (1, 17, (vi (k1 : Int))), (2, 18, v14), (3, 19, v15), (4, 20, v1), (5, 21, (vi (k1 : Int))), (6, 22, v17), (7, 23, v18), (8, 24, (vb (!(decide (x13 = x16)))))] ∧ agree σ [(0, v0), (1, v1), (5, (vi (k1 : Int))), (12, (vi (p0.length : Int))), (13, (vi (k1 : Int)))] ∧ Holds E w ([bif D 2 then (pt v14 x13) else junk, bif D 3 then (rd v15 x13) else junk, bif D 6 then (pt v17 x16) else junk, bif D 7 then (rd v18 x16) else junk, rd v0 p0, rd v1 p1] ++ Γ)) ?_ ⟨?_, ?_, ?_, ?_, ?_, ?_, ?_, ?_, ?_, trivial⟩ ?_
  ·have hw := hw.drew
   have hw := hw.junk
   have hw := hw.junk
   have hw := hw.junk
   have hw := hw.junk
   exact ⟨undef, undef, undef, undef, doneV.none, ⟨rfl, rfl, rfl, rfl, rfl, trivial⟩, hw⟩
  ·rintro D σ w hD hdep hcl ⟨v14, v15, v17, v18, hv, ha, hw⟩
   obtain ⟨τ, rfl⟩ := (ac (ha.at 0 rfl) az).ups
   refine mv v0 rfl rfl ?_
   refine RL.nil ?_
   exact ⟨rfl, v14, v15, v17, v18, hv.put 0 rfl rfl, ha.up rfl, hw⟩
  ·rintro D σ w hD hdep hcl ⟨v14, v15, v17, v18, hv, ha, hw⟩
   obtain ⟨τ, rfl⟩ := (ac (ha.at 2 rfl) az).ups
   refine mv (vi (k1 : Int)) rfl rfl ?_
   refine RL.nil ?_
   exact ⟨rfl, v14, v15, v17, v18, hv.put 1 rfl rfl, ha.up rfl, hw⟩
  ·rintro D σ w hD hdep hcl ⟨v14, v15, v17, v18, hv, ha, hw⟩
   obtain ⟨τ, rfl⟩ := (ac (hv.at 0 rfl (hdep.1 rfl)) (ac (hv.at 1 rfl (hdep.2.1 rfl)) az)).ups
   have hw := hw.selF (i := 0) rfl hD
   refine RL.ia_rd (i := 4) trivial rfl hw rfl rfl rfl sl48 hx13 fun v19 hw => ?_
   have hw := hw.pick 7 [0, 2, 3, 4, 5, 6] (new := [pt v19 x13, bif D 3 then (rd v15 x13) else junk, bif D 6 then (pt v17 x16) else junk, bif D 7 then (rd v18 x16) else junk, rd v0 p0, rd v1 p1]) rfl rfl (by decide) (by decide)
   have hw := hw.altT (i := 0) (b := true) rfl rfl (junk)
   refine RL.nil ?_
   exact ⟨rfl, v19, v15, v17, v18, hv.put 2 rfl rfl, ha.up rfl, hw⟩
  ·rintro D σ w hD hdep hcl ⟨v14, v15, v17, v18, hv, ha, hw⟩
   obtain ⟨τ, rfl⟩ := (ac (hv.at 2 rfl (hdep.1 rfl)) az).ups
   have hw := hw.selT (i := 0) rfl (hdep.1 rfl)
   have hw := hw.selF (i := 1) rfl hD
   refine RL.load_pt (i := 0) (x := x13) trivial rfl hw rfl rfl ty53 fun v20 hw => ?_
   have hw := hw.pick 7 [1, 0, 3, 4, 5, 6] (new := [pt v14 x13, rd v20 x13, bif D 6 then (pt v17 x16) else junk, bif D 7 then (rd v18 x16) else junk, rd v0 p0, rd v1 p1]) rfl rfl (by decide) (by decide)
   have hw := hw.altT (i := 0) (b := D 2) rfl (hdep.1 rfl) (junk)
   have hw := hw.altT (i := 1) (b := true) rfl rfl (junk)
   refine RL.nil ?_
   exact ⟨rfl, v14, v20, v17, v18, hv.put 3 rfl rfl, ha.up rfl, hw⟩
  ·rintro D σ w hD hdep hcl ⟨v14, v15, v17, v18, hv, ha, hw⟩
   obtain ⟨τ, rfl⟩ := (ac (ha.at 1 rfl) az).ups
   refine mv v1 rfl rfl ?_
   refine RL.nil ?_
   exact ⟨rfl, v14, v15, v17, v18, hv.put 4 rfl rfl, ha.up rfl, hw⟩
  ·rintro D σ w hD hdep hcl ⟨v14, v15, v17, v18, hv, ha, hw⟩
   obtain ⟨τ, rfl⟩ := (ac (ha.at 2 rfl) az).ups
   refine mv (vi (k1 : Int)) rfl rfl ?_
   refine RL.nil ?_
   exact ⟨rfl, v14, v15, v17, v18, hv.put 5 rfl rfl, ha.up rfl, hw⟩
  ·rintro D σ w hD hdep hcl ⟨v14, v15, v17, v18, hv, ha, hw⟩
   obtain ⟨τ, rfl⟩ := (ac (hv.at 4 rfl (hdep.1 rfl)) (ac (hv.at 5 rfl (hdep.2.1 rfl)) az)).ups
   have hw := hw.selF (i := 2) rfl hD
   refine RL.ia_rd (i := 5) trivial rfl hw rfl rfl rfl sl48 hx16 fun v21 hw => ?_
   have hw := hw.pick 7 [1, 2, 0, 4, 5, 6] (new := [bif D 2 then (pt v14 x13) else junk, bif D 3 then (rd v15 x13) else junk, pt v21 x16, bif D 7 then (rd v18 x16) else junk, rd v0 p0, rd v1 p1]) rfl rfl (by decide) (by decide)
   have hw := hw.altT (i := 2) (b := true) rfl rfl (junk)
   refine RL.nil ?_
   exact ⟨rfl, v14, v15, v21, v18, hv.put 6 rfl rfl, ha.up rfl, hw⟩
  ·rintro D σ w hD hdep hcl ⟨v14, v15, v17, v18, hv, ha, hw⟩
   obtain ⟨τ, rfl⟩ := (ac (hv.at 6 rfl (hdep.1 rfl)) az).ups
   have hw := hw.selT (i := 2) rfl (hdep.1 rfl)
   have hw := hw.selF (i := 3) rfl hD
   refine RL.load_pt (i := 2) (x := x16) trivial rfl hw rfl rfl ty53 fun v22 hw => ?_
   have hw := hw.pick 7 [1, 2, 3, 0, 5, 6] (new := [bif D 2 then (pt v14 x13) else junk, bif D 3 then (rd v15 x13) else junk, pt v17 x16, rd v22 x16, rd v0 p0, rd v1 p1]) rfl rfl (by decide) (by decide)
   have hw := hw.altT (i := 2) (b := D 6) rfl (hdep.1 rfl) (junk)
   have hw := hw.altT (i := 3) (b := true) rfl rfl (junk)
   refine RL.nil ?_
   exact ⟨rfl, v14, v15, v17, v22, hv.put 7 rfl rfl, ha.up rfl, hw⟩
  ·rintro D σ w hD hdep hcl ⟨v14, v15, v17, v18, hv, ha, hw⟩
   obtain ⟨τ, rfl⟩ := (ac (hv.at 3 rfl (hdep.1 rfl)) (ac (hv.at 7 rfl (hdep.2.1 rfl)) az)).ups
   have hw := hw.selT (i := 1) rfl (hdep.1 rfl)
   have hw := hw.selT (i := 3) rfl (hdep.2.1 rfl)
   refine RL.sne (i := 1) (j := 3) (a := x13) (b := x16) trivial rfl hw rfl rfl rfl rfl eqt53 rfl ?_
   have hw := hw.altT (i := 1) (b := D 3) rfl (hdep.1 rfl) (junk)
   have hw := hw.altT (i := 3) (b := D 7) rfl (hdep.2.1 rfl) (junk)
   refine RL.nil ?_
   exact ⟨rfl, v14, v15, v17, v18, hv.put 8 rfl rfl, ha.up rfl, hw⟩
  rintro D σ w hall ⟨v14, v15, v17, v18, hv, ha, hw⟩
  rw [hall 2 (by decide), hall 3 (by decide), hall 6 (by decide), hall 7 (by decide)] at hw
  obtain ⟨τ, rfl⟩ := (ac (hv.at 8 rfl (hall 8 (by decide))) (ac (ha.at 0 rfl) (ac (ha.at 1 rfl) (ac (ha.at 2 rfl) (ac (ha.at 3 rfl) (ac (ha.at 4 rfl) az)))))).ups
  refine thenQ_n ?_
  refine RC.cond (b := (!(decide (x13 = x16)))) rfl (fun hc => ?_) (fun hc => ?_)
  rotate_left
  ·replace hb := cF hc hb
   refine RC.skip ?_
   refine blkQ_n ?_
   refine thenQ_n ?_
   refine RC.region ?_
   refine RL.inc trivial rfl hk hm rfl rfl ?_
   refine mv (vi ((k1 + 1 : Nat) : Int)) rfl rfl ?_
   refine RL.nil ?_
   obtain rfl := oi hb
   exact ⟨rfl, ⟨rfl, rfl, rfl, rfl, trivial⟩, hw.pick 6 [4, 5] (new := [rd v0 p0, rd v1 p1]) rfl rfl (by decide) (by decide)⟩
  replace hb := cT hc hb
  refine RC.sr ?_
  refine as_ (vb false) rfl rfl ?_
  refine RL.nt ?_
  refine RC.rb ?_
  refine thenQ_r ?_
  obtain rfl := oi hb
  exact ⟨rfl, fin1 rfl rfl ⟨rfl, hw.drop 6 rfl⟩⟩
 ·intro r σ w e hK
  subst e
  refine thenQ_r ?_
  obtain rfl := oi hb
  exact hK
 intro s2 σ w e hJ
 subst e
 rw [Fo.cs_go] at hb
 obtain ⟨ha, hw⟩ := hJ
 obtain ⟨τ, rfl⟩ := ha.ups
 refine thenQ_n ?_
 refine RC.sr ?_
 refine as_ (vb true) rfl rfl ?_
 refine RL.nt ?_
 refine RC.ret ?_
 obtain rfl := oi hb
 exact fin1 rfl rfl ⟨rfl, hw.drop 2 rfl⟩
def etchhouselaw2_NetlistChangesMatchSpec_R (E : World) (Γ : List HP) (res : Bool) (v : Value) (w : World) : Prop := v = (vb res) ∧ Holds E w Γ
def etchhouselaw2_NetlistChangesMatchSpec_K (E : World) (Γ : List HP) (r : Bool) (σ : Nat → Value) (w : World) : Prop := finQ Tryd.prog 52 Tryd.f6 (etchhouselaw2_NetlistChangesMatchSpec_R E Γ r) .ret σ w
theorem etchhouselaw2_NetlistChangesMatchSpec_ok (N : Nat) {E w : World} {Γ : List HP} {i0 : Nat} {v0 : Value} {p0 : (List PartType)} {i1 : Nat} {v1 : Value} {p1 : Netlist} {i2 : Nat} {v2 : Value} {p2 : Netlist} {res : Bool} (hw : Holds E w Γ) (h0 : Γ[i0]? = some (rd v0 p0)) (h1 : Γ[i1]? = some (rd v1 p1)) (h2 : Γ[i2]? = some (rd v2 p2)) (hb : etchhouselaw2_NetlistChangesMatchSpec N p0 p1 p2 = some res) :
    Calls Tryd.prog 6 [v0, v1, v2].toArray w (Ret (etchhouselaw2_NetlistChangesMatchSpec_R E Γ res)) := by
 unfold etchhouselaw2_NetlistChangesMatchSpec at hb
 refine enter Tryd.func6 rfl rfl (Nat.le_of_ble_eq_true rfl) ?_
 have hw := hw.dup (i := i0 + 0) h0
 have hw := hw.dup (i := i1 + 1) h1
 have hw := hw.dup (i := i2 + 2) h2
 refine RC.sr ?_
 refine RL.box_rd (i := 1) (v := v1) trivial rfl hw rfl rfl fun b1 w hw => ?_
 refine RL.box_rd (i := 1) (v := v2) trivial rfl hw rfl rfl fun b2 w hw => ?_
 refine as_ (vb false) rfl rfl ?_
 refine RL.ns ?_
 refine mv v0 rfl rfl ?_
 refine RL.load_bf (i := 1) (f := (fun x => x)) trivial rfl hw rfl rfl Fd.self ty26 fun v3 hw => ?_
 refine RL.load_bf (i := 1) (f := (fun x => x)) trivial rfl hw rfl rfl Fd.self ty26 fun v4 hw => ?_
 obtain ⟨x5, hx5, hb⟩ := bd hb
 refine RL.call trivial rfl fn25 [v0, v3, v4] rfl (Calls_ret (netlist_Changes_ok N  (i0 := 6) (i1 := 1) (i2 := 0) hw rfl rfl rfl hx5) ?_)
 rintro _ w ⟨v6, rfl, hw⟩
 refine mv (.tuple #[v6, (vi x5.2)]) rfl rfl ?_
 refine RL.extract (v := v6) trivial rfl rfl rfl ?_
 refine RL.extract (v := (vi x5.2)) trivial rfl rfl rfl ?_
 refine as_ v6 rfl rfl ?_
 refine as_ (vi x5.2) rfl rfl ?_
 refine RL.ns ?_
 refine mv v0 rfl rfl ?_
 refine RL.load_bf (i := 4) (f := (fun x => x)) trivial rfl hw rfl rfl Fd.self ty26 fun v7 hw => ?_
 refine RL.load_bf (i := 4) (f := (fun x => x)) trivial rfl hw rfl rfl Fd.self ty26 fun v8 hw => ?_
 obtain ⟨x9, hx9, hb⟩ := bd hb
 refine RL.call trivial rfl fn26 [v0, v7, v8] rfl (Calls_ret (etchhouseref2_Changes_ok N  (i0 := 9) (i1 := 1) (i2 := 0) hw rfl rfl rfl hx9) ?_)
 rintro _ w ⟨v10, rfl, hw⟩
 refine mv (.tuple #[v10, (vi x9.2)]) rfl rfl ?_
 refine RL.extract (v := v10) trivial rfl rfl rfl ?_
 refine RL.extract (v := (vi x9.2)) trivial rfl rfl rfl ?_
 refine as_ v10 rfl rfl ?_
 refine as_ (vi x9.2) rfl rfl ?_
 refine RL.nq ?_
 refine RC.seq ?_
 obtain ⟨s17, hj, hb⟩ := bd hb
 refine RC.jn (fun (s17 : Bool) (σ : Nat → Value) (w : World) => agree σ [(0, v0), (4, (vp b1 0)), (37, (vb s17))] ∧ Holds E w ([rd v0 p0, bx 26 b1 p1] ++ Γ)) s17 ?_ ?_
 ·refine RC.region ?_
  refine mv (vi x5.2) rfl rfl ?_
  refine mv (vi x9.2) rfl rfl ?_
  refine ic (x5.2) (x9.2) rfl rfl rfl rfl ?_
  refine mv (vb (x5.2 != x9.2)) rfl rfl ?_
  rcases Bool.eq_false_or_eq_true (x5.2 != x9.2) with hg18 | hg18
  ·replace hj := cT hg18 hj
   refine sk rfl (.inl (cb hg18)) rfl ?_
   refine sk rfl (.inl (cb hg18)) rfl ?_
   refine sk rfl (.inl (cb hg18)) rfl ?_
   refine sk rfl (.inl (cb hg18)) rfl ?_
   refine RL.pick (b := (x5.2 != x9.2)) (v := (vb true)) trivial rfl rfl (by rw [hg18]; rfl) ?_
   refine mv (vb true) rfl rfl ?_
   refine sk rfl (.inl rfl) rfl ?_
   refine sk rfl (.inl rfl) rfl ?_
   refine RL.pick (b := true) (v := (vb true)) trivial rfl rfl rfl ?_
   refine RL.nil ?_
   obtain rfl := oi hj
   exact ⟨rfl, ⟨rfl, rfl, rfl, trivial⟩, hw.pick 11 [10, 7] (new := [rd v0 p0, bx 26 b1 p1]) rfl rfl (by decide) (by decide)⟩
  replace hj := cF hg18 hj
  refine RL.move (v := v6) ⟨_, rfl, cb hg18⟩ rfl rfl ?_
  refine RL.move (v := v10) ⟨_, rfl, cb hg18⟩ rfl rfl ?_
  have hw := hw.freeze (i := 3) rfl
  have hw := hw.freeze (i := 0) rfl
  obtain ⟨x19, hx19, hj⟩ := bd hj
  refine RL.call ⟨_, rfl, cb hg18⟩ rfl fn27 [v6, v10] rfl (Calls_ret (slices_Equal_ListChange_ok N  (i0 := 3) (i1 := 0) hw rfl rfl hx19) ?_)
  rintro _ w ⟨rfl, hw⟩
  refine RL.not (b := x19) ⟨_, rfl, cb hg18⟩ rfl rfl ?_
  refine RL.pick (b := (x5.2 != x9.2)) (v := (vb (!x19))) trivial rfl rfl (by rw [hg18]; rfl) ?_
  refine mv (vb (!x19)) rfl rfl ?_
  rcases Bool.eq_false_or_eq_true (!x19) with hg20 | hg20
  ·replace hj := cT hg20 hj
   refine sk rfl (.inl (cb hg20)) rfl ?_
   refine sk rfl (.inl (cb hg20)) rfl ?_
   refine RL.pick (b := (!x19)) (v := (vb true)) trivial rfl rfl (by rw [hg20]; rfl) ?_
   refine RL.nil ?_
   obtain rfl := oi hj
   exact ⟨rfl, ⟨rfl, rfl, rfl, trivial⟩, hw.pick 11 [10, 7] (new := [rd v0 p0, bx 26 b1 p1]) rfl rfl (by decide) (by decide)⟩
  replace hj := cF hg20 hj
  obtain ⟨x21, hx21, hj⟩ := bd hj
  refine RL.call ⟨_, rfl, cb hg20⟩ rfl fn18 [] rfl (Calls_ret (etchhouselaw2_awake_ok N   hw  hx21) ?_)
  rintro _ w ⟨rfl, hw⟩
  refine RL.not (b := x21) ⟨_, rfl, cb hg20⟩ rfl rfl ?_
  refine RL.pick (b := (!x19)) (v := (vb (!x21))) trivial rfl rfl (by rw [hg20]; rfl) ?_
  refine RL.nil ?_
  obtain rfl := oi hj
  exact ⟨rfl, ⟨rfl, rfl, rfl, trivial⟩, hw.pick 11 [10, 7] (new := [rd v0 p0, bx 26 b1 p1]) rfl rfl (by decide) (by decide)⟩
 rintro σ w ⟨ha, hw⟩
 obtain ⟨τ, rfl⟩ := ha.ups
 refine thenQ_n ?_
 refine RC.cond (b := s17) rfl (fun hc => ?_) (fun hc => ?_)
 ·replace hb := cT hc hb
  refine RC.sr ?_
  refine as_ (vb false) rfl rfl ?_
  refine RL.nt ?_
  refine RC.rt ?_
  obtain rfl := oi hb
  exact fin1 rfl rfl ⟨rfl, hw.drop 2 rfl⟩
 replace hb := cF hc hb
 refine RC.sx ?_
 refine mv v0 rfl rfl ?_
 refine RL.load_bf (i := 1) (f := (fun x => x)) trivial rfl hw rfl rfl Fd.self ty26 fun v22 hw => ?_
 refine RL.load_bf (i := 2) (f := (fun x => x)) trivial rfl hw rfl rfl Fd.self ty26 fun v23 hw => ?_
 obtain ⟨x24, hx24, hb⟩ := bd hb
 refine RL.call trivial rfl fn25 [v0, v22, v23] rfl (Calls_ret (netlist_Changes_ok N  (i0 := 2) (i1 := 1) (i2 := 0) hw rfl rfl rfl hx24) ?_)
 rintro _ w ⟨v25, rfl, hw⟩
 refine mv (.tuple #[v25, (vi x24.2)]) rfl rfl ?_
 refine RL.extract (v := v25) trivial rfl rfl rfl ?_
 refine RL.extract (v := (vi x24.2)) trivial rfl rfl rfl ?_
 refine as_ v25 rfl rfl ?_
 refine as_ (vi x24.2) rfl rfl ?_
 refine RL.nq ?_
 obtain ⟨s27, hj, hb⟩ := bd hb
 refine RC.jn (fun (s27 : Bool) (σ : Nat → Value) (w : World) => agree σ [(6, (vb s27))] ∧ Holds E w ([] ++ Γ)) s27 ?_ ?_
 ·refine RC.region ?_
  refine mv (vi x24.2) rfl rfl ?_
  refine ic (x24.2) 0 rfl rfl rfl rfl ?_
  refine mv (vb (x24.2 != 0)) rfl rfl ?_
  rcases Bool.eq_false_or_eq_true (x24.2 != 0) with hg28 | hg28
  ·replace hj := cT hg28 hj
   refine sk rfl (.inl (cb hg28)) rfl ?_
   refine sk rfl (.inl (cb hg28)) rfl ?_
   refine sk rfl (.inl (cb hg28)) rfl ?_
   refine RL.pick (b := (x24.2 != 0)) (v := (vb true)) trivial rfl rfl (by rw [hg28]; rfl) ?_
   refine as_ (vb true) rfl rfl ?_
   refine RL.nil ?_
   obtain rfl := oi hj
   exact ⟨rfl, ⟨rfl, trivial⟩, hw.pick 5 [] (new := []) rfl rfl (by decide) (by decide)⟩
  replace hj := cF hg28 hj
  refine RL.move (v := v25) ⟨_, rfl, cb hg28⟩ rfl rfl ?_
  refine RL.len_own (i := 0) (l := x24.1) ⟨_, rfl, cb hg28⟩ rfl hw rfl rfl un48 ?_
  refine RL.icmp (a := (x24.1.length : Int)) (b := 0) ⟨_, rfl, cb hg28⟩ rfl rfl rfl rfl ?_
  refine RL.pick (b := (x24.2 != 0)) (v := (vb ((x24.1.length : Int) == 0))) trivial rfl rfl (by rw [hg28]; rfl) ?_
  refine as_ (vb ((x24.1.length : Int) == 0)) rfl rfl ?_
  refine RL.nil ?_
  obtain rfl := oi hj
  exact ⟨rfl, ⟨rfl, trivial⟩, hw.pick 5 [] (new := []) rfl rfl (by decide) (by decide)⟩
 rintro σ w ⟨ha, hw⟩
 obtain ⟨τ, rfl⟩ := ha.ups
 refine thenQ_n ?_
 refine RC.ret ?_
 obtain rfl := oi hb
 exact fin1 rfl rfl ⟨rfl, hw.drop 0 rfl⟩
end Go.Gk
