/-
  Printed by gen.py: Go functions as plain functions, and that they are.
-/
import Derived.Test.YtghdidhpcgioeaaDoorT
import Derived.Test.YtghdidhpcgioeaaDoorS
import Derived.Test.YtghdidhpcgioeaaDoorF3
import Derived.Test.YtghdidhpcgioeaaDoorF4
set_option linter.unusedVariables false
set_option linter.unusedSimpArgs false
set_option linter.unusedSectionVars false
set_option maxRecDepth 100000
set_option maxHeartbeats 4000000

namespace Go.Gk
open Go Go.Proofs
def etchhouselaw2_NetlistIslandsHaveAll_R (E : World) (Γ : List HP) (res : Bool) (v : Value) (w : World) : Prop := v = (vb res) ∧ Holds E w Γ
def etchhouselaw2_NetlistIslandsHaveAll_K (E : World) (Γ : List HP) (r : Bool) (σ : Nat → Value) (w : World) : Prop := finQ Tryd.prog 89 Tryd.f3 (etchhouselaw2_NetlistIslandsHaveAll_R E Γ r) .ret σ w
theorem etchhouselaw2_NetlistIslandsHaveAll_ok (N : Nat) {E w : World} {Γ : List HP} {i0 : Nat} {v0 : Value} {p0 : (List PartType)} {i1 : Nat} {v1 : Value} {p1 : Netlist} {i2 : Nat} {v2 : Value} {p2 : (List Str)} {res : Bool} (hw : Holds E w Γ) (h0 : Γ[i0]? = some (rd v0 p0)) (h1 : Γ[i1]? = some (rd v1 p1)) (h2 : Γ[i2]? = some (rd v2 p2)) (hb : etchhouselaw2_NetlistIslandsHaveAll N p0 p1 p2 = some res) :
    Calls Tryd.prog 3 [v0, v1, v2].toArray w (Ret (etchhouselaw2_NetlistIslandsHaveAll_R E Γ res)) := by
 unfold etchhouselaw2_NetlistIslandsHaveAll at hb
 refine enter Tryd.func3 rfl rfl (Nat.le_of_ble_eq_true rfl) ?_
 have hw := hw.dup (i := i0 + 0) h0
 have hw := hw.dup (i := i1 + 1) h1
 have hw := hw.dup (i := i2 + 2) h2
 refine RC.sr ?_
 refine RL.box_rd (i := 1) (v := v1) trivial rfl hw rfl rfl fun b31 w hw => ?_
 refine as_ (vb false) rfl rfl ?_
 refine RL.ns ?_
 refine mv v0 rfl rfl ?_
 refine RL.load_bf (i := 0) (f := (fun x => x)) trivial rfl hw rfl rfl Fd.self ty26 fun v32 hw => ?_
 refine mv v2 rfl rfl ?_
 obtain ⟨x33, hx33, hb⟩ := bd hb
 refine RL.call trivial rfl fn5 [v0, v32, v2] rfl (Calls_ret (netlist_Islands_ok N  (i0 := 4) (i1 := 0) (i2 := 2) hw rfl rfl rfl hx33) ?_)
 rintro _ w ⟨v34, rfl, hw⟩
 refine mv (.tuple #[v34, (vi x33.2)]) rfl rfl ?_
 refine RL.extract (v := v34) trivial rfl rfl rfl ?_
 refine RL.extract (v := (vi x33.2)) trivial rfl rfl rfl ?_
 refine as_ v34 rfl rfl ?_
 refine as_ (vi x33.2) rfl rfl ?_
 refine RL.nq ?_
 refine RC.sr ?_
 refine mv (vi x33.2) rfl rfl ?_
 refine ic (x33.2) 0 rfl rfl rfl rfl ?_
 refine RL.nt ?_
 refine RC.cond (b := (x33.2 != 0)) rfl (fun hc => ?_) (fun hc => ?_)
 ·replace hb := cT hc hb
  refine RC.seq ?_
  obtain ⟨s42, hj, hb⟩ := bd hb
  refine RC.jn (fun (s42 : Bool) (σ : Nat → Value) (w : World) => agree σ [(6, (vb s42))] ∧ Holds E w ([] ++ Γ)) s42 ?_ ?_
  ·refine RC.region ?_
   refine mv v34 rfl rfl ?_
   refine RL.len_own (i := 0) (l := x33.1) trivial rfl hw rfl rfl un28 ?_
   refine ic ((x33.1.length : Int)) 0 rfl rfl rfl rfl ?_
   refine mv (vb ((x33.1.length : Int) == 0)) rfl rfl ?_
   rcases Bool.eq_false_or_eq_true ((x33.1.length : Int) == 0) with hg43 | hg43
   rotate_left
   ·replace hj := cF hg43 hj
    refine sk rfl (.inl (cb hg43)) rfl ?_
    refine RL.pick (b := ((x33.1.length : Int) == 0)) (v := (vb false)) trivial rfl rfl (by rw [hg43]; rfl) ?_
    refine as_ (vb false) rfl rfl ?_
    refine RL.nil ?_
    obtain rfl := oi hj
    exact ⟨rfl, ⟨rfl, trivial⟩, hw.pick 6 [] (new := []) rfl rfl (by decide) (by decide)⟩
   replace hj := cT hg43 hj
   obtain ⟨x44, hx44, hj⟩ := bd hj
   refine RL.call ⟨_, rfl, cb hg43⟩ rfl fn6 [] rfl (Calls_ret (etchhouselaw2_awake_ok N   hw  hx44) ?_)
   rintro _ w ⟨rfl, hw⟩
   refine RL.pick (b := ((x33.1.length : Int) == 0)) (v := (vb x44)) trivial rfl rfl (by rw [hg43]; rfl) ?_
   refine as_ (vb x44) rfl rfl ?_
   refine RL.nil ?_
   obtain rfl := oi hj
   exact ⟨rfl, ⟨rfl, trivial⟩, hw.pick 6 [] (new := []) rfl rfl (by decide) (by decide)⟩
  rintro σ w ⟨ha, hw⟩
  obtain ⟨τ, rfl⟩ := ha.ups
  refine thenQ_n ?_
  refine RC.rt ?_
  obtain rfl := oi hb
  exact fin1 rfl rfl ⟨rfl, hw.drop 0 rfl⟩
 replace hb := cF hc hb
 refine RC.sx ?_
 refine mv v34 rfl rfl ?_
 have hw := hw.freeze (i := 0) rfl
 obtain ⟨x45, hx45, hb⟩ := bd hb
 refine RL.call trivial rfl fn7 [v34] rfl (Calls_ret (slices_Concat_string_ok N  (i0 := 0) hw rfl hx45) ?_)
 rintro v46 w hw
 refine as_ v46 rfl rfl ?_
 refine RL.ns ?_
 refine mv v46 rfl rfl ?_
 obtain ⟨x47, hx47, hb⟩ := bd hb
 have hw := hw.pull (i := 0) rfl
 refine RL.call trivial rfl fn8 [v46] rfl (Calls_ret (sortS_ok Tryd.lay8 hw hx47) ?_)
 rintro _ w ⟨rfl, hw⟩
 refine RL.nq ?_
 refine RC.sr ?_
 refine mv v46 rfl rfl ?_
 refine RL.len_own (i := 0) (l := x47) trivial rfl hw rfl rfl un27 ?_
 refine RL.fa_b trivial rfl rfl fa26_0 ?_
 refine RL.load_bf (i := 4) (f := (fun x => x.Parts)) trivial rfl hw rfl rfl fd_Netlist_0 ty23 fun v48 hw => ?_
 refine RL.len_rd (i := 0) (l := p1.Parts) trivial rfl hw rfl rfl un23 ?_
 refine ic ((x47.length : Int)) ((p1.Parts.length : Int)) rfl rfl rfl rfl ?_
 refine RL.nt ?_
 refine RC.cond (b := ((x47.length : Int) != (p1.Parts.length : Int))) rfl (fun hc => ?_) (fun hc => ?_)
 ·replace hb := cT hc hb
  refine RC.sr ?_
  refine as_ (vb false) rfl rfl ?_
  refine RL.nt ?_
  refine RC.rt ?_
  obtain rfl := oi hb
  exact fin1 rfl rfl ⟨rfl, hw.drop 9 rfl⟩
 replace hb := cF hc hb
 refine RC.ss ?_
 refine RC.sr ?_
 refine RL.fa_b trivial rfl rfl fa26_0 ?_
 refine RL.load_bf (i := 5) (f := (fun x => x.Parts)) trivial rfl hw rfl rfl fd_Netlist_0 ty23 fun v49 hw => ?_
 refine RL.len_rd (i := 0) (l := p1.Parts) trivial rfl hw rfl rfl un23 ?_
 refine mv (vi 0) rfl rfl ?_
 refine RL.nt ?_
 obtain ⟨o107, hN, hb⟩ := bd hb
 refine RC.range (fun (k50 : Nat) (s51 : Unit) (σ : Nat → Value) (w : World) => agree σ [(0, v0), (4, (vp b31 0)), (9, v46), (41, v49), (42, (vi (p1.Parts.length : Int))), (43, (vi (k50 : Int)))] ∧ Holds E w ([rd v0 p0, bx 26 b31 p1, own 9 v46 x47, rd v49 p1.Parts] ++ Γ)) (fun (s51 : Unit) (σ : Nat → Value) (w : World) => agree σ [(0, v0), (4, (vp b31 0))] ∧ Holds E w ([rd v0 p0, bx 26 b31 p1, own 9 v46 x47, rd v49 p1.Parts] ++ Γ)) (etchhouselaw2_NetlistIslandsHaveAll_K E Γ) hN ?_ ?_ ?_ ?_ ?_ 
 ·exact ⟨⟨rfl, rfl, rfl, rfl, rfl, rfl, trivial⟩, hw.pick 10 [9, 6, 2, 0] (new := [rd v0 p0, bx 26 b31 p1, own 9 v46 x47, rd v49 p1.Parts]) rfl rfl (by decide) (by decide)⟩
 ·intro hm s51 σ w hI
  obtain ⟨ha, hw⟩ := hI
  obtain ⟨τ, rfl⟩ := ha.ups
  refine RC.sr ?_
  refine ic ((p1.Parts.length : Int)) ((p1.Parts.length : Int)) rfl rfl rfl rfl ?_
  refine RL.nq ?_
  refine RC.cond_f dge ?_
  refine RC.ex ?_
  exact ⟨rfl, ⟨rfl, rfl, trivial⟩, hw.pick 4 [0, 1, 2, 3] (new := [rd v0 p0, bx 26 b31 p1, own 9 v46 x47, rd v49 p1.Parts]) rfl rfl (by decide) (by decide)⟩
 ·intro hm k50 s51 fl σ w hk hI hb
  obtain ⟨ha, hw⟩ := hI
  obtain ⟨τ, rfl⟩ := ha.ups
  refine RC.sr ?_
  refine ic ((k50 : Int)) ((p1.Parts.length : Int)) rfl rfl rfl rfl ?_
  refine RL.nq ?_
  refine RC.cond_t (dlt hk) ?_
  refine RC.ss ?_
  refine RC.bs ?_
  refine mv (vi (k50 : Int)) rfl rfl ?_
  obtain ⟨x57, hx57, hb⟩ := bd hb
  refine RL.ia_rd (i := 3) trivial rfl hw rfl rfl rfl sl23 hx57 fun v58 hw => ?_
  refine RL.load_pt (i := 0) (x := x57) trivial rfl hw rfl rfl ty36 fun v59 hw => ?_
  refine RL.alloc trivial rfl hw ze36.z fun b60 w hw => ?_
  refine as_ (vi (k50 : Int)) rfl rfl ?_
  refine RL.store_raw (i := 0) (j := 1) trivial hw rfl rfl rfl rfl ty36 rfl fun w hw => ?_
  refine RL.nq ?_
  obtain ⟨x61, hx61, hb⟩ := bd hb
  refine RC.drw mixed rfl (fun (D : Nat → Bool) (σ : Nat → Value) (w : World) => doneV D σ [(0, 48, v46), (1, 49, (vi (k50 : Int))), (2, 50, (elA v46 (Int.toNat (k50 : Int)) 1 0)), (3, 51, (str x61)), (4, 52, (vp b60 0)), (5, 53, (str x57.Name)), (6, 54, (vb (!x61.eqb x57.Name)))] ∧ agree σ [(0, v0), (4, (vp b31 0)), (9, v46), (10, (vi (k50 : Int))), (11, (vp b60 0)), (41, v49), (42, (vi (p1.Parts.length : Int))), (43, (vi (k50 : Int)))] ∧ Holds E w ([bx 36 b60 x57, rd v59 x57, pt v58 x57, rd v0 p0, bx 26 b31 p1, own 9 v46 x47, rd v49 p1.Parts] ++ Γ)) ?_ ⟨?_, ?_, ?_, ?_, ?_, ?_, ?_, trivial⟩ ?_
  ·have hw := hw.drew
   exact ⟨doneV.none, ⟨rfl, rfl, rfl, rfl, rfl, rfl, rfl, rfl, trivial⟩, hw⟩
  ·rintro D σ w hD hdep hcl ⟨hv, ha, hw⟩
   obtain ⟨τ, rfl⟩ := (ac (ha.at 2 rfl) az).ups
   refine mv v46 rfl rfl ?_
   refine RL.nil ?_
   exact ⟨rfl, hv.put 0 rfl rfl, ha.up rfl, hw⟩
  ·rintro D σ w hD hdep hcl ⟨hv, ha, hw⟩
   obtain ⟨τ, rfl⟩ := (ac (ha.at 3 rfl) az).ups
   refine mv (vi (k50 : Int)) rfl rfl ?_
   refine RL.nil ?_
   exact ⟨rfl, hv.put 1 rfl rfl, ha.up rfl, hw⟩
  ·rintro D σ w hD hdep hcl ⟨hv, ha, hw⟩
   obtain ⟨τ, rfl⟩ := (ac (hv.at 0 rfl (hdep.1 rfl)) (ac (hv.at 1 rfl (hdep.2.1 rfl)) az)).ups
   refine RL.ia_ownA (i := 5) trivial rfl hw rfl rfl rfl sl27 hx61 ?_
   refine RL.nil ?_
   exact ⟨rfl, hv.put 2 rfl rfl, ha.up rfl, hw⟩
  ·rintro D σ w hD hdep hcl ⟨hv, ha, hw⟩
   obtain ⟨τ, rfl⟩ := (ac (hv.at 2 rfl (hdep.1 rfl)) az).ups
   refine RL.load_els (i := 5) (f := (fun x => x)) trivial rfl hw rfl (elp hw (i := 5) rfl hx61 0) rfl (idx_some hx61).2.1 Fd.self ty9 ?_
   refine RL.nil ?_
   exact ⟨rfl, hv.put 3 rfl rfl, ha.up rfl, hw⟩
  ·rintro D σ w hD hdep hcl ⟨hv, ha, hw⟩
   obtain ⟨τ, rfl⟩ := (ac (ha.at 4 rfl) az).ups
   refine RL.fa_b trivial rfl rfl fa36_0 ?_
   refine RL.nil ?_
   exact ⟨rfl, hv.put 4 rfl rfl, ha.up rfl, hw⟩
  ·rintro D σ w hD hdep hcl ⟨hv, ha, hw⟩
   obtain ⟨τ, rfl⟩ := (ac (hv.at 4 rfl (hdep.1 rfl)) az).ups
   refine RL.load_bfs (i := 0) (f := (fun x => x.Name)) trivial rfl hw rfl rfl fd_Part_0 ty9 ?_
   refine RL.nil ?_
   exact ⟨rfl, hv.put 5 rfl rfl, ha.up rfl, hw⟩
  ·rintro D σ w hD hdep hcl ⟨hv, ha, hw⟩
   obtain ⟨τ, rfl⟩ := (ac (hv.at 3 rfl (hdep.1 rfl)) (ac (hv.at 5 rfl (hdep.2.1 rfl)) az)).ups
   refine RL.scmp (a := x61) (b := x57.Name) trivial rfl rfl rfl rfl ?_
   refine RL.nil ?_
   exact ⟨rfl, hv.put 6 rfl rfl, ha.up rfl, hw⟩
  rintro D σ w hall ⟨hv, ha, hw⟩
  obtain ⟨τ, rfl⟩ := (ac (hv.at 6 rfl (hall 6 (by decide))) (ac (ha.at 0 rfl) (ac (ha.at 1 rfl) (ac (ha.at 2 rfl) (ac (ha.at 3 rfl) (ac (ha.at 4 rfl) (ac (ha.at 5 rfl) (ac (ha.at 6 rfl) (ac (ha.at 7 rfl) az))))))))).ups
  refine thenQ_n ?_
  refine RC.cond (b := (!x61.eqb x57.Name)) rfl (fun hc => ?_) (fun hc => ?_)
  rotate_left
  ·replace hb := cF hc hb
   refine RC.skip ?_
   refine blkQ_n ?_
   refine thenQ_n ?_
   refine RC.region ?_
   refine RL.inc trivial rfl hk hm rfl rfl ?_
   refine mv (vi ((k50 + 1 : Nat) : Int)) rfl rfl ?_
   refine RL.nil ?_
   obtain rfl := oi hb
   exact ⟨rfl, ⟨rfl, rfl, rfl, rfl, rfl, rfl, trivial⟩, hw.pick 7 [3, 4, 5, 6] (new := [rd v0 p0, bx 26 b31 p1, own 9 v46 x47, rd v49 p1.Parts]) rfl rfl (by decide) (by decide)⟩
  replace hb := cT hc hb
  refine RC.sr ?_
  refine as_ (vb false) rfl rfl ?_
  refine RL.nt ?_
  refine RC.rb ?_
  refine thenQ_r ?_
  obtain rfl := oi hb
  exact ⟨rfl, fin1 rfl rfl ⟨rfl, hw.drop 7 rfl⟩⟩
 ·intro r σ w e hK
  subst e
  refine thenQ_r ?_
  obtain rfl := oi hb
  exact hK
 intro s51 σ w e hJ
 subst e
 rw [Fo.cs_go] at hb
 obtain ⟨ha, hw⟩ := hJ
 obtain ⟨τ, rfl⟩ := ha.ups
 refine thenQ_n ?_
 refine RC.sr ?_
 refine as_ (.slice none 0 0) rfl rfl ?_
 refine RL.nq ?_
 refine RC.sr ?_
 refine RL.fa_b trivial rfl rfl fa26_1 ?_
 refine RL.load_bf (i := 1) (f := (fun x => x.Nets)) trivial rfl hw rfl rfl fd_Netlist_1 ty24 fun v62 hw => ?_
 refine RL.len_rd (i := 0) (l := p1.Nets) trivial rfl hw rfl rfl un24 ?_
 refine mv (vi 0) rfl rfl ?_
 refine RL.nt ?_
 obtain ⟨s64, hN, hb⟩ := bd hb
 refine RC.fold (fun (k63 : Nat) (s64 : (List Str)) (σ : Nat → Value) (w : World) => ∃ v81 : Value, agree σ [(0, v0), (4, (vp b31 0)), (12, v81), (57, v62), (58, (vi (p1.Nets.length : Int))), (59, (vi (k63 : Int)))] ∧ Holds E w ([rd v0 p0, bx 26 b31 p1, rd v62 p1.Nets, own 9 v81 s64] ++ Γ)) (fun (s64 : (List Str)) (σ : Nat → Value) (w : World) => ∃ v82 : Value, agree σ [(0, v0), (4, (vp b31 0)), (12, v82)] ∧ Holds E w ([rd v0 p0, bx 26 b31 p1, rd v62 p1.Nets, own 9 v82 s64] ++ Γ)) hN ?_ ?_ ?_ ?_
 ·have hw := hw.own_nil Str 9
  exact ⟨(.slice none 0 0), ⟨rfl, rfl, rfl, rfl, rfl, rfl, trivial⟩, hw.pick 6 [2, 3, 1, 0] (new := [rd v0 p0, bx 26 b31 p1, rd v62 p1.Nets, own 9 (.slice none 0 0) ([] : (List Str))]) rfl rfl (by decide) (by decide)⟩
 ·intro hm s64 σ w hI
  obtain ⟨v91, ha, hw⟩ := hI
  obtain ⟨τ, rfl⟩ := ha.ups
  refine RC.sr ?_
  refine ic ((p1.Nets.length : Int)) ((p1.Nets.length : Int)) rfl rfl rfl rfl ?_
  refine RL.nq ?_
  refine RC.cond_f dge ?_
  refine RC.ex ?_
  exact ⟨rfl, v91, ⟨rfl, rfl, rfl, trivial⟩, hw.pick 4 [0, 1, 2, 3] (new := [rd v0 p0, bx 26 b31 p1, rd v62 p1.Nets, own 9 v91 s64]) rfl rfl (by decide) (by decide)⟩
 ·intro hm k63 s64 s' σ w hk hI hb
  obtain ⟨v83, ha, hw⟩ := hI
  obtain ⟨τ, rfl⟩ := ha.ups
  refine RC.sr ?_
  refine ic ((k63 : Int)) ((p1.Nets.length : Int)) rfl rfl rfl rfl ?_
  refine RL.nq ?_
  refine RC.cond_t (dlt hk) ?_
  refine RC.ss ?_
  refine RC.bs ?_
  obtain ⟨x84, hx84, hb⟩ := bd hb
  refine RL.ia_rd (i := 2) trivial rfl hw rfl rfl rfl sl24 hx84 fun v85 hw => ?_
  refine RL.load_pt (i := 0) (x := x84) trivial rfl hw rfl rfl ty39 fun v86 hw => ?_
  refine RL.alloc trivial rfl hw ze39.z fun b87 w hw => ?_
  refine RL.store_raw (i := 0) (j := 1) trivial hw rfl rfl rfl rfl ty39 rfl fun w hw => ?_
  refine RL.nt ?_
  refine RC.region ?_
  refine mv v83 rfl rfl ?_
  refine RL.fa_b trivial rfl rfl fa39_0 ?_
  refine RL.load_bfs (i := 0) (f := (fun x => x.Name)) trivial rfl hw rfl rfl fd_Net_0 ty9 ?_
  have hw := hw.sc (γ := Str) x84.Name
  refine RL.bslice (l := ([x84.Name] : (List Str))) trivial rfl hw [(str x84.Name)] rfl rfl rfl sl27 ze9 (fun M hs g => ⟨(g.sat 0 _ rfl).1, trivial⟩) fun v88 w hw => ?_
  have hw := hw.freeze (i := 0) rfl
  obtain ⟨x89, hx89, hb⟩ := bd hb
  refine RL.app (i := 8) (j := 0) trivial rfl hw rfl rfl rfl rfl el27 hx89 fun v90 w hw => ?_
  refine as_ v90 rfl rfl ?_
  refine RL.nil ?_
  refine blkQ_n ?_
  refine thenQ_n ?_
  refine RC.region ?_
  refine RL.inc trivial rfl hk hm rfl rfl ?_
  refine mv (vi ((k63 + 1 : Nat) : Int)) rfl rfl ?_
  refine RL.nil ?_
  obtain rfl := oi hb
  exact ⟨rfl, v90, ⟨rfl, rfl, rfl, rfl, rfl, rfl, trivial⟩, hw.pick 9 [5, 6, 7, 8] (new := [rd v0 p0, bx 26 b31 p1, rd v62 p1.Nets, own 9 v90 x89]) rfl rfl (by decide) (by decide)⟩
 intro σ w hJ
 obtain ⟨v82, ha, hw⟩ := hJ
 obtain ⟨τ, rfl⟩ := ha.ups
 refine thenQ_n ?_
 refine RC.sr ?_
 refine mv v0 rfl rfl ?_
 refine RL.load_bf (i := 1) (f := (fun x => x)) trivial rfl hw rfl rfl Fd.self ty26 fun v92 hw => ?_
 refine mv v82 rfl rfl ?_
 have hw := hw.freeze (i := 4) rfl
 obtain ⟨x93, hx93, hb⟩ := bd hb
 refine RL.call trivial rfl fn5 [v0, v92, v82] rfl (Calls_ret (netlist_Islands_ok N  (i0 := 1) (i1 := 0) (i2 := 4) hw rfl rfl rfl hx93) ?_)
 rintro _ w ⟨v94, rfl, hw⟩
 refine mv (.tuple #[v94, (vi x93.2)]) rfl rfl ?_
 refine RL.extract (v := v94) trivial rfl rfl rfl ?_
 refine RL.extract (v := (vi x93.2)) trivial rfl rfl rfl ?_
 refine as_ v94 rfl rfl ?_
 refine as_ (vi x93.2) rfl rfl ?_
 refine RL.nq ?_
 obtain ⟨s101, hj, hb⟩ := bd hb
 refine RC.jn (fun (s101 : Bool) (σ : Nat → Value) (w : World) => agree σ [(6, (vb s101))] ∧ Holds E w ([] ++ Γ)) s101 ?_ ?_
 ·refine RC.region ?_
  refine mv (vi x93.2) rfl rfl ?_
  refine ic (x93.2) 0 rfl rfl rfl rfl ?_
  refine mv (vb (x93.2 == 0)) rfl rfl ?_
  rcases Bool.eq_false_or_eq_true (x93.2 == 0) with hg102 | hg102
  rotate_left
  ·replace hj := cF hg102 hj
   refine sk rfl (.inl (cb hg102)) rfl ?_
   refine sk rfl (.inl (cb hg102)) rfl ?_
   refine sk rfl (.inl (cb hg102)) rfl ?_
   refine sk rfl (.inl (cb hg102)) rfl ?_
   refine sk rfl (.inl (cb hg102)) rfl ?_
   refine sk rfl (.inl (cb hg102)) rfl ?_
   refine RL.pick (b := (x93.2 == 0)) (v := (vb false)) trivial rfl rfl (by rw [hg102]; rfl) ?_
   refine mv (vb false) rfl rfl ?_
   refine sk rfl (.inl rfl) rfl ?_
   refine RL.pick (b := false) (v := (vb false)) trivial rfl rfl rfl ?_
   refine as_ (vb false) rfl rfl ?_
   refine RL.nil ?_
   obtain rfl := oi hj
   exact ⟨rfl, ⟨rfl, trivial⟩, hw.pick 6 [] (new := []) rfl rfl (by decide) (by decide)⟩
  replace hj := cT hg102 hj
  refine RL.move (v := v94) ⟨_, rfl, cb hg102⟩ rfl rfl ?_
  refine RL.len_own (i := 0) (l := x93.1) ⟨_, rfl, cb hg102⟩ rfl hw rfl rfl un28 ?_
  refine RL.fa_b ⟨_, rfl, cb hg102⟩ rfl rfl fa26_0 ?_
  refine RL.load_bf (i := 3) (f := (fun x => x.Parts)) ⟨_, rfl, cb hg102⟩ rfl hw rfl rfl fd_Netlist_0 ty23 fun v103 hw => ?_
  refine RL.len_rd (i := 0) (l := p1.Parts) ⟨_, rfl, cb hg102⟩ rfl hw rfl rfl un23 ?_
  refine RL.icmp (a := (x93.1.length : Int)) (b := (p1.Parts.length : Int)) ⟨_, rfl, cb hg102⟩ rfl rfl rfl rfl ?_
  refine RL.pick (b := (x93.2 == 0)) (v := (vb ((x93.1.length : Int) == (p1.Parts.length : Int)))) trivial rfl rfl (by rw [hg102]; rfl) ?_
  refine mv (vb ((x93.1.length : Int) == (p1.Parts.length : Int))) rfl rfl ?_
  rcases Bool.eq_false_or_eq_true ((x93.1.length : Int) == (p1.Parts.length : Int)) with hg104 | hg104
  rotate_left
  ·replace hj := cF hg104 hj
   refine sk rfl (.inl (cb hg104)) rfl ?_
   refine RL.pick (b := ((x93.1.length : Int) == (p1.Parts.length : Int))) (v := (vb false)) trivial rfl rfl (by rw [hg104]; rfl) ?_
   refine as_ (vb false) rfl rfl ?_
   refine RL.nil ?_
   obtain rfl := oi hj
   exact ⟨rfl, ⟨rfl, trivial⟩, hw.pick 7 [] (new := []) rfl rfl (by decide) (by decide)⟩
  replace hj := cT hg104 hj
  obtain ⟨x105, hx105, hj⟩ := bd hj
  refine RL.call ⟨_, rfl, cb hg104⟩ rfl fn6 [] rfl (Calls_ret (etchhouselaw2_awake_ok N   hw  hx105) ?_)
  rintro _ w ⟨rfl, hw⟩
  refine RL.pick (b := ((x93.1.length : Int) == (p1.Parts.length : Int))) (v := (vb x105)) trivial rfl rfl (by rw [hg104]; rfl) ?_
  refine as_ (vb x105) rfl rfl ?_
  refine RL.nil ?_
  obtain rfl := oi hj
  exact ⟨rfl, ⟨rfl, trivial⟩, hw.pick 7 [] (new := []) rfl rfl (by decide) (by decide)⟩
 rintro σ w ⟨ha, hw⟩
 obtain ⟨τ, rfl⟩ := ha.ups
 refine thenQ_n ?_
 refine RC.ret ?_
 obtain rfl := oi hb
 exact fin1 rfl rfl ⟨rfl, hw.drop 0 rfl⟩
end Go.Gk
