/-
  Printed by gen.py: Go functions as plain functions, and that they are.
-/
import Derived.Test.YtghiafpkpfipgaaGreatDoorT
import Derived.Test.YtghiafpkpfipgaaGreatDoorS
import Derived.Test.YtghiafpkpfipgaaGreatDoorF2
import Derived.Test.YtghiafpkpfipgaaGreatDoorF5
set_option linter.unusedVariables false
set_option linter.unusedSimpArgs false
set_option linter.unusedSectionVars false
set_option maxRecDepth 100000
set_option maxHeartbeats 4000000

namespace Go.Gk
open Go Go.Proofs
def etchhouseref2_Joined_R (E : World) (Γ : List HP) (res : Netlist × Int) (v : Value) (w : World) : Prop := ∃ u0 : Value, v = .tuple #[u0, (vi res.2)] ∧ Holds E w (rd u0 res.1 :: Γ)
theorem etchhouseref2_Joined_ok (N : Nat) {E w : World} {Γ : List HP} {i0 : Nat} {v0 : Value} {p0 : (List PartType)} {i1 : Nat} {v1 : Value} {p1 : Netlist} {p2 : Str} {p3 : Str} {res : Netlist × Int} (hw : Holds E w Γ) (h0 : Γ[i0]? = some (rd v0 p0)) (h1 : Γ[i1]? = some (rd v1 p1)) (hb : etchhouseref2_Joined N p0 p1 p2 p3 = some res) :
    Calls Tryz.prog 5 [v0, v1, (str p2), (str p3)].toArray w (Ret (etchhouseref2_Joined_R E Γ res)) := by
 unfold etchhouseref2_Joined at hb
 refine enter Tryz.func5 rfl rfl (Nat.le_of_ble_eq_true rfl) ?_
 have hw := hw.dup (i := i0 + 0) h0
 have hw := hw.dup (i := i1 + 1) h1
 refine RC.sr ?_
 refine RL.box_rd (i := 0) (v := v1) trivial rfl hw rfl rfl fun b31 w hw => ?_
 refine RL.alloc trivial rfl hw ze26.z fun b32 w hw => ?_
 refine as_ (vi 0) rfl rfl ?_
 refine RL.nq ?_
 refine RC.sr ?_
 refine mv v0 rfl rfl ?_
 refine RL.load_bf (i := 1) (f := (fun x => x)) trivial rfl hw rfl rfl Fd.self ty26 fun v33 hw => ?_
 obtain ⟨x34, hx34, hb⟩ := bd hb
 refine RL.call trivial rfl fn14 [v0, v33] rfl (Calls_ret (etchhouseref2_CheckList_ok N  (i0 := 4) (i1 := 0) hw rfl rfl hx34) ?_)
 rintro _ w ⟨rfl, hw⟩
 refine as_ (vi x34) rfl rfl ?_
 refine RL.ns ?_
 refine mv (vi x34) rfl rfl ?_
 refine ic x34 0 rfl rfl rfl rfl ?_
 refine RL.nt ?_
 refine RC.cond (b := (x34 != 0)) rfl (fun hc => ?_) (fun hc => ?_)
 ·replace hb := cT hc hb
  refine RC.sr ?_
  refine RL.buildc (zs := [(.slice none 0 0), (.slice none 0 0)]) (cs := [(.slice none 0 0), (.slice none 0 0)]) trivial rfl [] rfl st26 trivial rfl ?_
  refine mv (vi x34) rfl rfl ?_
  have hw := hw.rd_nil Part
  have hw := hw.rd_nil Net
  have hw := hw.rd_agg (cs := [(.slice none 0 0), (.slice none 0 0)]) (x := (⟨([] : (List Part)), ([] : (List Net))⟩ : Netlist)) (fun M hs g => ⟨[(.slice none 0 0)], [(.slice none 0 0)], rfl, (rd_one rfl (g.sat 1 _ rfl).1), (rd_one rfl (g.sat 0 _ rfl).1)⟩) rfl
  refine RL.store_raw (i := 4) (j := 0) trivial hw rfl rfl rfl rfl ty26 rfl fun w hw => ?_
  refine as_ (vi x34) rfl rfl ?_
  refine RL.nt ?_
  refine RC.rt ?_
  obtain rfl := oi hb
  exact finC2 (i := 4) rfl hw rfl rfl ty26 rfl fun v35 hw => ⟨v35, rfl, hw.pick 9 [0] (new := [rd v35 (⟨([] : (List Part)), ([] : (List Net))⟩ : Netlist)]) rfl rfl (by decide) (by decide)⟩
 replace hb := cF hc hb
 refine RC.ss ?_
 obtain ⟨x37, hx37, hb⟩ := bd hb
 obtain ⟨x39, hx39, hb⟩ := bd hb
 refine RC.drw mixed rfl (fun (D : Nat → Bool) (σ : Nat → Value) (w : World) => ∃ (v36 : Value) (v38 : Value), doneV D σ [(0, 23, v36), (1, 24, (str p2)), (2, 25, (vi x37)), (3, 26, v38), (4, 27, (str p3)), (5, 28, (vi x39)), (6, 11, (vi x37)), (7, 12, (vi x39))] ∧ agree σ [(2, (str p2)), (3, (str p3)), (5, (vp b31 0)), (8, (vp b32 0))] ∧ Holds E w ([bif D 0 then (rd v36 p1) else junk, bif D 3 then (rd v38 p1) else junk, rd v33 p1, raw 26 b32 2, bx 26 b31 p1, rd v1 p1, rd v0 p0] ++ Γ)) ?_ ⟨?_, ?_, ?_, ?_, ?_, ?_, ?_, ?_, trivial⟩ ?_
 ·have hw := hw.drew
  have hw := hw.junk
  have hw := hw.junk
  exact ⟨undef, undef, doneV.none, ⟨rfl, rfl, rfl, rfl, trivial⟩, hw⟩
 ·rintro D σ w hD hdep hcl ⟨v36, v38, hv, ha, hw⟩
  obtain ⟨τ, rfl⟩ := (ac (ha.at 2 rfl) az).ups
  have hw := hw.selF (i := 0) rfl hD
  refine RL.load_bf (i := 4) (f := (fun x => x)) trivial rfl hw rfl rfl Fd.self ty26 fun v40 hw => ?_
  have hw := hw.pick 8 [0, 2, 3, 4, 5, 6, 7] (new := [rd v40 p1, bif D 3 then (rd v38 p1) else junk, rd v33 p1, raw 26 b32 2, bx 26 b31 p1, rd v1 p1, rd v0 p0]) rfl rfl (by decide) (by decide)
  have hw := hw.altT (i := 0) (b := true) rfl rfl (junk)
  refine RL.nil ?_
  exact ⟨rfl, v40, v38, hv.put 0 rfl rfl, ha.up rfl, hw⟩
 ·rintro D σ w hD hdep hcl ⟨v36, v38, hv, ha, hw⟩
  obtain ⟨τ, rfl⟩ := (ac (ha.at 0 rfl) az).ups
  refine mv (str p2) rfl rfl ?_
  refine RL.nil ?_
  exact ⟨rfl, v36, v38, hv.put 1 rfl rfl, ha.up rfl, hw⟩
 ·rintro D σ w hD hdep hcl ⟨v36, v38, hv, ha, hw⟩
  obtain ⟨τ, rfl⟩ := (ac (hv.at 0 rfl (hdep.1 rfl)) (ac (hv.at 1 rfl (hdep.2.1 rfl)) az)).ups
  have hw := hw.selT (i := 0) rfl (hdep.1 rfl)
  refine RL.call trivial rfl fn15 [v36, (str p2)] rfl (Calls_ret (etchhouseref2_netNamed_ok N (p1 := p2) (i0 := 0) hw rfl hx37) ?_)
  rintro _ w ⟨rfl, hw⟩
  have hw := hw.altT (i := 0) (b := D 0) rfl (hdep.1 rfl) (junk)
  refine RL.nil ?_
  exact ⟨rfl, v36, v38, hv.put 2 rfl rfl, ha.up rfl, hw⟩
 ·rintro D σ w hD hdep hcl ⟨v36, v38, hv, ha, hw⟩
  obtain ⟨τ, rfl⟩ := (ac (ha.at 2 rfl) az).ups
  have hw := hw.selF (i := 1) rfl hD
  refine RL.load_bf (i := 4) (f := (fun x => x)) trivial rfl hw rfl rfl Fd.self ty26 fun v41 hw => ?_
  have hw := hw.pick 8 [1, 0, 3, 4, 5, 6, 7] (new := [bif D 0 then (rd v36 p1) else junk, rd v41 p1, rd v33 p1, raw 26 b32 2, bx 26 b31 p1, rd v1 p1, rd v0 p0]) rfl rfl (by decide) (by decide)
  have hw := hw.altT (i := 1) (b := true) rfl rfl (junk)
  refine RL.nil ?_
  exact ⟨rfl, v36, v41, hv.put 3 rfl rfl, ha.up rfl, hw⟩
 ·rintro D σ w hD hdep hcl ⟨v36, v38, hv, ha, hw⟩
  obtain ⟨τ, rfl⟩ := (ac (ha.at 1 rfl) az).ups
  refine mv (str p3) rfl rfl ?_
  refine RL.nil ?_
  exact ⟨rfl, v36, v38, hv.put 4 rfl rfl, ha.up rfl, hw⟩
 ·rintro D σ w hD hdep hcl ⟨v36, v38, hv, ha, hw⟩
  obtain ⟨τ, rfl⟩ := (ac (hv.at 3 rfl (hdep.1 rfl)) (ac (hv.at 4 rfl (hdep.2.1 rfl)) az)).ups
  have hw := hw.selT (i := 1) rfl (hdep.1 rfl)
  refine RL.call trivial rfl fn15 [v38, (str p3)] rfl (Calls_ret (etchhouseref2_netNamed_ok N (p1 := p3) (i0 := 1) hw rfl hx39) ?_)
  rintro _ w ⟨rfl, hw⟩
  have hw := hw.altT (i := 1) (b := D 3) rfl (hdep.1 rfl) (junk)
  refine RL.nil ?_
  exact ⟨rfl, v36, v38, hv.put 5 rfl rfl, ha.up rfl, hw⟩
 ·rintro D σ w hD hdep hcl ⟨v36, v38, hv, ha, hw⟩
  obtain ⟨τ, rfl⟩ := (ac (hv.at 2 rfl (hdep.1 rfl)) az).ups
  refine as_ (vi x37) rfl rfl ?_
  refine RL.nil ?_
  exact ⟨rfl, v36, v38, hv.put 6 rfl rfl, ha.up rfl, hw⟩
 ·rintro D σ w hD hdep hcl ⟨v36, v38, hv, ha, hw⟩
  obtain ⟨τ, rfl⟩ := (ac (hv.at 5 rfl (hdep.1 rfl)) az).ups
  refine as_ (vi x39) rfl rfl ?_
  refine RL.nil ?_
  exact ⟨rfl, v36, v38, hv.put 7 rfl rfl, ha.up rfl, hw⟩
 rintro D σ w hall ⟨v36, v38, hv, ha, hw⟩
 rw [hall 0 (by decide), hall 3 (by decide)] at hw
 obtain ⟨τ, rfl⟩ := (ac (hv.at 6 rfl (hall 6 (by decide))) (ac (hv.at 7 rfl (hall 7 (by decide))) (ac (ha.at 0 rfl) (ac (ha.at 1 rfl) (ac (ha.at 2 rfl) (ac (ha.at 3 rfl) az)))))).ups
 refine thenQ_n ?_
 refine RC.seq ?_
 refine RC.bs ?_
 refine mv (vi x37) rfl rfl ?_
 refine ic x37 0 rfl rfl rfl rfl ?_
 refine mv (vb (decide (x37 < 0))) rfl rfl ?_
 refine RL.gs (c := true) (b := (decide (x37 < 0))) (v := (vi x39)) rfl rfl rfl (gs_move rfl (fun _ => rfl)) ?_
 refine RL.gs (c := true) (b := (decide (x37 < 0))) (v := (vb (decide (x39 < 0)))) rfl rfl rfl (gs_icmp (bop := .lss) (K := .i64) (a := x39) (b := 0) rfl (fun h => by exact (cv_t h : cv (true && ((decide (x37 < 0)) == false)) (vi x39) = (vi x39))) (fun _ => rfl) rfl) ?_
 refine RL.pick (b := (decide (x37 < 0))) (v := (vb ((decide (x37 < 0)) || (decide (x39 < 0))))) trivial rfl rfl (pk_or (c := true) rfl) ?_
 refine as_ (vb ((decide (x37 < 0)) || (decide (x39 < 0)))) rfl rfl ?_
 refine RL.nt ?_
 refine RC.cond (b := ((decide (x37 < 0)) || (decide (x39 < 0)))) rfl (fun hc => ?_) (fun hc => ?_)
 ·replace hb := cT hc hb
  refine RC.sr ?_
  refine RL.buildc (zs := [(.slice none 0 0), (.slice none 0 0)]) (cs := [(.slice none 0 0), (.slice none 0 0)]) trivial rfl [] rfl st26 trivial rfl ?_
  have hw := hw.rd_nil Part
  have hw := hw.rd_nil Net
  have hw := hw.rd_agg (cs := [(.slice none 0 0), (.slice none 0 0)]) (x := (⟨([] : (List Part)), ([] : (List Net))⟩ : Netlist)) (fun M hs g => ⟨[(.slice none 0 0)], [(.slice none 0 0)], rfl, (rd_one rfl (g.sat 1 _ rfl).1), (rd_one rfl (g.sat 0 _ rfl).1)⟩) rfl
  refine RL.store_raw (i := 6) (j := 0) trivial hw rfl rfl rfl rfl ty26 rfl fun w hw => ?_
  refine as_ (vi 9) rfl rfl ?_
  refine RL.nt ?_
  refine RC.rb ?_
  refine thenQ_r ?_
  obtain rfl := oi hb
  exact finC2 (i := 6) rfl hw rfl rfl ty26 rfl fun v78 hw => ⟨v78, rfl, hw.pick 11 [0] (new := [rd v78 (⟨([] : (List Part)), ([] : (List Net))⟩ : Netlist)]) rfl rfl (by decide) (by decide)⟩
 replace hb := cF hc hb
 refine RC.sr ?_
 refine mv (vi x37) rfl rfl ?_
 refine mv (vi x39) rfl rfl ?_
 refine ic x37 x39 rfl rfl rfl rfl ?_
 refine as_ (vb (x37 == x39)) rfl rfl ?_
 refine RL.nt ?_
 refine RC.cond (b := (x37 == x39)) rfl (fun hc => ?_) (fun hc => ?_)
 ·replace hb := cT hc hb
  refine RC.sr ?_
  refine RL.buildc (zs := [(.slice none 0 0), (.slice none 0 0)]) (cs := [(.slice none 0 0), (.slice none 0 0)]) trivial rfl [] rfl st26 trivial rfl ?_
  have hw := hw.rd_nil Part
  have hw := hw.rd_nil Net
  have hw := hw.rd_agg (cs := [(.slice none 0 0), (.slice none 0 0)]) (x := (⟨([] : (List Part)), ([] : (List Net))⟩ : Netlist)) (fun M hs g => ⟨[(.slice none 0 0)], [(.slice none 0 0)], rfl, (rd_one rfl (g.sat 1 _ rfl).1), (rd_one rfl (g.sat 0 _ rfl).1)⟩) rfl
  refine RL.store_raw (i := 6) (j := 0) trivial hw rfl rfl rfl rfl ty26 rfl fun w hw => ?_
  refine as_ (vi 12) rfl rfl ?_
  refine RL.nt ?_
  refine RC.rb ?_
  refine thenQ_r ?_
  obtain rfl := oi hb
  exact finC2 (i := 6) rfl hw rfl rfl ty26 rfl fun v97 hw => ⟨v97, rfl, hw.pick 11 [0] (new := [rd v97 (⟨([] : (List Part)), ([] : (List Net))⟩ : Netlist)]) rfl rfl (by decide) (by decide)⟩
 replace hb := cF hc hb
 refine RC.seq ?_
 obtain ⟨x99, hx99, hb⟩ := bd hb
 obtain ⟨x104, hx104, hb⟩ := bd hb
 refine RC.drw mixed rfl (fun (D : Nat → Bool) (σ : Nat → Value) (w : World) => ∃ (v98 : Value) (v100 : Value) (v101 : Value) (v102 : Value) (v103 : Value) (v105 : Value) (v106 : Value) (v107 : Value), doneV D σ [(0, 43, (vp b31 1)), (1, 44, v98), (2, 45, (vi x37)), (3, 46, v100), (4, 47, v101), (5, 48, v102), (6, 49, (vi (x99.Pins.length : Int))), (7, 50, (vp b31 1)), (8, 51, v103), (9, 52, (vi x39)), (10, 53, v105), (11, 54, v106), (12, 55, v107), (13, 56, (vi (x104.Pins.length : Int))), (14, 57, (vi (IntKind.wrap .i64 ((x99.Pins.length : Int) + (x104.Pins.length : Int))))), (15, 58, (vb (decide ((IntKind.wrap .i64 ((x99.Pins.length : Int) + (x104.Pins.length : Int))) > 500)))), (16, 42, (vb (decide ((IntKind.wrap .i64 ((x99.Pins.length : Int) + (x104.Pins.length : Int))) > 500))))] ∧ agree σ [(5, (vp b31 0)), (8, (vp b32 0)), (11, (vi x37)), (12, (vi x39))] ∧ Holds E w ([bif D 1 then (rd v98 p1.Nets) else junk, bif D 3 then (pt v100 x99) else junk, bif D 4 then (pt v101 x99.Pins) else junk, bif D 5 then (rd v102 x99.Pins) else junk, bif D 8 then (rd v103 p1.Nets) else junk, bif D 10 then (pt v105 x104) else junk, bif D 11 then (pt v106 x104.Pins) else junk, bif D 12 then (rd v107 x104.Pins) else junk, rd v36 p1, rd v38 p1, rd v33 p1, raw 26 b32 2, bx 26 b31 p1, rd v1 p1, rd v0 p0] ++ Γ)) ?_ ⟨?_, ?_, ?_, ?_, ?_, ?_, ?_, ?_, ?_, ?_, ?_, ?_, ?_, ?_, ?_, ?_, ?_, trivial⟩ ?_
 ·have hw := hw.drew
  have hw := hw.junk
  have hw := hw.junk
  have hw := hw.junk
  have hw := hw.junk
  have hw := hw.junk
  have hw := hw.junk
  have hw := hw.junk
  have hw := hw.junk
  exact ⟨undef, undef, undef, undef, undef, undef, undef, undef, doneV.none, ⟨rfl, rfl, rfl, rfl, trivial⟩, hw⟩
 ·rintro D σ w hD hdep hcl ⟨v98, v100, v101, v102, v103, v105, v106, v107, hv, ha, hw⟩
  obtain ⟨τ, rfl⟩ := (ac (ha.at 0 rfl) az).ups
  refine RL.fa_b trivial rfl rfl fa26_1 ?_
  refine RL.nil ?_
  exact ⟨rfl, v98, v100, v101, v102, v103, v105, v106, v107, hv.put 0 rfl rfl, ha.up rfl, hw⟩
 ·rintro D σ w hD hdep hcl ⟨v98, v100, v101, v102, v103, v105, v106, v107, hv, ha, hw⟩
  obtain ⟨τ, rfl⟩ := (ac (hv.at 0 rfl (hdep.1 rfl)) az).ups
  have hw := hw.selF (i := 0) rfl hD
  refine RL.load_bf (i := 12) (f := (fun x => x.Nets)) trivial rfl hw rfl rfl fd_Netlist_1 ty24 fun v108 hw => ?_
  have hw := hw.pick 16 [0, 2, 3, 4, 5, 6, 7, 8, 9, 10, 11, 12, 13, 14, 15] (new := [rd v108 p1.Nets, bif D 3 then (pt v100 x99) else junk, bif D 4 then (pt v101 x99.Pins) else junk, bif D 5 then (rd v102 x99.Pins) else junk, bif D 8 then (rd v103 p1.Nets) else junk, bif D 10 then (pt v105 x104) else junk, bif D 11 then (pt v106 x104.Pins) else junk, bif D 12 then (rd v107 x104.Pins) else junk, rd v36 p1, rd v38 p1, rd v33 p1, raw 26 b32 2, bx 26 b31 p1, rd v1 p1, rd v0 p0]) rfl rfl (by decide) (by decide)
  have hw := hw.altT (i := 0) (b := true) rfl rfl (junk)
  refine RL.nil ?_
  exact ⟨rfl, v108, v100, v101, v102, v103, v105, v106, v107, hv.put 1 rfl rfl, ha.up rfl, hw⟩
 ·rintro D σ w hD hdep hcl ⟨v98, v100, v101, v102, v103, v105, v106, v107, hv, ha, hw⟩
  obtain ⟨τ, rfl⟩ := (ac (ha.at 2 rfl) az).ups
  refine mv (vi x37) rfl rfl ?_
  refine RL.nil ?_
  exact ⟨rfl, v98, v100, v101, v102, v103, v105, v106, v107, hv.put 2 rfl rfl, ha.up rfl, hw⟩
 ·rintro D σ w hD hdep hcl ⟨v98, v100, v101, v102, v103, v105, v106, v107, hv, ha, hw⟩
  obtain ⟨τ, rfl⟩ := (ac (hv.at 1 rfl (hdep.1 rfl)) (ac (hv.at 2 rfl (hdep.2.1 rfl)) az)).ups
  have hw := hw.selT (i := 0) rfl (hdep.1 rfl)
  have hw := hw.selF (i := 1) rfl hD
  refine RL.ia_rd (i := 0) trivial rfl hw rfl rfl rfl sl24 hx99 fun v109 hw => ?_
  have hw := hw.pick 16 [1, 0, 3, 4, 5, 6, 7, 8, 9, 10, 11, 12, 13, 14, 15] (new := [rd v98 p1.Nets, pt v109 x99, bif D 4 then (pt v101 x99.Pins) else junk, bif D 5 then (rd v102 x99.Pins) else junk, bif D 8 then (rd v103 p1.Nets) else junk, bif D 10 then (pt v105 x104) else junk, bif D 11 then (pt v106 x104.Pins) else junk, bif D 12 then (rd v107 x104.Pins) else junk, rd v36 p1, rd v38 p1, rd v33 p1, raw 26 b32 2, bx 26 b31 p1, rd v1 p1, rd v0 p0]) rfl rfl (by decide) (by decide)
  have hw := hw.altT (i := 0) (b := D 1) rfl (hdep.1 rfl) (junk)
  have hw := hw.altT (i := 1) (b := true) rfl rfl (junk)
  refine RL.nil ?_
  exact ⟨rfl, v98, v109, v101, v102, v103, v105, v106, v107, hv.put 3 rfl rfl, ha.up rfl, hw⟩
 ·rintro D σ w hD hdep hcl ⟨v98, v100, v101, v102, v103, v105, v106, v107, hv, ha, hw⟩
  obtain ⟨τ, rfl⟩ := (ac (hv.at 3 rfl (hdep.1 rfl)) az).ups
  have hw := hw.selT (i := 1) rfl (hdep.1 rfl)
  have hw := hw.selF (i := 2) rfl hD
  refine RL.fa_pt (i := 1) (f := fun (x : Net) => x.Pins) trivial rfl hw rfl rfl fa38_1 fd_Net_1 fun v110 hw => ?_
  have hw := hw.pick 16 [1, 2, 0, 4, 5, 6, 7, 8, 9, 10, 11, 12, 13, 14, 15] (new := [bif D 1 then (rd v98 p1.Nets) else junk, pt v100 x99, pt v110 x99.Pins, bif D 5 then (rd v102 x99.Pins) else junk, bif D 8 then (rd v103 p1.Nets) else junk, bif D 10 then (pt v105 x104) else junk, bif D 11 then (pt v106 x104.Pins) else junk, bif D 12 then (rd v107 x104.Pins) else junk, rd v36 p1, rd v38 p1, rd v33 p1, raw 26 b32 2, bx 26 b31 p1, rd v1 p1, rd v0 p0]) rfl rfl (by decide) (by decide)
  have hw := hw.altT (i := 1) (b := D 3) rfl (hdep.1 rfl) (junk)
  have hw := hw.altT (i := 2) (b := true) rfl rfl (junk)
  refine RL.nil ?_
  exact ⟨rfl, v98, v100, v110, v102, v103, v105, v106, v107, hv.put 4 rfl rfl, ha.up rfl, hw⟩
 ·rintro D σ w hD hdep hcl ⟨v98, v100, v101, v102, v103, v105, v106, v107, hv, ha, hw⟩
  obtain ⟨τ, rfl⟩ := (ac (hv.at 4 rfl (hdep.1 rfl)) az).ups
  have hw := hw.selT (i := 2) rfl (hdep.1 rfl)
  have hw := hw.selF (i := 3) rfl hD
  refine RL.load_pt (i := 2) (x := x99.Pins) trivial rfl hw rfl rfl ty35 fun v111 hw => ?_
  have hw := hw.pick 16 [1, 2, 3, 0, 5, 6, 7, 8, 9, 10, 11, 12, 13, 14, 15] (new := [bif D 1 then (rd v98 p1.Nets) else junk, bif D 3 then (pt v100 x99) else junk, pt v101 x99.Pins, rd v111 x99.Pins, bif D 8 then (rd v103 p1.Nets) else junk, bif D 10 then (pt v105 x104) else junk, bif D 11 then (pt v106 x104.Pins) else junk, bif D 12 then (rd v107 x104.Pins) else junk, rd v36 p1, rd v38 p1, rd v33 p1, raw 26 b32 2, bx 26 b31 p1, rd v1 p1, rd v0 p0]) rfl rfl (by decide) (by decide)
  have hw := hw.altT (i := 2) (b := D 4) rfl (hdep.1 rfl) (junk)
  have hw := hw.altT (i := 3) (b := true) rfl rfl (junk)
  refine RL.nil ?_
  exact ⟨rfl, v98, v100, v101, v111, v103, v105, v106, v107, hv.put 5 rfl rfl, ha.up rfl, hw⟩
 ·rintro D σ w hD hdep hcl ⟨v98, v100, v101, v102, v103, v105, v106, v107, hv, ha, hw⟩
  obtain ⟨τ, rfl⟩ := (ac (hv.at 5 rfl (hdep.1 rfl)) az).ups
  have hw := hw.selT (i := 3) rfl (hdep.1 rfl)
  refine RL.len_rd (i := 3) (l := x99.Pins) trivial rfl hw rfl rfl un35 ?_
  have hw := hw.altT (i := 3) (b := D 5) rfl (hdep.1 rfl) (junk)
  refine RL.nil ?_
  exact ⟨rfl, v98, v100, v101, v102, v103, v105, v106, v107, hv.put 6 rfl rfl, ha.up rfl, hw⟩
 ·rintro D σ w hD hdep hcl ⟨v98, v100, v101, v102, v103, v105, v106, v107, hv, ha, hw⟩
  obtain ⟨τ, rfl⟩ := (ac (ha.at 0 rfl) az).ups
  refine RL.fa_b trivial rfl rfl fa26_1 ?_
  refine RL.nil ?_
  exact ⟨rfl, v98, v100, v101, v102, v103, v105, v106, v107, hv.put 7 rfl rfl, ha.up rfl, hw⟩
 ·rintro D σ w hD hdep hcl ⟨v98, v100, v101, v102, v103, v105, v106, v107, hv, ha, hw⟩
  obtain ⟨τ, rfl⟩ := (ac (hv.at 7 rfl (hdep.1 rfl)) az).ups
  have hw := hw.selF (i := 4) rfl hD
  refine RL.load_bf (i := 12) (f := (fun x => x.Nets)) trivial rfl hw rfl rfl fd_Netlist_1 ty24 fun v112 hw => ?_
  have hw := hw.pick 16 [1, 2, 3, 4, 0, 6, 7, 8, 9, 10, 11, 12, 13, 14, 15] (new := [bif D 1 then (rd v98 p1.Nets) else junk, bif D 3 then (pt v100 x99) else junk, bif D 4 then (pt v101 x99.Pins) else junk, bif D 5 then (rd v102 x99.Pins) else junk, rd v112 p1.Nets, bif D 10 then (pt v105 x104) else junk, bif D 11 then (pt v106 x104.Pins) else junk, bif D 12 then (rd v107 x104.Pins) else junk, rd v36 p1, rd v38 p1, rd v33 p1, raw 26 b32 2, bx 26 b31 p1, rd v1 p1, rd v0 p0]) rfl rfl (by decide) (by decide)
  have hw := hw.altT (i := 4) (b := true) rfl rfl (junk)
  refine RL.nil ?_
  exact ⟨rfl, v98, v100, v101, v102, v112, v105, v106, v107, hv.put 8 rfl rfl, ha.up rfl, hw⟩
 ·rintro D σ w hD hdep hcl ⟨v98, v100, v101, v102, v103, v105, v106, v107, hv, ha, hw⟩
  obtain ⟨τ, rfl⟩ := (ac (ha.at 3 rfl) az).ups
  refine mv (vi x39) rfl rfl ?_
  refine RL.nil ?_
  exact ⟨rfl, v98, v100, v101, v102, v103, v105, v106, v107, hv.put 9 rfl rfl, ha.up rfl, hw⟩
 ·rintro D σ w hD hdep hcl ⟨v98, v100, v101, v102, v103, v105, v106, v107, hv, ha, hw⟩
  obtain ⟨τ, rfl⟩ := (ac (hv.at 8 rfl (hdep.1 rfl)) (ac (hv.at 9 rfl (hdep.2.1 rfl)) az)).ups
  have hw := hw.selT (i := 4) rfl (hdep.1 rfl)
  have hw := hw.selF (i := 5) rfl hD
  refine RL.ia_rd (i := 4) trivial rfl hw rfl rfl rfl sl24 hx104 fun v113 hw => ?_
  have hw := hw.pick 16 [1, 2, 3, 4, 5, 0, 7, 8, 9, 10, 11, 12, 13, 14, 15] (new := [bif D 1 then (rd v98 p1.Nets) else junk, bif D 3 then (pt v100 x99) else junk, bif D 4 then (pt v101 x99.Pins) else junk, bif D 5 then (rd v102 x99.Pins) else junk, rd v103 p1.Nets, pt v113 x104, bif D 11 then (pt v106 x104.Pins) else junk, bif D 12 then (rd v107 x104.Pins) else junk, rd v36 p1, rd v38 p1, rd v33 p1, raw 26 b32 2, bx 26 b31 p1, rd v1 p1, rd v0 p0]) rfl rfl (by decide) (by decide)
  have hw := hw.altT (i := 4) (b := D 8) rfl (hdep.1 rfl) (junk)
  have hw := hw.altT (i := 5) (b := true) rfl rfl (junk)
  refine RL.nil ?_
  exact ⟨rfl, v98, v100, v101, v102, v103, v113, v106, v107, hv.put 10 rfl rfl, ha.up rfl, hw⟩
 ·rintro D σ w hD hdep hcl ⟨v98, v100, v101, v102, v103, v105, v106, v107, hv, ha, hw⟩
  obtain ⟨τ, rfl⟩ := (ac (hv.at 10 rfl (hdep.1 rfl)) az).ups
  have hw := hw.selT (i := 5) rfl (hdep.1 rfl)
  have hw := hw.selF (i := 6) rfl hD
  refine RL.fa_pt (i := 5) (f := fun (x : Net) => x.Pins) trivial rfl hw rfl rfl fa38_1 fd_Net_1 fun v114 hw => ?_
  have hw := hw.pick 16 [1, 2, 3, 4, 5, 6, 0, 8, 9, 10, 11, 12, 13, 14, 15] (new := [bif D 1 then (rd v98 p1.Nets) else junk, bif D 3 then (pt v100 x99) else junk, bif D 4 then (pt v101 x99.Pins) else junk, bif D 5 then (rd v102 x99.Pins) else junk, bif D 8 then (rd v103 p1.Nets) else junk, pt v105 x104, pt v114 x104.Pins, bif D 12 then (rd v107 x104.Pins) else junk, rd v36 p1, rd v38 p1, rd v33 p1, raw 26 b32 2, bx 26 b31 p1, rd v1 p1, rd v0 p0]) rfl rfl (by decide) (by decide)
  have hw := hw.altT (i := 5) (b := D 10) rfl (hdep.1 rfl) (junk)
  have hw := hw.altT (i := 6) (b := true) rfl rfl (junk)
  refine RL.nil ?_
  exact ⟨rfl, v98, v100, v101, v102, v103, v105, v114, v107, hv.put 11 rfl rfl, ha.up rfl, hw⟩
 ·rintro D σ w hD hdep hcl ⟨v98, v100, v101, v102, v103, v105, v106, v107, hv, ha, hw⟩
  obtain ⟨τ, rfl⟩ := (ac (hv.at 11 rfl (hdep.1 rfl)) az).ups
  have hw := hw.selT (i := 6) rfl (hdep.1 rfl)
  have hw := hw.selF (i := 7) rfl hD
  refine RL.load_pt (i := 6) (x := x104.Pins) trivial rfl hw rfl rfl ty35 fun v115 hw => ?_
  have hw := hw.pick 16 [1, 2, 3, 4, 5, 6, 7, 0, 9, 10, 11, 12, 13, 14, 15] (new := [bif D 1 then (rd v98 p1.Nets) else junk, bif D 3 then (pt v100 x99) else junk, bif D 4 then (pt v101 x99.Pins) else junk, bif D 5 then (rd v102 x99.Pins) else junk, bif D 8 then (rd v103 p1.Nets) else junk, bif D 10 then (pt v105 x104) else junk, pt v106 x104.Pins, rd v115 x104.Pins, rd v36 p1, rd v38 p1, rd v33 p1, raw 26 b32 2, bx 26 b31 p1, rd v1 p1, rd v0 p0]) rfl rfl (by decide) (by decide)
  have hw := hw.altT (i := 6) (b := D 11) rfl (hdep.1 rfl) (junk)
  have hw := hw.altT (i := 7) (b := true) rfl rfl (junk)
  refine RL.nil ?_
  exact ⟨rfl, v98, v100, v101, v102, v103, v105, v106, v115, hv.put 12 rfl rfl, ha.up rfl, hw⟩
 ·rintro D σ w hD hdep hcl ⟨v98, v100, v101, v102, v103, v105, v106, v107, hv, ha, hw⟩
  obtain ⟨τ, rfl⟩ := (ac (hv.at 12 rfl (hdep.1 rfl)) az).ups
  have hw := hw.selT (i := 7) rfl (hdep.1 rfl)
  refine RL.len_rd (i := 7) (l := x104.Pins) trivial rfl hw rfl rfl un35 ?_
  have hw := hw.altT (i := 7) (b := D 12) rfl (hdep.1 rfl) (junk)
  refine RL.nil ?_
  exact ⟨rfl, v98, v100, v101, v102, v103, v105, v106, v107, hv.put 13 rfl rfl, ha.up rfl, hw⟩
 ·rintro D σ w hD hdep hcl ⟨v98, v100, v101, v102, v103, v105, v106, v107, hv, ha, hw⟩
  obtain ⟨τ, rfl⟩ := (ac (hv.at 6 rfl (hdep.1 rfl)) (ac (hv.at 13 rfl (hdep.2.1 rfl)) az)).ups
  refine RL.iar (a := (x99.Pins.length : Int)) (b := (x104.Pins.length : Int)) trivial rfl rfl rfl rfl ?_
  refine RL.nil ?_
  exact ⟨rfl, v98, v100, v101, v102, v103, v105, v106, v107, hv.put 14 rfl rfl, ha.up rfl, hw⟩
 ·rintro D σ w hD hdep hcl ⟨v98, v100, v101, v102, v103, v105, v106, v107, hv, ha, hw⟩
  obtain ⟨τ, rfl⟩ := (ac (hv.at 14 rfl (hdep.1 rfl)) az).ups
  refine ic ((IntKind.wrap .i64 ((x99.Pins.length : Int) + (x104.Pins.length : Int)))) 500 rfl rfl rfl rfl ?_
  refine RL.nil ?_
  exact ⟨rfl, v98, v100, v101, v102, v103, v105, v106, v107, hv.put 15 rfl rfl, ha.up rfl, hw⟩
 ·rintro D σ w hD hdep hcl ⟨v98, v100, v101, v102, v103, v105, v106, v107, hv, ha, hw⟩
  obtain ⟨τ, rfl⟩ := (ac (hv.at 15 rfl (hdep.1 rfl)) az).ups
  refine as_ (vb (decide ((IntKind.wrap .i64 ((x99.Pins.length : Int) + (x104.Pins.length : Int))) > 500))) rfl rfl ?_
  refine RL.nil ?_
  exact ⟨rfl, v98, v100, v101, v102, v103, v105, v106, v107, hv.put 16 rfl rfl, ha.up rfl, hw⟩
 rintro D σ w hall ⟨v98, v100, v101, v102, v103, v105, v106, v107, hv, ha, hw⟩
 rw [hall 1 (by decide), hall 3 (by decide), hall 4 (by decide), hall 5 (by decide), hall 8 (by decide), hall 10 (by decide), hall 11 (by decide), hall 12 (by decide)] at hw
 obtain ⟨τ, rfl⟩ := (ac (hv.at 16 rfl (hall 16 (by decide))) (ac (ha.at 0 rfl) (ac (ha.at 1 rfl) (ac (ha.at 2 rfl) (ac (ha.at 3 rfl) az))))).ups
 refine thenQ_n ?_
 refine RC.cond (b := (decide ((IntKind.wrap .i64 ((x99.Pins.length : Int) + (x104.Pins.length : Int))) > 500))) rfl (fun hc => ?_) (fun hc => ?_)
 ·replace hb := cT hc hb
  refine RC.sr ?_
  refine RL.buildc (zs := [(.slice none 0 0), (.slice none 0 0)]) (cs := [(.slice none 0 0), (.slice none 0 0)]) trivial rfl [] rfl st26 trivial rfl ?_
  have hw := hw.rd_nil Part
  have hw := hw.rd_nil Net
  have hw := hw.rd_agg (cs := [(.slice none 0 0), (.slice none 0 0)]) (x := (⟨([] : (List Part)), ([] : (List Net))⟩ : Netlist)) (fun M hs g => ⟨[(.slice none 0 0)], [(.slice none 0 0)], rfl, (rd_one rfl (g.sat 1 _ rfl).1), (rd_one rfl (g.sat 0 _ rfl).1)⟩) rfl
  refine RL.store_raw (i := 14) (j := 0) trivial hw rfl rfl rfl rfl ty26 rfl fun w hw => ?_
  refine as_ (vi 2) rfl rfl ?_
  refine RL.nt ?_
  refine RC.rb ?_
  refine thenQ_r ?_
  obtain rfl := oi hb
  exact finC2 (i := 14) rfl hw rfl rfl ty26 rfl fun v116 hw => ⟨v116, rfl, hw.pick 19 [0] (new := [rd v116 (⟨([] : (List Part)), ([] : (List Net))⟩ : Netlist)]) rfl rfl (by decide) (by decide)⟩
 replace hb := cF hc hb
 refine RC.skip ?_
 refine blkQ_n ?_
 refine thenQ_n ?_
 refine RC.sr ?_
 refine RL.fa_b trivial rfl rfl fa26_0 ?_
 refine RL.load_bf (i := 12) (f := (fun x => x.Parts)) trivial rfl hw rfl rfl fd_Netlist_0 ty23 fun v117 hw => ?_
 obtain ⟨x118, hx118, hb⟩ := bd hb
 refine RL.call trivial rfl fn16 [v117] rfl (Calls_ret (slices_Clone_Part_ok N  (i0 := 0) hw rfl hx118) ?_)
 rintro v119 w hw
 refine RL.buildc (zs := [(.slice none 0 0), (.slice none 0 0)]) (cs := [v119, (.slice none 0 0)]) trivial rfl [(0, v119)] rfl st26 ⟨(one_own hw (i := 0) rfl), trivial⟩ rfl ?_
 refine RL.alloc_bc trivial rfl hw zc26 rfl fun b120 w hw => ?_
 refine RL.store_bca (i := 0) (cs := [v119, (.slice none 0 0)]) trivial hw rfl rfl rfl (oneL.all (⟨(one_own hw (i := 1) rfl), rfl, trivial⟩ : oneL [v119, (.slice none 0 0)])) ty26 rfl rfl fun w hw => ?_
 refine RL.nq ?_
 refine RC.sr ?_
 refine RL.fa_b trivial rfl rfl fa26_1 ?_
 refine RL.load_bf (i := 15) (f := (fun x => x.Nets)) trivial rfl hw rfl rfl fd_Netlist_1 ty24 fun v121 hw => ?_
 refine RL.len_rd (i := 0) (l := p1.Nets) trivial rfl hw rfl rfl un24 ?_
 refine mv (vi 0) rfl rfl ?_
 refine RL.nt ?_
 obtain ⟨s123, hN, hb⟩ := bd hb
 refine RC.fold (fun (k122 : Nat) (s123 : (List Net)) (σ : Nat → Value) (w : World) => ∃ v506 : Value, agree σ [(5, (vp b31 0)), (8, (vp b32 0)), (11, (vi x37)), (12, (vi x39)), (13, (vp b120 0)), (65, v121), (66, (vi (p1.Nets.length : Int))), (67, (vi (k122 : Int)))] ∧ Holds E w ([bx 26 b31 p1, raw 26 b32 2, bc 26 b120 [v119, v506], own 38 v506 s123, own 48 v119 x118, rd v121 p1.Nets] ++ Γ)) (fun (s123 : (List Net)) (σ : Nat → Value) (w : World) => ∃ v507 : Value, agree σ [(8, (vp b32 0)), (13, (vp b120 0))] ∧ Holds E w ([bx 26 b31 p1, raw 26 b32 2, bc 26 b120 [v119, v507], own 38 v507 s123, own 48 v119 x118, rd v121 p1.Nets] ++ Γ)) hN ?_ ?_ ?_ ?_
 ·have hw := hw.own_nil Net 38
  exact ⟨(.slice none 0 0), ⟨rfl, rfl, rfl, rfl, rfl, rfl, rfl, rfl, trivial⟩, hw.pick 20 [17, 16, 2, 0, 3, 1] (new := [bx 26 b31 p1, raw 26 b32 2, bc 26 b120 [v119, (.slice none 0 0)], own 38 (.slice none 0 0) ([] : (List Net)), own 48 v119 x118, rd v121 p1.Nets]) rfl rfl (by decide) (by decide)⟩
 ·intro hm s123 σ w hI
  obtain ⟨v699, ha, hw⟩ := hI
  obtain ⟨τ, rfl⟩ := ha.ups
  refine RC.sr ?_
  refine ic ((p1.Nets.length : Int)) ((p1.Nets.length : Int)) rfl rfl rfl rfl ?_
  refine RL.nq ?_
  refine RC.cond_f dge ?_
  refine RC.ex ?_
  exact ⟨rfl, v699, ⟨rfl, rfl, trivial⟩, hw.pick 6 [0, 1, 2, 3, 4, 5] (new := [bx 26 b31 p1, raw 26 b32 2, bc 26 b120 [v119, v699], own 38 v699 s123, own 48 v119 x118, rd v121 p1.Nets]) rfl rfl (by decide) (by decide)⟩
 ·intro hm k122 s123 s' σ w hk hI hb
  obtain ⟨v508, ha, hw⟩ := hI
  obtain ⟨τ, rfl⟩ := ha.ups
  refine RC.sr ?_
  refine ic ((k122 : Int)) ((p1.Nets.length : Int)) rfl rfl rfl rfl ?_
  refine RL.nq ?_
  refine RC.cond_t (dlt hk) ?_
  refine RC.ss ?_
  refine RC.bs ?_
  refine mv (vi (k122 : Int)) rfl rfl ?_
  obtain ⟨x509, hx509, hb⟩ := bd hb
  refine RL.ia_rd (i := 5) trivial rfl hw rfl rfl rfl sl24 hx509 fun v510 hw => ?_
  refine RL.load_pt (i := 0) (x := x509) trivial rfl hw rfl rfl ty38 fun v511 hw => ?_
  refine RL.alloc trivial rfl hw ze38.z fun b512 w hw => ?_
  refine as_ (vi (k122 : Int)) rfl rfl ?_
  refine RL.store_raw (i := 0) (j := 1) trivial hw rfl rfl rfl rfl ty38 rfl fun w hw => ?_
  refine RL.ns ?_
  refine mv (vi (k122 : Int)) rfl rfl ?_
  refine RL.nt ?_
  refine RC.bs ?_
  refine mv (vi x37) rfl rfl ?_
  refine mv (vi x39) rfl rfl ?_
  refine RL.max (a := x37) (b := x39) trivial rfl rfl rfl ?_
  refine ic ((k122 : Int)) ((if x37 < x39 then x39 else x37)) rfl rfl rfl rfl ?_
  refine as_ (vb ((k122 : Int) == (if x37 < x39 then x39 else x37))) rfl rfl ?_
  refine RL.nt ?_
  obtain ⟨s605, hj, hb⟩ := bd hb
  refine RC.jn (fun (s605 : (List Net)) (σ : Nat → Value) (w : World) => ∃ v606 : Value, agree σ [(5, (vp b31 0)), (8, (vp b32 0)), (11, (vi x37)), (12, (vi x39)), (13, (vp b120 0)), (65, v121), (66, (vi (p1.Nets.length : Int))), (67, (vi (k122 : Int)))] ∧ Holds E w ([bx 26 b31 p1, raw 26 b32 2, bc 26 b120 [v119, v606], own 38 v606 s605, own 48 v119 x118, rd v121 p1.Nets] ++ Γ)) s605 ?_ ?_
  ·refine RC.cond (b := ((k122 : Int) == (if x37 < x39 then x39 else x37))) rfl (fun hc => ?_) (fun hc => ?_)
   ·replace hj := cT hc hj
    refine RC.skip ?_
    obtain rfl := oi hj
    exact ⟨rfl, v508, ⟨rfl, rfl, rfl, rfl, rfl, rfl, rfl, rfl, trivial⟩, hw.pick 9 [3, 4, 5, 6, 7, 8] (new := [bx 26 b31 p1, raw 26 b32 2, bc 26 b120 [v119, v508], own 38 v508 s123, own 48 v119 x118, rd v121 p1.Nets]) rfl rfl (by decide) (by decide)⟩
   replace hj := cF hc hj
   refine RC.sr ?_
   refine mv (vi x37) rfl rfl ?_
   refine mv (vi x39) rfl rfl ?_
   refine RL.min (a := x37) (b := x39) trivial rfl rfl rfl ?_
   refine ic ((k122 : Int)) ((if x39 < x37 then x39 else x37)) rfl rfl rfl rfl ?_
   refine as_ (vb ((k122 : Int) == (if x39 < x37 then x39 else x37))) rfl rfl ?_
   refine RL.nt ?_
   obtain ⟨s652, hjj, hj⟩ := bd hj
   refine RC.jn (fun (s652 : (List Net)) (σ : Nat → Value) (w : World) => ∃ v653 : Value, agree σ [(5, (vp b31 0)), (8, (vp b32 0)), (11, (vi x37)), (12, (vi x39)), (13, (vp b120 0)), (65, v121), (66, (vi (p1.Nets.length : Int))), (67, (vi (k122 : Int)))] ∧ Holds E w ([bx 26 b31 p1, raw 26 b32 2, bc 26 b120 [v119, v653], own 38 v653 s652, own 48 v119 x118, rd v121 p1.Nets] ++ Γ)) s652 ?_ ?_
   ·refine RC.cond (b := ((k122 : Int) == (if x39 < x37 then x39 else x37))) rfl (fun hc => ?_) (fun hc => ?_)
    rotate_left
    ·replace hjj := cF hc hjj
     obtain ⟨x688, hx688, hjj⟩ := bd hjj
     obtain ⟨x692, hx692, hjj⟩ := bd hjj
     refine RC.drw mixed rfl (fun (D : Nat → Bool) (σ : Nat → Value) (w : World) => ∃ (v687 : Value) (v689 : Value) (v690 : Value) (v691 : Value) (v693 : Value), doneV D σ [(0, 73, (vp b120 1)), (1, 74, v508), (2, 75, (vp b512 0)), (3, 76, (str x509.Name)), (4, 77, (vp b512 1)), (5, 78, v687), (6, 79, v689), (7, 80, v690), (8, 81, v691), (9, 82, v693), (10, 83, (vp b120 1))] ∧ agree σ [(5, (vp b31 0)), (8, (vp b32 0)), (11, (vi x37)), (12, (vi x39)), (13, (vp b120 0)), (15, (vp b512 0)), (65, v121), (66, (vi (p1.Nets.length : Int))), (67, (vi (k122 : Int)))] ∧ Holds E w ([bif D 5 then (rd v687 x509.Pins) else junk, bif D 7 then (rd v689 x688) else (bif D 6 then (own 43 v689 x688) else junk), bif D 7 then (rd v690 (⟨x509.Name, x688, []⟩ : Net)) else junk, bif D 9 then (rd v691 ([(⟨x509.Name, x688, []⟩ : Net)] : (List Net))) else (bif D 8 then (own 38 v691 ([(⟨x509.Name, x688, []⟩ : Net)] : (List Net))) else junk), bx 38 b512 x509, rd v511 x509, pt v510 x509, bx 26 b31 p1, raw 26 b32 2, bif D 11 then (bc 26 b120 [v119, v693]) else (bc 26 b120 [v119, v508]), bif D 9 then (own 38 v693 x692) else (own 38 v508 s123), own 48 v119 x118, rd v121 p1.Nets] ++ Γ)) ?_ ⟨?_, ?_, ?_, ?_, ?_, ?_, ?_, ?_, ?_, ?_, ?_, ?_, trivial⟩ ?_
     ·have hw := hw.drew
      have hw := hw.junk
      have hw := hw.junk
      have hw := hw.junk
      have hw := hw.junk
      exact ⟨undef, undef, undef, undef, undef, doneV.none, ⟨rfl, rfl, rfl, rfl, rfl, rfl, rfl, rfl, rfl, trivial⟩, hw⟩
     ·rintro D σ w hD hdep hcl ⟨v687, v689, v690, v691, v693, hv, ha, hw⟩
      obtain ⟨τ, rfl⟩ := (ac (ha.at 4 rfl) az).ups
      refine RL.fa_b trivial rfl rfl fa26_1 ?_
      refine RL.nil ?_
      exact ⟨rfl, v687, v689, v690, v691, v693, hv.put 0 rfl rfl, ha.up rfl, hw⟩
     ·rintro D σ w hD hdep hcl ⟨v687, v689, v690, v691, v693, hv, ha, hw⟩
      obtain ⟨τ, rfl⟩ := (ac (hv.at 0 rfl (hdep.1 rfl)) az).ups
      have hw := hw.selF (i := 9) rfl (nf (fun h => ft hD ((hcl 11 _ rfl h).2.2.2.2.1 rfl)))
      refine RL.load_bc (i := 9) (v := v508) trivial rfl hw rfl rfl rfl ty24 ?_
      have hw := hw.altF (i := 9) (b := D 11) rfl (nf (fun h => ft hD ((hcl 11 _ rfl h).2.2.2.2.1 rfl))) (bc 26 b120 [v119, v693])
      refine RL.nil ?_
      exact ⟨rfl, v687, v689, v690, v691, v693, hv.put 1 rfl rfl, ha.up rfl, hw⟩
     ·rintro D σ w hD hdep hcl ⟨v687, v689, v690, v691, v693, hv, ha, hw⟩
      obtain ⟨τ, rfl⟩ := (ac (ha.at 5 rfl) az).ups
      refine RL.fa_b trivial rfl rfl fa38_0 ?_
      refine RL.nil ?_
      exact ⟨rfl, v687, v689, v690, v691, v693, hv.put 2 rfl rfl, ha.up rfl, hw⟩
     ·rintro D σ w hD hdep hcl ⟨v687, v689, v690, v691, v693, hv, ha, hw⟩
      obtain ⟨τ, rfl⟩ := (ac (hv.at 2 rfl (hdep.1 rfl)) az).ups
      refine RL.load_bfs (i := 4) (f := (fun x => x.Name)) trivial rfl hw rfl rfl fd_Net_0 ty9 ?_
      refine RL.nil ?_
      exact ⟨rfl, v687, v689, v690, v691, v693, hv.put 3 rfl rfl, ha.up rfl, hw⟩
     ·rintro D σ w hD hdep hcl ⟨v687, v689, v690, v691, v693, hv, ha, hw⟩
      obtain ⟨τ, rfl⟩ := (ac (ha.at 5 rfl) az).ups
      refine RL.fa_b trivial rfl rfl fa38_1 ?_
      refine RL.nil ?_
      exact ⟨rfl, v687, v689, v690, v691, v693, hv.put 4 rfl rfl, ha.up rfl, hw⟩
     ·rintro D σ w hD hdep hcl ⟨v687, v689, v690, v691, v693, hv, ha, hw⟩
      obtain ⟨τ, rfl⟩ := (ac (hv.at 4 rfl (hdep.1 rfl)) az).ups
      have hw := hw.selF (i := 0) rfl hD
      refine RL.load_bf (i := 4) (f := (fun x => x.Pins)) trivial rfl hw rfl rfl fd_Net_1 ty35 fun v694 hw => ?_
      have hw := hw.pick 14 [0, 2, 3, 4, 5, 6, 7, 8, 9, 10, 11, 12, 13] (new := [rd v694 x509.Pins, bif D 7 then (rd v689 x688) else (bif D 6 then (own 43 v689 x688) else junk), bif D 7 then (rd v690 (⟨x509.Name, x688, []⟩ : Net)) else junk, bif D 9 then (rd v691 ([(⟨x509.Name, x688, []⟩ : Net)] : (List Net))) else (bif D 8 then (own 38 v691 ([(⟨x509.Name, x688, []⟩ : Net)] : (List Net))) else junk), bx 38 b512 x509, rd v511 x509, pt v510 x509, bx 26 b31 p1, raw 26 b32 2, bif D 11 then (bc 26 b120 [v119, v693]) else (bc 26 b120 [v119, v508]), bif D 9 then (own 38 v693 x692) else (own 38 v508 s123), own 48 v119 x118, rd v121 p1.Nets]) rfl rfl (by decide) (by decide)
      have hw := hw.altT (i := 0) (b := true) rfl rfl (junk)
      refine RL.nil ?_
      exact ⟨rfl, v694, v689, v690, v691, v693, hv.put 5 rfl rfl, ha.up rfl, hw⟩
     ·rintro D σ w hD hdep hcl ⟨v687, v689, v690, v691, v693, hv, ha, hw⟩
      obtain ⟨τ, rfl⟩ := (ac (hv.at 5 rfl (hdep.1 rfl)) az).ups
      have hw := hw.selT (i := 0) rfl (hdep.1 rfl)
      have hw := hw.selF (i := 1) rfl (nf (fun h => ft hD ((hcl 7 _ rfl h).2.1 rfl)))
      have hw := hw.selF (i := 1) rfl hD
      refine RL.call trivial rfl fn19 [v687] rfl (Calls_ret (slices_Clone_Pin_ok N  (i0 := 0) hw rfl hx688) ?_)
      rintro v695 w hw
      have hw := hw.pick 14 [1, 0, 3, 4, 5, 6, 7, 8, 9, 10, 11, 12, 13] (new := [rd v687 x509.Pins, own 43 v695 x688, bif D 7 then (rd v690 (⟨x509.Name, x688, []⟩ : Net)) else junk, bif D 9 then (rd v691 ([(⟨x509.Name, x688, []⟩ : Net)] : (List Net))) else (bif D 8 then (own 38 v691 ([(⟨x509.Name, x688, []⟩ : Net)] : (List Net))) else junk), bx 38 b512 x509, rd v511 x509, pt v510 x509, bx 26 b31 p1, raw 26 b32 2, bif D 11 then (bc 26 b120 [v119, v693]) else (bc 26 b120 [v119, v508]), bif D 9 then (own 38 v693 x692) else (own 38 v508 s123), own 48 v119 x118, rd v121 p1.Nets]) rfl rfl (by decide) (by decide)
      have hw := hw.altT (i := 0) (b := D 5) rfl (hdep.1 rfl) (junk)
      have hw := hw.altT (i := 1) (b := true) rfl rfl (junk)
      have hw := hw.altF (i := 1) (b := D 7) rfl (nf (fun h => ft hD ((hcl 7 _ rfl h).2.1 rfl))) (rd v695 x688)
      refine RL.nil ?_
      exact ⟨rfl, v687, v695, v690, v691, v693, hv.put 6 rfl rfl, ha.up rfl, hw⟩
     ·rintro D σ w hD hdep hcl ⟨v687, v689, v690, v691, v693, hv, ha, hw⟩
      obtain ⟨τ, rfl⟩ := (ac (hv.at 3 rfl (hdep.1 rfl)) (ac (hv.at 6 rfl (hdep.2.1 rfl)) az)).ups
      have hw := hw.selF (i := 1) rfl hD
      have hw := hw.selT (i := 1) rfl (hdep.2.1 rfl)
      have hw := hw.selF (i := 2) rfl hD
      have hw := hw.sc (γ := Str) x509.Name
      have hw := hw.freeze (i := 2) rfl
      refine RL.build (y := (⟨x509.Name, x688, []⟩ : Net)) trivial rfl hw [(0, (str x509.Name)), (1, v689)] rfl st38 rfl (fun M hs g => by have h := z_Net M; exact Fills.cons (f := fun (x : Net) y => { x with Name := y }) rfl h fs_Net_0 (by decide) (g.sat 0 _ rfl).1 fun _ h => Fills.cons (f := fun (x : Net) y => { x with Pins := y }) rfl h fs_Net_1 (by decide) (g.sat 2 _ rfl).1 fun _ h => Fills.nil h) fun v696 hw => ?_
      have hw := hw.pick 15 [2, 3, 0, 5, 6, 7, 8, 9, 10, 11, 12, 13, 14] (new := [bif D 5 then (rd v687 x509.Pins) else junk, rd v689 x688, rd v696 (⟨x509.Name, x688, []⟩ : Net), bif D 9 then (rd v691 ([(⟨x509.Name, x688, []⟩ : Net)] : (List Net))) else (bif D 8 then (own 38 v691 ([(⟨x509.Name, x688, []⟩ : Net)] : (List Net))) else junk), bx 38 b512 x509, rd v511 x509, pt v510 x509, bx 26 b31 p1, raw 26 b32 2, bif D 11 then (bc 26 b120 [v119, v693]) else (bc 26 b120 [v119, v508]), bif D 9 then (own 38 v693 x692) else (own 38 v508 s123), own 48 v119 x118, rd v121 p1.Nets]) rfl rfl (by decide) (by decide)
      have hw := hw.altT (i := 1) (b := true) rfl rfl (bif D 6 then (own 43 v689 x688) else junk)
      have hw := hw.altT (i := 2) (b := true) rfl rfl (junk)
      refine RL.nil ?_
      exact ⟨rfl, v687, v689, v696, v691, v693, hv.put 7 rfl rfl, ha.up rfl, hw⟩
     ·rintro D σ w hD hdep hcl ⟨v687, v689, v690, v691, v693, hv, ha, hw⟩
      obtain ⟨τ, rfl⟩ := (ac (hv.at 7 rfl (hdep.1 rfl)) az).ups
      have hw := hw.selT (i := 2) rfl (hdep.1 rfl)
      have hw := hw.selF (i := 3) rfl (nf (fun h => ft hD ((hcl 9 _ rfl h).2.1 rfl)))
      have hw := hw.selF (i := 3) rfl hD
      refine RL.bslice (l := ([(⟨x509.Name, x688, []⟩ : Net)] : (List Net))) trivial rfl hw [v690] rfl rfl rfl sl24 ze38 (fun M hs g => ⟨(g.sat 2 _ rfl).1, trivial⟩) fun v697 w hw => ?_
      have hw := hw.pick 14 [1, 2, 3, 0, 5, 6, 7, 8, 9, 10, 11, 12, 13] (new := [bif D 5 then (rd v687 x509.Pins) else junk, bif D 7 then (rd v689 x688) else (bif D 6 then (own 43 v689 x688) else junk), rd v690 (⟨x509.Name, x688, []⟩ : Net), own 38 v697 ([(⟨x509.Name, x688, []⟩ : Net)] : (List Net)), bx 38 b512 x509, rd v511 x509, pt v510 x509, bx 26 b31 p1, raw 26 b32 2, bif D 11 then (bc 26 b120 [v119, v693]) else (bc 26 b120 [v119, v508]), bif D 9 then (own 38 v693 x692) else (own 38 v508 s123), own 48 v119 x118, rd v121 p1.Nets]) rfl rfl (by decide) (by decide)
      have hw := hw.altT (i := 2) (b := D 7) rfl (hdep.1 rfl) (junk)
      have hw := hw.altT (i := 3) (b := true) rfl rfl (junk)
      have hw := hw.altF (i := 3) (b := D 9) rfl (nf (fun h => ft hD ((hcl 9 _ rfl h).2.1 rfl))) (rd v697 ([(⟨x509.Name, x688, []⟩ : Net)] : (List Net)))
      refine RL.nil ?_
      exact ⟨rfl, v687, v689, v690, v697, v693, hv.put 8 rfl rfl, ha.up rfl, hw⟩
     ·rintro D σ w hD hdep hcl ⟨v687, v689, v690, v691, v693, hv, ha, hw⟩
      obtain ⟨τ, rfl⟩ := (ac (hv.at 1 rfl (hdep.1 rfl)) (ac (hv.at 8 rfl (hdep.2.1 rfl)) az)).ups
      have hw := hw.selF (i := 3) rfl hD
      have hw := hw.selT (i := 3) rfl (hdep.2.1 rfl)
      have hw := hw.selF (i := 9) rfl (nf (fun h => ft hD ((hcl 11 _ rfl h).2.1 rfl)))
      have hw := hw.selF (i := 10) rfl hD
      have hw := hw.freeze (i := 3) rfl
      refine RL.app (i := 10) (j := 3) trivial rfl hw rfl rfl rfl rfl el24 hx692 fun v698 w hw => ?_
      have hw := hw.altT (i := 3) (b := true) rfl rfl (bif D 8 then (own 38 v691 ([(⟨x509.Name, x688, []⟩ : Net)] : (List Net))) else junk)
      have hw := hw.altF (i := 9) (b := D 11) rfl (nf (fun h => ft hD ((hcl 11 _ rfl h).2.1 rfl))) (bc 26 b120 [v119, v698])
      have hw := hw.altT (i := 10) (b := true) rfl rfl (own 38 v508 s123)
      refine RL.nil ?_
      exact ⟨rfl, v687, v689, v690, v691, v698, hv.put 9 rfl rfl, ha.up rfl, hw⟩
     ·rintro D σ w hD hdep hcl ⟨v687, v689, v690, v691, v693, hv, ha, hw⟩
      obtain ⟨τ, rfl⟩ := (ac (ha.at 4 rfl) az).ups
      refine RL.fa_b trivial rfl rfl fa26_1 ?_
      refine RL.nil ?_
      exact ⟨rfl, v687, v689, v690, v691, v693, hv.put 10 rfl rfl, ha.up rfl, hw⟩
     ·rintro D σ w hD hdep hcl ⟨v687, v689, v690, v691, v693, hv, ha, hw⟩
      obtain ⟨τ, rfl⟩ := (ac (hv.at 9 rfl (hdep.2.1 rfl)) (ac (hv.at 10 rfl (hdep.1 rfl)) az)).ups
      have hw := hw.selF (i := 9) rfl hD
      have hw := hw.selT (i := 10) rfl (hdep.2.1 rfl)
      refine RL.store_bc (i := 9) (v := v693) trivial hw rfl rfl rfl rfl (one_own hw (i := 10) rfl) ty24 fun w hw => ?_
      have hw := hw.altT (i := 9) (b := true) rfl rfl (bc 26 b120 [v119, v508])
      have hw := hw.altT (i := 10) (b := D 9) rfl (hdep.2.1 rfl) (own 38 v508 s123)
      refine RL.nil ?_
      exact ⟨rfl, v687, v689, v690, v691, v693, hv.no rfl, ha, hw⟩
     rintro D σ w hall ⟨v687, v689, v690, v691, v693, hv, ha, hw⟩
     rw [hall 5 (by decide), hall 6 (by decide), hall 7 (by decide), hall 8 (by decide), hall 9 (by decide), hall 11 (by decide)] at hw
     obtain ⟨τ, rfl⟩ := (ac (ha.at 0 rfl) (ac (ha.at 1 rfl) (ac (ha.at 2 rfl) (ac (ha.at 3 rfl) (ac (ha.at 4 rfl) (ac (ha.at 5 rfl) (ac (ha.at 6 rfl) (ac (ha.at 7 rfl) (ac (ha.at 8 rfl) az))))))))).ups
     obtain rfl := oi hjj
     exact ⟨rfl, v693, ⟨rfl, rfl, rfl, rfl, rfl, rfl, rfl, rfl, trivial⟩, hw.pick 13 [7, 8, 9, 10, 11, 12] (new := [bx 26 b31 p1, raw 26 b32 2, bc 26 b120 [v119, v693], own 38 v693 x692, own 48 v119 x118, rd v121 p1.Nets]) rfl rfl (by decide) (by decide)⟩
    replace hjj := cT hc hjj
    obtain ⟨x655, hx655, hjj⟩ := bd hjj
    obtain ⟨x660, hx660, hjj⟩ := bd hjj
    obtain ⟨x665, hx665, hjj⟩ := bd hjj
    obtain ⟨x667, hx667, hjj⟩ := bd hjj
    obtain ⟨x671, hx671, hjj⟩ := bd hjj
    refine RC.drw mixed rfl (fun (D : Nat → Bool) (σ : Nat → Value) (w : World) => ∃ (v654 : Value) (v656 : Value) (v657 : Value) (v658 : Value) (v659 : Value) (v661 : Value) (v662 : Value) (v663 : Value) (v664 : Value) (v666 : Value) (v668 : Value) (v669 : Value) (v670 : Value) (v672 : Value), doneV D σ [(0, 94, (vp b120 1)), (1, 95, v508), (2, 96, (vp b512 0)), (3, 97, (str x509.Name)), (4, 98, (vp b31 1)), (5, 99, v654), (6, 100, (vi x37)), (7, 101, v656), (8, 102, v657), (9, 103, v658), (10, 104, (vp b31 1)), (11, 105, v659), (12, 106, (vi x39)), (13, 107, v661), (14, 108, v662), (15, 109, v663), (16, 110, v664), (17, 111, v666), (18, 112, v668), (19, 113, v669), (20, 114, v670), (21, 115, v672), (22, 116, (vp b120 1))] ∧ agree σ [(5, (vp b31 0)), (8, (vp b32 0)), (11, (vi x37)), (12, (vi x39)), (13, (vp b120 0)), (15, (vp b512 0)), (65, v121), (66, (vi (p1.Nets.length : Int))), (67, (vi (k122 : Int)))] ∧ Holds E w ([bif D 5 then (rd v654 p1.Nets) else junk, bif D 7 then (pt v656 x655) else junk, bif D 8 then (pt v657 x655.Pins) else junk, bif D 9 then (rd v658 x655.Pins) else junk, bif D 11 then (rd v659 p1.Nets) else junk, bif D 13 then (pt v661 x660) else junk, bif D 14 then (pt v662 x660.Pins) else junk, bif D 15 then (rd v663 x660.Pins) else junk, bif D 17 then (rd v664 ([x655.Pins, x660.Pins] : (List (List Pin)))) else (bif D 16 then (own 35 v664 ([x655.Pins, x660.Pins] : (List (List Pin)))) else junk), bif D 18 then (rd v666 x665) else (bif D 17 then (own 43 v666 x665) else junk), bif D 19 then (rd v668 x667) else (bif D 18 then (own 43 v668 x667) else junk), bif D 19 then (rd v669 (⟨x509.Name, x667, []⟩ : Net)) else junk, bif D 21 then (rd v670 ([(⟨x509.Name, x667, []⟩ : Net)] : (List Net))) else (bif D 20 then (own 38 v670 ([(⟨x509.Name, x667, []⟩ : Net)] : (List Net))) else junk), bx 38 b512 x509, rd v511 x509, pt v510 x509, bx 26 b31 p1, raw 26 b32 2, bif D 23 then (bc 26 b120 [v119, v672]) else (bc 26 b120 [v119, v508]), bif D 21 then (own 38 v672 x671) else (own 38 v508 s123), own 48 v119 x118, rd v121 p1.Nets] ++ Γ)) ?_ ⟨?_, ?_, ?_, ?_, ?_, ?_, ?_, ?_, ?_, ?_, ?_, ?_, ?_, ?_, ?_, ?_, ?_, ?_, ?_, ?_, ?_, ?_, ?_, ?_, trivial⟩ ?_
    ·have hw := hw.drew
     have hw := hw.junk
     have hw := hw.junk
     have hw := hw.junk
     have hw := hw.junk
     have hw := hw.junk
     have hw := hw.junk
     have hw := hw.junk
     have hw := hw.junk
     have hw := hw.junk
     have hw := hw.junk
     have hw := hw.junk
     have hw := hw.junk
     have hw := hw.junk
     exact ⟨undef, undef, undef, undef, undef, undef, undef, undef, undef, undef, undef, undef, undef, undef, doneV.none, ⟨rfl, rfl, rfl, rfl, rfl, rfl, rfl, rfl, rfl, trivial⟩, hw⟩
    ·rintro D σ w hD hdep hcl ⟨v654, v656, v657, v658, v659, v661, v662, v663, v664, v666, v668, v669, v670, v672, hv, ha, hw⟩
     obtain ⟨τ, rfl⟩ := (ac (ha.at 4 rfl) az).ups
     refine RL.fa_b trivial rfl rfl fa26_1 ?_
     refine RL.nil ?_
     exact ⟨rfl, v654, v656, v657, v658, v659, v661, v662, v663, v664, v666, v668, v669, v670, v672, hv.put 0 rfl rfl, ha.up rfl, hw⟩
    ·rintro D σ w hD hdep hcl ⟨v654, v656, v657, v658, v659, v661, v662, v663, v664, v666, v668, v669, v670, v672, hv, ha, hw⟩
     obtain ⟨τ, rfl⟩ := (ac (hv.at 0 rfl (hdep.1 rfl)) az).ups
     have hw := hw.selF (i := 18) rfl (nf (fun h => ft hD ((hcl 23 _ rfl h).2.2.2.2.1 rfl)))
     refine RL.load_bc (i := 18) (v := v508) trivial rfl hw rfl rfl rfl ty24 ?_
     have hw := hw.altF (i := 18) (b := D 23) rfl (nf (fun h => ft hD ((hcl 23 _ rfl h).2.2.2.2.1 rfl))) (bc 26 b120 [v119, v672])
     refine RL.nil ?_
     exact ⟨rfl, v654, v656, v657, v658, v659, v661, v662, v663, v664, v666, v668, v669, v670, v672, hv.put 1 rfl rfl, ha.up rfl, hw⟩
    ·rintro D σ w hD hdep hcl ⟨v654, v656, v657, v658, v659, v661, v662, v663, v664, v666, v668, v669, v670, v672, hv, ha, hw⟩
     obtain ⟨τ, rfl⟩ := (ac (ha.at 5 rfl) az).ups
     refine RL.fa_b trivial rfl rfl fa38_0 ?_
     refine RL.nil ?_
     exact ⟨rfl, v654, v656, v657, v658, v659, v661, v662, v663, v664, v666, v668, v669, v670, v672, hv.put 2 rfl rfl, ha.up rfl, hw⟩
    ·rintro D σ w hD hdep hcl ⟨v654, v656, v657, v658, v659, v661, v662, v663, v664, v666, v668, v669, v670, v672, hv, ha, hw⟩
     obtain ⟨τ, rfl⟩ := (ac (hv.at 2 rfl (hdep.1 rfl)) az).ups
     refine RL.load_bfs (i := 13) (f := (fun x => x.Name)) trivial rfl hw rfl rfl fd_Net_0 ty9 ?_
     refine RL.nil ?_
     exact ⟨rfl, v654, v656, v657, v658, v659, v661, v662, v663, v664, v666, v668, v669, v670, v672, hv.put 3 rfl rfl, ha.up rfl, hw⟩
    ·rintro D σ w hD hdep hcl ⟨v654, v656, v657, v658, v659, v661, v662, v663, v664, v666, v668, v669, v670, v672, hv, ha, hw⟩
     obtain ⟨τ, rfl⟩ := (ac (ha.at 0 rfl) az).ups
     refine RL.fa_b trivial rfl rfl fa26_1 ?_
     refine RL.nil ?_
     exact ⟨rfl, v654, v656, v657, v658, v659, v661, v662, v663, v664, v666, v668, v669, v670, v672, hv.put 4 rfl rfl, ha.up rfl, hw⟩
    ·rintro D σ w hD hdep hcl ⟨v654, v656, v657, v658, v659, v661, v662, v663, v664, v666, v668, v669, v670, v672, hv, ha, hw⟩
     obtain ⟨τ, rfl⟩ := (ac (hv.at 4 rfl (hdep.1 rfl)) az).ups
     have hw := hw.selF (i := 0) rfl hD
     refine RL.load_bf (i := 16) (f := (fun x => x.Nets)) trivial rfl hw rfl rfl fd_Netlist_1 ty24 fun v673 hw => ?_
     have hw := hw.pick 23 [0, 2, 3, 4, 5, 6, 7, 8, 9, 10, 11, 12, 13, 14, 15, 16, 17, 18, 19, 20, 21, 22] (new := [rd v673 p1.Nets, bif D 7 then (pt v656 x655) else junk, bif D 8 then (pt v657 x655.Pins) else junk, bif D 9 then (rd v658 x655.Pins) else junk, bif D 11 then (rd v659 p1.Nets) else junk, bif D 13 then (pt v661 x660) else junk, bif D 14 then (pt v662 x660.Pins) else junk, bif D 15 then (rd v663 x660.Pins) else junk, bif D 17 then (rd v664 ([x655.Pins, x660.Pins] : (List (List Pin)))) else (bif D 16 then (own 35 v664 ([x655.Pins, x660.Pins] : (List (List Pin)))) else junk), bif D 18 then (rd v666 x665) else (bif D 17 then (own 43 v666 x665) else junk), bif D 19 then (rd v668 x667) else (bif D 18 then (own 43 v668 x667) else junk), bif D 19 then (rd v669 (⟨x509.Name, x667, []⟩ : Net)) else junk, bif D 21 then (rd v670 ([(⟨x509.Name, x667, []⟩ : Net)] : (List Net))) else (bif D 20 then (own 38 v670 ([(⟨x509.Name, x667, []⟩ : Net)] : (List Net))) else junk), bx 38 b512 x509, rd v511 x509, pt v510 x509, bx 26 b31 p1, raw 26 b32 2, bif D 23 then (bc 26 b120 [v119, v672]) else (bc 26 b120 [v119, v508]), bif D 21 then (own 38 v672 x671) else (own 38 v508 s123), own 48 v119 x118, rd v121 p1.Nets]) rfl rfl (by decide) (by decide)
     have hw := hw.altT (i := 0) (b := true) rfl rfl (junk)
     refine RL.nil ?_
     exact ⟨rfl, v673, v656, v657, v658, v659, v661, v662, v663, v664, v666, v668, v669, v670, v672, hv.put 5 rfl rfl, ha.up rfl, hw⟩
    ·rintro D σ w hD hdep hcl ⟨v654, v656, v657, v658, v659, v661, v662, v663, v664, v666, v668, v669, v670, v672, hv, ha, hw⟩
     obtain ⟨τ, rfl⟩ := (ac (ha.at 2 rfl) az).ups
     refine mv (vi x37) rfl rfl ?_
     refine RL.nil ?_
     exact ⟨rfl, v654, v656, v657, v658, v659, v661, v662, v663, v664, v666, v668, v669, v670, v672, hv.put 6 rfl rfl, ha.up rfl, hw⟩
    ·rintro D σ w hD hdep hcl ⟨v654, v656, v657, v658, v659, v661, v662, v663, v664, v666, v668, v669, v670, v672, hv, ha, hw⟩
     obtain ⟨τ, rfl⟩ := (ac (hv.at 5 rfl (hdep.1 rfl)) (ac (hv.at 6 rfl (hdep.2.1 rfl)) az)).ups
     have hw := hw.selT (i := 0) rfl (hdep.1 rfl)
     have hw := hw.selF (i := 1) rfl hD
     refine RL.ia_rd (i := 0) trivial rfl hw rfl rfl rfl sl24 hx655 fun v674 hw => ?_
     have hw := hw.pick 23 [1, 0, 3, 4, 5, 6, 7, 8, 9, 10, 11, 12, 13, 14, 15, 16, 17, 18, 19, 20, 21, 22] (new := [rd v654 p1.Nets, pt v674 x655, bif D 8 then (pt v657 x655.Pins) else junk, bif D 9 then (rd v658 x655.Pins) else junk, bif D 11 then (rd v659 p1.Nets) else junk, bif D 13 then (pt v661 x660) else junk, bif D 14 then (pt v662 x660.Pins) else junk, bif D 15 then (rd v663 x660.Pins) else junk, bif D 17 then (rd v664 ([x655.Pins, x660.Pins] : (List (List Pin)))) else (bif D 16 then (own 35 v664 ([x655.Pins, x660.Pins] : (List (List Pin)))) else junk), bif D 18 then (rd v666 x665) else (bif D 17 then (own 43 v666 x665) else junk), bif D 19 then (rd v668 x667) else (bif D 18 then (own 43 v668 x667) else junk), bif D 19 then (rd v669 (⟨x509.Name, x667, []⟩ : Net)) else junk, bif D 21 then (rd v670 ([(⟨x509.Name, x667, []⟩ : Net)] : (List Net))) else (bif D 20 then (own 38 v670 ([(⟨x509.Name, x667, []⟩ : Net)] : (List Net))) else junk), bx 38 b512 x509, rd v511 x509, pt v510 x509, bx 26 b31 p1, raw 26 b32 2, bif D 23 then (bc 26 b120 [v119, v672]) else (bc 26 b120 [v119, v508]), bif D 21 then (own 38 v672 x671) else (own 38 v508 s123), own 48 v119 x118, rd v121 p1.Nets]) rfl rfl (by decide) (by decide)
     have hw := hw.altT (i := 0) (b := D 5) rfl (hdep.1 rfl) (junk)
     have hw := hw.altT (i := 1) (b := true) rfl rfl (junk)
     refine RL.nil ?_
     exact ⟨rfl, v654, v674, v657, v658, v659, v661, v662, v663, v664, v666, v668, v669, v670, v672, hv.put 7 rfl rfl, ha.up rfl, hw⟩
    ·rintro D σ w hD hdep hcl ⟨v654, v656, v657, v658, v659, v661, v662, v663, v664, v666, v668, v669, v670, v672, hv, ha, hw⟩
     obtain ⟨τ, rfl⟩ := (ac (hv.at 7 rfl (hdep.1 rfl)) az).ups
     have hw := hw.selT (i := 1) rfl (hdep.1 rfl)
     have hw := hw.selF (i := 2) rfl hD
     refine RL.fa_pt (i := 1) (f := fun (x : Net) => x.Pins) trivial rfl hw rfl rfl fa38_1 fd_Net_1 fun v675 hw => ?_
     have hw := hw.pick 23 [1, 2, 0, 4, 5, 6, 7, 8, 9, 10, 11, 12, 13, 14, 15, 16, 17, 18, 19, 20, 21, 22] (new := [bif D 5 then (rd v654 p1.Nets) else junk, pt v656 x655, pt v675 x655.Pins, bif D 9 then (rd v658 x655.Pins) else junk, bif D 11 then (rd v659 p1.Nets) else junk, bif D 13 then (pt v661 x660) else junk, bif D 14 then (pt v662 x660.Pins) else junk, bif D 15 then (rd v663 x660.Pins) else junk, bif D 17 then (rd v664 ([x655.Pins, x660.Pins] : (List (List Pin)))) else (bif D 16 then (own 35 v664 ([x655.Pins, x660.Pins] : (List (List Pin)))) else junk), bif D 18 then (rd v666 x665) else (bif D 17 then (own 43 v666 x665) else junk), bif D 19 then (rd v668 x667) else (bif D 18 then (own 43 v668 x667) else junk), bif D 19 then (rd v669 (⟨x509.Name, x667, []⟩ : Net)) else junk, bif D 21 then (rd v670 ([(⟨x509.Name, x667, []⟩ : Net)] : (List Net))) else (bif D 20 then (own 38 v670 ([(⟨x509.Name, x667, []⟩ : Net)] : (List Net))) else junk), bx 38 b512 x509, rd v511 x509, pt v510 x509, bx 26 b31 p1, raw 26 b32 2, bif D 23 then (bc 26 b120 [v119, v672]) else (bc 26 b120 [v119, v508]), bif D 21 then (own 38 v672 x671) else (own 38 v508 s123), own 48 v119 x118, rd v121 p1.Nets]) rfl rfl (by decide) (by decide)
     have hw := hw.altT (i := 1) (b := D 7) rfl (hdep.1 rfl) (junk)
     have hw := hw.altT (i := 2) (b := true) rfl rfl (junk)
     refine RL.nil ?_
     exact ⟨rfl, v654, v656, v675, v658, v659, v661, v662, v663, v664, v666, v668, v669, v670, v672, hv.put 8 rfl rfl, ha.up rfl, hw⟩
    ·rintro D σ w hD hdep hcl ⟨v654, v656, v657, v658, v659, v661, v662, v663, v664, v666, v668, v669, v670, v672, hv, ha, hw⟩
     obtain ⟨τ, rfl⟩ := (ac (hv.at 8 rfl (hdep.1 rfl)) az).ups
     have hw := hw.selT (i := 2) rfl (hdep.1 rfl)
     have hw := hw.selF (i := 3) rfl hD
     refine RL.load_pt (i := 2) (x := x655.Pins) trivial rfl hw rfl rfl ty35 fun v676 hw => ?_
     have hw := hw.pick 23 [1, 2, 3, 0, 5, 6, 7, 8, 9, 10, 11, 12, 13, 14, 15, 16, 17, 18, 19, 20, 21, 22] (new := [bif D 5 then (rd v654 p1.Nets) else junk, bif D 7 then (pt v656 x655) else junk, pt v657 x655.Pins, rd v676 x655.Pins, bif D 11 then (rd v659 p1.Nets) else junk, bif D 13 then (pt v661 x660) else junk, bif D 14 then (pt v662 x660.Pins) else junk, bif D 15 then (rd v663 x660.Pins) else junk, bif D 17 then (rd v664 ([x655.Pins, x660.Pins] : (List (List Pin)))) else (bif D 16 then (own 35 v664 ([x655.Pins, x660.Pins] : (List (List Pin)))) else junk), bif D 18 then (rd v666 x665) else (bif D 17 then (own 43 v666 x665) else junk), bif D 19 then (rd v668 x667) else (bif D 18 then (own 43 v668 x667) else junk), bif D 19 then (rd v669 (⟨x509.Name, x667, []⟩ : Net)) else junk, bif D 21 then (rd v670 ([(⟨x509.Name, x667, []⟩ : Net)] : (List Net))) else (bif D 20 then (own 38 v670 ([(⟨x509.Name, x667, []⟩ : Net)] : (List Net))) else junk), bx 38 b512 x509, rd v511 x509, pt v510 x509, bx 26 b31 p1, raw 26 b32 2, bif D 23 then (bc 26 b120 [v119, v672]) else (bc 26 b120 [v119, v508]), bif D 21 then (own 38 v672 x671) else (own 38 v508 s123), own 48 v119 x118, rd v121 p1.Nets]) rfl rfl (by decide) (by decide)
     have hw := hw.altT (i := 2) (b := D 8) rfl (hdep.1 rfl) (junk)
     have hw := hw.altT (i := 3) (b := true) rfl rfl (junk)
     refine RL.nil ?_
     exact ⟨rfl, v654, v656, v657, v676, v659, v661, v662, v663, v664, v666, v668, v669, v670, v672, hv.put 9 rfl rfl, ha.up rfl, hw⟩
    ·rintro D σ w hD hdep hcl ⟨v654, v656, v657, v658, v659, v661, v662, v663, v664, v666, v668, v669, v670, v672, hv, ha, hw⟩
     obtain ⟨τ, rfl⟩ := (ac (ha.at 0 rfl) az).ups
     refine RL.fa_b trivial rfl rfl fa26_1 ?_
     refine RL.nil ?_
     exact ⟨rfl, v654, v656, v657, v658, v659, v661, v662, v663, v664, v666, v668, v669, v670, v672, hv.put 10 rfl rfl, ha.up rfl, hw⟩
    ·rintro D σ w hD hdep hcl ⟨v654, v656, v657, v658, v659, v661, v662, v663, v664, v666, v668, v669, v670, v672, hv, ha, hw⟩
     obtain ⟨τ, rfl⟩ := (ac (hv.at 10 rfl (hdep.1 rfl)) az).ups
     have hw := hw.selF (i := 4) rfl hD
     refine RL.load_bf (i := 16) (f := (fun x => x.Nets)) trivial rfl hw rfl rfl fd_Netlist_1 ty24 fun v677 hw => ?_
     have hw := hw.pick 23 [1, 2, 3, 4, 0, 6, 7, 8, 9, 10, 11, 12, 13, 14, 15, 16, 17, 18, 19, 20, 21, 22] (new := [bif D 5 then (rd v654 p1.Nets) else junk, bif D 7 then (pt v656 x655) else junk, bif D 8 then (pt v657 x655.Pins) else junk, bif D 9 then (rd v658 x655.Pins) else junk, rd v677 p1.Nets, bif D 13 then (pt v661 x660) else junk, bif D 14 then (pt v662 x660.Pins) else junk, bif D 15 then (rd v663 x660.Pins) else junk, bif D 17 then (rd v664 ([x655.Pins, x660.Pins] : (List (List Pin)))) else (bif D 16 then (own 35 v664 ([x655.Pins, x660.Pins] : (List (List Pin)))) else junk), bif D 18 then (rd v666 x665) else (bif D 17 then (own 43 v666 x665) else junk), bif D 19 then (rd v668 x667) else (bif D 18 then (own 43 v668 x667) else junk), bif D 19 then (rd v669 (⟨x509.Name, x667, []⟩ : Net)) else junk, bif D 21 then (rd v670 ([(⟨x509.Name, x667, []⟩ : Net)] : (List Net))) else (bif D 20 then (own 38 v670 ([(⟨x509.Name, x667, []⟩ : Net)] : (List Net))) else junk), bx 38 b512 x509, rd v511 x509, pt v510 x509, bx 26 b31 p1, raw 26 b32 2, bif D 23 then (bc 26 b120 [v119, v672]) else (bc 26 b120 [v119, v508]), bif D 21 then (own 38 v672 x671) else (own 38 v508 s123), own 48 v119 x118, rd v121 p1.Nets]) rfl rfl (by decide) (by decide)
     have hw := hw.altT (i := 4) (b := true) rfl rfl (junk)
     refine RL.nil ?_
     exact ⟨rfl, v654, v656, v657, v658, v677, v661, v662, v663, v664, v666, v668, v669, v670, v672, hv.put 11 rfl rfl, ha.up rfl, hw⟩
    ·rintro D σ w hD hdep hcl ⟨v654, v656, v657, v658, v659, v661, v662, v663, v664, v666, v668, v669, v670, v672, hv, ha, hw⟩
     obtain ⟨τ, rfl⟩ := (ac (ha.at 3 rfl) az).ups
     refine mv (vi x39) rfl rfl ?_
     refine RL.nil ?_
     exact ⟨rfl, v654, v656, v657, v658, v659, v661, v662, v663, v664, v666, v668, v669, v670, v672, hv.put 12 rfl rfl, ha.up rfl, hw⟩
    ·rintro D σ w hD hdep hcl ⟨v654, v656, v657, v658, v659, v661, v662, v663, v664, v666, v668, v669, v670, v672, hv, ha, hw⟩
     obtain ⟨τ, rfl⟩ := (ac (hv.at 11 rfl (hdep.1 rfl)) (ac (hv.at 12 rfl (hdep.2.1 rfl)) az)).ups
     have hw := hw.selT (i := 4) rfl (hdep.1 rfl)
     have hw := hw.selF (i := 5) rfl hD
     refine RL.ia_rd (i := 4) trivial rfl hw rfl rfl rfl sl24 hx660 fun v678 hw => ?_
     have hw := hw.pick 23 [1, 2, 3, 4, 5, 0, 7, 8, 9, 10, 11, 12, 13, 14, 15, 16, 17, 18, 19, 20, 21, 22] (new := [bif D 5 then (rd v654 p1.Nets) else junk, bif D 7 then (pt v656 x655) else junk, bif D 8 then (pt v657 x655.Pins) else junk, bif D 9 then (rd v658 x655.Pins) else junk, rd v659 p1.Nets, pt v678 x660, bif D 14 then (pt v662 x660.Pins) else junk, bif D 15 then (rd v663 x660.Pins) else junk, bif D 17 then (rd v664 ([x655.Pins, x660.Pins] : (List (List Pin)))) else (bif D 16 then (own 35 v664 ([x655.Pins, x660.Pins] : (List (List Pin)))) else junk), bif D 18 then (rd v666 x665) else (bif D 17 then (own 43 v666 x665) else junk), bif D 19 then (rd v668 x667) else (bif D 18 then (own 43 v668 x667) else junk), bif D 19 then (rd v669 (⟨x509.Name, x667, []⟩ : Net)) else junk, bif D 21 then (rd v670 ([(⟨x509.Name, x667, []⟩ : Net)] : (List Net))) else (bif D 20 then (own 38 v670 ([(⟨x509.Name, x667, []⟩ : Net)] : (List Net))) else junk), bx 38 b512 x509, rd v511 x509, pt v510 x509, bx 26 b31 p1, raw 26 b32 2, bif D 23 then (bc 26 b120 [v119, v672]) else (bc 26 b120 [v119, v508]), bif D 21 then (own 38 v672 x671) else (own 38 v508 s123), own 48 v119 x118, rd v121 p1.Nets]) rfl rfl (by decide) (by decide)
     have hw := hw.altT (i := 4) (b := D 11) rfl (hdep.1 rfl) (junk)
     have hw := hw.altT (i := 5) (b := true) rfl rfl (junk)
     refine RL.nil ?_
     exact ⟨rfl, v654, v656, v657, v658, v659, v678, v662, v663, v664, v666, v668, v669, v670, v672, hv.put 13 rfl rfl, ha.up rfl, hw⟩
    ·rintro D σ w hD hdep hcl ⟨v654, v656, v657, v658, v659, v661, v662, v663, v664, v666, v668, v669, v670, v672, hv, ha, hw⟩
     obtain ⟨τ, rfl⟩ := (ac (hv.at 13 rfl (hdep.1 rfl)) az).ups
     have hw := hw.selT (i := 5) rfl (hdep.1 rfl)
     have hw := hw.selF (i := 6) rfl hD
     refine RL.fa_pt (i := 5) (f := fun (x : Net) => x.Pins) trivial rfl hw rfl rfl fa38_1 fd_Net_1 fun v679 hw => ?_
     have hw := hw.pick 23 [1, 2, 3, 4, 5, 6, 0, 8, 9, 10, 11, 12, 13, 14, 15, 16, 17, 18, 19, 20, 21, 22] (new := [bif D 5 then (rd v654 p1.Nets) else junk, bif D 7 then (pt v656 x655) else junk, bif D 8 then (pt v657 x655.Pins) else junk, bif D 9 then (rd v658 x655.Pins) else junk, bif D 11 then (rd v659 p1.Nets) else junk, pt v661 x660, pt v679 x660.Pins, bif D 15 then (rd v663 x660.Pins) else junk, bif D 17 then (rd v664 ([x655.Pins, x660.Pins] : (List (List Pin)))) else (bif D 16 then (own 35 v664 ([x655.Pins, x660.Pins] : (List (List Pin)))) else junk), bif D 18 then (rd v666 x665) else (bif D 17 then (own 43 v666 x665) else junk), bif D 19 then (rd v668 x667) else (bif D 18 then (own 43 v668 x667) else junk), bif D 19 then (rd v669 (⟨x509.Name, x667, []⟩ : Net)) else junk, bif D 21 then (rd v670 ([(⟨x509.Name, x667, []⟩ : Net)] : (List Net))) else (bif D 20 then (own 38 v670 ([(⟨x509.Name, x667, []⟩ : Net)] : (List Net))) else junk), bx 38 b512 x509, rd v511 x509, pt v510 x509, bx 26 b31 p1, raw 26 b32 2, bif D 23 then (bc 26 b120 [v119, v672]) else (bc 26 b120 [v119, v508]), bif D 21 then (own 38 v672 x671) else (own 38 v508 s123), own 48 v119 x118, rd v121 p1.Nets]) rfl rfl (by decide) (by decide)
     have hw := hw.altT (i := 5) (b := D 13) rfl (hdep.1 rfl) (junk)
     have hw := hw.altT (i := 6) (b := true) rfl rfl (junk)
     refine RL.nil ?_
     exact ⟨rfl, v654, v656, v657, v658, v659, v661, v679, v663, v664, v666, v668, v669, v670, v672, hv.put 14 rfl rfl, ha.up rfl, hw⟩
    ·rintro D σ w hD hdep hcl ⟨v654, v656, v657, v658, v659, v661, v662, v663, v664, v666, v668, v669, v670, v672, hv, ha, hw⟩
     obtain ⟨τ, rfl⟩ := (ac (hv.at 14 rfl (hdep.1 rfl)) az).ups
     have hw := hw.selT (i := 6) rfl (hdep.1 rfl)
     have hw := hw.selF (i := 7) rfl hD
     refine RL.load_pt (i := 6) (x := x660.Pins) trivial rfl hw rfl rfl ty35 fun v680 hw => ?_
     have hw := hw.pick 23 [1, 2, 3, 4, 5, 6, 7, 0, 9, 10, 11, 12, 13, 14, 15, 16, 17, 18, 19, 20, 21, 22] (new := [bif D 5 then (rd v654 p1.Nets) else junk, bif D 7 then (pt v656 x655) else junk, bif D 8 then (pt v657 x655.Pins) else junk, bif D 9 then (rd v658 x655.Pins) else junk, bif D 11 then (rd v659 p1.Nets) else junk, bif D 13 then (pt v661 x660) else junk, pt v662 x660.Pins, rd v680 x660.Pins, bif D 17 then (rd v664 ([x655.Pins, x660.Pins] : (List (List Pin)))) else (bif D 16 then (own 35 v664 ([x655.Pins, x660.Pins] : (List (List Pin)))) else junk), bif D 18 then (rd v666 x665) else (bif D 17 then (own 43 v666 x665) else junk), bif D 19 then (rd v668 x667) else (bif D 18 then (own 43 v668 x667) else junk), bif D 19 then (rd v669 (⟨x509.Name, x667, []⟩ : Net)) else junk, bif D 21 then (rd v670 ([(⟨x509.Name, x667, []⟩ : Net)] : (List Net))) else (bif D 20 then (own 38 v670 ([(⟨x509.Name, x667, []⟩ : Net)] : (List Net))) else junk), bx 38 b512 x509, rd v511 x509, pt v510 x509, bx 26 b31 p1, raw 26 b32 2, bif D 23 then (bc 26 b120 [v119, v672]) else (bc 26 b120 [v119, v508]), bif D 21 then (own 38 v672 x671) else (own 38 v508 s123), own 48 v119 x118, rd v121 p1.Nets]) rfl rfl (by decide) (by decide)
     have hw := hw.altT (i := 6) (b := D 14) rfl (hdep.1 rfl) (junk)
     have hw := hw.altT (i := 7) (b := true) rfl rfl (junk)
     refine RL.nil ?_
     exact ⟨rfl, v654, v656, v657, v658, v659, v661, v662, v680, v664, v666, v668, v669, v670, v672, hv.put 15 rfl rfl, ha.up rfl, hw⟩
    ·rintro D σ w hD hdep hcl ⟨v654, v656, v657, v658, v659, v661, v662, v663, v664, v666, v668, v669, v670, v672, hv, ha, hw⟩
     obtain ⟨τ, rfl⟩ := (ac (hv.at 9 rfl (hdep.1 rfl)) (ac (hv.at 15 rfl (hdep.2.1 rfl)) az)).ups
     have hw := hw.selT (i := 3) rfl (hdep.1 rfl)
     have hw := hw.selT (i := 7) rfl (hdep.2.1 rfl)
     have hw := hw.selF (i := 8) rfl (nf (fun h => ft hD ((hcl 17 _ rfl h).1 rfl)))
     have hw := hw.selF (i := 8) rfl hD
     refine RL.bslice (l := ([x655.Pins, x660.Pins] : (List (List Pin)))) trivial rfl hw [v658, v663] rfl rfl rfl sl78 ze35 (fun M hs g => ⟨(g.sat 3 _ rfl).1, ⟨(g.sat 7 _ rfl).1, trivial⟩⟩) fun v681 w hw => ?_
     have hw := hw.pick 23 [1, 2, 3, 4, 5, 6, 7, 8, 0, 10, 11, 12, 13, 14, 15, 16, 17, 18, 19, 20, 21, 22] (new := [bif D 5 then (rd v654 p1.Nets) else junk, bif D 7 then (pt v656 x655) else junk, bif D 8 then (pt v657 x655.Pins) else junk, rd v658 x655.Pins, bif D 11 then (rd v659 p1.Nets) else junk, bif D 13 then (pt v661 x660) else junk, bif D 14 then (pt v662 x660.Pins) else junk, rd v663 x660.Pins, own 35 v681 ([x655.Pins, x660.Pins] : (List (List Pin))), bif D 18 then (rd v666 x665) else (bif D 17 then (own 43 v666 x665) else junk), bif D 19 then (rd v668 x667) else (bif D 18 then (own 43 v668 x667) else junk), bif D 19 then (rd v669 (⟨x509.Name, x667, []⟩ : Net)) else junk, bif D 21 then (rd v670 ([(⟨x509.Name, x667, []⟩ : Net)] : (List Net))) else (bif D 20 then (own 38 v670 ([(⟨x509.Name, x667, []⟩ : Net)] : (List Net))) else junk), bx 38 b512 x509, rd v511 x509, pt v510 x509, bx 26 b31 p1, raw 26 b32 2, bif D 23 then (bc 26 b120 [v119, v672]) else (bc 26 b120 [v119, v508]), bif D 21 then (own 38 v672 x671) else (own 38 v508 s123), own 48 v119 x118, rd v121 p1.Nets]) rfl rfl (by decide) (by decide)
     have hw := hw.altT (i := 3) (b := D 9) rfl (hdep.1 rfl) (junk)
     have hw := hw.altT (i := 7) (b := D 15) rfl (hdep.2.1 rfl) (junk)
     have hw := hw.altT (i := 8) (b := true) rfl rfl (junk)
     have hw := hw.altF (i := 8) (b := D 17) rfl (nf (fun h => ft hD ((hcl 17 _ rfl h).1 rfl))) (rd v681 ([x655.Pins, x660.Pins] : (List (List Pin))))
     refine RL.nil ?_
     exact ⟨rfl, v654, v656, v657, v658, v659, v661, v662, v663, v681, v666, v668, v669, v670, v672, hv.put 16 rfl rfl, ha.up rfl, hw⟩
    ·rintro D σ w hD hdep hcl ⟨v654, v656, v657, v658, v659, v661, v662, v663, v664, v666, v668, v669, v670, v672, hv, ha, hw⟩
     obtain ⟨τ, rfl⟩ := (ac (hv.at 16 rfl (hdep.1 rfl)) az).ups
     have hw := hw.selF (i := 8) rfl hD
     have hw := hw.selT (i := 8) rfl (hdep.1 rfl)
     have hw := hw.selF (i := 9) rfl (nf (fun h => ft hD ((hcl 18 _ rfl h).1 rfl)))
     have hw := hw.selF (i := 9) rfl hD
     have hw := hw.freeze (i := 8) rfl
     refine RL.call trivial rfl fn18 [v664] rfl (Calls_ret (slices_Concat_Pin_ok N  (i0 := 8) hw rfl hx665) ?_)
     rintro v682 w hw
     have hw := hw.pick 23 [1, 2, 3, 4, 5, 6, 7, 8, 9, 0, 11, 12, 13, 14, 15, 16, 17, 18, 19, 20, 21, 22] (new := [bif D 5 then (rd v654 p1.Nets) else junk, bif D 7 then (pt v656 x655) else junk, bif D 8 then (pt v657 x655.Pins) else junk, bif D 9 then (rd v658 x655.Pins) else junk, bif D 11 then (rd v659 p1.Nets) else junk, bif D 13 then (pt v661 x660) else junk, bif D 14 then (pt v662 x660.Pins) else junk, bif D 15 then (rd v663 x660.Pins) else junk, rd v664 ([x655.Pins, x660.Pins] : (List (List Pin))), own 43 v682 x665, bif D 19 then (rd v668 x667) else (bif D 18 then (own 43 v668 x667) else junk), bif D 19 then (rd v669 (⟨x509.Name, x667, []⟩ : Net)) else junk, bif D 21 then (rd v670 ([(⟨x509.Name, x667, []⟩ : Net)] : (List Net))) else (bif D 20 then (own 38 v670 ([(⟨x509.Name, x667, []⟩ : Net)] : (List Net))) else junk), bx 38 b512 x509, rd v511 x509, pt v510 x509, bx 26 b31 p1, raw 26 b32 2, bif D 23 then (bc 26 b120 [v119, v672]) else (bc 26 b120 [v119, v508]), bif D 21 then (own 38 v672 x671) else (own 38 v508 s123), own 48 v119 x118, rd v121 p1.Nets]) rfl rfl (by decide) (by decide)
     have hw := hw.altT (i := 8) (b := true) rfl rfl (bif D 16 then (own 35 v664 ([x655.Pins, x660.Pins] : (List (List Pin)))) else junk)
     have hw := hw.altT (i := 9) (b := true) rfl rfl (junk)
     have hw := hw.altF (i := 9) (b := D 18) rfl (nf (fun h => ft hD ((hcl 18 _ rfl h).1 rfl))) (rd v682 x665)
     refine RL.nil ?_
     exact ⟨rfl, v654, v656, v657, v658, v659, v661, v662, v663, v664, v682, v668, v669, v670, v672, hv.put 17 rfl rfl, ha.up rfl, hw⟩
    ·rintro D σ w hD hdep hcl ⟨v654, v656, v657, v658, v659, v661, v662, v663, v664, v666, v668, v669, v670, v672, hv, ha, hw⟩
     obtain ⟨τ, rfl⟩ := (ac (hv.at 17 rfl (hdep.1 rfl)) az).ups
     have hw := hw.selF (i := 9) rfl hD
     have hw := hw.selT (i := 9) rfl (hdep.1 rfl)
     have hw := hw.selF (i := 10) rfl (nf (fun h => ft hD ((hcl 19 _ rfl h).2.1 rfl)))
     have hw := hw.selF (i := 10) rfl hD
     have hw := hw.freeze (i := 9) rfl
     refine RL.call trivial rfl fn17 [v666] rfl (Calls_ret (etchhouseref2_sortedPins_ok N  (i0 := 9) hw rfl hx667) ?_)
     rintro v683 w hw
     have hw := hw.pick 23 [1, 2, 3, 4, 5, 6, 7, 8, 9, 10, 0, 12, 13, 14, 15, 16, 17, 18, 19, 20, 21, 22] (new := [bif D 5 then (rd v654 p1.Nets) else junk, bif D 7 then (pt v656 x655) else junk, bif D 8 then (pt v657 x655.Pins) else junk, bif D 9 then (rd v658 x655.Pins) else junk, bif D 11 then (rd v659 p1.Nets) else junk, bif D 13 then (pt v661 x660) else junk, bif D 14 then (pt v662 x660.Pins) else junk, bif D 15 then (rd v663 x660.Pins) else junk, bif D 17 then (rd v664 ([x655.Pins, x660.Pins] : (List (List Pin)))) else (bif D 16 then (own 35 v664 ([x655.Pins, x660.Pins] : (List (List Pin)))) else junk), rd v666 x665, own 43 v683 x667, bif D 19 then (rd v669 (⟨x509.Name, x667, []⟩ : Net)) else junk, bif D 21 then (rd v670 ([(⟨x509.Name, x667, []⟩ : Net)] : (List Net))) else (bif D 20 then (own 38 v670 ([(⟨x509.Name, x667, []⟩ : Net)] : (List Net))) else junk), bx 38 b512 x509, rd v511 x509, pt v510 x509, bx 26 b31 p1, raw 26 b32 2, bif D 23 then (bc 26 b120 [v119, v672]) else (bc 26 b120 [v119, v508]), bif D 21 then (own 38 v672 x671) else (own 38 v508 s123), own 48 v119 x118, rd v121 p1.Nets]) rfl rfl (by decide) (by decide)
     have hw := hw.altT (i := 9) (b := true) rfl rfl (bif D 17 then (own 43 v666 x665) else junk)
     have hw := hw.altT (i := 10) (b := true) rfl rfl (junk)
     have hw := hw.altF (i := 10) (b := D 19) rfl (nf (fun h => ft hD ((hcl 19 _ rfl h).2.1 rfl))) (rd v683 x667)
     refine RL.nil ?_
     exact ⟨rfl, v654, v656, v657, v658, v659, v661, v662, v663, v664, v666, v683, v669, v670, v672, hv.put 18 rfl rfl, ha.up rfl, hw⟩
    ·rintro D σ w hD hdep hcl ⟨v654, v656, v657, v658, v659, v661, v662, v663, v664, v666, v668, v669, v670, v672, hv, ha, hw⟩
     obtain ⟨τ, rfl⟩ := (ac (hv.at 3 rfl (hdep.1 rfl)) (ac (hv.at 18 rfl (hdep.2.1 rfl)) az)).ups
     have hw := hw.selF (i := 10) rfl hD
     have hw := hw.selT (i := 10) rfl (hdep.2.1 rfl)
     have hw := hw.selF (i := 11) rfl hD
     have hw := hw.sc (γ := Str) x509.Name
     have hw := hw.freeze (i := 11) rfl
     refine RL.build (y := (⟨x509.Name, x667, []⟩ : Net)) trivial rfl hw [(0, (str x509.Name)), (1, v668)] rfl st38 rfl (fun M hs g => by have h := z_Net M; exact Fills.cons (f := fun (x : Net) y => { x with Name := y }) rfl h fs_Net_0 (by decide) (g.sat 0 _ rfl).1 fun _ h => Fills.cons (f := fun (x : Net) y => { x with Pins := y }) rfl h fs_Net_1 (by decide) (g.sat 11 _ rfl).1 fun _ h => Fills.nil h) fun v684 hw => ?_
     have hw := hw.pick 24 [2, 3, 4, 5, 6, 7, 8, 9, 10, 11, 12, 0, 14, 15, 16, 17, 18, 19, 20, 21, 22, 23] (new := [bif D 5 then (rd v654 p1.Nets) else junk, bif D 7 then (pt v656 x655) else junk, bif D 8 then (pt v657 x655.Pins) else junk, bif D 9 then (rd v658 x655.Pins) else junk, bif D 11 then (rd v659 p1.Nets) else junk, bif D 13 then (pt v661 x660) else junk, bif D 14 then (pt v662 x660.Pins) else junk, bif D 15 then (rd v663 x660.Pins) else junk, bif D 17 then (rd v664 ([x655.Pins, x660.Pins] : (List (List Pin)))) else (bif D 16 then (own 35 v664 ([x655.Pins, x660.Pins] : (List (List Pin)))) else junk), bif D 18 then (rd v666 x665) else (bif D 17 then (own 43 v666 x665) else junk), rd v668 x667, rd v684 (⟨x509.Name, x667, []⟩ : Net), bif D 21 then (rd v670 ([(⟨x509.Name, x667, []⟩ : Net)] : (List Net))) else (bif D 20 then (own 38 v670 ([(⟨x509.Name, x667, []⟩ : Net)] : (List Net))) else junk), bx 38 b512 x509, rd v511 x509, pt v510 x509, bx 26 b31 p1, raw 26 b32 2, bif D 23 then (bc 26 b120 [v119, v672]) else (bc 26 b120 [v119, v508]), bif D 21 then (own 38 v672 x671) else (own 38 v508 s123), own 48 v119 x118, rd v121 p1.Nets]) rfl rfl (by decide) (by decide)
     have hw := hw.altT (i := 10) (b := true) rfl rfl (bif D 18 then (own 43 v668 x667) else junk)
     have hw := hw.altT (i := 11) (b := true) rfl rfl (junk)
     refine RL.nil ?_
     exact ⟨rfl, v654, v656, v657, v658, v659, v661, v662, v663, v664, v666, v668, v684, v670, v672, hv.put 19 rfl rfl, ha.up rfl, hw⟩
    ·rintro D σ w hD hdep hcl ⟨v654, v656, v657, v658, v659, v661, v662, v663, v664, v666, v668, v669, v670, v672, hv, ha, hw⟩
     obtain ⟨τ, rfl⟩ := (ac (hv.at 19 rfl (hdep.1 rfl)) az).ups
     have hw := hw.selT (i := 11) rfl (hdep.1 rfl)
     have hw := hw.selF (i := 12) rfl (nf (fun h => ft hD ((hcl 21 _ rfl h).2.1 rfl)))
     have hw := hw.selF (i := 12) rfl hD
     refine RL.bslice (l := ([(⟨x509.Name, x667, []⟩ : Net)] : (List Net))) trivial rfl hw [v669] rfl rfl rfl sl24 ze38 (fun M hs g => ⟨(g.sat 11 _ rfl).1, trivial⟩) fun v685 w hw => ?_
     have hw := hw.pick 23 [1, 2, 3, 4, 5, 6, 7, 8, 9, 10, 11, 12, 0, 14, 15, 16, 17, 18, 19, 20, 21, 22] (new := [bif D 5 then (rd v654 p1.Nets) else junk, bif D 7 then (pt v656 x655) else junk, bif D 8 then (pt v657 x655.Pins) else junk, bif D 9 then (rd v658 x655.Pins) else junk, bif D 11 then (rd v659 p1.Nets) else junk, bif D 13 then (pt v661 x660) else junk, bif D 14 then (pt v662 x660.Pins) else junk, bif D 15 then (rd v663 x660.Pins) else junk, bif D 17 then (rd v664 ([x655.Pins, x660.Pins] : (List (List Pin)))) else (bif D 16 then (own 35 v664 ([x655.Pins, x660.Pins] : (List (List Pin)))) else junk), bif D 18 then (rd v666 x665) else (bif D 17 then (own 43 v666 x665) else junk), bif D 19 then (rd v668 x667) else (bif D 18 then (own 43 v668 x667) else junk), rd v669 (⟨x509.Name, x667, []⟩ : Net), own 38 v685 ([(⟨x509.Name, x667, []⟩ : Net)] : (List Net)), bx 38 b512 x509, rd v511 x509, pt v510 x509, bx 26 b31 p1, raw 26 b32 2, bif D 23 then (bc 26 b120 [v119, v672]) else (bc 26 b120 [v119, v508]), bif D 21 then (own 38 v672 x671) else (own 38 v508 s123), own 48 v119 x118, rd v121 p1.Nets]) rfl rfl (by decide) (by decide)
     have hw := hw.altT (i := 11) (b := D 19) rfl (hdep.1 rfl) (junk)
     have hw := hw.altT (i := 12) (b := true) rfl rfl (junk)
     have hw := hw.altF (i := 12) (b := D 21) rfl (nf (fun h => ft hD ((hcl 21 _ rfl h).2.1 rfl))) (rd v685 ([(⟨x509.Name, x667, []⟩ : Net)] : (List Net)))
     refine RL.nil ?_
     exact ⟨rfl, v654, v656, v657, v658, v659, v661, v662, v663, v664, v666, v668, v669, v685, v672, hv.put 20 rfl rfl, ha.up rfl, hw⟩
    ·rintro D σ w hD hdep hcl ⟨v654, v656, v657, v658, v659, v661, v662, v663, v664, v666, v668, v669, v670, v672, hv, ha, hw⟩
     obtain ⟨τ, rfl⟩ := (ac (hv.at 1 rfl (hdep.1 rfl)) (ac (hv.at 20 rfl (hdep.2.1 rfl)) az)).ups
     have hw := hw.selF (i := 12) rfl hD
     have hw := hw.selT (i := 12) rfl (hdep.2.1 rfl)
     have hw := hw.selF (i := 18) rfl (nf (fun h => ft hD ((hcl 23 _ rfl h).2.1 rfl)))
     have hw := hw.selF (i := 19) rfl hD
     have hw := hw.freeze (i := 12) rfl
     refine RL.app (i := 19) (j := 12) trivial rfl hw rfl rfl rfl rfl el24 hx671 fun v686 w hw => ?_
     have hw := hw.altT (i := 12) (b := true) rfl rfl (bif D 20 then (own 38 v670 ([(⟨x509.Name, x667, []⟩ : Net)] : (List Net))) else junk)
     have hw := hw.altF (i := 18) (b := D 23) rfl (nf (fun h => ft hD ((hcl 23 _ rfl h).2.1 rfl))) (bc 26 b120 [v119, v686])
     have hw := hw.altT (i := 19) (b := true) rfl rfl (own 38 v508 s123)
     refine RL.nil ?_
     exact ⟨rfl, v654, v656, v657, v658, v659, v661, v662, v663, v664, v666, v668, v669, v670, v686, hv.put 21 rfl rfl, ha.up rfl, hw⟩
    ·rintro D σ w hD hdep hcl ⟨v654, v656, v657, v658, v659, v661, v662, v663, v664, v666, v668, v669, v670, v672, hv, ha, hw⟩
     obtain ⟨τ, rfl⟩ := (ac (ha.at 4 rfl) az).ups
     refine RL.fa_b trivial rfl rfl fa26_1 ?_
     refine RL.nil ?_
     exact ⟨rfl, v654, v656, v657, v658, v659, v661, v662, v663, v664, v666, v668, v669, v670, v672, hv.put 22 rfl rfl, ha.up rfl, hw⟩
    ·rintro D σ w hD hdep hcl ⟨v654, v656, v657, v658, v659, v661, v662, v663, v664, v666, v668, v669, v670, v672, hv, ha, hw⟩
     obtain ⟨τ, rfl⟩ := (ac (hv.at 21 rfl (hdep.2.1 rfl)) (ac (hv.at 22 rfl (hdep.1 rfl)) az)).ups
     have hw := hw.selF (i := 18) rfl hD
     have hw := hw.selT (i := 19) rfl (hdep.2.1 rfl)
     refine RL.store_bc (i := 18) (v := v672) trivial hw rfl rfl rfl rfl (one_own hw (i := 19) rfl) ty24 fun w hw => ?_
     have hw := hw.altT (i := 18) (b := true) rfl rfl (bc 26 b120 [v119, v508])
     have hw := hw.altT (i := 19) (b := D 21) rfl (hdep.2.1 rfl) (own 38 v508 s123)
     refine RL.nil ?_
     exact ⟨rfl, v654, v656, v657, v658, v659, v661, v662, v663, v664, v666, v668, v669, v670, v672, hv.no rfl, ha, hw⟩
    rintro D σ w hall ⟨v654, v656, v657, v658, v659, v661, v662, v663, v664, v666, v668, v669, v670, v672, hv, ha, hw⟩
    rw [hall 5 (by decide), hall 7 (by decide), hall 8 (by decide), hall 9 (by decide), hall 11 (by decide), hall 13 (by decide), hall 14 (by decide), hall 15 (by decide), hall 16 (by decide), hall 17 (by decide), hall 18 (by decide), hall 19 (by decide), hall 20 (by decide), hall 21 (by decide), hall 23 (by decide)] at hw
    obtain ⟨τ, rfl⟩ := (ac (ha.at 0 rfl) (ac (ha.at 1 rfl) (ac (ha.at 2 rfl) (ac (ha.at 3 rfl) (ac (ha.at 4 rfl) (ac (ha.at 5 rfl) (ac (ha.at 6 rfl) (ac (ha.at 7 rfl) (ac (ha.at 8 rfl) az))))))))).ups
    obtain rfl := oi hjj
    exact ⟨rfl, v672, ⟨rfl, rfl, rfl, rfl, rfl, rfl, rfl, rfl, trivial⟩, hw.pick 22 [16, 17, 18, 19, 20, 21] (new := [bx 26 b31 p1, raw 26 b32 2, bc 26 b120 [v119, v672], own 38 v672 x671, own 48 v119 x118, rd v121 p1.Nets]) rfl rfl (by decide) (by decide)⟩
   rintro σ w ⟨v653, ha, hw⟩
   obtain ⟨τ, rfl⟩ := ha.ups
   obtain rfl := oi hj
   exact ⟨rfl, v653, ⟨rfl, rfl, rfl, rfl, rfl, rfl, rfl, rfl, trivial⟩, hw.pick 6 [0, 1, 2, 3, 4, 5] (new := [bx 26 b31 p1, raw 26 b32 2, bc 26 b120 [v119, v653], own 38 v653 s652, own 48 v119 x118, rd v121 p1.Nets]) rfl rfl (by decide) (by decide)⟩
  rintro σ w ⟨v606, ha, hw⟩
  obtain ⟨τ, rfl⟩ := ha.ups
  refine blkQ_n ?_
  refine blkQ_n ?_
  refine thenQ_n ?_
  refine RC.region ?_
  refine RL.inc trivial rfl hk hm rfl rfl ?_
  refine mv (vi ((k122 + 1 : Nat) : Int)) rfl rfl ?_
  refine RL.nil ?_
  obtain rfl := oi hb
  exact ⟨rfl, v606, ⟨rfl, rfl, rfl, rfl, rfl, rfl, rfl, rfl, trivial⟩, hw.pick 6 [0, 1, 2, 3, 4, 5] (new := [bx 26 b31 p1, raw 26 b32 2, bc 26 b120 [v119, v606], own 38 v606 s605, own 48 v119 x118, rd v121 p1.Nets]) rfl rfl (by decide) (by decide)⟩
 intro σ w hJ
 obtain ⟨v507, ha, hw⟩ := hJ
 obtain ⟨τ, rfl⟩ := ha.ups
 refine thenQ_n ?_
 refine RC.sr ?_
 have hw := hw.freeze (i := 4) rfl
 have hw := hw.freeze (i := 3) rfl
 have hw := hw.close_bc (i := 2) (x := (⟨x118, s123⟩ : Netlist)) rfl (fun M hs g => ⟨[v119], [v507], rfl, (rd_one rfl (g.sat 4 _ rfl).1), (rd_one rfl (g.sat 3 _ rfl).1)⟩)
 refine RL.load_bf (i := 2) (f := (fun x => x)) trivial rfl hw rfl rfl Fd.self ty26 fun v700 hw => ?_
 refine RL.store_raw (i := 2) (j := 0) trivial hw rfl rfl rfl rfl ty26 rfl fun w hw => ?_
 refine as_ (vi 0) rfl rfl ?_
 refine RL.nt ?_
 refine RC.ret ?_
 obtain rfl := oi hb
 exact finC2 (i := 2) rfl hw rfl rfl ty26 rfl fun v701 hw => ⟨v701, rfl, hw.pick 8 [0] (new := [rd v701 (⟨x118, s123⟩ : Netlist)]) rfl rfl (by decide) (by decide)⟩
def slices_Equal_Part_R (E : World) (Γ : List HP) (res : Bool) (v : Value) (w : World) : Prop := v = (vb res) ∧ Holds E w Γ
def slices_Equal_Part_K (E : World) (Γ : List HP) (r : Bool) (σ : Nat → Value) (w : World) : Prop := finQ Tryz.prog 26 Tryz.f20 (slices_Equal_Part_R E Γ r) .ret σ w
theorem slices_Equal_Part_ok (N : Nat) {E w : World} {Γ : List HP} {i0 : Nat} {v0 : Value} {p0 : (List Part)} {i1 : Nat} {v1 : Value} {p1 : (List Part)} {res : Bool} (hw : Holds E w Γ) (h0 : Γ[i0]? = some (rd v0 p0)) (h1 : Γ[i1]? = some (rd v1 p1)) (hb : slices_Equal_Part N p0 p1 = some res) :
    Calls Tryz.prog 20 [v0, v1].toArray w (Ret (slices_Equal_Part_R E Γ res)) := by
 unfold slices_Equal_Part at hb
 refine enter Tryz.func20 rfl rfl (Nat.le_of_ble_eq_true rfl) ?_
 have hw := hw.dup (i := i0 + 0) h0
 have hw := hw.dup (i := i1 + 1) h1
 refine RC.sr ?_
 refine as_ (vb false) rfl rfl ?_
 refine RL.nq ?_
 refine RC.sr ?_
 refine mv v0 rfl rfl ?_
 refine RL.len_rd (i := 1) (l := p0) trivial rfl hw rfl rfl un23 ?_
 refine mv v1 rfl rfl ?_
 refine RL.len_rd (i := 0) (l := p1) trivial rfl hw rfl rfl un23 ?_
 refine ic ((p0.length : Int)) ((p1.length : Int)) rfl rfl rfl rfl ?_
 refine RL.nt ?_
 refine RC.cond (b := ((p0.length : Int) != (p1.length : Int))) rfl (fun hc => ?_) (fun hc => ?_)
 ·replace hb := cT hc hb
  refine RC.sr ?_
  refine as_ (vb false) rfl rfl ?_
  refine RL.nt ?_
  refine RC.rt ?_
  obtain rfl := oi hb
  exact fin1 rfl rfl ⟨rfl, hw.drop 2 rfl⟩
 replace hb := cF hc hb
 refine RC.ss ?_
 refine RC.sr ?_
 refine mv v0 rfl rfl ?_
 refine RL.len_rd (i := 1) (l := p0) trivial rfl hw rfl rfl un23 ?_
 refine mv (vi 0) rfl rfl ?_
 refine RL.nt ?_
 obtain ⟨o53, hN, hb⟩ := bd hb
 refine RC.range (fun (k31 : Nat) (s32 : Unit) (σ : Nat → Value) (w : World) => agree σ [(0, v0), (1, v1), (12, (vi (p0.length : Int))), (13, (vi (k31 : Int)))] ∧ Holds E w ([rd v0 p0, rd v1 p1] ++ Γ)) (fun (s32 : Unit) (σ : Nat → Value) (w : World) => agree σ [] ∧ Holds E w ([rd v0 p0, rd v1 p1] ++ Γ)) (slices_Equal_Part_K E Γ) hN ?_ ?_ ?_ ?_ ?_ 
 ·exact ⟨⟨rfl, rfl, rfl, rfl, trivial⟩, hw.pick 2 [1, 0] (new := [rd v0 p0, rd v1 p1]) rfl rfl (by decide) (by decide)⟩
 ·intro hm s32 σ w hI
  obtain ⟨ha, hw⟩ := hI
  obtain ⟨τ, rfl⟩ := ha.ups
  refine RC.sr ?_
  refine ic ((p0.length : Int)) ((p0.length : Int)) rfl rfl rfl rfl ?_
  refine RL.nq ?_
  refine RC.cond_f dge ?_
  refine RC.ex ?_
  exact ⟨rfl, trivial, hw.pick 2 [0, 1] (new := [rd v0 p0, rd v1 p1]) rfl rfl (by decide) (by decide)⟩
 ·intro hm k31 s32 fl σ w hk hI hb
  obtain ⟨ha, hw⟩ := hI
  obtain ⟨τ, rfl⟩ := ha.ups
  refine RC.sr ?_
  refine ic ((k31 : Int)) ((p0.length : Int)) rfl rfl rfl rfl ?_
  refine RL.nq ?_
  refine RC.cond_t (dlt hk) ?_
  refine RC.ss ?_
  refine RC.bs ?_
  refine mv (vi (k31 : Int)) rfl rfl ?_
  refine as_ (vi (k31 : Int)) rfl rfl ?_
  refine RL.nq ?_
  obtain ⟨x43, hx43, hb⟩ := bd hb
  obtain ⟨x46, hx46, hb⟩ := bd hb
  refine RC.drw mixed rfl (fun (D : Nat → Bool) (σ : Nat → Value) (w : World) => ∃ (v44 : Value) (v45 : Value) (v47 : Value) (v48 : Value), doneV D σ [(0, 16, v0), (1, 17, (vi (k31 : Int))), (2, 18, v44), (3, 19, v45), (4, 20, v1), (5, 21, (vi (k31 : Int))), (6, 22, v47), (7, 23, v48), (8, 24, (vb (!(decide (x43 = x46)))))] ∧ agree σ [(0, v0), (1, v1), (5, (vi (k31 : Int))), (12, (vi (p0.length : Int))), (13, (vi (k31 : Int)))] ∧ Holds E w ([bif D 2 then (pt v44 x43) else junk, bif D 3 then (rd v45 x43) else junk, bif D 6 then (pt v47 x46) else junk, bif D 7 then (rd v48 x46) else junk, rd v0 p0, rd v1 p1] ++ Γ)) ?_ ⟨?_, ?_, ?_, ?_, ?_, ?_, ?_, ?_, ?_, trivial⟩ ?_
  ·have hw := hw.drew
   have hw := hw.junk
   have hw := hw.junk
   have hw := hw.junk
   have hw := hw.junk
   exact ⟨undef, undef, undef, undef, doneV.none, ⟨rfl, rfl, rfl, rfl, rfl, trivial⟩, hw⟩
  ·rintro D σ w hD hdep hcl ⟨v44, v45, v47, v48, hv, ha, hw⟩
   obtain ⟨τ, rfl⟩ := (ac (ha.at 0 rfl) az).ups
   refine mv v0 rfl rfl ?_
   refine RL.nil ?_
   exact ⟨rfl, v44, v45, v47, v48, hv.put 0 rfl rfl, ha.up rfl, hw⟩
  ·rintro D σ w hD hdep hcl ⟨v44, v45, v47, v48, hv, ha, hw⟩
   obtain ⟨τ, rfl⟩ := (ac (ha.at 2 rfl) az).ups
   refine mv (vi (k31 : Int)) rfl rfl ?_
   refine RL.nil ?_
   exact ⟨rfl, v44, v45, v47, v48, hv.put 1 rfl rfl, ha.up rfl, hw⟩
  ·rintro D σ w hD hdep hcl ⟨v44, v45, v47, v48, hv, ha, hw⟩
   obtain ⟨τ, rfl⟩ := (ac (hv.at 0 rfl (hdep.1 rfl)) (ac (hv.at 1 rfl (hdep.2.1 rfl)) az)).ups
   have hw := hw.selF (i := 0) rfl hD
   refine RL.ia_rd (i := 4) trivial rfl hw rfl rfl rfl sl23 hx43 fun v49 hw => ?_
   have hw := hw.pick 7 [0, 2, 3, 4, 5, 6] (new := [pt v49 x43, bif D 3 then (rd v45 x43) else junk, bif D 6 then (pt v47 x46) else junk, bif D 7 then (rd v48 x46) else junk, rd v0 p0, rd v1 p1]) rfl rfl (by decide) (by decide)
   have hw := hw.altT (i := 0) (b := true) rfl rfl (junk)
   refine RL.nil ?_
   exact ⟨rfl, v49, v45, v47, v48, hv.put 2 rfl rfl, ha.up rfl, hw⟩
  ·rintro D σ w hD hdep hcl ⟨v44, v45, v47, v48, hv, ha, hw⟩
   obtain ⟨τ, rfl⟩ := (ac (hv.at 2 rfl (hdep.1 rfl)) az).ups
   have hw := hw.selT (i := 0) rfl (hdep.1 rfl)
   have hw := hw.selF (i := 1) rfl hD
   refine RL.load_pt (i := 0) (x := x43) trivial rfl hw rfl rfl ty48 fun v50 hw => ?_
   have hw := hw.pick 7 [1, 0, 3, 4, 5, 6] (new := [pt v44 x43, rd v50 x43, bif D 6 then (pt v47 x46) else junk, bif D 7 then (rd v48 x46) else junk, rd v0 p0, rd v1 p1]) rfl rfl (by decide) (by decide)
   have hw := hw.altT (i := 0) (b := D 2) rfl (hdep.1 rfl) (junk)
   have hw := hw.altT (i := 1) (b := true) rfl rfl (junk)
   refine RL.nil ?_
   exact ⟨rfl, v44, v50, v47, v48, hv.put 3 rfl rfl, ha.up rfl, hw⟩
  ·rintro D σ w hD hdep hcl ⟨v44, v45, v47, v48, hv, ha, hw⟩
   obtain ⟨τ, rfl⟩ := (ac (ha.at 1 rfl) az).ups
   refine mv v1 rfl rfl ?_
   refine RL.nil ?_
   exact ⟨rfl, v44, v45, v47, v48, hv.put 4 rfl rfl, ha.up rfl, hw⟩
  ·rintro D σ w hD hdep hcl ⟨v44, v45, v47, v48, hv, ha, hw⟩
   obtain ⟨τ, rfl⟩ := (ac (ha.at 2 rfl) az).ups
   refine mv (vi (k31 : Int)) rfl rfl ?_
   refine RL.nil ?_
   exact ⟨rfl, v44, v45, v47, v48, hv.put 5 rfl rfl, ha.up rfl, hw⟩
  ·rintro D σ w hD hdep hcl ⟨v44, v45, v47, v48, hv, ha, hw⟩
   obtain ⟨τ, rfl⟩ := (ac (hv.at 4 rfl (hdep.1 rfl)) (ac (hv.at 5 rfl (hdep.2.1 rfl)) az)).ups
   have hw := hw.selF (i := 2) rfl hD
   refine RL.ia_rd (i := 5) trivial rfl hw rfl rfl rfl sl23 hx46 fun v51 hw => ?_
   have hw := hw.pick 7 [1, 2, 0, 4, 5, 6] (new := [bif D 2 then (pt v44 x43) else junk, bif D 3 then (rd v45 x43) else junk, pt v51 x46, bif D 7 then (rd v48 x46) else junk, rd v0 p0, rd v1 p1]) rfl rfl (by decide) (by decide)
   have hw := hw.altT (i := 2) (b := true) rfl rfl (junk)
   refine RL.nil ?_
   exact ⟨rfl, v44, v45, v51, v48, hv.put 6 rfl rfl, ha.up rfl, hw⟩
  ·rintro D σ w hD hdep hcl ⟨v44, v45, v47, v48, hv, ha, hw⟩
   obtain ⟨τ, rfl⟩ := (ac (hv.at 6 rfl (hdep.1 rfl)) az).ups
   have hw := hw.selT (i := 2) rfl (hdep.1 rfl)
   have hw := hw.selF (i := 3) rfl hD
   refine RL.load_pt (i := 2) (x := x46) trivial rfl hw rfl rfl ty48 fun v52 hw => ?_
   have hw := hw.pick 7 [1, 2, 3, 0, 5, 6] (new := [bif D 2 then (pt v44 x43) else junk, bif D 3 then (rd v45 x43) else junk, pt v47 x46, rd v52 x46, rd v0 p0, rd v1 p1]) rfl rfl (by decide) (by decide)
   have hw := hw.altT (i := 2) (b := D 6) rfl (hdep.1 rfl) (junk)
   have hw := hw.altT (i := 3) (b := true) rfl rfl (junk)
   refine RL.nil ?_
   exact ⟨rfl, v44, v45, v47, v52, hv.put 7 rfl rfl, ha.up rfl, hw⟩
  ·rintro D σ w hD hdep hcl ⟨v44, v45, v47, v48, hv, ha, hw⟩
   obtain ⟨τ, rfl⟩ := (ac (hv.at 3 rfl (hdep.1 rfl)) (ac (hv.at 7 rfl (hdep.2.1 rfl)) az)).ups
   have hw := hw.selT (i := 1) rfl (hdep.1 rfl)
   have hw := hw.selT (i := 3) rfl (hdep.2.1 rfl)
   refine RL.sne (i := 1) (j := 3) (a := x43) (b := x46) trivial rfl hw rfl rfl rfl rfl eqt48 rfl ?_
   have hw := hw.altT (i := 1) (b := D 3) rfl (hdep.1 rfl) (junk)
   have hw := hw.altT (i := 3) (b := D 7) rfl (hdep.2.1 rfl) (junk)
   refine RL.nil ?_
   exact ⟨rfl, v44, v45, v47, v48, hv.put 8 rfl rfl, ha.up rfl, hw⟩
  rintro D σ w hall ⟨v44, v45, v47, v48, hv, ha, hw⟩
  rw [hall 2 (by decide), hall 3 (by decide), hall 6 (by decide), hall 7 (by decide)] at hw
  obtain ⟨τ, rfl⟩ := (ac (hv.at 8 rfl (hall 8 (by decide))) (ac (ha.at 0 rfl) (ac (ha.at 1 rfl) (ac (ha.at 2 rfl) (ac (ha.at 3 rfl) (ac (ha.at 4 rfl) az)))))).ups
  refine thenQ_n ?_
  refine RC.cond (b := (!(decide (x43 = x46)))) rfl (fun hc => ?_) (fun hc => ?_)
  rotate_left
  ·replace hb := cF hc hb
   refine RC.skip ?_
   refine blkQ_n ?_
   refine thenQ_n ?_
   refine RC.region ?_
   refine RL.inc trivial rfl hk hm rfl rfl ?_
   refine mv (vi ((k31 + 1 : Nat) : Int)) rfl rfl ?_
   refine RL.nil ?_
   obtain rfl := oi hb
   exact ⟨rfl, ⟨rfl, rfl, rfl, rfl, trivial⟩, hw.pick 6 [4, 5] (new := [rd v0 p0, rd v1 p1]) rfl rfl (by decide) (by decide)⟩
  replace hb := cT hc hb
  refine RC.sr ?_
  refine as_ (vb false) rfl rfl ?_
  refine RL.nt ?_
  refine RC.rb ?_
  refine thenQ_r ?_
  obtain rfl := oi hb
  exact ⟨rfl, fin1 rfl rfl ⟨rfl, hw.drop 6 rfl⟩⟩
 ·intro r σ w e hK
  subst e
  refine thenQ_r ?_
  obtain rfl := oi hb
  exact hK
 intro s32 σ w e hJ
 subst e
 rw [Fo.cs_go] at hb
 obtain ⟨ha, hw⟩ := hJ
 obtain ⟨τ, rfl⟩ := ha.ups
 refine thenQ_n ?_
 refine RC.sr ?_
 refine as_ (vb true) rfl rfl ?_
 refine RL.nt ?_
 refine RC.ret ?_
 obtain rfl := oi hb
 exact fin1 rfl rfl ⟨rfl, hw.drop 2 rfl⟩
def slices_Equal_Pin_R (E : World) (Γ : List HP) (res : Bool) (v : Value) (w : World) : Prop := v = (vb res) ∧ Holds E w Γ
def slices_Equal_Pin_K (E : World) (Γ : List HP) (r : Bool) (σ : Nat → Value) (w : World) : Prop := finQ Tryz.prog 26 Tryz.f21 (slices_Equal_Pin_R E Γ r) .ret σ w
theorem slices_Equal_Pin_ok (N : Nat) {E w : World} {Γ : List HP} {i0 : Nat} {v0 : Value} {p0 : (List Pin)} {i1 : Nat} {v1 : Value} {p1 : (List Pin)} {res : Bool} (hw : Holds E w Γ) (h0 : Γ[i0]? = some (rd v0 p0)) (h1 : Γ[i1]? = some (rd v1 p1)) (hb : slices_Equal_Pin N p0 p1 = some res) :
    Calls Tryz.prog 21 [v0, v1].toArray w (Ret (slices_Equal_Pin_R E Γ res)) := by
 unfold slices_Equal_Pin at hb
 refine enter Tryz.func21 rfl rfl (Nat.le_of_ble_eq_true rfl) ?_
 have hw := hw.dup (i := i0 + 0) h0
 have hw := hw.dup (i := i1 + 1) h1
 refine RC.sr ?_
 refine as_ (vb false) rfl rfl ?_
 refine RL.nq ?_
 refine RC.sr ?_
 refine mv v0 rfl rfl ?_
 refine RL.len_rd (i := 1) (l := p0) trivial rfl hw rfl rfl un35 ?_
 refine mv v1 rfl rfl ?_
 refine RL.len_rd (i := 0) (l := p1) trivial rfl hw rfl rfl un35 ?_
 refine ic ((p0.length : Int)) ((p1.length : Int)) rfl rfl rfl rfl ?_
 refine RL.nt ?_
 refine RC.cond (b := ((p0.length : Int) != (p1.length : Int))) rfl (fun hc => ?_) (fun hc => ?_)
 ·replace hb := cT hc hb
  refine RC.sr ?_
  refine as_ (vb false) rfl rfl ?_
  refine RL.nt ?_
  refine RC.rt ?_
  obtain rfl := oi hb
  exact fin1 rfl rfl ⟨rfl, hw.drop 2 rfl⟩
 replace hb := cF hc hb
 refine RC.ss ?_
 refine RC.sr ?_
 refine mv v0 rfl rfl ?_
 refine RL.len_rd (i := 1) (l := p0) trivial rfl hw rfl rfl un35 ?_
 refine mv (vi 0) rfl rfl ?_
 refine RL.nt ?_
 obtain ⟨o53, hN, hb⟩ := bd hb
 refine RC.range (fun (k31 : Nat) (s32 : Unit) (σ : Nat → Value) (w : World) => agree σ [(0, v0), (1, v1), (12, (vi (p0.length : Int))), (13, (vi (k31 : Int)))] ∧ Holds E w ([rd v0 p0, rd v1 p1] ++ Γ)) (fun (s32 : Unit) (σ : Nat → Value) (w : World) => agree σ [] ∧ Holds E w ([rd v0 p0, rd v1 p1] ++ Γ)) (slices_Equal_Pin_K E Γ) hN ?_ ?_ ?_ ?_ ?_ 
 ·exact ⟨⟨rfl, rfl, rfl, rfl, trivial⟩, hw.pick 2 [1, 0] (new := [rd v0 p0, rd v1 p1]) rfl rfl (by decide) (by decide)⟩
 ·intro hm s32 σ w hI
  obtain ⟨ha, hw⟩ := hI
  obtain ⟨τ, rfl⟩ := ha.ups
  refine RC.sr ?_
  refine ic ((p0.length : Int)) ((p0.length : Int)) rfl rfl rfl rfl ?_
  refine RL.nq ?_
  refine RC.cond_f dge ?_
  refine RC.ex ?_
  exact ⟨rfl, trivial, hw.pick 2 [0, 1] (new := [rd v0 p0, rd v1 p1]) rfl rfl (by decide) (by decide)⟩
 ·intro hm k31 s32 fl σ w hk hI hb
  obtain ⟨ha, hw⟩ := hI
  obtain ⟨τ, rfl⟩ := ha.ups
  refine RC.sr ?_
  refine ic ((k31 : Int)) ((p0.length : Int)) rfl rfl rfl rfl ?_
  refine RL.nq ?_
  refine RC.cond_t (dlt hk) ?_
  refine RC.ss ?_
  refine RC.bs ?_
  refine mv (vi (k31 : Int)) rfl rfl ?_
  refine as_ (vi (k31 : Int)) rfl rfl ?_
  refine RL.nq ?_
  obtain ⟨x43, hx43, hb⟩ := bd hb
  obtain ⟨x46, hx46, hb⟩ := bd hb
  refine RC.drw mixed rfl (fun (D : Nat → Bool) (σ : Nat → Value) (w : World) => ∃ (v44 : Value) (v45 : Value) (v47 : Value) (v48 : Value), doneV D σ [(0, 16, v0), (1, 17, (vi (k31 : Int))), (2, 18, v44), (3, 19, v45), (4, 20, v1), (5, 21, (vi (k31 : Int))), (6, 22, v47), (7, 23, v48), (8, 24, (vb (!(decide (x43 = x46)))))] ∧ agree σ [(0, v0), (1, v1), (5, (vi (k31 : Int))), (12, (vi (p0.length : Int))), (13, (vi (k31 : Int)))] ∧ Holds E w ([bif D 2 then (pt v44 x43) else junk, bif D 3 then (rd v45 x43) else junk, bif D 6 then (pt v47 x46) else junk, bif D 7 then (rd v48 x46) else junk, rd v0 p0, rd v1 p1] ++ Γ)) ?_ ⟨?_, ?_, ?_, ?_, ?_, ?_, ?_, ?_, ?_, trivial⟩ ?_
  ·have hw := hw.drew
   have hw := hw.junk
   have hw := hw.junk
   have hw := hw.junk
   have hw := hw.junk
   exact ⟨undef, undef, undef, undef, doneV.none, ⟨rfl, rfl, rfl, rfl, rfl, trivial⟩, hw⟩
  ·rintro D σ w hD hdep hcl ⟨v44, v45, v47, v48, hv, ha, hw⟩
   obtain ⟨τ, rfl⟩ := (ac (ha.at 0 rfl) az).ups
   refine mv v0 rfl rfl ?_
   refine RL.nil ?_
   exact ⟨rfl, v44, v45, v47, v48, hv.put 0 rfl rfl, ha.up rfl, hw⟩
  ·rintro D σ w hD hdep hcl ⟨v44, v45, v47, v48, hv, ha, hw⟩
   obtain ⟨τ, rfl⟩ := (ac (ha.at 2 rfl) az).ups
   refine mv (vi (k31 : Int)) rfl rfl ?_
   refine RL.nil ?_
   exact ⟨rfl, v44, v45, v47, v48, hv.put 1 rfl rfl, ha.up rfl, hw⟩
  ·rintro D σ w hD hdep hcl ⟨v44, v45, v47, v48, hv, ha, hw⟩
   obtain ⟨τ, rfl⟩ := (ac (hv.at 0 rfl (hdep.1 rfl)) (ac (hv.at 1 rfl (hdep.2.1 rfl)) az)).ups
   have hw := hw.selF (i := 0) rfl hD
   refine RL.ia_rd (i := 4) trivial rfl hw rfl rfl rfl sl35 hx43 fun v49 hw => ?_
   have hw := hw.pick 7 [0, 2, 3, 4, 5, 6] (new := [pt v49 x43, bif D 3 then (rd v45 x43) else junk, bif D 6 then (pt v47 x46) else junk, bif D 7 then (rd v48 x46) else junk, rd v0 p0, rd v1 p1]) rfl rfl (by decide) (by decide)
   have hw := hw.altT (i := 0) (b := true) rfl rfl (junk)
   refine RL.nil ?_
   exact ⟨rfl, v49, v45, v47, v48, hv.put 2 rfl rfl, ha.up rfl, hw⟩
  ·rintro D σ w hD hdep hcl ⟨v44, v45, v47, v48, hv, ha, hw⟩
   obtain ⟨τ, rfl⟩ := (ac (hv.at 2 rfl (hdep.1 rfl)) az).ups
   have hw := hw.selT (i := 0) rfl (hdep.1 rfl)
   have hw := hw.selF (i := 1) rfl hD
   refine RL.load_pt (i := 0) (x := x43) trivial rfl hw rfl rfl ty43 fun v50 hw => ?_
   have hw := hw.pick 7 [1, 0, 3, 4, 5, 6] (new := [pt v44 x43, rd v50 x43, bif D 6 then (pt v47 x46) else junk, bif D 7 then (rd v48 x46) else junk, rd v0 p0, rd v1 p1]) rfl rfl (by decide) (by decide)
   have hw := hw.altT (i := 0) (b := D 2) rfl (hdep.1 rfl) (junk)
   have hw := hw.altT (i := 1) (b := true) rfl rfl (junk)
   refine RL.nil ?_
   exact ⟨rfl, v44, v50, v47, v48, hv.put 3 rfl rfl, ha.up rfl, hw⟩
  ·rintro D σ w hD hdep hcl ⟨v44, v45, v47, v48, hv, ha, hw⟩
   obtain ⟨τ, rfl⟩ := (ac (ha.at 1 rfl) az).ups
   refine mv v1 rfl rfl ?_
   refine RL.nil ?_
   exact ⟨rfl, v44, v45, v47, v48, hv.put 4 rfl rfl, ha.up rfl, hw⟩
  ·rintro D σ w hD hdep hcl ⟨v44, v45, v47, v48, hv, ha, hw⟩
   obtain ⟨τ, rfl⟩ := (ac (ha.at 2 rfl) az).ups
   refine mv (vi (k31 : Int)) rfl rfl ?_
   refine RL.nil ?_
   exact ⟨rfl, v44, v45, v47, v48, hv.put 5 rfl rfl, ha.up rfl, hw⟩
  ·rintro D σ w hD hdep hcl ⟨v44, v45, v47, v48, hv, ha, hw⟩
   obtain ⟨τ, rfl⟩ := (ac (hv.at 4 rfl (hdep.1 rfl)) (ac (hv.at 5 rfl (hdep.2.1 rfl)) az)).ups
   have hw := hw.selF (i := 2) rfl hD
   refine RL.ia_rd (i := 5) trivial rfl hw rfl rfl rfl sl35 hx46 fun v51 hw => ?_
   have hw := hw.pick 7 [1, 2, 0, 4, 5, 6] (new := [bif D 2 then (pt v44 x43) else junk, bif D 3 then (rd v45 x43) else junk, pt v51 x46, bif D 7 then (rd v48 x46) else junk, rd v0 p0, rd v1 p1]) rfl rfl (by decide) (by decide)
   have hw := hw.altT (i := 2) (b := true) rfl rfl (junk)
   refine RL.nil ?_
   exact ⟨rfl, v44, v45, v51, v48, hv.put 6 rfl rfl, ha.up rfl, hw⟩
  ·rintro D σ w hD hdep hcl ⟨v44, v45, v47, v48, hv, ha, hw⟩
   obtain ⟨τ, rfl⟩ := (ac (hv.at 6 rfl (hdep.1 rfl)) az).ups
   have hw := hw.selT (i := 2) rfl (hdep.1 rfl)
   have hw := hw.selF (i := 3) rfl hD
   refine RL.load_pt (i := 2) (x := x46) trivial rfl hw rfl rfl ty43 fun v52 hw => ?_
   have hw := hw.pick 7 [1, 2, 3, 0, 5, 6] (new := [bif D 2 then (pt v44 x43) else junk, bif D 3 then (rd v45 x43) else junk, pt v47 x46, rd v52 x46, rd v0 p0, rd v1 p1]) rfl rfl (by decide) (by decide)
   have hw := hw.altT (i := 2) (b := D 6) rfl (hdep.1 rfl) (junk)
   have hw := hw.altT (i := 3) (b := true) rfl rfl (junk)
   refine RL.nil ?_
   exact ⟨rfl, v44, v45, v47, v52, hv.put 7 rfl rfl, ha.up rfl, hw⟩
  ·rintro D σ w hD hdep hcl ⟨v44, v45, v47, v48, hv, ha, hw⟩
   obtain ⟨τ, rfl⟩ := (ac (hv.at 3 rfl (hdep.1 rfl)) (ac (hv.at 7 rfl (hdep.2.1 rfl)) az)).ups
   have hw := hw.selT (i := 1) rfl (hdep.1 rfl)
   have hw := hw.selT (i := 3) rfl (hdep.2.1 rfl)
   refine RL.sne (i := 1) (j := 3) (a := x43) (b := x46) trivial rfl hw rfl rfl rfl rfl eqt43 rfl ?_
   have hw := hw.altT (i := 1) (b := D 3) rfl (hdep.1 rfl) (junk)
   have hw := hw.altT (i := 3) (b := D 7) rfl (hdep.2.1 rfl) (junk)
   refine RL.nil ?_
   exact ⟨rfl, v44, v45, v47, v48, hv.put 8 rfl rfl, ha.up rfl, hw⟩
  rintro D σ w hall ⟨v44, v45, v47, v48, hv, ha, hw⟩
  rw [hall 2 (by decide), hall 3 (by decide), hall 6 (by decide), hall 7 (by decide)] at hw
  obtain ⟨τ, rfl⟩ := (ac (hv.at 8 rfl (hall 8 (by decide))) (ac (ha.at 0 rfl) (ac (ha.at 1 rfl) (ac (ha.at 2 rfl) (ac (ha.at 3 rfl) (ac (ha.at 4 rfl) az)))))).ups
  refine thenQ_n ?_
  refine RC.cond (b := (!(decide (x43 = x46)))) rfl (fun hc => ?_) (fun hc => ?_)
  rotate_left
  ·replace hb := cF hc hb
   refine RC.skip ?_
   refine blkQ_n ?_
   refine thenQ_n ?_
   refine RC.region ?_
   refine RL.inc trivial rfl hk hm rfl rfl ?_
   refine mv (vi ((k31 + 1 : Nat) : Int)) rfl rfl ?_
   refine RL.nil ?_
   obtain rfl := oi hb
   exact ⟨rfl, ⟨rfl, rfl, rfl, rfl, trivial⟩, hw.pick 6 [4, 5] (new := [rd v0 p0, rd v1 p1]) rfl rfl (by decide) (by decide)⟩
  replace hb := cT hc hb
  refine RC.sr ?_
  refine as_ (vb false) rfl rfl ?_
  refine RL.nt ?_
  refine RC.rb ?_
  refine thenQ_r ?_
  obtain rfl := oi hb
  exact ⟨rfl, fin1 rfl rfl ⟨rfl, hw.drop 6 rfl⟩⟩
 ·intro r σ w e hK
  subst e
  refine thenQ_r ?_
  obtain rfl := oi hb
  exact hK
 intro s32 σ w e hJ
 subst e
 rw [Fo.cs_go] at hb
 obtain ⟨ha, hw⟩ := hJ
 obtain ⟨τ, rfl⟩ := ha.ups
 refine thenQ_n ?_
 refine RC.sr ?_
 refine as_ (vb true) rfl rfl ?_
 refine RL.nt ?_
 refine RC.ret ?_
 obtain rfl := oi hb
 exact fin1 rfl rfl ⟨rfl, hw.drop 2 rfl⟩
def slices_Equal_string_R (E : World) (Γ : List HP) (res : Bool) (v : Value) (w : World) : Prop := v = (vb res) ∧ Holds E w Γ
def slices_Equal_string_K (E : World) (Γ : List HP) (r : Bool) (σ : Nat → Value) (w : World) : Prop := finQ Tryz.prog 26 Tryz.f22 (slices_Equal_string_R E Γ r) .ret σ w
theorem slices_Equal_string_ok (N : Nat) {E w : World} {Γ : List HP} {i0 : Nat} {v0 : Value} {p0 : (List Str)} {i1 : Nat} {v1 : Value} {p1 : (List Str)} {res : Bool} (hw : Holds E w Γ) (h0 : Γ[i0]? = some (rd v0 p0)) (h1 : Γ[i1]? = some (rd v1 p1)) (hb : slices_Equal_string N p0 p1 = some res) :
    Calls Tryz.prog 22 [v0, v1].toArray w (Ret (slices_Equal_string_R E Γ res)) := by
 unfold slices_Equal_string at hb
 refine enter Tryz.func22 rfl rfl (Nat.le_of_ble_eq_true rfl) ?_
 have hw := hw.dup (i := i0 + 0) h0
 have hw := hw.dup (i := i1 + 1) h1
 refine RC.sr ?_
 refine as_ (vb false) rfl rfl ?_
 refine RL.nq ?_
 refine RC.sr ?_
 refine mv v0 rfl rfl ?_
 refine RL.len_rd (i := 1) (l := p0) trivial rfl hw rfl rfl un36 ?_
 refine mv v1 rfl rfl ?_
 refine RL.len_rd (i := 0) (l := p1) trivial rfl hw rfl rfl un36 ?_
 refine ic ((p0.length : Int)) ((p1.length : Int)) rfl rfl rfl rfl ?_
 refine RL.nt ?_
 refine RC.cond (b := ((p0.length : Int) != (p1.length : Int))) rfl (fun hc => ?_) (fun hc => ?_)
 ·replace hb := cT hc hb
  refine RC.sr ?_
  refine as_ (vb false) rfl rfl ?_
  refine RL.nt ?_
  refine RC.rt ?_
  obtain rfl := oi hb
  exact fin1 rfl rfl ⟨rfl, hw.drop 2 rfl⟩
 replace hb := cF hc hb
 refine RC.ss ?_
 refine RC.sr ?_
 refine mv v0 rfl rfl ?_
 refine RL.len_rd (i := 1) (l := p0) trivial rfl hw rfl rfl un36 ?_
 refine mv (vi 0) rfl rfl ?_
 refine RL.nt ?_
 obtain ⟨o45, hN, hb⟩ := bd hb
 refine RC.range (fun (k31 : Nat) (s32 : Unit) (σ : Nat → Value) (w : World) => agree σ [(0, v0), (1, v1), (12, (vi (p0.length : Int))), (13, (vi (k31 : Int)))] ∧ Holds E w ([rd v0 p0, rd v1 p1] ++ Γ)) (fun (s32 : Unit) (σ : Nat → Value) (w : World) => agree σ [] ∧ Holds E w ([rd v0 p0, rd v1 p1] ++ Γ)) (slices_Equal_string_K E Γ) hN ?_ ?_ ?_ ?_ ?_ 
 ·exact ⟨⟨rfl, rfl, rfl, rfl, trivial⟩, hw.pick 2 [1, 0] (new := [rd v0 p0, rd v1 p1]) rfl rfl (by decide) (by decide)⟩
 ·intro hm s32 σ w hI
  obtain ⟨ha, hw⟩ := hI
  obtain ⟨τ, rfl⟩ := ha.ups
  refine RC.sr ?_
  refine ic ((p0.length : Int)) ((p0.length : Int)) rfl rfl rfl rfl ?_
  refine RL.nq ?_
  refine RC.cond_f dge ?_
  refine RC.ex ?_
  exact ⟨rfl, trivial, hw.pick 2 [0, 1] (new := [rd v0 p0, rd v1 p1]) rfl rfl (by decide) (by decide)⟩
 ·intro hm k31 s32 fl σ w hk hI hb
  obtain ⟨ha, hw⟩ := hI
  obtain ⟨τ, rfl⟩ := ha.ups
  refine RC.sr ?_
  refine ic ((k31 : Int)) ((p0.length : Int)) rfl rfl rfl rfl ?_
  refine RL.nq ?_
  refine RC.cond_t (dlt hk) ?_
  refine RC.ss ?_
  refine RC.bs ?_
  refine mv (vi (k31 : Int)) rfl rfl ?_
  refine as_ (vi (k31 : Int)) rfl rfl ?_
  refine RL.nq ?_
  obtain ⟨x39, hx39, hb⟩ := bd hb
  obtain ⟨x41, hx41, hb⟩ := bd hb
  refine RC.drw mixed rfl (fun (D : Nat → Bool) (σ : Nat → Value) (w : World) => ∃ (v40 : Value) (v42 : Value), doneV D σ [(0, 16, v0), (1, 17, (vi (k31 : Int))), (2, 18, v40), (3, 19, (str x39)), (4, 20, v1), (5, 21, (vi (k31 : Int))), (6, 22, v42), (7, 23, (str x41)), (8, 24, (vb (!x39.eqb x41)))] ∧ agree σ [(0, v0), (1, v1), (5, (vi (k31 : Int))), (12, (vi (p0.length : Int))), (13, (vi (k31 : Int)))] ∧ Holds E w ([bif D 2 then (pt v40 x39) else junk, bif D 6 then (pt v42 x41) else junk, rd v0 p0, rd v1 p1] ++ Γ)) ?_ ⟨?_, ?_, ?_, ?_, ?_, ?_, ?_, ?_, ?_, trivial⟩ ?_
  ·have hw := hw.drew
   have hw := hw.junk
   have hw := hw.junk
   exact ⟨undef, undef, doneV.none, ⟨rfl, rfl, rfl, rfl, rfl, trivial⟩, hw⟩
  ·rintro D σ w hD hdep hcl ⟨v40, v42, hv, ha, hw⟩
   obtain ⟨τ, rfl⟩ := (ac (ha.at 0 rfl) az).ups
   refine mv v0 rfl rfl ?_
   refine RL.nil ?_
   exact ⟨rfl, v40, v42, hv.put 0 rfl rfl, ha.up rfl, hw⟩
  ·rintro D σ w hD hdep hcl ⟨v40, v42, hv, ha, hw⟩
   obtain ⟨τ, rfl⟩ := (ac (ha.at 2 rfl) az).ups
   refine mv (vi (k31 : Int)) rfl rfl ?_
   refine RL.nil ?_
   exact ⟨rfl, v40, v42, hv.put 1 rfl rfl, ha.up rfl, hw⟩
  ·rintro D σ w hD hdep hcl ⟨v40, v42, hv, ha, hw⟩
   obtain ⟨τ, rfl⟩ := (ac (hv.at 0 rfl (hdep.1 rfl)) (ac (hv.at 1 rfl (hdep.2.1 rfl)) az)).ups
   have hw := hw.selF (i := 0) rfl hD
   refine RL.ia_rd (i := 2) trivial rfl hw rfl rfl rfl sl36 hx39 fun v43 hw => ?_
   have hw := hw.pick 5 [0, 2, 3, 4] (new := [pt v43 x39, bif D 6 then (pt v42 x41) else junk, rd v0 p0, rd v1 p1]) rfl rfl (by decide) (by decide)
   have hw := hw.altT (i := 0) (b := true) rfl rfl (junk)
   refine RL.nil ?_
   exact ⟨rfl, v43, v42, hv.put 2 rfl rfl, ha.up rfl, hw⟩
  ·rintro D σ w hD hdep hcl ⟨v40, v42, hv, ha, hw⟩
   obtain ⟨τ, rfl⟩ := (ac (hv.at 2 rfl (hdep.1 rfl)) az).ups
   have hw := hw.selT (i := 0) rfl (hdep.1 rfl)
   refine RL.load_pts (i := 0) (y := x39) trivial rfl hw rfl rfl ty9 ?_
   have hw := hw.altT (i := 0) (b := D 2) rfl (hdep.1 rfl) (junk)
   refine RL.nil ?_
   exact ⟨rfl, v40, v42, hv.put 3 rfl rfl, ha.up rfl, hw⟩
  ·rintro D σ w hD hdep hcl ⟨v40, v42, hv, ha, hw⟩
   obtain ⟨τ, rfl⟩ := (ac (ha.at 1 rfl) az).ups
   refine mv v1 rfl rfl ?_
   refine RL.nil ?_
   exact ⟨rfl, v40, v42, hv.put 4 rfl rfl, ha.up rfl, hw⟩
  ·rintro D σ w hD hdep hcl ⟨v40, v42, hv, ha, hw⟩
   obtain ⟨τ, rfl⟩ := (ac (ha.at 2 rfl) az).ups
   refine mv (vi (k31 : Int)) rfl rfl ?_
   refine RL.nil ?_
   exact ⟨rfl, v40, v42, hv.put 5 rfl rfl, ha.up rfl, hw⟩
  ·rintro D σ w hD hdep hcl ⟨v40, v42, hv, ha, hw⟩
   obtain ⟨τ, rfl⟩ := (ac (hv.at 4 rfl (hdep.1 rfl)) (ac (hv.at 5 rfl (hdep.2.1 rfl)) az)).ups
   have hw := hw.selF (i := 1) rfl hD
   refine RL.ia_rd (i := 3) trivial rfl hw rfl rfl rfl sl36 hx41 fun v44 hw => ?_
   have hw := hw.pick 5 [1, 0, 3, 4] (new := [bif D 2 then (pt v40 x39) else junk, pt v44 x41, rd v0 p0, rd v1 p1]) rfl rfl (by decide) (by decide)
   have hw := hw.altT (i := 1) (b := true) rfl rfl (junk)
   refine RL.nil ?_
   exact ⟨rfl, v40, v44, hv.put 6 rfl rfl, ha.up rfl, hw⟩
  ·rintro D σ w hD hdep hcl ⟨v40, v42, hv, ha, hw⟩
   obtain ⟨τ, rfl⟩ := (ac (hv.at 6 rfl (hdep.1 rfl)) az).ups
   have hw := hw.selT (i := 1) rfl (hdep.1 rfl)
   refine RL.load_pts (i := 1) (y := x41) trivial rfl hw rfl rfl ty9 ?_
   have hw := hw.altT (i := 1) (b := D 6) rfl (hdep.1 rfl) (junk)
   refine RL.nil ?_
   exact ⟨rfl, v40, v42, hv.put 7 rfl rfl, ha.up rfl, hw⟩
  ·rintro D σ w hD hdep hcl ⟨v40, v42, hv, ha, hw⟩
   obtain ⟨τ, rfl⟩ := (ac (hv.at 3 rfl (hdep.1 rfl)) (ac (hv.at 7 rfl (hdep.2.1 rfl)) az)).ups
   refine RL.scmp (a := x39) (b := x41) trivial rfl rfl rfl rfl ?_
   refine RL.nil ?_
   exact ⟨rfl, v40, v42, hv.put 8 rfl rfl, ha.up rfl, hw⟩
  rintro D σ w hall ⟨v40, v42, hv, ha, hw⟩
  rw [hall 2 (by decide), hall 6 (by decide)] at hw
  obtain ⟨τ, rfl⟩ := (ac (hv.at 8 rfl (hall 8 (by decide))) (ac (ha.at 0 rfl) (ac (ha.at 1 rfl) (ac (ha.at 2 rfl) (ac (ha.at 3 rfl) (ac (ha.at 4 rfl) az)))))).ups
  refine thenQ_n ?_
  refine RC.cond (b := (!x39.eqb x41)) rfl (fun hc => ?_) (fun hc => ?_)
  rotate_left
  ·replace hb := cF hc hb
   refine RC.skip ?_
   refine blkQ_n ?_
   refine thenQ_n ?_
   refine RC.region ?_
   refine RL.inc trivial rfl hk hm rfl rfl ?_
   refine mv (vi ((k31 + 1 : Nat) : Int)) rfl rfl ?_
   refine RL.nil ?_
   obtain rfl := oi hb
   exact ⟨rfl, ⟨rfl, rfl, rfl, rfl, trivial⟩, hw.pick 4 [2, 3] (new := [rd v0 p0, rd v1 p1]) rfl rfl (by decide) (by decide)⟩
  replace hb := cT hc hb
  refine RC.sr ?_
  refine as_ (vb false) rfl rfl ?_
  refine RL.nt ?_
  refine RC.rb ?_
  refine thenQ_r ?_
  obtain rfl := oi hb
  exact ⟨rfl, fin1 rfl rfl ⟨rfl, hw.drop 4 rfl⟩⟩
 ·intro r σ w e hK
  subst e
  refine thenQ_r ?_
  obtain rfl := oi hb
  exact hK
 intro s32 σ w e hJ
 subst e
 rw [Fo.cs_go] at hb
 obtain ⟨ha, hw⟩ := hJ
 obtain ⟨τ, rfl⟩ := ha.ups
 refine thenQ_n ?_
 refine RC.sr ?_
 refine as_ (vb true) rfl rfl ?_
 refine RL.nt ?_
 refine RC.ret ?_
 obtain rfl := oi hb
 exact fin1 rfl rfl ⟨rfl, hw.drop 2 rfl⟩
end Go.Gk
