/-
  Printed by gen.py: Go functions as plain functions, and that they are.
-/
import Derived.Test.YtfkpknhicijjbaaT
import Derived.Test.YtfkpknhicijjbaaS
import Derived.Test.YtfkpknhicijjbaaF1
set_option linter.unusedVariables false
set_option linter.unusedSimpArgs false
set_option linter.unusedSectionVars false
set_option maxRecDepth 100000
set_option maxHeartbeats 4000000

namespace Go.Gk
open Go Go.Proofs
def shape_SetOf_R (E : World) (Γ : List HP) (res : (List shape_Band)) (v : Value) (w : World) : Prop := Holds E w (own 83 v res :: Γ)
def shape_SetOf_K (E : World) (Γ : List HP) (r : (List shape_Band)) (σ : Nat → Value) (w : World) : Prop := finQ Try.prog 83 Try.f15 (shape_SetOf_R E Γ r) .ret σ w
theorem shape_SetOf_ok (N : Nat) {E w : World} {Γ : List HP} {i0 : Nat} {v0 : Value} {p0 : (List Rect)} {res : (List shape_Band)} (hw : Holds E w Γ) (h0 : Γ[i0]? = some (rd v0 p0)) (hb : shape_SetOf N p0 = some res) :
    Calls Try.prog 15 [v0].toArray w (Ret (shape_SetOf_R E Γ res)) := by
 unfold shape_SetOf at hb
 refine enter Try.func15 rfl rfl (Nat.le_of_ble_eq_true rfl) ?_
 have hw := hw.dup (i := i0 + 0) h0
 refine RC.sr ?_
 refine as_ (.slice none 0 0) rfl rfl ?_
 refine RL.ns ?_
 refine mv v0 rfl rfl ?_
 obtain ⟨x31, hx31, hb⟩ := bd hb
 refine RL.call trivial rfl fn30 [v0] rfl (Calls_ret (slices_Clone_Rect_ok N  (i0 := 0) hw rfl hx31) ?_)
 rintro v32 w hw
 refine as_ v32 rfl rfl ?_
 refine RL.ns ?_
 refine mv v32 rfl rfl ?_
 obtain ⟨x33, hx33, hb⟩ := bd hb
 have hw := hw.pull (i := 0) rfl
 refine RL.call trivial rfl fn31 [v32, (.func (.func 32) #[] #[])] rfl (Calls_ret (sort_ok (α := Rect) Try.lay31 rfl ty27.isA ty27.sz fn32 (fun hw hi hj hr => shape_SetOf_c1_ok N hw hi hj hr) hw hx33) ?_)
 rintro _ w ⟨rfl, hw⟩
 refine RL.ns ?_
 refine RL.alloc_bc trivial rfl hw zc75 rfl fun b34 w hw => ?_
 refine RL.nq ?_
 refine RC.sr ?_
 refine mv v32 rfl rfl ?_
 refine RL.len_own (i := 1) (l := x33) trivial rfl hw rfl rfl un38 ?_
 refine mv (vi 0) rfl rfl ?_
 refine RL.nt ?_
 obtain ⟨s36, hN, hb⟩ := bd hb
 refine RC.fold (fun (k35 : Nat) (s36 : (List Int)) (σ : Nat → Value) (w : World) => ∃ v51 : Value, agree σ [(0, v32), (3, (vp b34 0)), (14, v32), (15, (vi (x33.length : Int))), (16, (vi (k35 : Int)))] ∧ Holds E w ([own 27 v32 x33, bc 75 b34 [v51], own 3 v51 s36] ++ Γ)) (fun (s36 : (List Int)) (σ : Nat → Value) (w : World) => ∃ v52 : Value, agree σ [(0, v32), (3, (vp b34 0))] ∧ Holds E w ([own 27 v32 x33, bc 75 b34 [v52], own 3 v52 s36] ++ Γ)) hN ?_ ?_ ?_ ?_
 ·have hw := hw.own_nil Int 3
  exact ⟨(.slice none 0 0), ⟨rfl, rfl, rfl, rfl, rfl, trivial⟩, hw.pick 5 [2, 1, 0] (new := [own 27 v32 x33, bc 75 b34 [(.slice none 0 0)], own 3 (.slice none 0 0) ([] : (List Int))]) rfl rfl (by decide) (by decide)⟩
 ·intro hm s36 σ w hI
  obtain ⟨v60, ha, hw⟩ := hI
  obtain ⟨τ, rfl⟩ := ha.ups
  refine RC.sr ?_
  refine ic ((x33.length : Int)) ((x33.length : Int)) rfl rfl rfl rfl ?_
  refine RL.nq ?_
  refine RC.cond_f dge ?_
  refine RC.ex ?_
  exact ⟨rfl, v60, ⟨rfl, rfl, trivial⟩, hw.pick 3 [0, 1, 2] (new := [own 27 v32 x33, bc 75 b34 [v60], own 3 v60 s36]) rfl rfl (by decide) (by decide)⟩
 ·intro hm k35 s36 s' σ w hk hI hb
  obtain ⟨v53, ha, hw⟩ := hI
  obtain ⟨τ, rfl⟩ := ha.ups
  refine RC.sr ?_
  refine ic ((k35 : Int)) ((x33.length : Int)) rfl rfl rfl rfl ?_
  refine RL.nq ?_
  refine RC.cond_t (dlt hk) ?_
  refine RC.ss ?_
  refine RC.bs ?_
  obtain ⟨x54, hx54, hb⟩ := bd hb
  refine RL.ia_ownA (i := 0) trivial rfl hw rfl rfl rfl sl38 hx54 ?_
  refine RL.load_el (i := 0) (f := (fun x => x)) trivial rfl hw rfl (elp hw (i := 0) rfl hx54 0) rfl (idx_some hx54).2.1 Fd.self ty27 fun v55 hw => ?_
  refine RL.alloc trivial rfl hw ze27.z fun b56 w hw => ?_
  refine RL.store_raw (i := 0) (j := 1) trivial hw rfl rfl rfl rfl ty27 rfl fun w hw => ?_
  refine RL.nt ?_
  refine RC.region ?_
  refine RL.load_bc (i := 3) (v := v53) trivial rfl hw rfl rfl rfl ty75 ?_
  refine RL.fa_b trivial rfl rfl fa27_1 ?_
  refine RL.load_bfs (i := 0) (f := (fun x => x.Y0)) trivial rfl hw rfl rfl fd_Rect_1 ty3 ?_
  refine RL.fa_b trivial rfl rfl fa27_3 ?_
  refine RL.load_bfs (i := 0) (f := (fun x => x.Y1)) trivial rfl hw rfl rfl fd_Rect_3 ty3 ?_
  have hw := hw.sc (γ := Int) x54.Y0
  have hw := hw.sc (γ := Int) x54.Y1
  refine RL.bslice (l := ([x54.Y0, x54.Y1] : (List Int))) trivial rfl hw [(vi x54.Y0), (vi x54.Y1)] rfl rfl rfl sl75 ze3 (fun M hs g => ⟨(g.sat 1 _ rfl).1, ⟨(g.sat 0 _ rfl).1, trivial⟩⟩) fun v57 w hw => ?_
  have hw := hw.freeze (i := 0) rfl
  obtain ⟨x58, hx58, hb⟩ := bd hb
  refine RL.app (i := 7) (j := 0) trivial rfl hw rfl rfl rfl rfl el75 hx58 fun v59 w hw => ?_
  refine RL.store_bc (i := 6) (v := v59) trivial hw rfl rfl rfl rfl (one_own hw (i := 7) rfl) ty75 fun w hw => ?_
  refine RL.nil ?_
  refine blkQ_n ?_
  refine thenQ_n ?_
  refine RC.region ?_
  refine RL.inc trivial rfl hk hm rfl rfl ?_
  refine mv (vi ((k35 + 1 : Nat) : Int)) rfl rfl ?_
  refine RL.nil ?_
  obtain rfl := oi hb
  exact ⟨rfl, v59, ⟨rfl, rfl, rfl, rfl, rfl, trivial⟩, hw.pick 8 [5, 6, 7] (new := [own 27 v32 x33, bc 75 b34 [v59], own 3 v59 x58]) rfl rfl (by decide) (by decide)⟩
 intro σ w hJ
 obtain ⟨v52, ha, hw⟩ := hJ
 obtain ⟨τ, rfl⟩ := ha.ups
 refine thenQ_n ?_
 refine RC.sr ?_
 refine RL.load_bc (i := 1) (v := v52) trivial rfl hw rfl rfl rfl ty75 ?_
 obtain ⟨x61, hx61, hb⟩ := bd hb
 have hw := hw.pull (i := 2) rfl
 refine RL.call trivial rfl fn33 [v52] rfl (Calls_ret (sortI_ok Try.lay33 hw hx61) ?_)
 rintro _ w ⟨rfl, hw⟩
 refine RL.ns ?_
 refine RL.load_bc (i := 2) (v := v52) trivial rfl hw rfl rfl rfl ty75 ?_
 have hw := hw.pull (i := 0) rfl
 obtain ⟨x62, hx62, hb⟩ := bd hb
 refine RL.call trivial rfl fn34 [v52] rfl (Calls_ret (slices_Compact_int_ok N   hw  hx62) ?_)
 rintro v63 w hw
 refine RL.store_bc (i := 3) (v := v63) trivial hw rfl rfl rfl rfl (one_own hw (i := 0) rfl) ty75 fun w hw => ?_
 refine RL.ns ?_
 refine as_ (.slice none 0 0) rfl rfl ?_
 refine RL.ns ?_
 refine as_ (.slice none 0 0) rfl rfl ?_
 refine RL.ns ?_
 refine as_ (vi 0) rfl rfl ?_
 refine RL.nq ?_
 refine RC.sr ?_
 refine RL.alloc trivial rfl hw ze3.z fun b64 w hw => ?_
 have hw := hw.sc (γ := Int) 0
 refine RL.store_raw (i := 1) (j := 0) trivial hw rfl rfl rfl rfl ty3 rfl fun w hw => ?_
 refine RL.nt ?_
 have hw := hw.freeze (i := 2) rfl
 have hw := hw.close_bc (i := 5) (x := x62) rfl (fun M hs g => (rd_one rfl (g.sat 2 _ rfl).1))
 have hw := hw.freeze_bx (i := 5) rfl
 have hw := hw.own_nil shape_Band 83
 have hw := hw.own_nil Rect 27
 obtain ⟨o350, hN, hb⟩ := bd hb
 refine RC.iter (fun (s66 : (List shape_Band) × (List Rect) × Int × Int) (σ : Nat → Value) (w : World) => ∃ (v253 : Value) (v254 : Value) (b255 : Nat), agree σ [(0, v32), (3, (vp b34 0)), (6, v253), (7, v254), (8, (vi s66.2.2.1)), (9, (vp b255 0))] ∧ Holds E w ([own 27 v32 x33, pt (vp b34 0) x62, own 83 v253 s66.1, own 27 v254 s66.2.1, bx 3 b255 s66.2.2.2] ++ Γ)) (fun (s66 : (List shape_Band) × (List Rect) × Int × Int) (σ : Nat → Value) (w : World) => ∃ v256 : Value, agree σ [(6, v256)] ∧ Holds E w ([own 27 v32 x33, pt (vp b34 0) x62, own 83 v256 s66.1] ++ Γ)) (fun (r : Empty) (_ : Nat → Value) (_ : World) => r.elim) hN ?_ ?_ ?_ ?_ 
 ·exact ⟨(.slice none 0 0), (.slice none 0 0), b64, ⟨rfl, rfl, rfl, rfl, rfl, rfl, trivial⟩, hw.pick 9 [6, 7, 1, 0, 3] (new := [own 27 v32 x33, pt (vp b34 0) x62, own 83 (.slice none 0 0) ([] : (List shape_Band)), own 27 (.slice none 0 0) ([] : (List Rect)), bx 3 b64 0]) rfl rfl (by decide) (by decide)⟩
 ·intro s66 fl σ w hI hb
  obtain ⟨v257, v258, b259, ha, hw⟩ := hI
  obtain ⟨τ, rfl⟩ := ha.ups
  refine RC.seq ?_
  refine RC.sr ?_
  refine RL.load_bfs (i := 4) (f := (fun x => x)) trivial rfl hw rfl rfl Fd.self ty3 ?_
  refine RL.iar (a := s66.2.2.2) (b := 1) trivial rfl rfl rfl rfl ?_
  refine RL.load_pt (i := 1) (x := x62) trivial rfl hw rfl rfl ty75 fun v260 hw => ?_
  refine RL.len_rd (i := 0) (l := x62) trivial rfl hw rfl rfl un75 ?_
  refine ic ((IntKind.wrap .i64 (s66.2.2.2 + 1))) ((x62.length : Int)) rfl rfl rfl rfl ?_
  refine RL.nt ?_
  refine RC.cond (b := (decide ((IntKind.wrap .i64 (s66.2.2.2 + 1)) < (x62.length : Int)))) rfl (fun hc => ?_) (fun hc => ?_)
  rotate_left
  ·replace hb := cF hc hb
   refine RC.ex ?_
   obtain rfl := oi hb
   exact ⟨rfl, v257, ⟨rfl, trivial⟩, hw.pick 6 [1, 2, 3] (new := [own 27 v32 x33, pt (vp b34 0) x62, own 83 v257 s66.1]) rfl rfl (by decide) (by decide)⟩
  replace hb := cT hc hb
  refine RC.ss ?_
  refine RC.bs ?_
  refine mv v258 rfl rfl ?_
  have hw := hw.freeze_bx (i := 5) rfl
  refine RL.makeFunc trivial rfl [(vp b34 0), (vp b259 0)] rfl ?_
  have hw := hw.pull (i := 4) rfl
  obtain ⟨x261, hx261, hb⟩ := bd hb
  refine RL.call trivial rfl fn35 [v258, (.func (.func 36) #[] #[(vp b34 0), (vp b259 0)])] rfl (Calls_ret (slices_DeleteFunc_Rect_ok N   hw ⟨36, [(vp b34 0), (vp b259 0)], rfl, fn36, fun w Γl v y0 r i hw hi hr => by exact Calls_ret (shape_SetOf_c2_ok N (i0 := i) (i1 := Γl.length + 2) (i2 := Γl.length + 5) hw hi (up_get rfl) (up_get rfl) hr) fun _ _ h => h⟩ hx261) ?_)
  rintro v262 w hw
  refine as_ v262 rfl rfl ?_
  refine RL.nq ?_
  obtain ⟨o349, hN, hb⟩ := bd hb
  refine RC.iter (fun (s264 : (List Rect) × Int) (σ : Nat → Value) (w : World) => ∃ v307 : Value, agree σ [(0, v32), (3, (vp b34 0)), (6, v257), (7, v307), (8, (vi s264.2)), (9, (vp b259 0))] ∧ Holds E w ([own 27 v32 x33, pt (vp b34 0) x62, own 83 v257 s66.1, pt (vp b259 0) s66.2.2.2, own 27 v307 s264.1] ++ Γ)) (fun (s264 : (List Rect) × Int) (σ : Nat → Value) (w : World) => ∃ v308 : Value, agree σ [(0, v32), (3, (vp b34 0)), (6, v257), (7, v308), (8, (vi s264.2)), (9, (vp b259 0))] ∧ Holds E w ([own 27 v32 x33, pt (vp b34 0) x62, own 83 v257 s66.1, pt (vp b259 0) s66.2.2.2, own 27 v308 s264.1] ++ Γ)) (fun (r : Empty) (_ : Nat → Value) (_ : World) => r.elim) hN ?_ ?_ ?_ ?_ 
  ·exact ⟨v262, ⟨rfl, rfl, rfl, rfl, rfl, rfl, trivial⟩, hw.pick 7 [2, 3, 4, 6, 0] (new := [own 27 v32 x33, pt (vp b34 0) x62, own 83 v257 s66.1, pt (vp b259 0) s66.2.2.2, own 27 v262 x261]) rfl rfl (by decide) (by decide)⟩
  ·intro s264 fl σ w hI hb
   obtain ⟨v309, ha, hw⟩ := hI
   obtain ⟨τ, rfl⟩ := ha.ups
   refine RC.seq ?_
   refine RC.seq ?_
   obtain ⟨s317, hj, hb⟩ := bd hb
   refine RC.jn (fun (s317 : Bool) (σ : Nat → Value) (w : World) => agree σ [(0, v32), (3, (vp b34 0)), (6, v257), (7, v309), (8, (vi s264.2)), (9, (vp b259 0)), (57, (vb s317))] ∧ Holds E w ([own 27 v32 x33, pt (vp b34 0) x62, own 83 v257 s66.1, own 27 v309 s264.1, pt (vp b259 0) s66.2.2.2] ++ Γ)) s317 ?_ ?_
   ·rcases Bool.eq_false_or_eq_true (decide (s264.2 < (x33.length : Int))) with hg318 | hg318
    rotate_left
    ·replace hj := cF hg318 hj
     refine RC.drw mixed rfl (fun (D : Nat → Bool) (σ : Nat → Value) (w : World) => doneV D σ [(0, 42, (vi s264.2)), (1, 43, v32), (2, 44, (vi (x33.length : Int))), (3, 45, (vb (decide (s264.2 < (x33.length : Int))))), (4, 46, (vb (decide (s264.2 < (x33.length : Int))))), (5, 47, undef), (6, 48, undef), (7, 49, undef), (8, 50, undef), (9, 51, undef), (10, 52, undef), (11, 53, undef), (12, 54, undef), (13, 55, undef), (14, 56, undef), (15, 57, (vb false))] ∧ agree σ [(0, v32), (3, (vp b34 0)), (6, v257), (7, v309), (8, (vi s264.2)), (9, (vp b259 0))] ∧ Holds E w ([own 27 v32 x33, pt (vp b34 0) x62, own 83 v257 s66.1, pt (vp b259 0) s66.2.2.2, own 27 v309 s264.1] ++ Γ)) ?_ ⟨?_, ?_, ?_, ?_, ?_, ?_, ?_, ?_, ?_, ?_, ?_, ?_, ?_, ?_, ?_, ?_, trivial⟩ ?_
     ·have hw := hw.drew
      exact ⟨doneV.none, ⟨rfl, rfl, rfl, rfl, rfl, rfl, trivial⟩, hw⟩
     ·rintro D σ w hD hdep hcl ⟨hv, ha, hw⟩
      obtain ⟨τ, rfl⟩ := (ac (ha.at 4 rfl) az).ups
      refine mv (vi s264.2) rfl rfl ?_
      refine RL.nil ?_
      exact ⟨rfl, hv.put 0 rfl rfl, ha.up rfl, hw⟩
     ·rintro D σ w hD hdep hcl ⟨hv, ha, hw⟩
      obtain ⟨τ, rfl⟩ := (ac (ha.at 0 rfl) az).ups
      refine mv v32 rfl rfl ?_
      refine RL.nil ?_
      exact ⟨rfl, hv.put 1 rfl rfl, ha.up rfl, hw⟩
     ·rintro D σ w hD hdep hcl ⟨hv, ha, hw⟩
      obtain ⟨τ, rfl⟩ := (ac (hv.at 1 rfl (hdep.1 rfl)) az).ups
      refine RL.len_own (i := 0) (l := x33) trivial rfl hw rfl rfl un38 ?_
      refine RL.nil ?_
      exact ⟨rfl, hv.put 2 rfl rfl, ha.up rfl, hw⟩
     ·rintro D σ w hD hdep hcl ⟨hv, ha, hw⟩
      obtain ⟨τ, rfl⟩ := (ac (hv.at 0 rfl (hdep.1 rfl)) (ac (hv.at 2 rfl (hdep.2.1 rfl)) az)).ups
      refine ic (s264.2) ((x33.length : Int)) rfl rfl rfl rfl ?_
      refine RL.nil ?_
      exact ⟨rfl, hv.put 3 rfl rfl, ha.up rfl, hw⟩
     ·rintro D σ w hD hdep hcl ⟨hv, ha, hw⟩
      obtain ⟨τ, rfl⟩ := (ac (hv.at 3 rfl (hdep.1 rfl)) az).ups
      refine mv (vb (decide (s264.2 < (x33.length : Int)))) rfl rfl ?_
      refine RL.nil ?_
      exact ⟨rfl, hv.put 4 rfl rfl, ha.up rfl, hw⟩
     ·rintro D σ w hD hdep hcl ⟨hv, ha, hw⟩
      obtain ⟨τ, rfl⟩ := (ac (hv.at 4 rfl (hdep.1 rfl)) (ac (ha.at 0 rfl) az)).ups
      refine sk rfl (.inl (cb hg318)) rfl ?_
      refine RL.nil ?_
      exact ⟨rfl, hv.put 5 rfl rfl, ha.up rfl, hw⟩
     ·rintro D σ w hD hdep hcl ⟨hv, ha, hw⟩
      obtain ⟨τ, rfl⟩ := (ac (hv.at 4 rfl (hdep.1 rfl)) (ac (ha.at 4 rfl) az)).ups
      refine sk rfl (.inl (cb hg318)) rfl ?_
      refine RL.nil ?_
      exact ⟨rfl, hv.put 6 rfl rfl, ha.up rfl, hw⟩
     ·rintro D σ w hD hdep hcl ⟨hv, ha, hw⟩
      obtain ⟨τ, rfl⟩ := (ac (hv.at 4 rfl (hdep.2.2.1 rfl)) (ac (hv.at 5 rfl (hdep.1 rfl)) (ac (hv.at 6 rfl (hdep.2.1 rfl)) az))).ups
      refine sk rfl (.inl (cb hg318)) rfl ?_
      refine RL.nil ?_
      exact ⟨rfl, hv.put 7 rfl rfl, ha.up rfl, hw⟩
     ·rintro D σ w hD hdep hcl ⟨hv, ha, hw⟩
      obtain ⟨τ, rfl⟩ := (ac (hv.at 4 rfl (hdep.2.1 rfl)) (ac (hv.at 7 rfl (hdep.1 rfl)) az)).ups
      refine sk rfl (.inl (cb hg318)) rfl ?_
      refine RL.nil ?_
      exact ⟨rfl, hv.put 8 rfl rfl, ha.up rfl, hw⟩
     ·rintro D σ w hD hdep hcl ⟨hv, ha, hw⟩
      obtain ⟨τ, rfl⟩ := (ac (hv.at 4 rfl (hdep.2.1 rfl)) (ac (hv.at 8 rfl (hdep.1 rfl)) az)).ups
      refine sk rfl (.inl (cb hg318)) rfl ?_
      refine RL.nil ?_
      exact ⟨rfl, hv.put 9 rfl rfl, ha.up rfl, hw⟩
     ·rintro D σ w hD hdep hcl ⟨hv, ha, hw⟩
      obtain ⟨τ, rfl⟩ := (ac (hv.at 4 rfl (hdep.1 rfl)) (ac (ha.at 1 rfl) az)).ups
      refine sk rfl (.inl (cb hg318)) rfl ?_
      refine RL.nil ?_
      exact ⟨rfl, hv.put 10 rfl rfl, ha.up rfl, hw⟩
     ·rintro D σ w hD hdep hcl ⟨hv, ha, hw⟩
      obtain ⟨τ, rfl⟩ := (ac (hv.at 4 rfl (hdep.1 rfl)) (ac (ha.at 5 rfl) az)).ups
      refine sk rfl (.inl (cb hg318)) rfl ?_
      refine RL.nil ?_
      exact ⟨rfl, hv.put 11 rfl rfl, ha.up rfl, hw⟩
     ·rintro D σ w hD hdep hcl ⟨hv, ha, hw⟩
      obtain ⟨τ, rfl⟩ := (ac (hv.at 4 rfl (hdep.2.2.1 rfl)) (ac (hv.at 10 rfl (hdep.1 rfl)) (ac (hv.at 11 rfl (hdep.2.1 rfl)) az))).ups
      refine sk rfl (.inl (cb hg318)) rfl ?_
      refine RL.nil ?_
      exact ⟨rfl, hv.put 12 rfl rfl, ha.up rfl, hw⟩
     ·rintro D σ w hD hdep hcl ⟨hv, ha, hw⟩
      obtain ⟨τ, rfl⟩ := (ac (hv.at 4 rfl (hdep.2.1 rfl)) (ac (hv.at 12 rfl (hdep.1 rfl)) az)).ups
      refine sk rfl (.inl (cb hg318)) rfl ?_
      refine RL.nil ?_
      exact ⟨rfl, hv.put 13 rfl rfl, ha.up rfl, hw⟩
     ·rintro D σ w hD hdep hcl ⟨hv, ha, hw⟩
      obtain ⟨τ, rfl⟩ := (ac (hv.at 4 rfl (hdep.2.2.1 rfl)) (ac (hv.at 9 rfl (hdep.1 rfl)) (ac (hv.at 13 rfl (hdep.2.1 rfl)) az))).ups
      refine sk rfl (.inl (cb hg318)) rfl ?_
      refine RL.nil ?_
      exact ⟨rfl, hv.put 14 rfl rfl, ha.up rfl, hw⟩
     ·rintro D σ w hD hdep hcl ⟨hv, ha, hw⟩
      obtain ⟨τ, rfl⟩ := (ac (hv.at 4 rfl (hdep.1 rfl)) (ac (hv.at 14 rfl (hdep.2.1 rfl)) az)).ups
      refine RL.pick (b := (decide (s264.2 < (x33.length : Int)))) (v := (vb false)) trivial rfl rfl (by rw [hg318]; rfl) ?_
      refine RL.nil ?_
      exact ⟨rfl, hv.put 15 rfl rfl, ha.up rfl, hw⟩
     rintro D σ w hall ⟨hv, ha, hw⟩
     obtain ⟨τ, rfl⟩ := (ac (hv.at 15 rfl (hall 15 (by decide))) (ac (ha.at 0 rfl) (ac (ha.at 1 rfl) (ac (ha.at 2 rfl) (ac (ha.at 3 rfl) (ac (ha.at 4 rfl) (ac (ha.at 5 rfl) az))))))).ups
     obtain rfl := oi hj
     exact ⟨rfl, ⟨rfl, rfl, rfl, rfl, rfl, rfl, rfl, trivial⟩, hw.pick 5 [0, 1, 2, 4, 3] (new := [own 27 v32 x33, pt (vp b34 0) x62, own 83 v257 s66.1, own 27 v309 s264.1, pt (vp b259 0) s66.2.2.2]) rfl rfl (by decide) (by decide)⟩
    replace hj := cT hg318 hj
    obtain ⟨x319, hx319, hj⟩ := bd hj
    obtain ⟨x321, hx321, hj⟩ := bd hj
    refine RC.drw mixed rfl (fun (D : Nat → Bool) (σ : Nat → Value) (w : World) => ∃ (v320 : Value) (v322 : Value), doneV D σ [(0, 42, (vi s264.2)), (1, 43, v32), (2, 44, (vi (x33.length : Int))), (3, 45, (vb (decide (s264.2 < (x33.length : Int))))), (4, 46, (vb (decide (s264.2 < (x33.length : Int))))), (5, 47, v32), (6, 48, (vi s264.2)), (7, 49, (elA v32 (Int.toNat s264.2) 4 0)), (8, 50, (elA v32 (Int.toNat s264.2) 4 1)), (9, 51, (vi x319.Y0)), (10, 52, v320), (11, 53, (vi s66.2.2.2)), (12, 54, v322), (13, 55, (vi x321)), (14, 56, (vb (decide (x319.Y0 ≤ x321)))), (15, 57, (vb (decide (x319.Y0 ≤ x321))))] ∧ agree σ [(0, v32), (3, (vp b34 0)), (6, v257), (7, v309), (8, (vi s264.2)), (9, (vp b259 0))] ∧ Holds E w ([bif D 10 then (rd v320 x62) else junk, bif D 12 then (pt v322 x321) else junk, own 27 v32 x33, pt (vp b34 0) x62, own 83 v257 s66.1, pt (vp b259 0) s66.2.2.2, own 27 v309 s264.1] ++ Γ)) ?_ ⟨?_, ?_, ?_, ?_, ?_, ?_, ?_, ?_, ?_, ?_, ?_, ?_, ?_, ?_, ?_, ?_, trivial⟩ ?_
    ·have hw := hw.drew
     have hw := hw.junk
     have hw := hw.junk
     exact ⟨undef, undef, doneV.none, ⟨rfl, rfl, rfl, rfl, rfl, rfl, trivial⟩, hw⟩
    ·rintro D σ w hD hdep hcl ⟨v320, v322, hv, ha, hw⟩
     obtain ⟨τ, rfl⟩ := (ac (ha.at 4 rfl) az).ups
     refine mv (vi s264.2) rfl rfl ?_
     refine RL.nil ?_
     exact ⟨rfl, v320, v322, hv.put 0 rfl rfl, ha.up rfl, hw⟩
    ·rintro D σ w hD hdep hcl ⟨v320, v322, hv, ha, hw⟩
     obtain ⟨τ, rfl⟩ := (ac (ha.at 0 rfl) az).ups
     refine mv v32 rfl rfl ?_
     refine RL.nil ?_
     exact ⟨rfl, v320, v322, hv.put 1 rfl rfl, ha.up rfl, hw⟩
    ·rintro D σ w hD hdep hcl ⟨v320, v322, hv, ha, hw⟩
     obtain ⟨τ, rfl⟩ := (ac (hv.at 1 rfl (hdep.1 rfl)) az).ups
     refine RL.len_own (i := 2) (l := x33) trivial rfl hw rfl rfl un38 ?_
     refine RL.nil ?_
     exact ⟨rfl, v320, v322, hv.put 2 rfl rfl, ha.up rfl, hw⟩
    ·rintro D σ w hD hdep hcl ⟨v320, v322, hv, ha, hw⟩
     obtain ⟨τ, rfl⟩ := (ac (hv.at 0 rfl (hdep.1 rfl)) (ac (hv.at 2 rfl (hdep.2.1 rfl)) az)).ups
     refine ic (s264.2) ((x33.length : Int)) rfl rfl rfl rfl ?_
     refine RL.nil ?_
     exact ⟨rfl, v320, v322, hv.put 3 rfl rfl, ha.up rfl, hw⟩
    ·rintro D σ w hD hdep hcl ⟨v320, v322, hv, ha, hw⟩
     obtain ⟨τ, rfl⟩ := (ac (hv.at 3 rfl (hdep.1 rfl)) az).ups
     refine mv (vb (decide (s264.2 < (x33.length : Int)))) rfl rfl ?_
     refine RL.nil ?_
     exact ⟨rfl, v320, v322, hv.put 4 rfl rfl, ha.up rfl, hw⟩
    ·rintro D σ w hD hdep hcl ⟨v320, v322, hv, ha, hw⟩
     obtain ⟨τ, rfl⟩ := (ac (hv.at 4 rfl (hdep.1 rfl)) (ac (ha.at 0 rfl) az)).ups
     refine RL.move (v := v32) ⟨_, rfl, cb hg318⟩ rfl rfl ?_
     refine RL.nil ?_
     exact ⟨rfl, v320, v322, hv.put 5 rfl rfl, ha.up rfl, hw⟩
    ·rintro D σ w hD hdep hcl ⟨v320, v322, hv, ha, hw⟩
     obtain ⟨τ, rfl⟩ := (ac (hv.at 4 rfl (hdep.1 rfl)) (ac (ha.at 4 rfl) az)).ups
     refine RL.move (v := (vi s264.2)) ⟨_, rfl, cb hg318⟩ rfl rfl ?_
     refine RL.nil ?_
     exact ⟨rfl, v320, v322, hv.put 6 rfl rfl, ha.up rfl, hw⟩
    ·rintro D σ w hD hdep hcl ⟨v320, v322, hv, ha, hw⟩
     obtain ⟨τ, rfl⟩ := (ac (hv.at 4 rfl (hdep.2.2.1 rfl)) (ac (hv.at 5 rfl (hdep.1 rfl)) (ac (hv.at 6 rfl (hdep.2.1 rfl)) az))).ups
     refine RL.ia_ownA (i := 2) ⟨_, rfl, cb hg318⟩ rfl hw rfl rfl rfl sl38 hx319 ?_
     refine RL.nil ?_
     exact ⟨rfl, v320, v322, hv.put 7 rfl rfl, ha.up rfl, hw⟩
    ·rintro D σ w hD hdep hcl ⟨v320, v322, hv, ha, hw⟩
     obtain ⟨τ, rfl⟩ := (ac (hv.at 4 rfl (hdep.2.1 rfl)) (ac (hv.at 7 rfl (hdep.1 rfl)) az)).ups
     refine RL.fa_elA (α := Rect) ⟨_, rfl, cb hg318⟩ rfl rfl (elp hw (i := 2) rfl hx319 0) fa27_1 ?_
     refine RL.nil ?_
     exact ⟨rfl, v320, v322, hv.put 8 rfl rfl, ha.up rfl, hw⟩
    ·rintro D σ w hD hdep hcl ⟨v320, v322, hv, ha, hw⟩
     obtain ⟨τ, rfl⟩ := (ac (hv.at 4 rfl (hdep.2.1 rfl)) (ac (hv.at 8 rfl (hdep.1 rfl)) az)).ups
     refine RL.load_els (i := 2) (f := (fun x => x.Y0)) ⟨_, rfl, cb hg318⟩ rfl hw rfl (elp hw (i := 2) rfl hx319 1) rfl (idx_some hx319).2.1 fd_Rect_1 ty3 ?_
     refine RL.nil ?_
     exact ⟨rfl, v320, v322, hv.put 9 rfl rfl, ha.up rfl, hw⟩
    ·rintro D σ w hD hdep hcl ⟨v320, v322, hv, ha, hw⟩
     obtain ⟨τ, rfl⟩ := (ac (hv.at 4 rfl (hdep.1 rfl)) (ac (ha.at 1 rfl) az)).ups
     have hw := hw.selF (i := 0) rfl hD
     refine RL.load_pt (i := 3) (x := x62) ⟨_, rfl, cb hg318⟩ rfl hw rfl rfl ty75 fun v323 hw => ?_
     have hw := hw.pick 8 [0, 2, 3, 4, 5, 6, 7] (new := [rd v323 x62, bif D 12 then (pt v322 x321) else junk, own 27 v32 x33, pt (vp b34 0) x62, own 83 v257 s66.1, pt (vp b259 0) s66.2.2.2, own 27 v309 s264.1]) rfl rfl (by decide) (by decide)
     have hw := hw.altT (i := 0) (b := true) rfl rfl (junk)
     refine RL.nil ?_
     exact ⟨rfl, v323, v322, hv.put 10 rfl rfl, ha.up rfl, hw⟩
    ·rintro D σ w hD hdep hcl ⟨v320, v322, hv, ha, hw⟩
     obtain ⟨τ, rfl⟩ := (ac (hv.at 4 rfl (hdep.1 rfl)) (ac (ha.at 5 rfl) az)).ups
     refine RL.load_pts (i := 5) (y := s66.2.2.2) ⟨_, rfl, cb hg318⟩ rfl hw rfl rfl ty3 ?_
     refine RL.nil ?_
     exact ⟨rfl, v320, v322, hv.put 11 rfl rfl, ha.up rfl, hw⟩
    ·rintro D σ w hD hdep hcl ⟨v320, v322, hv, ha, hw⟩
     obtain ⟨τ, rfl⟩ := (ac (hv.at 4 rfl (hdep.2.2.1 rfl)) (ac (hv.at 10 rfl (hdep.1 rfl)) (ac (hv.at 11 rfl (hdep.2.1 rfl)) az))).ups
     have hw := hw.selT (i := 0) rfl (hdep.1 rfl)
     have hw := hw.selF (i := 1) rfl hD
     refine RL.ia_rd (i := 0) ⟨_, rfl, cb hg318⟩ rfl hw rfl rfl rfl sl75 hx321 fun v324 hw => ?_
     have hw := hw.pick 8 [1, 0, 3, 4, 5, 6, 7] (new := [rd v320 x62, pt v324 x321, own 27 v32 x33, pt (vp b34 0) x62, own 83 v257 s66.1, pt (vp b259 0) s66.2.2.2, own 27 v309 s264.1]) rfl rfl (by decide) (by decide)
     have hw := hw.altT (i := 0) (b := D 10) rfl (hdep.1 rfl) (junk)
     have hw := hw.altT (i := 1) (b := true) rfl rfl (junk)
     refine RL.nil ?_
     exact ⟨rfl, v320, v324, hv.put 12 rfl rfl, ha.up rfl, hw⟩
    ·rintro D σ w hD hdep hcl ⟨v320, v322, hv, ha, hw⟩
     obtain ⟨τ, rfl⟩ := (ac (hv.at 4 rfl (hdep.2.1 rfl)) (ac (hv.at 12 rfl (hdep.1 rfl)) az)).ups
     have hw := hw.selT (i := 1) rfl (hdep.1 rfl)
     refine RL.load_pts (i := 1) (y := x321) ⟨_, rfl, cb hg318⟩ rfl hw rfl rfl ty3 ?_
     have hw := hw.altT (i := 1) (b := D 12) rfl (hdep.1 rfl) (junk)
     refine RL.nil ?_
     exact ⟨rfl, v320, v322, hv.put 13 rfl rfl, ha.up rfl, hw⟩
    ·rintro D σ w hD hdep hcl ⟨v320, v322, hv, ha, hw⟩
     obtain ⟨τ, rfl⟩ := (ac (hv.at 4 rfl (hdep.2.2.1 rfl)) (ac (hv.at 9 rfl (hdep.1 rfl)) (ac (hv.at 13 rfl (hdep.2.1 rfl)) az))).ups
     refine RL.icmp (a := x319.Y0) (b := x321) ⟨_, rfl, cb hg318⟩ rfl rfl rfl rfl ?_
     refine RL.nil ?_
     exact ⟨rfl, v320, v322, hv.put 14 rfl rfl, ha.up rfl, hw⟩
    ·rintro D σ w hD hdep hcl ⟨v320, v322, hv, ha, hw⟩
     obtain ⟨τ, rfl⟩ := (ac (hv.at 4 rfl (hdep.1 rfl)) (ac (hv.at 14 rfl (hdep.2.1 rfl)) az)).ups
     refine RL.pick (b := (decide (s264.2 < (x33.length : Int)))) (v := (vb (decide (x319.Y0 ≤ x321)))) trivial rfl rfl (by rw [hg318]; rfl) ?_
     refine RL.nil ?_
     exact ⟨rfl, v320, v322, hv.put 15 rfl rfl, ha.up rfl, hw⟩
    rintro D σ w hall ⟨v320, v322, hv, ha, hw⟩
    rw [hall 10 (by decide), hall 12 (by decide)] at hw
    obtain ⟨τ, rfl⟩ := (ac (hv.at 15 rfl (hall 15 (by decide))) (ac (ha.at 0 rfl) (ac (ha.at 1 rfl) (ac (ha.at 2 rfl) (ac (ha.at 3 rfl) (ac (ha.at 4 rfl) (ac (ha.at 5 rfl) az))))))).ups
    obtain rfl := oi hj
    exact ⟨rfl, ⟨rfl, rfl, rfl, rfl, rfl, rfl, rfl, trivial⟩, hw.pick 7 [2, 3, 4, 6, 5] (new := [own 27 v32 x33, pt (vp b34 0) x62, own 83 v257 s66.1, own 27 v309 s264.1, pt (vp b259 0) s66.2.2.2]) rfl rfl (by decide) (by decide)⟩
   rintro σ w ⟨ha, hw⟩
   obtain ⟨τ, rfl⟩ := ha.ups
   refine thenQ_n ?_
   refine RC.cond (b := s317) rfl (fun hc => ?_) (fun hc => ?_)
   rotate_left
   ·replace hb := cF hc hb
    refine RC.ex ?_
    obtain rfl := oi hb
    exact ⟨rfl, v309, ⟨rfl, rfl, rfl, rfl, rfl, rfl, trivial⟩, hw.pick 5 [0, 1, 2, 4, 3] (new := [own 27 v32 x33, pt (vp b34 0) x62, own 83 v257 s66.1, pt (vp b259 0) s66.2.2.2, own 27 v309 s264.1]) rfl rfl (by decide) (by decide)⟩
   replace hb := cT hc hb
   refine RC.sn ?_
   refine RC.block ?_
   refine RC.region ?_
   refine mv v309 rfl rfl ?_
   refine mv v32 rfl rfl ?_
   refine mv (vi s264.2) rfl rfl ?_
   obtain ⟨x325, hx325, hb⟩ := bd hb
   refine RL.ia_ownA (i := 0) trivial rfl hw rfl rfl rfl sl38 hx325 ?_
   refine RL.load_el (i := 0) (f := (fun x => x)) trivial rfl hw rfl (elp hw (i := 0) rfl hx325 0) rfl (idx_some hx325).2.1 Fd.self ty27 fun v326 hw => ?_
   refine RL.bslice (l := ([x325] : (List Rect))) trivial rfl hw [v326] rfl rfl rfl sl38 ze27 (fun M hs g => ⟨(g.sat 0 _ rfl).1, trivial⟩) fun v327 w hw => ?_
   have hw := hw.freeze (i := 0) rfl
   obtain ⟨x328, hx328, hb⟩ := bd hb
   refine RL.app (i := 5) (j := 0) trivial rfl hw rfl rfl rfl rfl el38 hx328 fun v329 w hw => ?_
   refine mv (vi s264.2) rfl rfl ?_
   refine RL.iar (a := s264.2) (b := 1) trivial rfl rfl rfl rfl ?_
   refine as_ v329 rfl rfl ?_
   refine as_ (vi (IntKind.wrap .i64 (s264.2 + 1))) rfl rfl ?_
   refine RL.nil ?_
   refine blkQ_n ?_
   obtain rfl := oi hb
   exact ⟨rfl, v329, ⟨rfl, rfl, rfl, rfl, rfl, rfl, trivial⟩, hw.pick 7 [2, 3, 4, 6, 5] (new := [own 27 v32 x33, pt (vp b34 0) x62, own 83 v257 s66.1, pt (vp b259 0) s66.2.2.2, own 27 v329 x328]) rfl rfl (by decide) (by decide)⟩
  ·intro r _ _ _ _
   exact r.elim
  intro s264 σ w e hJ
  subst e
  rw [Fo.cs_go] at hb
  obtain ⟨v308, ha, hw⟩ := hJ
  obtain ⟨τ, rfl⟩ := ha.ups
  refine thenQ_n ?_
  obtain ⟨x331, hx331, hb⟩ := bd hb
  obtain ⟨x334, hx334, hb⟩ := bd hb
  obtain ⟨x336, hx336, hb⟩ := bd hb
  obtain ⟨x339, hx339, hb⟩ := bd hb
  refine RC.drw mixed rfl (fun (D : Nat → Bool) (σ : Nat → Value) (w : World) => ∃ (v330 : Value) (v332 : Value) (v333 : Value) (v335 : Value) (v337 : Value) (v338 : Value) (v340 : Value), doneV D σ [(0, 67, v257), (1, 68, v330), (2, 69, (vi s66.2.2.2)), (3, 70, v332), (4, 71, (vi x331)), (5, 72, v333), (6, 73, (vi s66.2.2.2)), (7, 74, (vi (IntKind.wrap .i64 (s66.2.2.2 + 1)))), (8, 75, v335), (9, 76, (vi x334)), (10, 77, v308), (11, 78, v337), (12, 79, v338), (13, 80, v340), (14, 6, v340)] ∧ agree σ [(0, v32), (3, (vp b34 0)), (7, v308), (8, (vi s264.2)), (9, (vp b259 0))] ∧ oldV D σ [(14, 6, v257)] ∧ Holds E w ([bif D 1 then (rd v330 x62) else junk, bif D 3 then (pt v332 x331) else junk, bif D 5 then (rd v333 x62) else junk, bif D 8 then (pt v335 x334) else junk, bif D 12 then (rd v337 x336.1) else (bif D 11 then (own 3 v337 x336.1) else junk), bif D 12 then (rd v338 (⟨x331, x334, x336.1⟩ : shape_Band)) else junk, own 27 v32 x33, pt (vp b34 0) x62, bif D 13 then (own 83 v340 x339) else (own 83 v257 s66.1), pt (vp b259 0) s66.2.2.2, bif D 11 then (own 27 v308 x336.2) else (own 27 v308 s264.1)] ++ Γ)) ?_ ⟨?_, ?_, ?_, ?_, ?_, ?_, ?_, ?_, ?_, ?_, ?_, ?_, ?_, ?_, ?_, trivial⟩ ?_
  ·have hw := hw.drew
   have hw := hw.junk
   have hw := hw.junk
   have hw := hw.junk
   have hw := hw.junk
   have hw := hw.junk
   have hw := hw.junk
   exact ⟨undef, undef, undef, undef, undef, undef, undef, doneV.none, ⟨rfl, rfl, rfl, rfl, rfl, trivial⟩, ⟨fun _ => rfl, trivial⟩, hw⟩
  ·rintro D σ w hD hdep hcl ⟨v330, v332, v333, v335, v337, v338, v340, hv, ha, ho, hw⟩
   obtain ⟨τ, rfl⟩ := (ac (ho.at 0 rfl (nf (fun h => ft hD ((hcl 14 _ rfl h).2.2.1 rfl)))) az).ups
   refine mv v257 rfl rfl ?_
   refine RL.nil ?_
   exact ⟨rfl, v330, v332, v333, v335, v337, v338, v340, hv.put 0 rfl rfl, ha.up rfl, ho.up rfl, hw⟩
  ·rintro D σ w hD hdep hcl ⟨v330, v332, v333, v335, v337, v338, v340, hv, ha, ho, hw⟩
   obtain ⟨τ, rfl⟩ := (ac (ha.at 1 rfl) az).ups
   have hw := hw.selF (i := 0) rfl hD
   refine RL.load_pt (i := 7) (x := x62) trivial rfl hw rfl rfl ty75 fun v341 hw => ?_
   have hw := hw.pick 12 [0, 2, 3, 4, 5, 6, 7, 8, 9, 10, 11] (new := [rd v341 x62, bif D 3 then (pt v332 x331) else junk, bif D 5 then (rd v333 x62) else junk, bif D 8 then (pt v335 x334) else junk, bif D 12 then (rd v337 x336.1) else (bif D 11 then (own 3 v337 x336.1) else junk), bif D 12 then (rd v338 (⟨x331, x334, x336.1⟩ : shape_Band)) else junk, own 27 v32 x33, pt (vp b34 0) x62, bif D 13 then (own 83 v340 x339) else (own 83 v257 s66.1), pt (vp b259 0) s66.2.2.2, bif D 11 then (own 27 v308 x336.2) else (own 27 v308 s264.1)]) rfl rfl (by decide) (by decide)
   have hw := hw.altT (i := 0) (b := true) rfl rfl (junk)
   refine RL.nil ?_
   exact ⟨rfl, v341, v332, v333, v335, v337, v338, v340, hv.put 1 rfl rfl, ha.up rfl, ho.up rfl, hw⟩
  ·rintro D σ w hD hdep hcl ⟨v330, v332, v333, v335, v337, v338, v340, hv, ha, ho, hw⟩
   obtain ⟨τ, rfl⟩ := (ac (ha.at 4 rfl) az).ups
   refine RL.load_pts (i := 9) (y := s66.2.2.2) trivial rfl hw rfl rfl ty3 ?_
   refine RL.nil ?_
   exact ⟨rfl, v330, v332, v333, v335, v337, v338, v340, hv.put 2 rfl rfl, ha.up rfl, ho.up rfl, hw⟩
  ·rintro D σ w hD hdep hcl ⟨v330, v332, v333, v335, v337, v338, v340, hv, ha, ho, hw⟩
   obtain ⟨τ, rfl⟩ := (ac (hv.at 1 rfl (hdep.1 rfl)) (ac (hv.at 2 rfl (hdep.2.1 rfl)) az)).ups
   have hw := hw.selT (i := 0) rfl (hdep.1 rfl)
   have hw := hw.selF (i := 1) rfl hD
   refine RL.ia_rd (i := 0) trivial rfl hw rfl rfl rfl sl75 hx331 fun v342 hw => ?_
   have hw := hw.pick 12 [1, 0, 3, 4, 5, 6, 7, 8, 9, 10, 11] (new := [rd v330 x62, pt v342 x331, bif D 5 then (rd v333 x62) else junk, bif D 8 then (pt v335 x334) else junk, bif D 12 then (rd v337 x336.1) else (bif D 11 then (own 3 v337 x336.1) else junk), bif D 12 then (rd v338 (⟨x331, x334, x336.1⟩ : shape_Band)) else junk, own 27 v32 x33, pt (vp b34 0) x62, bif D 13 then (own 83 v340 x339) else (own 83 v257 s66.1), pt (vp b259 0) s66.2.2.2, bif D 11 then (own 27 v308 x336.2) else (own 27 v308 s264.1)]) rfl rfl (by decide) (by decide)
   have hw := hw.altT (i := 0) (b := D 1) rfl (hdep.1 rfl) (junk)
   have hw := hw.altT (i := 1) (b := true) rfl rfl (junk)
   refine RL.nil ?_
   exact ⟨rfl, v330, v342, v333, v335, v337, v338, v340, hv.put 3 rfl rfl, ha.up rfl, ho.up rfl, hw⟩
  ·rintro D σ w hD hdep hcl ⟨v330, v332, v333, v335, v337, v338, v340, hv, ha, ho, hw⟩
   obtain ⟨τ, rfl⟩ := (ac (hv.at 3 rfl (hdep.1 rfl)) az).ups
   have hw := hw.selT (i := 1) rfl (hdep.1 rfl)
   refine RL.load_pts (i := 1) (y := x331) trivial rfl hw rfl rfl ty3 ?_
   have hw := hw.altT (i := 1) (b := D 3) rfl (hdep.1 rfl) (junk)
   refine RL.nil ?_
   exact ⟨rfl, v330, v332, v333, v335, v337, v338, v340, hv.put 4 rfl rfl, ha.up rfl, ho.up rfl, hw⟩
  ·rintro D σ w hD hdep hcl ⟨v330, v332, v333, v335, v337, v338, v340, hv, ha, ho, hw⟩
   obtain ⟨τ, rfl⟩ := (ac (ha.at 1 rfl) az).ups
   have hw := hw.selF (i := 2) rfl hD
   refine RL.load_pt (i := 7) (x := x62) trivial rfl hw rfl rfl ty75 fun v343 hw => ?_
   have hw := hw.pick 12 [1, 2, 0, 4, 5, 6, 7, 8, 9, 10, 11] (new := [bif D 1 then (rd v330 x62) else junk, bif D 3 then (pt v332 x331) else junk, rd v343 x62, bif D 8 then (pt v335 x334) else junk, bif D 12 then (rd v337 x336.1) else (bif D 11 then (own 3 v337 x336.1) else junk), bif D 12 then (rd v338 (⟨x331, x334, x336.1⟩ : shape_Band)) else junk, own 27 v32 x33, pt (vp b34 0) x62, bif D 13 then (own 83 v340 x339) else (own 83 v257 s66.1), pt (vp b259 0) s66.2.2.2, bif D 11 then (own 27 v308 x336.2) else (own 27 v308 s264.1)]) rfl rfl (by decide) (by decide)
   have hw := hw.altT (i := 2) (b := true) rfl rfl (junk)
   refine RL.nil ?_
   exact ⟨rfl, v330, v332, v343, v335, v337, v338, v340, hv.put 5 rfl rfl, ha.up rfl, ho.up rfl, hw⟩
  ·rintro D σ w hD hdep hcl ⟨v330, v332, v333, v335, v337, v338, v340, hv, ha, ho, hw⟩
   obtain ⟨τ, rfl⟩ := (ac (ha.at 4 rfl) az).ups
   refine RL.load_pts (i := 9) (y := s66.2.2.2) trivial rfl hw rfl rfl ty3 ?_
   refine RL.nil ?_
   exact ⟨rfl, v330, v332, v333, v335, v337, v338, v340, hv.put 6 rfl rfl, ha.up rfl, ho.up rfl, hw⟩
  ·rintro D σ w hD hdep hcl ⟨v330, v332, v333, v335, v337, v338, v340, hv, ha, ho, hw⟩
   obtain ⟨τ, rfl⟩ := (ac (hv.at 6 rfl (hdep.1 rfl)) az).ups
   refine RL.iar (a := s66.2.2.2) (b := 1) trivial rfl rfl rfl rfl ?_
   refine RL.nil ?_
   exact ⟨rfl, v330, v332, v333, v335, v337, v338, v340, hv.put 7 rfl rfl, ha.up rfl, ho.up rfl, hw⟩
  ·rintro D σ w hD hdep hcl ⟨v330, v332, v333, v335, v337, v338, v340, hv, ha, ho, hw⟩
   obtain ⟨τ, rfl⟩ := (ac (hv.at 5 rfl (hdep.1 rfl)) (ac (hv.at 7 rfl (hdep.2.1 rfl)) az)).ups
   have hw := hw.selT (i := 2) rfl (hdep.1 rfl)
   have hw := hw.selF (i := 3) rfl hD
   refine RL.ia_rd (i := 2) trivial rfl hw rfl rfl rfl sl75 hx334 fun v344 hw => ?_
   have hw := hw.pick 12 [1, 2, 3, 0, 5, 6, 7, 8, 9, 10, 11] (new := [bif D 1 then (rd v330 x62) else junk, bif D 3 then (pt v332 x331) else junk, rd v333 x62, pt v344 x334, bif D 12 then (rd v337 x336.1) else (bif D 11 then (own 3 v337 x336.1) else junk), bif D 12 then (rd v338 (⟨x331, x334, x336.1⟩ : shape_Band)) else junk, own 27 v32 x33, pt (vp b34 0) x62, bif D 13 then (own 83 v340 x339) else (own 83 v257 s66.1), pt (vp b259 0) s66.2.2.2, bif D 11 then (own 27 v308 x336.2) else (own 27 v308 s264.1)]) rfl rfl (by decide) (by decide)
   have hw := hw.altT (i := 2) (b := D 5) rfl (hdep.1 rfl) (junk)
   have hw := hw.altT (i := 3) (b := true) rfl rfl (junk)
   refine RL.nil ?_
   exact ⟨rfl, v330, v332, v333, v344, v337, v338, v340, hv.put 8 rfl rfl, ha.up rfl, ho.up rfl, hw⟩
  ·rintro D σ w hD hdep hcl ⟨v330, v332, v333, v335, v337, v338, v340, hv, ha, ho, hw⟩
   obtain ⟨τ, rfl⟩ := (ac (hv.at 8 rfl (hdep.1 rfl)) az).ups
   have hw := hw.selT (i := 3) rfl (hdep.1 rfl)
   refine RL.load_pts (i := 3) (y := x334) trivial rfl hw rfl rfl ty3 ?_
   have hw := hw.altT (i := 3) (b := D 8) rfl (hdep.1 rfl) (junk)
   refine RL.nil ?_
   exact ⟨rfl, v330, v332, v333, v335, v337, v338, v340, hv.put 9 rfl rfl, ha.up rfl, ho.up rfl, hw⟩
  ·rintro D σ w hD hdep hcl ⟨v330, v332, v333, v335, v337, v338, v340, hv, ha, ho, hw⟩
   obtain ⟨τ, rfl⟩ := (ac (ha.at 2 rfl) az).ups
   refine mv v308 rfl rfl ?_
   refine RL.nil ?_
   exact ⟨rfl, v330, v332, v333, v335, v337, v338, v340, hv.put 10 rfl rfl, ha.up rfl, ho.up rfl, hw⟩
  ·rintro D σ w hD hdep hcl ⟨v330, v332, v333, v335, v337, v338, v340, hv, ha, ho, hw⟩
   obtain ⟨τ, rfl⟩ := (ac (hv.at 10 rfl (hdep.1 rfl)) az).ups
   have hw := hw.selF (i := 4) rfl (nf (fun h => ft hD ((hcl 12 _ rfl h).2.2.1 rfl)))
   have hw := hw.selF (i := 4) rfl hD
   have hw := hw.selF (i := 10) rfl hD
   have hw := hw.pull (i := 10) rfl
   refine RL.call trivial rfl fn38 [v308] rfl (Calls_ret (shape_stretches_ok N   hw  hx336) ?_)
   rintro v345 w hw
   have hw := hw.pick 13 [2, 3, 4, 5, 0, 7, 8, 9, 10, 11, 1] (new := [bif D 1 then (rd v330 x62) else junk, bif D 3 then (pt v332 x331) else junk, bif D 5 then (rd v333 x62) else junk, bif D 8 then (pt v335 x334) else junk, own 3 v345 x336.1, bif D 12 then (rd v338 (⟨x331, x334, x336.1⟩ : shape_Band)) else junk, own 27 v32 x33, pt (vp b34 0) x62, bif D 13 then (own 83 v340 x339) else (own 83 v257 s66.1), pt (vp b259 0) s66.2.2.2, own 27 v308 x336.2]) rfl rfl (by decide) (by decide)
   have hw := hw.altT (i := 4) (b := true) rfl rfl (junk)
   have hw := hw.altF (i := 4) (b := D 12) rfl (nf (fun h => ft hD ((hcl 12 _ rfl h).2.2.1 rfl))) (rd v345 x336.1)
   have hw := hw.altT (i := 10) (b := true) rfl rfl (own 27 v308 s264.1)
   refine RL.nil ?_
   exact ⟨rfl, v330, v332, v333, v335, v345, v338, v340, hv.put 11 rfl rfl, ha.up rfl, ho.up rfl, hw⟩
  ·rintro D σ w hD hdep hcl ⟨v330, v332, v333, v335, v337, v338, v340, hv, ha, ho, hw⟩
   obtain ⟨τ, rfl⟩ := (ac (hv.at 4 rfl (hdep.1 rfl)) (ac (hv.at 9 rfl (hdep.2.1 rfl)) (ac (hv.at 11 rfl (hdep.2.2.1 rfl)) az))).ups
   have hw := hw.selF (i := 4) rfl hD
   have hw := hw.selT (i := 4) rfl (hdep.2.2.1 rfl)
   have hw := hw.selF (i := 5) rfl hD
   have hw := hw.sc (γ := Int) x331
   have hw := hw.sc (γ := Int) x334
   have hw := hw.freeze (i := 6) rfl
   refine RL.build (y := (⟨x331, x334, x336.1⟩ : shape_Band)) trivial rfl hw [(0, (vi x331)), (1, (vi x334)), (2, v337)] rfl st83 rfl (fun M hs g => by have h := z_shape_Band M; exact Fills.cons (f := fun (x : shape_Band) y => { x with Y0 := y }) rfl h fs_shape_Band_0 (by decide) (g.sat 1 _ rfl).1 fun _ h => Fills.cons (f := fun (x : shape_Band) y => { x with Y1 := y }) rfl h fs_shape_Band_1 (by decide) (g.sat 0 _ rfl).1 fun _ h => Fills.cons (f := fun (x : shape_Band) y => { x with Xs := y }) rfl h fs_shape_Band_2 (by decide) (g.sat 6 _ rfl).1 fun _ h => Fills.nil h) fun v346 hw => ?_
   have hw := hw.pick 14 [3, 4, 5, 6, 7, 0, 9, 10, 11, 12, 13] (new := [bif D 1 then (rd v330 x62) else junk, bif D 3 then (pt v332 x331) else junk, bif D 5 then (rd v333 x62) else junk, bif D 8 then (pt v335 x334) else junk, rd v337 x336.1, rd v346 (⟨x331, x334, x336.1⟩ : shape_Band), own 27 v32 x33, pt (vp b34 0) x62, bif D 13 then (own 83 v340 x339) else (own 83 v257 s66.1), pt (vp b259 0) s66.2.2.2, bif D 11 then (own 27 v308 x336.2) else (own 27 v308 s264.1)]) rfl rfl (by decide) (by decide)
   have hw := hw.altT (i := 4) (b := true) rfl rfl (bif D 11 then (own 3 v337 x336.1) else junk)
   have hw := hw.altT (i := 5) (b := true) rfl rfl (junk)
   refine RL.nil ?_
   exact ⟨rfl, v330, v332, v333, v335, v337, v346, v340, hv.put 12 rfl rfl, ha.up rfl, ho.up rfl, hw⟩
  ·rintro D σ w hD hdep hcl ⟨v330, v332, v333, v335, v337, v338, v340, hv, ha, ho, hw⟩
   obtain ⟨τ, rfl⟩ := (ac (hv.at 0 rfl (hdep.1 rfl)) (ac (hv.at 12 rfl (hdep.2.1 rfl)) az)).ups
   have hw := hw.selT (i := 5) rfl (hdep.2.1 rfl)
   have hw := hw.selF (i := 8) rfl hD
   have hw := hw.pull (i := 8) rfl
   refine RL.call trivial rfl fn37 [v257, v338] rfl (Calls_ret (shape_Set_push_ok N  (i1 := 5) hw rfl hx339) ?_)
   rintro v347 w hw
   have hw := hw.pick 12 [1, 2, 3, 4, 5, 6, 7, 8, 0, 10, 11] (new := [bif D 1 then (rd v330 x62) else junk, bif D 3 then (pt v332 x331) else junk, bif D 5 then (rd v333 x62) else junk, bif D 8 then (pt v335 x334) else junk, bif D 12 then (rd v337 x336.1) else (bif D 11 then (own 3 v337 x336.1) else junk), rd v338 (⟨x331, x334, x336.1⟩ : shape_Band), own 27 v32 x33, pt (vp b34 0) x62, own 83 v347 x339, pt (vp b259 0) s66.2.2.2, bif D 11 then (own 27 v308 x336.2) else (own 27 v308 s264.1)]) rfl rfl (by decide) (by decide)
   have hw := hw.altT (i := 5) (b := D 12) rfl (hdep.2.1 rfl) (junk)
   have hw := hw.altT (i := 8) (b := true) rfl rfl (own 83 v257 s66.1)
   have hv := hv.re 14 rfl (v' := v347) (fun h => ft hD ((hcl 14 _ rfl h).1 rfl))
   refine RL.nil ?_
   exact ⟨rfl, v330, v332, v333, v335, v337, v338, v347, hv.put 13 rfl rfl, ha.up rfl, ho.up rfl, hw⟩
  ·rintro D σ w hD hdep hcl ⟨v330, v332, v333, v335, v337, v338, v340, hv, ha, ho, hw⟩
   obtain ⟨τ, rfl⟩ := (ac (hv.at 13 rfl (hdep.1 rfl)) az).ups
   refine as_ v340 rfl rfl ?_
   refine RL.nil ?_
   exact ⟨rfl, v330, v332, v333, v335, v337, v338, v340, hv.put 14 rfl rfl, ha.up rfl, ho.up rfl, hw⟩
  rintro D σ w hall ⟨v330, v332, v333, v335, v337, v338, v340, hv, ha, _, hw⟩
  rw [hall 1 (by decide), hall 3 (by decide), hall 5 (by decide), hall 8 (by decide), hall 11 (by decide), hall 12 (by decide), hall 13 (by decide)] at hw
  obtain ⟨τ, rfl⟩ := (ac (hv.at 14 rfl (hall 14 (by decide))) (ac (ha.at 0 rfl) (ac (ha.at 1 rfl) (ac (ha.at 2 rfl) (ac (ha.at 3 rfl) (ac (ha.at 4 rfl) az)))))).ups
  refine blkQ_n ?_
  refine thenQ_n ?_
  refine RC.seq ?_
  refine RC.sr ?_
  refine RL.load_pts (i := 9) (y := s66.2.2.2) trivial rfl hw rfl rfl ty3 ?_
  refine RL.nt ?_
  refine RC.region ?_
  refine RL.alloc trivial rfl hw ze3.z fun b348 w hw => ?_
  have hw := hw.sc (γ := Int) s66.2.2.2
  refine RL.store_raw (i := 1) (j := 0) trivial hw rfl rfl rfl rfl ty3 rfl fun w hw => ?_
  refine RL.nt ?_
  refine RC.region ?_
  refine RL.load_bfs (i := 1) (f := (fun x => x)) trivial rfl hw rfl rfl Fd.self ty3 ?_
  refine RL.iar (a := s66.2.2.2) (b := 1) trivial rfl rfl rfl rfl ?_
  have hw := hw.sc (γ := Int) (IntKind.wrap .i64 (s66.2.2.2 + 1))
  refine RL.store_bx (i := 2) (j := 0) trivial hw rfl rfl rfl rfl ty3 fun w hw => ?_
  refine RL.nil ?_
  obtain rfl := oi hb
  exact ⟨rfl, v340, v308, b348, ⟨rfl, rfl, rfl, rfl, rfl, rfl, trivial⟩, hw.pick 14 [9, 10, 11, 13, 2] (new := [own 27 v32 x33, pt (vp b34 0) x62, own 83 v340 x339, own 27 v308 x336.2, bx 3 b348 (IntKind.wrap .i64 (s66.2.2.2 + 1))]) rfl rfl (by decide) (by decide)⟩
 ·intro r _ _ _ _
  exact r.elim
 intro s66 σ w e hJ
 subst e
 rw [Fo.cs_go] at hb
 obtain ⟨v256, ha, hw⟩ := hJ
 obtain ⟨τ, rfl⟩ := ha.ups
 refine thenQ_n ?_
 refine RC.sr ?_
 refine mv v256 rfl rfl ?_
 refine as_ v256 rfl rfl ?_
 refine RL.nt ?_
 refine RC.ret ?_
 obtain rfl := oi hb
 exact fin1 rfl rfl (hw.pick 3 [2] (new := [own 83 v256 s66.1]) rfl rfl (by decide) (by decide))
def shape_Set_Around_R (E : World) (Γ : List HP) (res : Rect) (v : Value) (w : World) : Prop := Holds E w (rd v res :: Γ)
def shape_Set_Around_K (E : World) (Γ : List HP) (r : Rect) (σ : Nat → Value) (w : World) : Prop := finQ Try.prog 58 Try.f40 (shape_Set_Around_R E Γ r) .ret σ w
theorem shape_Set_Around_ok (N : Nat) {E w : World} {Γ : List HP} {i0 : Nat} {v0 : Value} {p0 : (List shape_Band)} {res : Rect} (hw : Holds E w Γ) (h0 : Γ[i0]? = some (rd v0 p0)) (hb : shape_Set_Around N p0 = some res) :
    Calls Try.prog 40 [v0].toArray w (Ret (shape_Set_Around_R E Γ res)) := by
 unfold shape_Set_Around at hb
 refine enter Try.func40 rfl rfl (Nat.le_of_ble_eq_true rfl) ?_
 have hw := hw.dup (i := i0 + 0) h0
 refine RC.sr ?_
 refine RL.alloc trivial rfl hw ze27.z fun b31 w hw => ?_
 refine RL.nq ?_
 obtain ⟨x32, hx32, hb⟩ := bd hb
 obtain ⟨x36, hx36, hb⟩ := bd hb
 obtain ⟨x38, hx38, hb⟩ := bd hb
 obtain ⟨x41, hx41, hb⟩ := bd hb
 obtain ⟨x45, hx45, hb⟩ := bd hb
 obtain ⟨x47, hx47, hb⟩ := bd hb
 refine RC.drw mixed rfl (fun (D : Nat → Bool) (σ : Nat → Value) (w : World) => ∃ (v33 : Value) (v34 : Value) (v35 : Value) (v37 : Value) (v39 : Value) (v40 : Value) (v42 : Value) (v43 : Value) (v44 : Value) (v46 : Value) (v48 : Value) (v49 : Value) (v50 : Value) (b51 : Nat), doneV D σ [(0, 6, v0), (1, 7, v33), (2, 8, v34), (3, 9, v35), (4, 10, v37), (5, 11, (vi x36)), (6, 12, v0), (7, 13, v39), (8, 14, v40), (9, 15, (vi x38.Y0)), (10, 16, v0), (11, 17, v42), (12, 18, v43), (13, 19, v44), (14, 20, v46), (15, 21, (vi x45)), (16, 22, v0), (17, 23, v0), (18, 24, (vi (p0.length : Int))), (19, 25, (vi (IntKind.wrap .i64 ((p0.length : Int) - 1)))), (20, 26, v48), (21, 27, v49), (22, 28, (vi x47.Y1)), (23, 29, v50), (24, 3, (vp b51 0))] ∧ agree σ [(0, v0), (2, (vp b31 0))] ∧ Holds E w ([bif D 1 then (pt v33 x32) else junk, bif D 2 then (pt v34 x32.Xs) else junk, bif D 3 then (rd v35 x32.Xs) else junk, bif D 4 then (pt v37 x36) else junk, bif D 7 then (pt v39 x38) else junk, bif D 8 then (pt v40 x38.Y0) else junk, bif D 11 then (pt v42 x41) else junk, bif D 12 then (pt v43 x41.Xs) else junk, bif D 13 then (rd v44 x41.Xs) else junk, bif D 14 then (pt v46 x45) else junk, bif D 20 then (pt v48 x47) else junk, bif D 21 then (pt v49 x47.Y1) else junk, bif D 23 then (rd v50 (⟨x36, x38.Y0, x45, x47.Y1⟩ : Rect)) else junk, bif D 25 then (bx 27 b51 (⟨x36, x38.Y0, x45, x47.Y1⟩ : Rect)) else (bif D 24 then (raw 27 b51 4) else junk), raw 27 b31 4, rd v0 p0] ++ Γ)) ?_ ⟨?_, ?_, ?_, ?_, ?_, ?_, ?_, ?_, ?_, ?_, ?_, ?_, ?_, ?_, ?_, ?_, ?_, ?_, ?_, ?_, ?_, ?_, ?_, ?_, ?_, ?_, trivial⟩ ?_
 ·have hw := hw.drew
  have hw := hw.junk
  have hw := hw.junk
  have hw := hw.junk
  have hw := hw.junk
  have hw := hw.junk
  have hw := hw.junk
  have hw := hw.junk
  have hw := hw.junk
  have hw := hw.junk
  have hw := hw.junk
  have hw := hw.junk
  have hw := hw.junk
  have hw := hw.junk
  have hw := hw.junk
  exact ⟨undef, undef, undef, undef, undef, undef, undef, undef, undef, undef, undef, undef, undef, 0, doneV.none, ⟨rfl, rfl, trivial⟩, hw⟩
 ·rintro D σ w hD hdep hcl ⟨v33, v34, v35, v37, v39, v40, v42, v43, v44, v46, v48, v49, v50, b51, hv, ha, hw⟩
  obtain ⟨τ, rfl⟩ := (ac (ha.at 0 rfl) az).ups
  refine mv v0 rfl rfl ?_
  refine RL.nil ?_
  exact ⟨rfl, v33, v34, v35, v37, v39, v40, v42, v43, v44, v46, v48, v49, v50, b51, hv.put 0 rfl rfl, ha.up rfl, hw⟩
 ·rintro D σ w hD hdep hcl ⟨v33, v34, v35, v37, v39, v40, v42, v43, v44, v46, v48, v49, v50, b51, hv, ha, hw⟩
  obtain ⟨τ, rfl⟩ := (ac (hv.at 0 rfl (hdep.1 rfl)) az).ups
  have hw := hw.selF (i := 0) rfl hD
  refine RL.ia_rd (i := 15) trivial rfl hw rfl rfl rfl sl53 hx32 fun v52 hw => ?_
  have hw := hw.pick 17 [0, 2, 3, 4, 5, 6, 7, 8, 9, 10, 11, 12, 13, 14, 15, 16] (new := [pt v52 x32, bif D 2 then (pt v34 x32.Xs) else junk, bif D 3 then (rd v35 x32.Xs) else junk, bif D 4 then (pt v37 x36) else junk, bif D 7 then (pt v39 x38) else junk, bif D 8 then (pt v40 x38.Y0) else junk, bif D 11 then (pt v42 x41) else junk, bif D 12 then (pt v43 x41.Xs) else junk, bif D 13 then (rd v44 x41.Xs) else junk, bif D 14 then (pt v46 x45) else junk, bif D 20 then (pt v48 x47) else junk, bif D 21 then (pt v49 x47.Y1) else junk, bif D 23 then (rd v50 (⟨x36, x38.Y0, x45, x47.Y1⟩ : Rect)) else junk, bif D 25 then (bx 27 b51 (⟨x36, x38.Y0, x45, x47.Y1⟩ : Rect)) else (bif D 24 then (raw 27 b51 4) else junk), raw 27 b31 4, rd v0 p0]) rfl rfl (by decide) (by decide)
  have hw := hw.altT (i := 0) (b := true) rfl rfl (junk)
  refine RL.nil ?_
  exact ⟨rfl, v52, v34, v35, v37, v39, v40, v42, v43, v44, v46, v48, v49, v50, b51, hv.put 1 rfl rfl, ha.up rfl, hw⟩
 ·rintro D σ w hD hdep hcl ⟨v33, v34, v35, v37, v39, v40, v42, v43, v44, v46, v48, v49, v50, b51, hv, ha, hw⟩
  obtain ⟨τ, rfl⟩ := (ac (hv.at 1 rfl (hdep.1 rfl)) az).ups
  have hw := hw.selT (i := 0) rfl (hdep.1 rfl)
  have hw := hw.selF (i := 1) rfl hD
  refine RL.fa_pt (i := 0) (f := fun (x : shape_Band) => x.Xs) trivial rfl hw rfl rfl fa83_2 fd_shape_Band_2 fun v53 hw => ?_
  have hw := hw.pick 17 [1, 0, 3, 4, 5, 6, 7, 8, 9, 10, 11, 12, 13, 14, 15, 16] (new := [pt v33 x32, pt v53 x32.Xs, bif D 3 then (rd v35 x32.Xs) else junk, bif D 4 then (pt v37 x36) else junk, bif D 7 then (pt v39 x38) else junk, bif D 8 then (pt v40 x38.Y0) else junk, bif D 11 then (pt v42 x41) else junk, bif D 12 then (pt v43 x41.Xs) else junk, bif D 13 then (rd v44 x41.Xs) else junk, bif D 14 then (pt v46 x45) else junk, bif D 20 then (pt v48 x47) else junk, bif D 21 then (pt v49 x47.Y1) else junk, bif D 23 then (rd v50 (⟨x36, x38.Y0, x45, x47.Y1⟩ : Rect)) else junk, bif D 25 then (bx 27 b51 (⟨x36, x38.Y0, x45, x47.Y1⟩ : Rect)) else (bif D 24 then (raw 27 b51 4) else junk), raw 27 b31 4, rd v0 p0]) rfl rfl (by decide) (by decide)
  have hw := hw.altT (i := 0) (b := D 1) rfl (hdep.1 rfl) (junk)
  have hw := hw.altT (i := 1) (b := true) rfl rfl (junk)
  refine RL.nil ?_
  exact ⟨rfl, v33, v53, v35, v37, v39, v40, v42, v43, v44, v46, v48, v49, v50, b51, hv.put 2 rfl rfl, ha.up rfl, hw⟩
 ·rintro D σ w hD hdep hcl ⟨v33, v34, v35, v37, v39, v40, v42, v43, v44, v46, v48, v49, v50, b51, hv, ha, hw⟩
  obtain ⟨τ, rfl⟩ := (ac (hv.at 2 rfl (hdep.1 rfl)) az).ups
  have hw := hw.selT (i := 1) rfl (hdep.1 rfl)
  have hw := hw.selF (i := 2) rfl hD
  refine RL.load_pt (i := 1) (x := x32.Xs) trivial rfl hw rfl rfl ty75 fun v54 hw => ?_
  have hw := hw.pick 17 [1, 2, 0, 4, 5, 6, 7, 8, 9, 10, 11, 12, 13, 14, 15, 16] (new := [bif D 1 then (pt v33 x32) else junk, pt v34 x32.Xs, rd v54 x32.Xs, bif D 4 then (pt v37 x36) else junk, bif D 7 then (pt v39 x38) else junk, bif D 8 then (pt v40 x38.Y0) else junk, bif D 11 then (pt v42 x41) else junk, bif D 12 then (pt v43 x41.Xs) else junk, bif D 13 then (rd v44 x41.Xs) else junk, bif D 14 then (pt v46 x45) else junk, bif D 20 then (pt v48 x47) else junk, bif D 21 then (pt v49 x47.Y1) else junk, bif D 23 then (rd v50 (⟨x36, x38.Y0, x45, x47.Y1⟩ : Rect)) else junk, bif D 25 then (bx 27 b51 (⟨x36, x38.Y0, x45, x47.Y1⟩ : Rect)) else (bif D 24 then (raw 27 b51 4) else junk), raw 27 b31 4, rd v0 p0]) rfl rfl (by decide) (by decide)
  have hw := hw.altT (i := 1) (b := D 2) rfl (hdep.1 rfl) (junk)
  have hw := hw.altT (i := 2) (b := true) rfl rfl (junk)
  refine RL.nil ?_
  exact ⟨rfl, v33, v34, v54, v37, v39, v40, v42, v43, v44, v46, v48, v49, v50, b51, hv.put 3 rfl rfl, ha.up rfl, hw⟩
 ·rintro D σ w hD hdep hcl ⟨v33, v34, v35, v37, v39, v40, v42, v43, v44, v46, v48, v49, v50, b51, hv, ha, hw⟩
  obtain ⟨τ, rfl⟩ := (ac (hv.at 3 rfl (hdep.1 rfl)) az).ups
  have hw := hw.selT (i := 2) rfl (hdep.1 rfl)
  have hw := hw.selF (i := 3) rfl hD
  refine RL.ia_rd (i := 2) trivial rfl hw rfl rfl rfl sl75 hx36 fun v55 hw => ?_
  have hw := hw.pick 17 [1, 2, 3, 0, 5, 6, 7, 8, 9, 10, 11, 12, 13, 14, 15, 16] (new := [bif D 1 then (pt v33 x32) else junk, bif D 2 then (pt v34 x32.Xs) else junk, rd v35 x32.Xs, pt v55 x36, bif D 7 then (pt v39 x38) else junk, bif D 8 then (pt v40 x38.Y0) else junk, bif D 11 then (pt v42 x41) else junk, bif D 12 then (pt v43 x41.Xs) else junk, bif D 13 then (rd v44 x41.Xs) else junk, bif D 14 then (pt v46 x45) else junk, bif D 20 then (pt v48 x47) else junk, bif D 21 then (pt v49 x47.Y1) else junk, bif D 23 then (rd v50 (⟨x36, x38.Y0, x45, x47.Y1⟩ : Rect)) else junk, bif D 25 then (bx 27 b51 (⟨x36, x38.Y0, x45, x47.Y1⟩ : Rect)) else (bif D 24 then (raw 27 b51 4) else junk), raw 27 b31 4, rd v0 p0]) rfl rfl (by decide) (by decide)
  have hw := hw.altT (i := 2) (b := D 3) rfl (hdep.1 rfl) (junk)
  have hw := hw.altT (i := 3) (b := true) rfl rfl (junk)
  refine RL.nil ?_
  exact ⟨rfl, v33, v34, v35, v55, v39, v40, v42, v43, v44, v46, v48, v49, v50, b51, hv.put 4 rfl rfl, ha.up rfl, hw⟩
 ·rintro D σ w hD hdep hcl ⟨v33, v34, v35, v37, v39, v40, v42, v43, v44, v46, v48, v49, v50, b51, hv, ha, hw⟩
  obtain ⟨τ, rfl⟩ := (ac (hv.at 4 rfl (hdep.1 rfl)) az).ups
  have hw := hw.selT (i := 3) rfl (hdep.1 rfl)
  refine RL.load_pts (i := 3) (y := x36) trivial rfl hw rfl rfl ty3 ?_
  have hw := hw.altT (i := 3) (b := D 4) rfl (hdep.1 rfl) (junk)
  refine RL.nil ?_
  exact ⟨rfl, v33, v34, v35, v37, v39, v40, v42, v43, v44, v46, v48, v49, v50, b51, hv.put 5 rfl rfl, ha.up rfl, hw⟩
 ·rintro D σ w hD hdep hcl ⟨v33, v34, v35, v37, v39, v40, v42, v43, v44, v46, v48, v49, v50, b51, hv, ha, hw⟩
  obtain ⟨τ, rfl⟩ := (ac (ha.at 0 rfl) az).ups
  refine mv v0 rfl rfl ?_
  refine RL.nil ?_
  exact ⟨rfl, v33, v34, v35, v37, v39, v40, v42, v43, v44, v46, v48, v49, v50, b51, hv.put 6 rfl rfl, ha.up rfl, hw⟩
 ·rintro D σ w hD hdep hcl ⟨v33, v34, v35, v37, v39, v40, v42, v43, v44, v46, v48, v49, v50, b51, hv, ha, hw⟩
  obtain ⟨τ, rfl⟩ := (ac (hv.at 6 rfl (hdep.1 rfl)) az).ups
  have hw := hw.selF (i := 4) rfl hD
  refine RL.ia_rd (i := 15) trivial rfl hw rfl rfl rfl sl53 hx38 fun v56 hw => ?_
  have hw := hw.pick 17 [1, 2, 3, 4, 0, 6, 7, 8, 9, 10, 11, 12, 13, 14, 15, 16] (new := [bif D 1 then (pt v33 x32) else junk, bif D 2 then (pt v34 x32.Xs) else junk, bif D 3 then (rd v35 x32.Xs) else junk, bif D 4 then (pt v37 x36) else junk, pt v56 x38, bif D 8 then (pt v40 x38.Y0) else junk, bif D 11 then (pt v42 x41) else junk, bif D 12 then (pt v43 x41.Xs) else junk, bif D 13 then (rd v44 x41.Xs) else junk, bif D 14 then (pt v46 x45) else junk, bif D 20 then (pt v48 x47) else junk, bif D 21 then (pt v49 x47.Y1) else junk, bif D 23 then (rd v50 (⟨x36, x38.Y0, x45, x47.Y1⟩ : Rect)) else junk, bif D 25 then (bx 27 b51 (⟨x36, x38.Y0, x45, x47.Y1⟩ : Rect)) else (bif D 24 then (raw 27 b51 4) else junk), raw 27 b31 4, rd v0 p0]) rfl rfl (by decide) (by decide)
  have hw := hw.altT (i := 4) (b := true) rfl rfl (junk)
  refine RL.nil ?_
  exact ⟨rfl, v33, v34, v35, v37, v56, v40, v42, v43, v44, v46, v48, v49, v50, b51, hv.put 7 rfl rfl, ha.up rfl, hw⟩
 ·rintro D σ w hD hdep hcl ⟨v33, v34, v35, v37, v39, v40, v42, v43, v44, v46, v48, v49, v50, b51, hv, ha, hw⟩
  obtain ⟨τ, rfl⟩ := (ac (hv.at 7 rfl (hdep.1 rfl)) az).ups
  have hw := hw.selT (i := 4) rfl (hdep.1 rfl)
  have hw := hw.selF (i := 5) rfl hD
  refine RL.fa_pt (i := 4) (f := fun (x : shape_Band) => x.Y0) trivial rfl hw rfl rfl fa83_0 fd_shape_Band_0 fun v57 hw => ?_
  have hw := hw.pick 17 [1, 2, 3, 4, 5, 0, 7, 8, 9, 10, 11, 12, 13, 14, 15, 16] (new := [bif D 1 then (pt v33 x32) else junk, bif D 2 then (pt v34 x32.Xs) else junk, bif D 3 then (rd v35 x32.Xs) else junk, bif D 4 then (pt v37 x36) else junk, pt v39 x38, pt v57 x38.Y0, bif D 11 then (pt v42 x41) else junk, bif D 12 then (pt v43 x41.Xs) else junk, bif D 13 then (rd v44 x41.Xs) else junk, bif D 14 then (pt v46 x45) else junk, bif D 20 then (pt v48 x47) else junk, bif D 21 then (pt v49 x47.Y1) else junk, bif D 23 then (rd v50 (⟨x36, x38.Y0, x45, x47.Y1⟩ : Rect)) else junk, bif D 25 then (bx 27 b51 (⟨x36, x38.Y0, x45, x47.Y1⟩ : Rect)) else (bif D 24 then (raw 27 b51 4) else junk), raw 27 b31 4, rd v0 p0]) rfl rfl (by decide) (by decide)
  have hw := hw.altT (i := 4) (b := D 7) rfl (hdep.1 rfl) (junk)
  have hw := hw.altT (i := 5) (b := true) rfl rfl (junk)
  refine RL.nil ?_
  exact ⟨rfl, v33, v34, v35, v37, v39, v57, v42, v43, v44, v46, v48, v49, v50, b51, hv.put 8 rfl rfl, ha.up rfl, hw⟩
 ·rintro D σ w hD hdep hcl ⟨v33, v34, v35, v37, v39, v40, v42, v43, v44, v46, v48, v49, v50, b51, hv, ha, hw⟩
  obtain ⟨τ, rfl⟩ := (ac (hv.at 8 rfl (hdep.1 rfl)) az).ups
  have hw := hw.selT (i := 5) rfl (hdep.1 rfl)
  refine RL.load_pts (i := 5) (y := x38.Y0) trivial rfl hw rfl rfl ty3 ?_
  have hw := hw.altT (i := 5) (b := D 8) rfl (hdep.1 rfl) (junk)
  refine RL.nil ?_
  exact ⟨rfl, v33, v34, v35, v37, v39, v40, v42, v43, v44, v46, v48, v49, v50, b51, hv.put 9 rfl rfl, ha.up rfl, hw⟩
 ·rintro D σ w hD hdep hcl ⟨v33, v34, v35, v37, v39, v40, v42, v43, v44, v46, v48, v49, v50, b51, hv, ha, hw⟩
  obtain ⟨τ, rfl⟩ := (ac (ha.at 0 rfl) az).ups
  refine mv v0 rfl rfl ?_
  refine RL.nil ?_
  exact ⟨rfl, v33, v34, v35, v37, v39, v40, v42, v43, v44, v46, v48, v49, v50, b51, hv.put 10 rfl rfl, ha.up rfl, hw⟩
 ·rintro D σ w hD hdep hcl ⟨v33, v34, v35, v37, v39, v40, v42, v43, v44, v46, v48, v49, v50, b51, hv, ha, hw⟩
  obtain ⟨τ, rfl⟩ := (ac (hv.at 10 rfl (hdep.1 rfl)) az).ups
  have hw := hw.selF (i := 6) rfl hD
  refine RL.ia_rd (i := 15) trivial rfl hw rfl rfl rfl sl53 hx41 fun v58 hw => ?_
  have hw := hw.pick 17 [1, 2, 3, 4, 5, 6, 0, 8, 9, 10, 11, 12, 13, 14, 15, 16] (new := [bif D 1 then (pt v33 x32) else junk, bif D 2 then (pt v34 x32.Xs) else junk, bif D 3 then (rd v35 x32.Xs) else junk, bif D 4 then (pt v37 x36) else junk, bif D 7 then (pt v39 x38) else junk, bif D 8 then (pt v40 x38.Y0) else junk, pt v58 x41, bif D 12 then (pt v43 x41.Xs) else junk, bif D 13 then (rd v44 x41.Xs) else junk, bif D 14 then (pt v46 x45) else junk, bif D 20 then (pt v48 x47) else junk, bif D 21 then (pt v49 x47.Y1) else junk, bif D 23 then (rd v50 (⟨x36, x38.Y0, x45, x47.Y1⟩ : Rect)) else junk, bif D 25 then (bx 27 b51 (⟨x36, x38.Y0, x45, x47.Y1⟩ : Rect)) else (bif D 24 then (raw 27 b51 4) else junk), raw 27 b31 4, rd v0 p0]) rfl rfl (by decide) (by decide)
  have hw := hw.altT (i := 6) (b := true) rfl rfl (junk)
  refine RL.nil ?_
  exact ⟨rfl, v33, v34, v35, v37, v39, v40, v58, v43, v44, v46, v48, v49, v50, b51, hv.put 11 rfl rfl, ha.up rfl, hw⟩
 ·rintro D σ w hD hdep hcl ⟨v33, v34, v35, v37, v39, v40, v42, v43, v44, v46, v48, v49, v50, b51, hv, ha, hw⟩
  obtain ⟨τ, rfl⟩ := (ac (hv.at 11 rfl (hdep.1 rfl)) az).ups
  have hw := hw.selT (i := 6) rfl (hdep.1 rfl)
  have hw := hw.selF (i := 7) rfl hD
  refine RL.fa_pt (i := 6) (f := fun (x : shape_Band) => x.Xs) trivial rfl hw rfl rfl fa83_2 fd_shape_Band_2 fun v59 hw => ?_
  have hw := hw.pick 17 [1, 2, 3, 4, 5, 6, 7, 0, 9, 10, 11, 12, 13, 14, 15, 16] (new := [bif D 1 then (pt v33 x32) else junk, bif D 2 then (pt v34 x32.Xs) else junk, bif D 3 then (rd v35 x32.Xs) else junk, bif D 4 then (pt v37 x36) else junk, bif D 7 then (pt v39 x38) else junk, bif D 8 then (pt v40 x38.Y0) else junk, pt v42 x41, pt v59 x41.Xs, bif D 13 then (rd v44 x41.Xs) else junk, bif D 14 then (pt v46 x45) else junk, bif D 20 then (pt v48 x47) else junk, bif D 21 then (pt v49 x47.Y1) else junk, bif D 23 then (rd v50 (⟨x36, x38.Y0, x45, x47.Y1⟩ : Rect)) else junk, bif D 25 then (bx 27 b51 (⟨x36, x38.Y0, x45, x47.Y1⟩ : Rect)) else (bif D 24 then (raw 27 b51 4) else junk), raw 27 b31 4, rd v0 p0]) rfl rfl (by decide) (by decide)
  have hw := hw.altT (i := 6) (b := D 11) rfl (hdep.1 rfl) (junk)
  have hw := hw.altT (i := 7) (b := true) rfl rfl (junk)
  refine RL.nil ?_
  exact ⟨rfl, v33, v34, v35, v37, v39, v40, v42, v59, v44, v46, v48, v49, v50, b51, hv.put 12 rfl rfl, ha.up rfl, hw⟩
 ·rintro D σ w hD hdep hcl ⟨v33, v34, v35, v37, v39, v40, v42, v43, v44, v46, v48, v49, v50, b51, hv, ha, hw⟩
  obtain ⟨τ, rfl⟩ := (ac (hv.at 12 rfl (hdep.1 rfl)) az).ups
  have hw := hw.selT (i := 7) rfl (hdep.1 rfl)
  have hw := hw.selF (i := 8) rfl hD
  refine RL.load_pt (i := 7) (x := x41.Xs) trivial rfl hw rfl rfl ty75 fun v60 hw => ?_
  have hw := hw.pick 17 [1, 2, 3, 4, 5, 6, 7, 8, 0, 10, 11, 12, 13, 14, 15, 16] (new := [bif D 1 then (pt v33 x32) else junk, bif D 2 then (pt v34 x32.Xs) else junk, bif D 3 then (rd v35 x32.Xs) else junk, bif D 4 then (pt v37 x36) else junk, bif D 7 then (pt v39 x38) else junk, bif D 8 then (pt v40 x38.Y0) else junk, bif D 11 then (pt v42 x41) else junk, pt v43 x41.Xs, rd v60 x41.Xs, bif D 14 then (pt v46 x45) else junk, bif D 20 then (pt v48 x47) else junk, bif D 21 then (pt v49 x47.Y1) else junk, bif D 23 then (rd v50 (⟨x36, x38.Y0, x45, x47.Y1⟩ : Rect)) else junk, bif D 25 then (bx 27 b51 (⟨x36, x38.Y0, x45, x47.Y1⟩ : Rect)) else (bif D 24 then (raw 27 b51 4) else junk), raw 27 b31 4, rd v0 p0]) rfl rfl (by decide) (by decide)
  have hw := hw.altT (i := 7) (b := D 12) rfl (hdep.1 rfl) (junk)
  have hw := hw.altT (i := 8) (b := true) rfl rfl (junk)
  refine RL.nil ?_
  exact ⟨rfl, v33, v34, v35, v37, v39, v40, v42, v43, v60, v46, v48, v49, v50, b51, hv.put 13 rfl rfl, ha.up rfl, hw⟩
 ·rintro D σ w hD hdep hcl ⟨v33, v34, v35, v37, v39, v40, v42, v43, v44, v46, v48, v49, v50, b51, hv, ha, hw⟩
  obtain ⟨τ, rfl⟩ := (ac (hv.at 13 rfl (hdep.1 rfl)) az).ups
  have hw := hw.selT (i := 8) rfl (hdep.1 rfl)
  have hw := hw.selF (i := 9) rfl hD
  refine RL.ia_rd (i := 8) trivial rfl hw rfl rfl rfl sl75 hx45 fun v61 hw => ?_
  have hw := hw.pick 17 [1, 2, 3, 4, 5, 6, 7, 8, 9, 0, 11, 12, 13, 14, 15, 16] (new := [bif D 1 then (pt v33 x32) else junk, bif D 2 then (pt v34 x32.Xs) else junk, bif D 3 then (rd v35 x32.Xs) else junk, bif D 4 then (pt v37 x36) else junk, bif D 7 then (pt v39 x38) else junk, bif D 8 then (pt v40 x38.Y0) else junk, bif D 11 then (pt v42 x41) else junk, bif D 12 then (pt v43 x41.Xs) else junk, rd v44 x41.Xs, pt v61 x45, bif D 20 then (pt v48 x47) else junk, bif D 21 then (pt v49 x47.Y1) else junk, bif D 23 then (rd v50 (⟨x36, x38.Y0, x45, x47.Y1⟩ : Rect)) else junk, bif D 25 then (bx 27 b51 (⟨x36, x38.Y0, x45, x47.Y1⟩ : Rect)) else (bif D 24 then (raw 27 b51 4) else junk), raw 27 b31 4, rd v0 p0]) rfl rfl (by decide) (by decide)
  have hw := hw.altT (i := 8) (b := D 13) rfl (hdep.1 rfl) (junk)
  have hw := hw.altT (i := 9) (b := true) rfl rfl (junk)
  refine RL.nil ?_
  exact ⟨rfl, v33, v34, v35, v37, v39, v40, v42, v43, v44, v61, v48, v49, v50, b51, hv.put 14 rfl rfl, ha.up rfl, hw⟩
 ·rintro D σ w hD hdep hcl ⟨v33, v34, v35, v37, v39, v40, v42, v43, v44, v46, v48, v49, v50, b51, hv, ha, hw⟩
  obtain ⟨τ, rfl⟩ := (ac (hv.at 14 rfl (hdep.1 rfl)) az).ups
  have hw := hw.selT (i := 9) rfl (hdep.1 rfl)
  refine RL.load_pts (i := 9) (y := x45) trivial rfl hw rfl rfl ty3 ?_
  have hw := hw.altT (i := 9) (b := D 14) rfl (hdep.1 rfl) (junk)
  refine RL.nil ?_
  exact ⟨rfl, v33, v34, v35, v37, v39, v40, v42, v43, v44, v46, v48, v49, v50, b51, hv.put 15 rfl rfl, ha.up rfl, hw⟩
 ·rintro D σ w hD hdep hcl ⟨v33, v34, v35, v37, v39, v40, v42, v43, v44, v46, v48, v49, v50, b51, hv, ha, hw⟩
  obtain ⟨τ, rfl⟩ := (ac (ha.at 0 rfl) az).ups
  refine mv v0 rfl rfl ?_
  refine RL.nil ?_
  exact ⟨rfl, v33, v34, v35, v37, v39, v40, v42, v43, v44, v46, v48, v49, v50, b51, hv.put 16 rfl rfl, ha.up rfl, hw⟩
 ·rintro D σ w hD hdep hcl ⟨v33, v34, v35, v37, v39, v40, v42, v43, v44, v46, v48, v49, v50, b51, hv, ha, hw⟩
  obtain ⟨τ, rfl⟩ := (ac (ha.at 0 rfl) az).ups
  refine mv v0 rfl rfl ?_
  refine RL.nil ?_
  exact ⟨rfl, v33, v34, v35, v37, v39, v40, v42, v43, v44, v46, v48, v49, v50, b51, hv.put 17 rfl rfl, ha.up rfl, hw⟩
 ·rintro D σ w hD hdep hcl ⟨v33, v34, v35, v37, v39, v40, v42, v43, v44, v46, v48, v49, v50, b51, hv, ha, hw⟩
  obtain ⟨τ, rfl⟩ := (ac (hv.at 17 rfl (hdep.1 rfl)) az).ups
  refine RL.len_rd (i := 15) (l := p0) trivial rfl hw rfl rfl un53 ?_
  refine RL.nil ?_
  exact ⟨rfl, v33, v34, v35, v37, v39, v40, v42, v43, v44, v46, v48, v49, v50, b51, hv.put 18 rfl rfl, ha.up rfl, hw⟩
 ·rintro D σ w hD hdep hcl ⟨v33, v34, v35, v37, v39, v40, v42, v43, v44, v46, v48, v49, v50, b51, hv, ha, hw⟩
  obtain ⟨τ, rfl⟩ := (ac (hv.at 18 rfl (hdep.1 rfl)) az).ups
  refine RL.iar (a := (p0.length : Int)) (b := 1) trivial rfl rfl rfl rfl ?_
  refine RL.nil ?_
  exact ⟨rfl, v33, v34, v35, v37, v39, v40, v42, v43, v44, v46, v48, v49, v50, b51, hv.put 19 rfl rfl, ha.up rfl, hw⟩
 ·rintro D σ w hD hdep hcl ⟨v33, v34, v35, v37, v39, v40, v42, v43, v44, v46, v48, v49, v50, b51, hv, ha, hw⟩
  obtain ⟨τ, rfl⟩ := (ac (hv.at 16 rfl (hdep.1 rfl)) (ac (hv.at 19 rfl (hdep.2.1 rfl)) az)).ups
  have hw := hw.selF (i := 10) rfl hD
  refine RL.ia_rd (i := 15) trivial rfl hw rfl rfl rfl sl53 hx47 fun v62 hw => ?_
  have hw := hw.pick 17 [1, 2, 3, 4, 5, 6, 7, 8, 9, 10, 0, 12, 13, 14, 15, 16] (new := [bif D 1 then (pt v33 x32) else junk, bif D 2 then (pt v34 x32.Xs) else junk, bif D 3 then (rd v35 x32.Xs) else junk, bif D 4 then (pt v37 x36) else junk, bif D 7 then (pt v39 x38) else junk, bif D 8 then (pt v40 x38.Y0) else junk, bif D 11 then (pt v42 x41) else junk, bif D 12 then (pt v43 x41.Xs) else junk, bif D 13 then (rd v44 x41.Xs) else junk, bif D 14 then (pt v46 x45) else junk, pt v62 x47, bif D 21 then (pt v49 x47.Y1) else junk, bif D 23 then (rd v50 (⟨x36, x38.Y0, x45, x47.Y1⟩ : Rect)) else junk, bif D 25 then (bx 27 b51 (⟨x36, x38.Y0, x45, x47.Y1⟩ : Rect)) else (bif D 24 then (raw 27 b51 4) else junk), raw 27 b31 4, rd v0 p0]) rfl rfl (by decide) (by decide)
  have hw := hw.altT (i := 10) (b := true) rfl rfl (junk)
  refine RL.nil ?_
  exact ⟨rfl, v33, v34, v35, v37, v39, v40, v42, v43, v44, v46, v62, v49, v50, b51, hv.put 20 rfl rfl, ha.up rfl, hw⟩
 ·rintro D σ w hD hdep hcl ⟨v33, v34, v35, v37, v39, v40, v42, v43, v44, v46, v48, v49, v50, b51, hv, ha, hw⟩
  obtain ⟨τ, rfl⟩ := (ac (hv.at 20 rfl (hdep.1 rfl)) az).ups
  have hw := hw.selT (i := 10) rfl (hdep.1 rfl)
  have hw := hw.selF (i := 11) rfl hD
  refine RL.fa_pt (i := 10) (f := fun (x : shape_Band) => x.Y1) trivial rfl hw rfl rfl fa83_1 fd_shape_Band_1 fun v63 hw => ?_
  have hw := hw.pick 17 [1, 2, 3, 4, 5, 6, 7, 8, 9, 10, 11, 0, 13, 14, 15, 16] (new := [bif D 1 then (pt v33 x32) else junk, bif D 2 then (pt v34 x32.Xs) else junk, bif D 3 then (rd v35 x32.Xs) else junk, bif D 4 then (pt v37 x36) else junk, bif D 7 then (pt v39 x38) else junk, bif D 8 then (pt v40 x38.Y0) else junk, bif D 11 then (pt v42 x41) else junk, bif D 12 then (pt v43 x41.Xs) else junk, bif D 13 then (rd v44 x41.Xs) else junk, bif D 14 then (pt v46 x45) else junk, pt v48 x47, pt v63 x47.Y1, bif D 23 then (rd v50 (⟨x36, x38.Y0, x45, x47.Y1⟩ : Rect)) else junk, bif D 25 then (bx 27 b51 (⟨x36, x38.Y0, x45, x47.Y1⟩ : Rect)) else (bif D 24 then (raw 27 b51 4) else junk), raw 27 b31 4, rd v0 p0]) rfl rfl (by decide) (by decide)
  have hw := hw.altT (i := 10) (b := D 20) rfl (hdep.1 rfl) (junk)
  have hw := hw.altT (i := 11) (b := true) rfl rfl (junk)
  refine RL.nil ?_
  exact ⟨rfl, v33, v34, v35, v37, v39, v40, v42, v43, v44, v46, v48, v63, v50, b51, hv.put 21 rfl rfl, ha.up rfl, hw⟩
 ·rintro D σ w hD hdep hcl ⟨v33, v34, v35, v37, v39, v40, v42, v43, v44, v46, v48, v49, v50, b51, hv, ha, hw⟩
  obtain ⟨τ, rfl⟩ := (ac (hv.at 21 rfl (hdep.1 rfl)) az).ups
  have hw := hw.selT (i := 11) rfl (hdep.1 rfl)
  refine RL.load_pts (i := 11) (y := x47.Y1) trivial rfl hw rfl rfl ty3 ?_
  have hw := hw.altT (i := 11) (b := D 21) rfl (hdep.1 rfl) (junk)
  refine RL.nil ?_
  exact ⟨rfl, v33, v34, v35, v37, v39, v40, v42, v43, v44, v46, v48, v49, v50, b51, hv.put 22 rfl rfl, ha.up rfl, hw⟩
 ·rintro D σ w hD hdep hcl ⟨v33, v34, v35, v37, v39, v40, v42, v43, v44, v46, v48, v49, v50, b51, hv, ha, hw⟩
  obtain ⟨τ, rfl⟩ := (ac (hv.at 5 rfl (hdep.1 rfl)) (ac (hv.at 9 rfl (hdep.2.1 rfl)) (ac (hv.at 15 rfl (hdep.2.2.1 rfl)) (ac (hv.at 22 rfl (hdep.2.2.2.1 rfl)) az)))).ups
  have hw := hw.selF (i := 12) rfl hD
  have hw := hw.sc (γ := Int) x36
  have hw := hw.sc (γ := Int) x38.Y0
  have hw := hw.sc (γ := Int) x45
  have hw := hw.sc (γ := Int) x47.Y1
  refine RL.build (y := (⟨x36, x38.Y0, x45, x47.Y1⟩ : Rect)) trivial rfl hw [(0, (vi x36)), (1, (vi x38.Y0)), (2, (vi x45)), (3, (vi x47.Y1))] rfl st27 rfl (fun M hs g => by have h := z_Rect M; exact Fills.cons (f := fun (x : Rect) y => { x with X0 := y }) rfl h fs_Rect_0 (by decide) (g.sat 3 _ rfl).1 fun _ h => Fills.cons (f := fun (x : Rect) y => { x with Y0 := y }) rfl h fs_Rect_1 (by decide) (g.sat 2 _ rfl).1 fun _ h => Fills.cons (f := fun (x : Rect) y => { x with X1 := y }) rfl h fs_Rect_2 (by decide) (g.sat 1 _ rfl).1 fun _ h => Fills.cons (f := fun (x : Rect) y => { x with Y1 := y }) rfl h fs_Rect_3 (by decide) (g.sat 0 _ rfl).1 fun _ h => Fills.nil h) fun v64 hw => ?_
  have hw := hw.pick 21 [5, 6, 7, 8, 9, 10, 11, 12, 13, 14, 15, 16, 0, 18, 19, 20] (new := [bif D 1 then (pt v33 x32) else junk, bif D 2 then (pt v34 x32.Xs) else junk, bif D 3 then (rd v35 x32.Xs) else junk, bif D 4 then (pt v37 x36) else junk, bif D 7 then (pt v39 x38) else junk, bif D 8 then (pt v40 x38.Y0) else junk, bif D 11 then (pt v42 x41) else junk, bif D 12 then (pt v43 x41.Xs) else junk, bif D 13 then (rd v44 x41.Xs) else junk, bif D 14 then (pt v46 x45) else junk, bif D 20 then (pt v48 x47) else junk, bif D 21 then (pt v49 x47.Y1) else junk, rd v64 (⟨x36, x38.Y0, x45, x47.Y1⟩ : Rect), bif D 25 then (bx 27 b51 (⟨x36, x38.Y0, x45, x47.Y1⟩ : Rect)) else (bif D 24 then (raw 27 b51 4) else junk), raw 27 b31 4, rd v0 p0]) rfl rfl (by decide) (by decide)
  have hw := hw.altT (i := 12) (b := true) rfl rfl (junk)
  refine RL.nil ?_
  exact ⟨rfl, v33, v34, v35, v37, v39, v40, v42, v43, v44, v46, v48, v49, v64, b51, hv.put 23 rfl rfl, ha.up rfl, hw⟩
 ·rintro D σ w hD hdep hcl ⟨v33, v34, v35, v37, v39, v40, v42, v43, v44, v46, v48, v49, v50, b51, hv, ha, hw⟩
  obtain ⟨τ, rfl⟩ := (az (σ := σ)).ups
  have hw := hw.selF (i := 13) rfl (nf (fun h => ft hD ((hcl 25 _ rfl h).1 rfl)))
  have hw := hw.selF (i := 13) rfl hD
  refine RL.alloc trivial rfl hw ze27.z fun b65 w hw => ?_
  have hw := hw.pick 17 [1, 2, 3, 4, 5, 6, 7, 8, 9, 10, 11, 12, 13, 0, 15, 16] (new := [bif D 1 then (pt v33 x32) else junk, bif D 2 then (pt v34 x32.Xs) else junk, bif D 3 then (rd v35 x32.Xs) else junk, bif D 4 then (pt v37 x36) else junk, bif D 7 then (pt v39 x38) else junk, bif D 8 then (pt v40 x38.Y0) else junk, bif D 11 then (pt v42 x41) else junk, bif D 12 then (pt v43 x41.Xs) else junk, bif D 13 then (rd v44 x41.Xs) else junk, bif D 14 then (pt v46 x45) else junk, bif D 20 then (pt v48 x47) else junk, bif D 21 then (pt v49 x47.Y1) else junk, bif D 23 then (rd v50 (⟨x36, x38.Y0, x45, x47.Y1⟩ : Rect)) else junk, raw 27 b65 4, raw 27 b31 4, rd v0 p0]) rfl rfl (by decide) (by decide)
  have hw := hw.altT (i := 13) (b := true) rfl rfl (junk)
  have hw := hw.altF (i := 13) (b := D 25) rfl (nf (fun h => ft hD ((hcl 25 _ rfl h).1 rfl))) (bx 27 b65 (⟨x36, x38.Y0, x45, x47.Y1⟩ : Rect))
  refine RL.nil ?_
  exact ⟨rfl, v33, v34, v35, v37, v39, v40, v42, v43, v44, v46, v48, v49, v50, b65, hv.put 24 rfl rfl, ha.up rfl, hw⟩
 ·rintro D σ w hD hdep hcl ⟨v33, v34, v35, v37, v39, v40, v42, v43, v44, v46, v48, v49, v50, b51, hv, ha, hw⟩
  obtain ⟨τ, rfl⟩ := (ac (hv.at 23 rfl (hdep.2.1 rfl)) (ac (hv.at 24 rfl (hdep.1 rfl)) az)).ups
  have hw := hw.selT (i := 12) rfl (hdep.2.1 rfl)
  have hw := hw.selF (i := 13) rfl hD
  have hw := hw.selT (i := 13) rfl (hdep.1 rfl)
  refine RL.store_raw (i := 13) (j := 12) trivial hw rfl rfl rfl rfl ty27 rfl fun w hw => ?_
  have hw := hw.altT (i := 12) (b := D 23) rfl (hdep.2.1 rfl) (junk)
  have hw := hw.altT (i := 13) (b := true) rfl rfl (bif D 24 then (raw 27 b51 4) else junk)
  refine RL.nil ?_
  exact ⟨rfl, v33, v34, v35, v37, v39, v40, v42, v43, v44, v46, v48, v49, v50, b51, hv.no rfl, ha, hw⟩
 rintro D σ w hall ⟨v33, v34, v35, v37, v39, v40, v42, v43, v44, v46, v48, v49, v50, b51, hv, ha, hw⟩
 rw [hall 1 (by decide), hall 2 (by decide), hall 3 (by decide), hall 4 (by decide), hall 7 (by decide), hall 8 (by decide), hall 11 (by decide), hall 12 (by decide), hall 13 (by decide), hall 14 (by decide), hall 20 (by decide), hall 21 (by decide), hall 23 (by decide), hall 24 (by decide), hall 25 (by decide)] at hw
 obtain ⟨τ, rfl⟩ := (ac (hv.at 24 rfl (hall 24 (by decide))) (ac (ha.at 0 rfl) (ac (ha.at 1 rfl) az))).ups
 refine thenQ_n ?_
 refine RC.seq ?_
 refine RC.sr ?_
 refine mv v0 rfl rfl ?_
 refine RL.len_rd (i := 15) (l := p0) trivial rfl hw rfl rfl un53 ?_
 refine mv (vi 0) rfl rfl ?_
 refine RL.nt ?_
 obtain ⟨s67, hN, hb⟩ := bd hb
 refine RC.fold (fun (k66 : Nat) (s67 : Rect) (σ : Nat → Value) (w : World) => agree σ [(2, (vp b31 0)), (3, (vp b51 0)), (30, v0), (31, (vi (p0.length : Int))), (32, (vi (k66 : Int)))] ∧ Holds E w ([raw 27 b31 4, bx 27 b51 s67, rd v0 p0] ++ Γ)) (fun (s67 : Rect) (σ : Nat → Value) (w : World) => agree σ [(2, (vp b31 0)), (3, (vp b51 0))] ∧ Holds E w ([raw 27 b31 4, bx 27 b51 s67, rd v0 p0] ++ Γ)) hN ?_ ?_ ?_ ?_
 ·exact ⟨⟨rfl, rfl, rfl, rfl, rfl, trivial⟩, hw.pick 16 [14, 13, 15] (new := [raw 27 b31 4, bx 27 b51 (⟨x36, x38.Y0, x45, x47.Y1⟩ : Rect), rd v0 p0]) rfl rfl (by decide) (by decide)⟩
 ·intro hm s67 σ w hI
  obtain ⟨ha, hw⟩ := hI
  obtain ⟨τ, rfl⟩ := ha.ups
  refine RC.sr ?_
  refine ic ((p0.length : Int)) ((p0.length : Int)) rfl rfl rfl rfl ?_
  refine RL.nq ?_
  refine RC.cond_f dge ?_
  refine RC.ex ?_
  exact ⟨rfl, ⟨rfl, rfl, trivial⟩, hw.pick 3 [0, 1, 2] (new := [raw 27 b31 4, bx 27 b51 s67, rd v0 p0]) rfl rfl (by decide) (by decide)⟩
 ·intro hm k66 s67 s' σ w hk hI hb
  obtain ⟨ha, hw⟩ := hI
  obtain ⟨τ, rfl⟩ := ha.ups
  refine RC.sr ?_
  refine ic ((k66 : Int)) ((p0.length : Int)) rfl rfl rfl rfl ?_
  refine RL.nq ?_
  refine RC.cond_t (dlt hk) ?_
  refine RC.ss ?_
  refine RC.bs ?_
  obtain ⟨x100, hx100, hb⟩ := bd hb
  refine RL.ia_rd (i := 2) trivial rfl hw rfl rfl rfl sl53 hx100 fun v101 hw => ?_
  refine RL.load_pt (i := 0) (x := x100) trivial rfl hw rfl rfl ty83 fun v102 hw => ?_
  refine RL.alloc trivial rfl hw ze83.z fun b103 w hw => ?_
  refine RL.store_raw (i := 0) (j := 1) trivial hw rfl rfl rfl rfl ty83 rfl fun w hw => ?_
  refine RL.nt ?_
  obtain ⟨x105, hx105, hb⟩ := bd hb
  obtain ⟨x109, hx109, hb⟩ := bd hb
  refine RC.drw mixed rfl (fun (D : Nat → Bool) (σ : Nat → Value) (w : World) => ∃ (v104 : Value) (v106 : Value) (v107 : Value) (v108 : Value) (v110 : Value), doneV D σ [(0, 36, (vp b51 0)), (1, 37, (vi s67.X0)), (2, 38, (vp b103 2)), (3, 39, v104), (4, 40, v106), (5, 41, (vi x105)), (6, 42, (vi (if x105 < s67.X0 then x105 else s67.X0))), (7, 43, (vp b51 2)), (8, 44, (vi s67.X1)), (9, 45, (vp b103 2)), (10, 46, v107), (11, 47, (vp b103 2)), (12, 48, v108), (13, 49, (vi (x100.Xs.length : Int))), (14, 50, (vi (IntKind.wrap .i64 ((x100.Xs.length : Int) - 1)))), (15, 51, v110), (16, 52, (vi x109)), (17, 53, (vi (if s67.X1 < x109 then x109 else s67.X1))), (18, 54, (vp b51 0)), (20, 55, (vp b51 2))] ∧ agree σ [(2, (vp b31 0)), (3, (vp b51 0)), (5, (vp b103 0)), (30, v0), (31, (vi (p0.length : Int))), (32, (vi (k66 : Int)))] ∧ Holds E w ([bif D 3 then (rd v104 x100.Xs) else junk, bif D 4 then (pt v106 x105) else junk, bif D 10 then (rd v107 x100.Xs) else junk, bif D 12 then (rd v108 x100.Xs) else junk, bif D 15 then (pt v110 x109) else junk, bx 83 b103 x100, rd v102 x100, pt v101 x100, raw 27 b31 4, bif D 21 then (bx 27 b51 { { s67 with X0 := (if x105 < s67.X0 then x105 else s67.X0) } with X1 := (if s67.X1 < x109 then x109 else s67.X1) }) else (bif D 19 then (bx 27 b51 { s67 with X0 := (if x105 < s67.X0 then x105 else s67.X0) }) else (bx 27 b51 s67)), rd v0 p0] ++ Γ)) ?_ ⟨?_, ?_, ?_, ?_, ?_, ?_, ?_, ?_, ?_, ?_, ?_, ?_, ?_, ?_, ?_, ?_, ?_, ?_, ?_, ?_, ?_, ?_, trivial⟩ ?_
  ·have hw := hw.drew
   have hw := hw.junk
   have hw := hw.junk
   have hw := hw.junk
   have hw := hw.junk
   have hw := hw.junk
   exact ⟨undef, undef, undef, undef, undef, doneV.none, ⟨rfl, rfl, rfl, rfl, rfl, rfl, trivial⟩, hw⟩
  ·rintro D σ w hD hdep hcl ⟨v104, v106, v107, v108, v110, hv, ha, hw⟩
   obtain ⟨τ, rfl⟩ := (ac (ha.at 1 rfl) az).ups
   refine RL.fa_b trivial rfl rfl fa27_0 ?_
   refine RL.nil ?_
   exact ⟨rfl, v104, v106, v107, v108, v110, hv.put 0 rfl rfl, ha.up rfl, hw⟩
  ·rintro D σ w hD hdep hcl ⟨v104, v106, v107, v108, v110, hv, ha, hw⟩
   obtain ⟨τ, rfl⟩ := (ac (hv.at 0 rfl (hdep.1 rfl)) az).ups
   have hw := hw.selF (i := 9) rfl (nf (fun h => ft hD ((hcl 21 _ rfl h).2.2.2.2.1 rfl)))
   have hw := hw.selF (i := 9) rfl (nf (fun h => ft hD ((hcl 19 _ rfl h).2.2.2.1 rfl)))
   refine RL.load_bfs (i := 9) (f := (fun x => x.X0)) trivial rfl hw rfl rfl fd_Rect_0 ty3 ?_
   have hw := hw.altF (i := 9) (b := D 19) rfl (nf (fun h => ft hD ((hcl 19 _ rfl h).2.2.2.1 rfl))) (bx 27 b51 { s67 with X0 := (if x105 < s67.X0 then x105 else s67.X0) })
   have hw := hw.altF (i := 9) (b := D 21) rfl (nf (fun h => ft hD ((hcl 21 _ rfl h).2.2.2.2.1 rfl))) (bx 27 b51 { { s67 with X0 := (if x105 < s67.X0 then x105 else s67.X0) } with X1 := (if s67.X1 < x109 then x109 else s67.X1) })
   refine RL.nil ?_
   exact ⟨rfl, v104, v106, v107, v108, v110, hv.put 1 rfl rfl, ha.up rfl, hw⟩
  ·rintro D σ w hD hdep hcl ⟨v104, v106, v107, v108, v110, hv, ha, hw⟩
   obtain ⟨τ, rfl⟩ := (ac (ha.at 2 rfl) az).ups
   refine RL.fa_b trivial rfl rfl fa83_2 ?_
   refine RL.nil ?_
   exact ⟨rfl, v104, v106, v107, v108, v110, hv.put 2 rfl rfl, ha.up rfl, hw⟩
  ·rintro D σ w hD hdep hcl ⟨v104, v106, v107, v108, v110, hv, ha, hw⟩
   obtain ⟨τ, rfl⟩ := (ac (hv.at 2 rfl (hdep.1 rfl)) az).ups
   have hw := hw.selF (i := 0) rfl hD
   refine RL.load_bf (i := 5) (f := (fun x => x.Xs)) trivial rfl hw rfl rfl fd_shape_Band_2 ty75 fun v111 hw => ?_
   have hw := hw.pick 12 [0, 2, 3, 4, 5, 6, 7, 8, 9, 10, 11] (new := [rd v111 x100.Xs, bif D 4 then (pt v106 x105) else junk, bif D 10 then (rd v107 x100.Xs) else junk, bif D 12 then (rd v108 x100.Xs) else junk, bif D 15 then (pt v110 x109) else junk, bx 83 b103 x100, rd v102 x100, pt v101 x100, raw 27 b31 4, bif D 21 then (bx 27 b51 { { s67 with X0 := (if x105 < s67.X0 then x105 else s67.X0) } with X1 := (if s67.X1 < x109 then x109 else s67.X1) }) else (bif D 19 then (bx 27 b51 { s67 with X0 := (if x105 < s67.X0 then x105 else s67.X0) }) else (bx 27 b51 s67)), rd v0 p0]) rfl rfl (by decide) (by decide)
   have hw := hw.altT (i := 0) (b := true) rfl rfl (junk)
   refine RL.nil ?_
   exact ⟨rfl, v111, v106, v107, v108, v110, hv.put 3 rfl rfl, ha.up rfl, hw⟩
  ·rintro D σ w hD hdep hcl ⟨v104, v106, v107, v108, v110, hv, ha, hw⟩
   obtain ⟨τ, rfl⟩ := (ac (hv.at 3 rfl (hdep.1 rfl)) az).ups
   have hw := hw.selT (i := 0) rfl (hdep.1 rfl)
   have hw := hw.selF (i := 1) rfl hD
   refine RL.ia_rd (i := 0) trivial rfl hw rfl rfl rfl sl75 hx105 fun v112 hw => ?_
   have hw := hw.pick 12 [1, 0, 3, 4, 5, 6, 7, 8, 9, 10, 11] (new := [rd v104 x100.Xs, pt v112 x105, bif D 10 then (rd v107 x100.Xs) else junk, bif D 12 then (rd v108 x100.Xs) else junk, bif D 15 then (pt v110 x109) else junk, bx 83 b103 x100, rd v102 x100, pt v101 x100, raw 27 b31 4, bif D 21 then (bx 27 b51 { { s67 with X0 := (if x105 < s67.X0 then x105 else s67.X0) } with X1 := (if s67.X1 < x109 then x109 else s67.X1) }) else (bif D 19 then (bx 27 b51 { s67 with X0 := (if x105 < s67.X0 then x105 else s67.X0) }) else (bx 27 b51 s67)), rd v0 p0]) rfl rfl (by decide) (by decide)
   have hw := hw.altT (i := 0) (b := D 3) rfl (hdep.1 rfl) (junk)
   have hw := hw.altT (i := 1) (b := true) rfl rfl (junk)
   refine RL.nil ?_
   exact ⟨rfl, v104, v112, v107, v108, v110, hv.put 4 rfl rfl, ha.up rfl, hw⟩
  ·rintro D σ w hD hdep hcl ⟨v104, v106, v107, v108, v110, hv, ha, hw⟩
   obtain ⟨τ, rfl⟩ := (ac (hv.at 4 rfl (hdep.1 rfl)) az).ups
   have hw := hw.selT (i := 1) rfl (hdep.1 rfl)
   refine RL.load_pts (i := 1) (y := x105) trivial rfl hw rfl rfl ty3 ?_
   have hw := hw.altT (i := 1) (b := D 4) rfl (hdep.1 rfl) (junk)
   refine RL.nil ?_
   exact ⟨rfl, v104, v106, v107, v108, v110, hv.put 5 rfl rfl, ha.up rfl, hw⟩
  ·rintro D σ w hD hdep hcl ⟨v104, v106, v107, v108, v110, hv, ha, hw⟩
   obtain ⟨τ, rfl⟩ := (ac (hv.at 1 rfl (hdep.1 rfl)) (ac (hv.at 5 rfl (hdep.2.1 rfl)) az)).ups
   refine RL.min (a := s67.X0) (b := x105) trivial rfl rfl rfl ?_
   refine RL.nil ?_
   exact ⟨rfl, v104, v106, v107, v108, v110, hv.put 6 rfl rfl, ha.up rfl, hw⟩
  ·rintro D σ w hD hdep hcl ⟨v104, v106, v107, v108, v110, hv, ha, hw⟩
   obtain ⟨τ, rfl⟩ := (ac (ha.at 1 rfl) az).ups
   refine RL.fa_b trivial rfl rfl fa27_2 ?_
   refine RL.nil ?_
   exact ⟨rfl, v104, v106, v107, v108, v110, hv.put 7 rfl rfl, ha.up rfl, hw⟩
  ·rintro D σ w hD hdep hcl ⟨v104, v106, v107, v108, v110, hv, ha, hw⟩
   obtain ⟨τ, rfl⟩ := (ac (hv.at 7 rfl (hdep.1 rfl)) az).ups
   have hw := hw.selF (i := 9) rfl (nf (fun h => ft hD ((hcl 21 _ rfl h).2.2.2.2.2.2.2.2.2.2.2.1 rfl)))
   have hw := hw.selF (i := 9) rfl (nf (fun h => ft hD ((hcl 19 _ rfl h).2.2.2.2.2.2.2.2.2.2.1 rfl)))
   refine RL.load_bfs (i := 9) (f := (fun x => x.X1)) trivial rfl hw rfl rfl fd_Rect_2 ty3 ?_
   have hw := hw.altF (i := 9) (b := D 19) rfl (nf (fun h => ft hD ((hcl 19 _ rfl h).2.2.2.2.2.2.2.2.2.2.1 rfl))) (bx 27 b51 { s67 with X0 := (if x105 < s67.X0 then x105 else s67.X0) })
   have hw := hw.altF (i := 9) (b := D 21) rfl (nf (fun h => ft hD ((hcl 21 _ rfl h).2.2.2.2.2.2.2.2.2.2.2.1 rfl))) (bx 27 b51 { { s67 with X0 := (if x105 < s67.X0 then x105 else s67.X0) } with X1 := (if s67.X1 < x109 then x109 else s67.X1) })
   refine RL.nil ?_
   exact ⟨rfl, v104, v106, v107, v108, v110, hv.put 8 rfl rfl, ha.up rfl, hw⟩
  ·rintro D σ w hD hdep hcl ⟨v104, v106, v107, v108, v110, hv, ha, hw⟩
   obtain ⟨τ, rfl⟩ := (ac (ha.at 2 rfl) az).ups
   refine RL.fa_b trivial rfl rfl fa83_2 ?_
   refine RL.nil ?_
   exact ⟨rfl, v104, v106, v107, v108, v110, hv.put 9 rfl rfl, ha.up rfl, hw⟩
  ·rintro D σ w hD hdep hcl ⟨v104, v106, v107, v108, v110, hv, ha, hw⟩
   obtain ⟨τ, rfl⟩ := (ac (hv.at 9 rfl (hdep.1 rfl)) az).ups
   have hw := hw.selF (i := 2) rfl hD
   refine RL.load_bf (i := 5) (f := (fun x => x.Xs)) trivial rfl hw rfl rfl fd_shape_Band_2 ty75 fun v113 hw => ?_
   have hw := hw.pick 12 [1, 2, 0, 4, 5, 6, 7, 8, 9, 10, 11] (new := [bif D 3 then (rd v104 x100.Xs) else junk, bif D 4 then (pt v106 x105) else junk, rd v113 x100.Xs, bif D 12 then (rd v108 x100.Xs) else junk, bif D 15 then (pt v110 x109) else junk, bx 83 b103 x100, rd v102 x100, pt v101 x100, raw 27 b31 4, bif D 21 then (bx 27 b51 { { s67 with X0 := (if x105 < s67.X0 then x105 else s67.X0) } with X1 := (if s67.X1 < x109 then x109 else s67.X1) }) else (bif D 19 then (bx 27 b51 { s67 with X0 := (if x105 < s67.X0 then x105 else s67.X0) }) else (bx 27 b51 s67)), rd v0 p0]) rfl rfl (by decide) (by decide)
   have hw := hw.altT (i := 2) (b := true) rfl rfl (junk)
   refine RL.nil ?_
   exact ⟨rfl, v104, v106, v113, v108, v110, hv.put 10 rfl rfl, ha.up rfl, hw⟩
  ·rintro D σ w hD hdep hcl ⟨v104, v106, v107, v108, v110, hv, ha, hw⟩
   obtain ⟨τ, rfl⟩ := (ac (ha.at 2 rfl) az).ups
   refine RL.fa_b trivial rfl rfl fa83_2 ?_
   refine RL.nil ?_
   exact ⟨rfl, v104, v106, v107, v108, v110, hv.put 11 rfl rfl, ha.up rfl, hw⟩
  ·rintro D σ w hD hdep hcl ⟨v104, v106, v107, v108, v110, hv, ha, hw⟩
   obtain ⟨τ, rfl⟩ := (ac (hv.at 11 rfl (hdep.1 rfl)) az).ups
   have hw := hw.selF (i := 3) rfl hD
   refine RL.load_bf (i := 5) (f := (fun x => x.Xs)) trivial rfl hw rfl rfl fd_shape_Band_2 ty75 fun v114 hw => ?_
   have hw := hw.pick 12 [1, 2, 3, 0, 5, 6, 7, 8, 9, 10, 11] (new := [bif D 3 then (rd v104 x100.Xs) else junk, bif D 4 then (pt v106 x105) else junk, bif D 10 then (rd v107 x100.Xs) else junk, rd v114 x100.Xs, bif D 15 then (pt v110 x109) else junk, bx 83 b103 x100, rd v102 x100, pt v101 x100, raw 27 b31 4, bif D 21 then (bx 27 b51 { { s67 with X0 := (if x105 < s67.X0 then x105 else s67.X0) } with X1 := (if s67.X1 < x109 then x109 else s67.X1) }) else (bif D 19 then (bx 27 b51 { s67 with X0 := (if x105 < s67.X0 then x105 else s67.X0) }) else (bx 27 b51 s67)), rd v0 p0]) rfl rfl (by decide) (by decide)
   have hw := hw.altT (i := 3) (b := true) rfl rfl (junk)
   refine RL.nil ?_
   exact ⟨rfl, v104, v106, v107, v114, v110, hv.put 12 rfl rfl, ha.up rfl, hw⟩
  ·rintro D σ w hD hdep hcl ⟨v104, v106, v107, v108, v110, hv, ha, hw⟩
   obtain ⟨τ, rfl⟩ := (ac (hv.at 12 rfl (hdep.1 rfl)) az).ups
   have hw := hw.selT (i := 3) rfl (hdep.1 rfl)
   refine RL.len_rd (i := 3) (l := x100.Xs) trivial rfl hw rfl rfl un75 ?_
   have hw := hw.altT (i := 3) (b := D 12) rfl (hdep.1 rfl) (junk)
   refine RL.nil ?_
   exact ⟨rfl, v104, v106, v107, v108, v110, hv.put 13 rfl rfl, ha.up rfl, hw⟩
  ·rintro D σ w hD hdep hcl ⟨v104, v106, v107, v108, v110, hv, ha, hw⟩
   obtain ⟨τ, rfl⟩ := (ac (hv.at 13 rfl (hdep.1 rfl)) az).ups
   refine RL.iar (a := (x100.Xs.length : Int)) (b := 1) trivial rfl rfl rfl rfl ?_
   refine RL.nil ?_
   exact ⟨rfl, v104, v106, v107, v108, v110, hv.put 14 rfl rfl, ha.up rfl, hw⟩
  ·rintro D σ w hD hdep hcl ⟨v104, v106, v107, v108, v110, hv, ha, hw⟩
   obtain ⟨τ, rfl⟩ := (ac (hv.at 10 rfl (hdep.1 rfl)) (ac (hv.at 14 rfl (hdep.2.1 rfl)) az)).ups
   have hw := hw.selT (i := 2) rfl (hdep.1 rfl)
   have hw := hw.selF (i := 4) rfl hD
   refine RL.ia_rd (i := 2) trivial rfl hw rfl rfl rfl sl75 hx109 fun v115 hw => ?_
   have hw := hw.pick 12 [1, 2, 3, 4, 0, 6, 7, 8, 9, 10, 11] (new := [bif D 3 then (rd v104 x100.Xs) else junk, bif D 4 then (pt v106 x105) else junk, rd v107 x100.Xs, bif D 12 then (rd v108 x100.Xs) else junk, pt v115 x109, bx 83 b103 x100, rd v102 x100, pt v101 x100, raw 27 b31 4, bif D 21 then (bx 27 b51 { { s67 with X0 := (if x105 < s67.X0 then x105 else s67.X0) } with X1 := (if s67.X1 < x109 then x109 else s67.X1) }) else (bif D 19 then (bx 27 b51 { s67 with X0 := (if x105 < s67.X0 then x105 else s67.X0) }) else (bx 27 b51 s67)), rd v0 p0]) rfl rfl (by decide) (by decide)
   have hw := hw.altT (i := 2) (b := D 10) rfl (hdep.1 rfl) (junk)
   have hw := hw.altT (i := 4) (b := true) rfl rfl (junk)
   refine RL.nil ?_
   exact ⟨rfl, v104, v106, v107, v108, v115, hv.put 15 rfl rfl, ha.up rfl, hw⟩
  ·rintro D σ w hD hdep hcl ⟨v104, v106, v107, v108, v110, hv, ha, hw⟩
   obtain ⟨τ, rfl⟩ := (ac (hv.at 15 rfl (hdep.1 rfl)) az).ups
   have hw := hw.selT (i := 4) rfl (hdep.1 rfl)
   refine RL.load_pts (i := 4) (y := x109) trivial rfl hw rfl rfl ty3 ?_
   have hw := hw.altT (i := 4) (b := D 15) rfl (hdep.1 rfl) (junk)
   refine RL.nil ?_
   exact ⟨rfl, v104, v106, v107, v108, v110, hv.put 16 rfl rfl, ha.up rfl, hw⟩
  ·rintro D σ w hD hdep hcl ⟨v104, v106, v107, v108, v110, hv, ha, hw⟩
   obtain ⟨τ, rfl⟩ := (ac (hv.at 8 rfl (hdep.1 rfl)) (ac (hv.at 16 rfl (hdep.2.1 rfl)) az)).ups
   refine RL.max (a := s67.X1) (b := x109) trivial rfl rfl rfl ?_
   refine RL.nil ?_
   exact ⟨rfl, v104, v106, v107, v108, v110, hv.put 17 rfl rfl, ha.up rfl, hw⟩
  ·rintro D σ w hD hdep hcl ⟨v104, v106, v107, v108, v110, hv, ha, hw⟩
   obtain ⟨τ, rfl⟩ := (ac (ha.at 1 rfl) az).ups
   refine RL.fa_b trivial rfl rfl fa27_0 ?_
   refine RL.nil ?_
   exact ⟨rfl, v104, v106, v107, v108, v110, hv.put 18 rfl rfl, ha.up rfl, hw⟩
  ·rintro D σ w hD hdep hcl ⟨v104, v106, v107, v108, v110, hv, ha, hw⟩
   obtain ⟨τ, rfl⟩ := (ac (hv.at 6 rfl (hdep.2.1 rfl)) (ac (hv.at 18 rfl (hdep.1 rfl)) az)).ups
   have hw := hw.selF (i := 9) rfl (nf (fun h => ft hD ((hcl 21 _ rfl h).2.2.1 rfl)))
   have hw := hw.selF (i := 9) rfl hD
   have hw := hw.sc (γ := Int) (if x105 < s67.X0 then x105 else s67.X0)
   refine RL.store_bf (i := 10) (j := 0) (f := fun x y => { x with X0 := y }) trivial hw rfl rfl rfl rfl fs_Rect_0 (by decide) ty3 fun w hw => ?_
   have hw := hw.pick 12 [1, 2, 3, 4, 5, 6, 7, 8, 9, 10, 11] (new := [bif D 3 then (rd v104 x100.Xs) else junk, bif D 4 then (pt v106 x105) else junk, bif D 10 then (rd v107 x100.Xs) else junk, bif D 12 then (rd v108 x100.Xs) else junk, bif D 15 then (pt v110 x109) else junk, bx 83 b103 x100, rd v102 x100, pt v101 x100, raw 27 b31 4, bx 27 b51 { s67 with X0 := (if x105 < s67.X0 then x105 else s67.X0) }, rd v0 p0]) rfl rfl (by decide) (by decide)
   have hw := hw.altT (i := 9) (b := true) rfl rfl (bx 27 b51 s67)
   have hw := hw.altF (i := 9) (b := D 21) rfl (nf (fun h => ft hD ((hcl 21 _ rfl h).2.2.1 rfl))) (bx 27 b51 { { s67 with X0 := (if x105 < s67.X0 then x105 else s67.X0) } with X1 := (if s67.X1 < x109 then x109 else s67.X1) })
   refine RL.nil ?_
   exact ⟨rfl, v104, v106, v107, v108, v110, hv.no rfl, ha, hw⟩
  ·rintro D σ w hD hdep hcl ⟨v104, v106, v107, v108, v110, hv, ha, hw⟩
   obtain ⟨τ, rfl⟩ := (ac (ha.at 1 rfl) az).ups
   refine RL.fa_b trivial rfl rfl fa27_2 ?_
   refine RL.nil ?_
   exact ⟨rfl, v104, v106, v107, v108, v110, hv.put 19 rfl rfl, ha.up rfl, hw⟩
  ·rintro D σ w hD hdep hcl ⟨v104, v106, v107, v108, v110, hv, ha, hw⟩
   obtain ⟨τ, rfl⟩ := (ac (hv.at 17 rfl (hdep.2.1 rfl)) (ac (hv.at 19 rfl (hdep.1 rfl)) az)).ups
   have hw := hw.selF (i := 9) rfl hD
   have hw := hw.selT (i := 9) rfl (hdep.2.2.1 rfl)
   have hw := hw.sc (γ := Int) (if s67.X1 < x109 then x109 else s67.X1)
   refine RL.store_bf (i := 10) (j := 0) (f := fun x y => { x with X1 := y }) trivial hw rfl rfl rfl rfl fs_Rect_2 (by decide) ty3 fun w hw => ?_
   have hw := hw.pick 12 [1, 2, 3, 4, 5, 6, 7, 8, 9, 10, 11] (new := [bif D 3 then (rd v104 x100.Xs) else junk, bif D 4 then (pt v106 x105) else junk, bif D 10 then (rd v107 x100.Xs) else junk, bif D 12 then (rd v108 x100.Xs) else junk, bif D 15 then (pt v110 x109) else junk, bx 83 b103 x100, rd v102 x100, pt v101 x100, raw 27 b31 4, bx 27 b51 { { s67 with X0 := (if x105 < s67.X0 then x105 else s67.X0) } with X1 := (if s67.X1 < x109 then x109 else s67.X1) }, rd v0 p0]) rfl rfl (by decide) (by decide)
   have hw := hw.altT (i := 9) (b := true) rfl rfl (bif D 19 then (bx 27 b51 { s67 with X0 := (if x105 < s67.X0 then x105 else s67.X0) }) else (bx 27 b51 s67))
   refine RL.nil ?_
   exact ⟨rfl, v104, v106, v107, v108, v110, hv.no rfl, ha, hw⟩
  rintro D σ w hall ⟨v104, v106, v107, v108, v110, hv, ha, hw⟩
  rw [hall 3 (by decide), hall 4 (by decide), hall 10 (by decide), hall 12 (by decide), hall 15 (by decide), hall 19 (by decide), hall 21 (by decide)] at hw
  obtain ⟨τ, rfl⟩ := (ac (ha.at 0 rfl) (ac (ha.at 1 rfl) (ac (ha.at 2 rfl) (ac (ha.at 3 rfl) (ac (ha.at 4 rfl) (ac (ha.at 5 rfl) az)))))).ups
  refine blkQ_n ?_
  refine thenQ_n ?_
  refine RC.region ?_
  refine RL.inc trivial rfl hk hm rfl rfl ?_
  refine mv (vi ((k66 + 1 : Nat) : Int)) rfl rfl ?_
  refine RL.nil ?_
  obtain rfl := oi hb
  exact ⟨rfl, ⟨rfl, rfl, rfl, rfl, rfl, trivial⟩, hw.pick 11 [8, 9, 10] (new := [raw 27 b31 4, bx 27 b51 { { s67 with X0 := (if x105 < s67.X0 then x105 else s67.X0) } with X1 := (if s67.X1 < x109 then x109 else s67.X1) }, rd v0 p0]) rfl rfl (by decide) (by decide)⟩
 intro σ w hJ
 obtain ⟨ha, hw⟩ := hJ
 obtain ⟨τ, rfl⟩ := ha.ups
 refine thenQ_n ?_
 refine RC.sr ?_
 refine RL.load_bf (i := 1) (f := (fun x => x)) trivial rfl hw rfl rfl Fd.self ty27 fun v116 hw => ?_
 refine RL.store_raw (i := 1) (j := 0) trivial hw rfl rfl rfl rfl ty27 rfl fun w hw => ?_
 refine RL.nt ?_
 refine RC.ret ?_
 obtain rfl := oi hb
 exact finC (i := 1) rfl hw rfl rfl ty27 fun v117 hw => (hw.pick 5 [0] (new := [rd v117 s67]) rfl rfl (by decide) (by decide))
def shape_isRect_R (E : World) (Γ : List HP) (res : Bool) (v : Value) (w : World) : Prop := v = (vb res) ∧ Holds E w Γ
def shape_isRect_K (E : World) (Γ : List HP) (r : Bool) (σ : Nat → Value) (w : World) : Prop := finQ Try.prog 21 Try.f39 (shape_isRect_R E Γ r) .ret σ w
theorem shape_isRect_ok (N : Nat) {E w : World} {Γ : List HP} {i0 : Nat} {v0 : Value} {p0 : Rect} {res : Bool} (hw : Holds E w Γ) (h0 : Γ[i0]? = some (rd v0 p0)) (hb : shape_isRect N p0 = some res) :
    Calls Try.prog 39 [v0].toArray w (Ret (shape_isRect_R E Γ res)) := by
 unfold shape_isRect at hb
 refine enter Try.func39 rfl rfl (Nat.le_of_ble_eq_true rfl) ?_
 have hw := hw.dup (i := i0 + 0) h0
 refine RC.sr ?_
 refine RL.box_rd (i := 0) (v := v0) trivial rfl hw rfl rfl fun b31 w hw => ?_
 refine as_ (vb false) rfl rfl ?_
 refine RL.nq ?_
 obtain ⟨s48, hj, hb⟩ := bd hb
 refine RC.jn (fun (s48 : Bool) (σ : Nat → Value) (w : World) => agree σ [(2, (vb s48))] ∧ Holds E w ([] ++ Γ)) s48 ?_ ?_
 ·refine RC.region ?_
  refine RL.fa_b trivial rfl rfl fa27_0 ?_
  refine RL.load_bfs (i := 0) (f := (fun x => x.X0)) trivial rfl hw rfl rfl fd_Rect_0 ty3 ?_
  obtain ⟨x49, hx49, hj⟩ := bd hj
  refine RL.call trivial rfl fn29 [(vi p0.X0)] rfl (Calls_ret (shape_IsAt_ok N (p0 := p0.X0)  hw  hx49) ?_)
  rintro _ w ⟨rfl, hw⟩
  refine mv (vb x49) rfl rfl ?_
  rcases Bool.eq_false_or_eq_true x49 with hg50 | hg50
  rotate_left
  ·replace hj := cF hg50 hj
   refine sk rfl (.inl (cb hg50)) rfl ?_
   refine sk rfl (.inl (cb hg50)) rfl ?_
   refine sk rfl (.inl (cb hg50)) rfl ?_
   refine RL.pick (b := x49) (v := (vb false)) trivial rfl rfl (by rw [hg50]; rfl) ?_
   refine mv (vb false) rfl rfl ?_
   refine sk rfl (.inl rfl) rfl ?_
   refine sk rfl (.inl rfl) rfl ?_
   refine sk rfl (.inl rfl) rfl ?_
   refine RL.pick (b := false) (v := (vb false)) trivial rfl rfl rfl ?_
   refine mv (vb false) rfl rfl ?_
   refine sk rfl (.inl rfl) rfl ?_
   refine sk rfl (.inl rfl) rfl ?_
   refine sk rfl (.inl rfl) rfl ?_
   refine RL.pick (b := false) (v := (vb false)) trivial rfl rfl rfl ?_
   refine as_ (vb false) rfl rfl ?_
   refine RL.nil ?_
   obtain rfl := oi hj
   exact ⟨rfl, ⟨rfl, trivial⟩, hw.pick 2 [] (new := []) rfl rfl (by decide) (by decide)⟩
  replace hj := cT hg50 hj
  refine RL.fa_b ⟨_, rfl, cb hg50⟩ rfl rfl fa27_1 ?_
  refine RL.load_bfs (i := 0) (f := (fun x => x.Y0)) ⟨_, rfl, cb hg50⟩ rfl hw rfl rfl fd_Rect_1 ty3 ?_
  obtain ⟨x51, hx51, hj⟩ := bd hj
  refine RL.call ⟨_, rfl, cb hg50⟩ rfl fn29 [(vi p0.Y0)] rfl (Calls_ret (shape_IsAt_ok N (p0 := p0.Y0)  hw  hx51) ?_)
  rintro _ w ⟨rfl, hw⟩
  refine RL.pick (b := x49) (v := (vb x51)) trivial rfl rfl (by rw [hg50]; rfl) ?_
  refine mv (vb x51) rfl rfl ?_
  rcases Bool.eq_false_or_eq_true x51 with hg52 | hg52
  rotate_left
  ·replace hj := cF hg52 hj
   refine sk rfl (.inl (cb hg52)) rfl ?_
   refine sk rfl (.inl (cb hg52)) rfl ?_
   refine sk rfl (.inl (cb hg52)) rfl ?_
   refine RL.pick (b := x51) (v := (vb false)) trivial rfl rfl (by rw [hg52]; rfl) ?_
   refine mv (vb false) rfl rfl ?_
   refine sk rfl (.inl rfl) rfl ?_
   refine sk rfl (.inl rfl) rfl ?_
   refine sk rfl (.inl rfl) rfl ?_
   refine RL.pick (b := false) (v := (vb false)) trivial rfl rfl rfl ?_
   refine as_ (vb false) rfl rfl ?_
   refine RL.nil ?_
   obtain rfl := oi hj
   exact ⟨rfl, ⟨rfl, trivial⟩, hw.pick 2 [] (new := []) rfl rfl (by decide) (by decide)⟩
  replace hj := cT hg52 hj
  refine RL.fa_b ⟨_, rfl, cb hg52⟩ rfl rfl fa27_2 ?_
  refine RL.load_bfs (i := 0) (f := (fun x => x.X1)) ⟨_, rfl, cb hg52⟩ rfl hw rfl rfl fd_Rect_2 ty3 ?_
  obtain ⟨x53, hx53, hj⟩ := bd hj
  refine RL.call ⟨_, rfl, cb hg52⟩ rfl fn29 [(vi p0.X1)] rfl (Calls_ret (shape_IsAt_ok N (p0 := p0.X1)  hw  hx53) ?_)
  rintro _ w ⟨rfl, hw⟩
  refine RL.pick (b := x51) (v := (vb x53)) trivial rfl rfl (by rw [hg52]; rfl) ?_
  refine mv (vb x53) rfl rfl ?_
  rcases Bool.eq_false_or_eq_true x53 with hg54 | hg54
  rotate_left
  ·replace hj := cF hg54 hj
   refine sk rfl (.inl (cb hg54)) rfl ?_
   refine sk rfl (.inl (cb hg54)) rfl ?_
   refine sk rfl (.inl (cb hg54)) rfl ?_
   refine RL.pick (b := x53) (v := (vb false)) trivial rfl rfl (by rw [hg54]; rfl) ?_
   refine as_ (vb false) rfl rfl ?_
   refine RL.nil ?_
   obtain rfl := oi hj
   exact ⟨rfl, ⟨rfl, trivial⟩, hw.pick 2 [] (new := []) rfl rfl (by decide) (by decide)⟩
  replace hj := cT hg54 hj
  refine RL.fa_b ⟨_, rfl, cb hg54⟩ rfl rfl fa27_3 ?_
  refine RL.load_bfs (i := 0) (f := (fun x => x.Y1)) ⟨_, rfl, cb hg54⟩ rfl hw rfl rfl fd_Rect_3 ty3 ?_
  obtain ⟨x55, hx55, hj⟩ := bd hj
  refine RL.call ⟨_, rfl, cb hg54⟩ rfl fn29 [(vi p0.Y1)] rfl (Calls_ret (shape_IsAt_ok N (p0 := p0.Y1)  hw  hx55) ?_)
  rintro _ w ⟨rfl, hw⟩
  refine RL.pick (b := x53) (v := (vb x55)) trivial rfl rfl (by rw [hg54]; rfl) ?_
  refine as_ (vb x55) rfl rfl ?_
  refine RL.nil ?_
  obtain rfl := oi hj
  exact ⟨rfl, ⟨rfl, trivial⟩, hw.pick 2 [] (new := []) rfl rfl (by decide) (by decide)⟩
 rintro σ w ⟨ha, hw⟩
 obtain ⟨τ, rfl⟩ := ha.ups
 refine thenQ_n ?_
 refine RC.ret ?_
 obtain rfl := oi hb
 exact fin1 rfl rfl ⟨rfl, hw.drop 0 rfl⟩
def shape_Set_Fits_R (E : World) (Γ : List HP) (res : Bool) (v : Value) (w : World) : Prop := v = (vb res) ∧ Holds E w Γ
def shape_Set_Fits_K (E : World) (Γ : List HP) (r : Bool) (σ : Nat → Value) (w : World) : Prop := finQ Try.prog 11 Try.f16 (shape_Set_Fits_R E Γ r) .ret σ w
theorem shape_Set_Fits_ok (N : Nat) {E w : World} {Γ : List HP} {i0 : Nat} {v0 : Value} {p0 : (List shape_Band)} {res : Bool} (hw : Holds E w Γ) (h0 : Γ[i0]? = some (rd v0 p0)) (hb : shape_Set_Fits N p0 = some res) :
    Calls Try.prog 16 [v0].toArray w (Ret (shape_Set_Fits_R E Γ res)) := by
 unfold shape_Set_Fits at hb
 refine enter Try.func16 rfl rfl (Nat.le_of_ble_eq_true rfl) ?_
 have hw := hw.dup (i := i0 + 0) h0
 refine RC.sr ?_
 refine as_ (vb false) rfl rfl ?_
 refine RL.nq ?_
 obtain ⟨s35, hj, hb⟩ := bd hb
 refine RC.jn (fun (s35 : Bool) (σ : Nat → Value) (w : World) => agree σ [(2, (vb s35))] ∧ Holds E w ([] ++ Γ)) s35 ?_ ?_
 ·refine RC.region ?_
  refine mv v0 rfl rfl ?_
  refine RL.len_rd (i := 0) (l := p0) trivial rfl hw rfl rfl un53 ?_
  refine ic ((p0.length : Int)) 0 rfl rfl rfl rfl ?_
  refine mv (vb ((p0.length : Int) == 0)) rfl rfl ?_
  rcases Bool.eq_false_or_eq_true ((p0.length : Int) == 0) with hg36 | hg36
  ·replace hj := cT hg36 hj
   refine sk rfl (.inl (cb hg36)) rfl ?_
   refine sk rfl (.inl (cb hg36)) rfl ?_
   refine sk rfl (.inl (cb hg36)) rfl ?_
   refine RL.pick (b := ((p0.length : Int) == 0)) (v := (vb true)) trivial rfl rfl (by rw [hg36]; rfl) ?_
   refine as_ (vb true) rfl rfl ?_
   refine RL.nil ?_
   obtain rfl := oi hj
   exact ⟨rfl, ⟨rfl, trivial⟩, hw.pick 1 [] (new := []) rfl rfl (by decide) (by decide)⟩
  replace hj := cF hg36 hj
  refine RL.move (v := v0) ⟨_, rfl, cb hg36⟩ rfl rfl ?_
  obtain ⟨x37, hx37, hj⟩ := bd hj
  refine RL.call ⟨_, rfl, cb hg36⟩ rfl fn40 [v0] rfl (Calls_ret (shape_Set_Around_ok N  (i0 := 0) hw rfl hx37) ?_)
  rintro v38 w hw
  obtain ⟨x39, hx39, hj⟩ := bd hj
  refine RL.call ⟨_, rfl, cb hg36⟩ rfl fn39 [v38] rfl (Calls_ret (shape_isRect_ok N  (i0 := 0) hw rfl hx39) ?_)
  rintro _ w ⟨rfl, hw⟩
  refine RL.pick (b := ((p0.length : Int) == 0)) (v := (vb x39)) trivial rfl rfl (by rw [hg36]; rfl) ?_
  refine as_ (vb x39) rfl rfl ?_
  refine RL.nil ?_
  obtain rfl := oi hj
  exact ⟨rfl, ⟨rfl, trivial⟩, hw.pick 2 [] (new := []) rfl rfl (by decide) (by decide)⟩
 rintro σ w ⟨ha, hw⟩
 obtain ⟨τ, rfl⟩ := ha.ups
 refine thenQ_n ?_
 refine RC.ret ?_
 obtain rfl := oi hb
 exact fin1 rfl rfl ⟨rfl, hw.drop 0 rfl⟩
def copper_Square_R (E : World) (Γ : List HP) (res : Rect × Int) (v : Value) (w : World) : Prop := ∃ u0 : Value, v = .tuple #[u0, (vi res.2)] ∧ Holds E w (rd u0 res.1 :: Γ)
def copper_Square_K (E : World) (Γ : List HP) (r : Rect × Int) (σ : Nat → Value) (w : World) : Prop := finQ Try.prog 25 Try.f5 (copper_Square_R E Γ r) .ret σ w
theorem copper_Square_ok (N : Nat) {E w : World} {Γ : List HP} {i0 : Nat} {v0 : Value} {p0 : Bore} {res : Rect × Int} (hw : Holds E w Γ) (h0 : Γ[i0]? = some (rd v0 p0)) (hb : copper_Square N p0 = some res) :
    Calls Try.prog 5 [v0].toArray w (Ret (copper_Square_R E Γ res)) := by
 unfold copper_Square at hb
 refine enter Try.func5 rfl rfl (Nat.le_of_ble_eq_true rfl) ?_
 have hw := hw.dup (i := i0 + 0) h0
 refine RC.sr ?_
 refine RL.box_rd (i := 0) (v := v0) trivial rfl hw rfl rfl fun b31 w hw => ?_
 refine RL.alloc trivial rfl hw ze27.z fun b32 w hw => ?_
 refine as_ (vi 0) rfl rfl ?_
 refine RL.nq ?_
 refine RC.seq ?_
 obtain ⟨s38, hj, hb⟩ := bd hb
 refine RC.jn (fun (s38 : Bool) (σ : Nat → Value) (w : World) => agree σ [(1, (vp b31 0)), (2, (vp b32 0)), (14, (vb s38))] ∧ Holds E w ([bx 25 b31 p0, raw 27 b32 4] ++ Γ)) s38 ?_ ?_
 ·refine RC.region ?_
  refine RL.fa_b trivial rfl rfl fa25_1 ?_
  refine RL.load_bfs (i := 1) (f := (fun x => x.Size)) trivial rfl hw rfl rfl fd_Bore_1 ty3 ?_
  obtain ⟨x39, hx39, hj⟩ := bd hj
  refine RL.call trivial rfl fn12 [(vi p0.Size), (vi 1), (vi 10000)] rfl (Calls_ret (copper_within_ok N (p0 := p0.Size) (p1 := 1) (p2 := 10000)  hw  hx39) ?_)
  rintro _ w ⟨rfl, hw⟩
  refine RL.not (b := x39) trivial rfl rfl ?_
  refine mv (vb (!x39)) rfl rfl ?_
  rcases Bool.eq_false_or_eq_true (!x39) with hg40 | hg40
  ·replace hj := cT hg40 hj
   refine sk rfl (.inl (cb hg40)) rfl ?_
   refine sk rfl (.inl (cb hg40)) rfl ?_
   refine sk rfl (.inl (cb hg40)) rfl ?_
   refine sk rfl (.inl (cb hg40)) rfl ?_
   refine RL.pick (b := (!x39)) (v := (vb true)) trivial rfl rfl (by rw [hg40]; rfl) ?_
   refine RL.nil ?_
   obtain rfl := oi hj
   exact ⟨rfl, ⟨rfl, rfl, rfl, trivial⟩, hw.pick 3 [1, 0] (new := [bx 25 b31 p0, raw 27 b32 4]) rfl rfl (by decide) (by decide)⟩
  replace hj := cF hg40 hj
  refine RL.fa_b ⟨_, rfl, cb hg40⟩ rfl rfl fa25_0 ?_
  refine RL.load_bf (i := 1) (f := (fun x => x.At)) ⟨_, rfl, cb hg40⟩ rfl hw rfl rfl fd_Bore_0 ty23 fun v41 hw => ?_
  obtain ⟨x42, hx42, hj⟩ := bd hj
  refine RL.call ⟨_, rfl, cb hg40⟩ rfl fn13 [v41] rfl (Calls_ret (shape_IsPoint_ok N  (i0 := 0) hw rfl hx42) ?_)
  rintro _ w ⟨rfl, hw⟩
  refine RL.not (b := x42) ⟨_, rfl, cb hg40⟩ rfl rfl ?_
  refine RL.pick (b := (!x39)) (v := (vb (!x42))) trivial rfl rfl (by rw [hg40]; rfl) ?_
  refine RL.nil ?_
  obtain rfl := oi hj
  exact ⟨rfl, ⟨rfl, rfl, rfl, trivial⟩, hw.pick 4 [2, 1] (new := [bx 25 b31 p0, raw 27 b32 4]) rfl rfl (by decide) (by decide)⟩
 rintro σ w ⟨ha, hw⟩
 obtain ⟨τ, rfl⟩ := ha.ups
 refine thenQ_n ?_
 refine RC.cond (b := s38) rfl (fun hc => ?_) (fun hc => ?_)
 ·replace hb := cT hc hb
  refine RC.sr ?_
  refine RL.build (y := (⟨0, 0, 0, 0⟩ : Rect)) trivial rfl hw [] rfl st27 rfl (fun M hs g => by have h := z_Rect M; exact Fills.nil h) fun v44 hw => ?_
  refine RL.store_raw (i := 2) (j := 0) trivial hw rfl rfl rfl rfl ty27 rfl fun w hw => ?_
  refine as_ (vi 1) rfl rfl ?_
  refine RL.nt ?_
  refine RC.rt ?_
  obtain rfl := oi hb
  exact finC2 (i := 2) rfl hw rfl rfl ty27 rfl fun v45 hw => ⟨v45, rfl, hw.pick 4 [0] (new := [rd v45 (⟨0, 0, 0, 0⟩ : Rect)]) rfl rfl (by decide) (by decide)⟩
 replace hb := cF hc hb
 refine RC.sx ?_
 refine RL.load_bf (i := 0) (f := (fun x => x)) trivial rfl hw rfl rfl Fd.self ty25 fun v46 hw => ?_
 obtain ⟨x47, hx47, hb⟩ := bd hb
 refine RL.call trivial rfl fn14 [v46] rfl (Calls_ret (copper_SquareOf_ok N  (i0 := 0) hw rfl hx47) ?_)
 rintro v48 w hw
 refine RL.alloc trivial rfl hw ze27.z fun b49 w hw => ?_
 refine RL.store_raw (i := 0) (j := 1) trivial hw rfl rfl rfl rfl ty27 rfl fun w hw => ?_
 refine RL.nq ?_
 refine RC.sr ?_
 refine RL.load_bf (i := 0) (f := (fun x => x)) trivial rfl hw rfl rfl Fd.self ty27 fun v50 hw => ?_
 refine RL.bslice (l := ([x47] : (List Rect))) trivial rfl hw [v50] rfl rfl rfl sl38 ze27 (fun M hs g => ⟨(g.sat 0 _ rfl).1, trivial⟩) fun v51 w hw => ?_
 have hw := hw.freeze (i := 0) rfl
 obtain ⟨x52, hx52, hb⟩ := bd hb
 refine RL.call trivial rfl fn15 [v51] rfl (Calls_ret (shape_SetOf_ok N  (i0 := 0) hw rfl hx52) ?_)
 rintro v53 w hw
 have hw := hw.freeze (i := 0) rfl
 obtain ⟨x54, hx54, hb⟩ := bd hb
 refine RL.call trivial rfl fn16 [v53] rfl (Calls_ret (shape_Set_Fits_ok N  (i0 := 0) hw rfl hx54) ?_)
 rintro _ w ⟨rfl, hw⟩
 refine RL.not (b := x54) trivial rfl rfl ?_
 refine RL.nt ?_
 refine RC.cond (b := (!x54)) rfl (fun hc => ?_) (fun hc => ?_)
 ·replace hb := cT hc hb
  refine RC.sr ?_
  refine RL.build (y := (⟨0, 0, 0, 0⟩ : Rect)) trivial rfl hw [] rfl st27 rfl (fun M hs g => by have h := z_Rect M; exact Fills.nil h) fun v56 hw => ?_
  refine RL.store_raw (i := 8) (j := 0) trivial hw rfl rfl rfl rfl ty27 rfl fun w hw => ?_
  refine as_ (vi 1) rfl rfl ?_
  refine RL.nt ?_
  refine RC.rt ?_
  obtain rfl := oi hb
  exact finC2 (i := 8) rfl hw rfl rfl ty27 rfl fun v57 hw => ⟨v57, rfl, hw.pick 10 [0] (new := [rd v57 (⟨0, 0, 0, 0⟩ : Rect)]) rfl rfl (by decide) (by decide)⟩
 replace hb := cF hc hb
 refine RC.sx ?_
 refine RL.load_bf (i := 3) (f := (fun x => x)) trivial rfl hw rfl rfl Fd.self ty27 fun v58 hw => ?_
 refine RL.store_raw (i := 8) (j := 0) trivial hw rfl rfl rfl rfl ty27 rfl fun w hw => ?_
 refine as_ (vi 0) rfl rfl ?_
 refine RL.nt ?_
 refine RC.ret ?_
 obtain rfl := oi hb
 exact finC2 (i := 8) rfl hw rfl rfl ty27 rfl fun v59 hw => ⟨v59, rfl, hw.pick 10 [0] (new := [rd v59 x47]) rfl rfl (by decide) (by decide)⟩
def etchhouseref5_within_R (E : World) (Γ : List HP) (res : Bool) (v : Value) (w : World) : Prop := v = (vb res) ∧ Holds E w Γ
def etchhouseref5_within_K (E : World) (Γ : List HP) (r : Bool) (σ : Nat → Value) (w : World) : Prop := finQ Try.prog 15 Try.f41 (etchhouseref5_within_R E Γ r) .ret σ w
theorem etchhouseref5_within_ok (N : Nat) {E w : World} {Γ : List HP} {p0 : Int} {p1 : Int} {p2 : Int} {res : Bool} (hw : Holds E w Γ)  (hb : etchhouseref5_within N p0 p1 p2 = some res) :
    Calls Try.prog 41 [(vi p0), (vi p1), (vi p2)].toArray w (Ret (etchhouseref5_within_R E Γ res)) := by
 unfold etchhouseref5_within at hb
 refine enter Try.func41 rfl rfl (Nat.le_of_ble_eq_true rfl) ?_
 refine RC.sr ?_
 refine as_ (vb false) rfl rfl ?_
 refine RL.ns ?_
 refine mv (vi p0) rfl rfl ?_
 refine mv (vi p1) rfl rfl ?_
 refine ic p0 p1 rfl rfl rfl rfl ?_
 refine mv (vb (decide (p0 ≥ p1))) rfl rfl ?_
 refine RL.gs (c := true) (b := (decide (p0 ≥ p1))) (v := (vi p0)) rfl rfl rfl (gs_move rfl (fun _ => rfl)) ?_
 refine RL.gs (c := true) (b := (decide (p0 ≥ p1))) (v := (vi p2)) rfl rfl rfl (gs_move rfl (fun _ => rfl)) ?_
 refine RL.gs (c := true) (b := (decide (p0 ≥ p1))) (v := (vb (decide (p0 ≤ p2)))) rfl rfl rfl (gs_icmp (bop := .leq) (K := .i64) (a := p0) (b := p2) rfl (fun h => by exact (cv_t h : cv (true && ((decide (p0 ≥ p1)) == true)) (vi p0) = (vi p0))) (fun h => by exact (cv_t h : cv (true && ((decide (p0 ≥ p1)) == true)) (vi p2) = (vi p2))) rfl) ?_
 refine RL.pick (b := (decide (p0 ≥ p1))) (v := (vb ((decide (p0 ≥ p1)) && (decide (p0 ≤ p2))))) trivial rfl rfl (pk_and (c := true) rfl) ?_
 refine as_ (vb ((decide (p0 ≥ p1)) && (decide (p0 ≤ p2)))) rfl rfl ?_
 refine RL.nt ?_
 refine RC.ret ?_
 obtain rfl := oi hb
 exact fin1 rfl rfl ⟨rfl, hw.drop 0 rfl⟩
def etchhouseref1_within_R (E : World) (Γ : List HP) (res : Bool) (v : Value) (w : World) : Prop := v = (vb res) ∧ Holds E w Γ
def etchhouseref1_within_K (E : World) (Γ : List HP) (r : Bool) (σ : Nat → Value) (w : World) : Prop := finQ Try.prog 15 Try.f60 (etchhouseref1_within_R E Γ r) .ret σ w
theorem etchhouseref1_within_ok (N : Nat) {E w : World} {Γ : List HP} {p0 : Int} {p1 : Int} {p2 : Int} {res : Bool} (hw : Holds E w Γ)  (hb : etchhouseref1_within N p0 p1 p2 = some res) :
    Calls Try.prog 60 [(vi p0), (vi p1), (vi p2)].toArray w (Ret (etchhouseref1_within_R E Γ res)) := by
 unfold etchhouseref1_within at hb
 refine enter Try.func60 rfl rfl (Nat.le_of_ble_eq_true rfl) ?_
 refine RC.sr ?_
 refine as_ (vb false) rfl rfl ?_
 refine RL.ns ?_
 refine mv (vi p0) rfl rfl ?_
 refine mv (vi p1) rfl rfl ?_
 refine ic p0 p1 rfl rfl rfl rfl ?_
 refine mv (vb (decide (p0 ≥ p1))) rfl rfl ?_
 refine RL.gs (c := true) (b := (decide (p0 ≥ p1))) (v := (vi p0)) rfl rfl rfl (gs_move rfl (fun _ => rfl)) ?_
 refine RL.gs (c := true) (b := (decide (p0 ≥ p1))) (v := (vi p2)) rfl rfl rfl (gs_move rfl (fun _ => rfl)) ?_
 refine RL.gs (c := true) (b := (decide (p0 ≥ p1))) (v := (vb (decide (p0 ≤ p2)))) rfl rfl rfl (gs_icmp (bop := .leq) (K := .i64) (a := p0) (b := p2) rfl (fun h => by exact (cv_t h : cv (true && ((decide (p0 ≥ p1)) == true)) (vi p0) = (vi p0))) (fun h => by exact (cv_t h : cv (true && ((decide (p0 ≥ p1)) == true)) (vi p2) = (vi p2))) rfl) ?_
 refine RL.pick (b := (decide (p0 ≥ p1))) (v := (vb ((decide (p0 ≥ p1)) && (decide (p0 ≤ p2))))) trivial rfl rfl (pk_and (c := true) rfl) ?_
 refine as_ (vb ((decide (p0 ≥ p1)) && (decide (p0 ≤ p2)))) rfl rfl ?_
 refine RL.nt ?_
 refine RC.ret ?_
 obtain rfl := oi hb
 exact fin1 rfl rfl ⟨rfl, hw.drop 0 rfl⟩
def etchhouseref1_At_R (E : World) (Γ : List HP) (res : Bool) (v : Value) (w : World) : Prop := v = (vb res) ∧ Holds E w Γ
def etchhouseref1_At_K (E : World) (Γ : List HP) (r : Bool) (σ : Nat → Value) (w : World) : Prop := finQ Try.prog 5 Try.f43 (etchhouseref1_At_R E Γ r) .ret σ w
theorem etchhouseref1_At_ok (N : Nat) {E w : World} {Γ : List HP} {p0 : Int} {res : Bool} (hw : Holds E w Γ)  (hb : etchhouseref1_At N p0 = some res) :
    Calls Try.prog 43 [(vi p0)].toArray w (Ret (etchhouseref1_At_R E Γ res)) := by
 unfold etchhouseref1_At at hb
 refine enter Try.func43 rfl rfl (Nat.le_of_ble_eq_true rfl) ?_
 refine RC.sr ?_
 refine as_ (vb false) rfl rfl ?_
 refine RL.ns ?_
 refine mv (vi p0) rfl rfl ?_
 obtain ⟨x31, hx31, hb⟩ := bd hb
 refine RL.call trivial rfl fn60 [(vi p0), (vi (-1000000)), (vi 1000000)] rfl (Calls_ret (etchhouseref1_within_ok N (p0 := p0) (p1 := (-1000000)) (p2 := 1000000)  hw  hx31) ?_)
 rintro _ w ⟨rfl, hw⟩
 refine as_ (vb x31) rfl rfl ?_
 refine RL.nt ?_
 refine RC.ret ?_
 obtain rfl := oi hb
 exact fin1 rfl rfl ⟨rfl, hw.drop 0 rfl⟩
def etchhouseref1_IsPoint_R (E : World) (Γ : List HP) (res : Bool) (v : Value) (w : World) : Prop := v = (vb res) ∧ Holds E w Γ
def etchhouseref1_IsPoint_K (E : World) (Γ : List HP) (r : Bool) (σ : Nat → Value) (w : World) : Prop := finQ Try.prog 11 Try.f42 (etchhouseref1_IsPoint_R E Γ r) .ret σ w
theorem etchhouseref1_IsPoint_ok (N : Nat) {E w : World} {Γ : List HP} {i0 : Nat} {v0 : Value} {p0 : Point} {res : Bool} (hw : Holds E w Γ) (h0 : Γ[i0]? = some (rd v0 p0)) (hb : etchhouseref1_IsPoint N p0 = some res) :
    Calls Try.prog 42 [v0].toArray w (Ret (etchhouseref1_IsPoint_R E Γ res)) := by
 unfold etchhouseref1_IsPoint at hb
 refine enter Try.func42 rfl rfl (Nat.le_of_ble_eq_true rfl) ?_
 have hw := hw.dup (i := i0 + 0) h0
 refine RC.sr ?_
 refine RL.box_rd (i := 0) (v := v0) trivial rfl hw rfl rfl fun b31 w hw => ?_
 refine as_ (vb false) rfl rfl ?_
 refine RL.nq ?_
 obtain ⟨s36, hj, hb⟩ := bd hb
 refine RC.jn (fun (s36 : Bool) (σ : Nat → Value) (w : World) => agree σ [(2, (vb s36))] ∧ Holds E w ([] ++ Γ)) s36 ?_ ?_
 ·refine RC.region ?_
  refine RL.fa_b trivial rfl rfl fa23_0 ?_
  refine RL.load_bfs (i := 0) (f := (fun x => x.X)) trivial rfl hw rfl rfl fd_Point_0 ty3 ?_
  obtain ⟨x37, hx37, hj⟩ := bd hj
  refine RL.call trivial rfl fn43 [(vi p0.X)] rfl (Calls_ret (etchhouseref1_At_ok N (p0 := p0.X)  hw  hx37) ?_)
  rintro _ w ⟨rfl, hw⟩
  refine mv (vb x37) rfl rfl ?_
  rcases Bool.eq_false_or_eq_true x37 with hg38 | hg38
  rotate_left
  ·replace hj := cF hg38 hj
   refine sk rfl (.inl (cb hg38)) rfl ?_
   refine sk rfl (.inl (cb hg38)) rfl ?_
   refine sk rfl (.inl (cb hg38)) rfl ?_
   refine RL.pick (b := x37) (v := (vb false)) trivial rfl rfl (by rw [hg38]; rfl) ?_
   refine as_ (vb false) rfl rfl ?_
   refine RL.nil ?_
   obtain rfl := oi hj
   exact ⟨rfl, ⟨rfl, trivial⟩, hw.pick 2 [] (new := []) rfl rfl (by decide) (by decide)⟩
  replace hj := cT hg38 hj
  refine RL.fa_b ⟨_, rfl, cb hg38⟩ rfl rfl fa23_1 ?_
  refine RL.load_bfs (i := 0) (f := (fun x => x.Y)) ⟨_, rfl, cb hg38⟩ rfl hw rfl rfl fd_Point_1 ty3 ?_
  obtain ⟨x39, hx39, hj⟩ := bd hj
  refine RL.call ⟨_, rfl, cb hg38⟩ rfl fn43 [(vi p0.Y)] rfl (Calls_ret (etchhouseref1_At_ok N (p0 := p0.Y)  hw  hx39) ?_)
  rintro _ w ⟨rfl, hw⟩
  refine RL.pick (b := x37) (v := (vb x39)) trivial rfl rfl (by rw [hg38]; rfl) ?_
  refine as_ (vb x39) rfl rfl ?_
  refine RL.nil ?_
  obtain rfl := oi hj
  exact ⟨rfl, ⟨rfl, trivial⟩, hw.pick 2 [] (new := []) rfl rfl (by decide) (by decide)⟩
 rintro σ w ⟨ha, hw⟩
 obtain ⟨τ, rfl⟩ := ha.ups
 refine thenQ_n ?_
 refine RC.ret ?_
 obtain rfl := oi hb
 exact fin1 rfl rfl ⟨rfl, hw.drop 0 rfl⟩
def etchhouseref5_SquareOf_R (E : World) (Γ : List HP) (res : Rect) (v : Value) (w : World) : Prop := Holds E w (rd v res :: Γ)
def etchhouseref5_SquareOf_K (E : World) (Γ : List HP) (r : Rect) (σ : Nat → Value) (w : World) : Prop := finQ Try.prog 30 Try.f18 (etchhouseref5_SquareOf_R E Γ r) .ret σ w
theorem etchhouseref5_SquareOf_ok (N : Nat) {E w : World} {Γ : List HP} {i0 : Nat} {v0 : Value} {p0 : Bore} {res : Rect} (hw : Holds E w Γ) (h0 : Γ[i0]? = some (rd v0 p0)) (hb : etchhouseref5_SquareOf N p0 = some res) :
    Calls Try.prog 18 [v0].toArray w (Ret (etchhouseref5_SquareOf_R E Γ res)) := by
 unfold etchhouseref5_SquareOf at hb
 refine enter Try.func18 rfl rfl (Nat.le_of_ble_eq_true rfl) ?_
 have hw := hw.dup (i := i0 + 0) h0
 refine RC.sr ?_
 refine RL.box_rd (i := 0) (v := v0) trivial rfl hw rfl rfl fun b31 w hw => ?_
 refine RL.alloc trivial rfl hw ze27.z fun b32 w hw => ?_
 refine RL.nq ?_
 refine RC.drw mixed rfl (fun (D : Nat → Bool) (σ : Nat → Value) (w : World) => doneV D σ [(0, 5, (vp b31 0)), (1, 6, (vp b31 0)), (2, 7, (vi p0.At.X)), (3, 8, (vp b31 2)), (4, 9, (vi p0.Size)), (5, 10, (vi (IntKind.wrap .i64 (Int.tdiv p0.Size 2)))), (6, 11, (vi (IntKind.wrap .i64 (p0.At.X - (IntKind.wrap .i64 (Int.tdiv p0.Size 2)))))), (7, 12, (vp b31 0)), (8, 13, (vp b31 1)), (9, 14, (vi p0.At.Y)), (10, 15, (vp b31 2)), (11, 16, (vi p0.Size)), (12, 17, (vi (IntKind.wrap .i64 (Int.tdiv p0.Size 2)))), (13, 18, (vi (IntKind.wrap .i64 (p0.At.Y - (IntKind.wrap .i64 (Int.tdiv p0.Size 2)))))), (14, 3, (vi (IntKind.wrap .i64 (p0.At.X - (IntKind.wrap .i64 (Int.tdiv p0.Size 2)))))), (15, 4, (vi (IntKind.wrap .i64 (p0.At.Y - (IntKind.wrap .i64 (Int.tdiv p0.Size 2))))))] ∧ agree σ [(1, (vp b31 0)), (2, (vp b32 0))] ∧ Holds E w ([raw 27 b32 4, bx 25 b31 p0, rd v0 p0] ++ Γ)) ?_ ⟨?_, ?_, ?_, ?_, ?_, ?_, ?_, ?_, ?_, ?_, ?_, ?_, ?_, ?_, ?_, ?_, trivial⟩ ?_
 ·have hw := hw.drew
  exact ⟨doneV.none, ⟨rfl, rfl, trivial⟩, hw⟩
 ·rintro D σ w hD hdep hcl ⟨hv, ha, hw⟩
  obtain ⟨τ, rfl⟩ := (ac (ha.at 0 rfl) az).ups
  refine RL.fa_b trivial rfl rfl fa25_0 ?_
  refine RL.nil ?_
  exact ⟨rfl, hv.put 0 rfl rfl, ha.up rfl, hw⟩
 ·rintro D σ w hD hdep hcl ⟨hv, ha, hw⟩
  obtain ⟨τ, rfl⟩ := (ac (hv.at 0 rfl (hdep.1 rfl)) az).ups
  refine RL.fa_b trivial rfl rfl fa23_0 ?_
  refine RL.nil ?_
  exact ⟨rfl, hv.put 1 rfl rfl, ha.up rfl, hw⟩
 ·rintro D σ w hD hdep hcl ⟨hv, ha, hw⟩
  obtain ⟨τ, rfl⟩ := (ac (hv.at 1 rfl (hdep.1 rfl)) az).ups
  refine RL.load_bfs (i := 1) (f := (fun x => x.At.X)) trivial rfl hw rfl rfl (Fd.comp fd_Bore_0 fd_Point_0 (by decide)) ty3 ?_
  refine RL.nil ?_
  exact ⟨rfl, hv.put 2 rfl rfl, ha.up rfl, hw⟩
 ·rintro D σ w hD hdep hcl ⟨hv, ha, hw⟩
  obtain ⟨τ, rfl⟩ := (ac (ha.at 0 rfl) az).ups
  refine RL.fa_b trivial rfl rfl fa25_1 ?_
  refine RL.nil ?_
  exact ⟨rfl, hv.put 3 rfl rfl, ha.up rfl, hw⟩
 ·rintro D σ w hD hdep hcl ⟨hv, ha, hw⟩
  obtain ⟨τ, rfl⟩ := (ac (hv.at 3 rfl (hdep.1 rfl)) az).ups
  refine RL.load_bfs (i := 1) (f := (fun x => x.Size)) trivial rfl hw rfl rfl fd_Bore_1 ty3 ?_
  refine RL.nil ?_
  exact ⟨rfl, hv.put 4 rfl rfl, ha.up rfl, hw⟩
 ·rintro D σ w hD hdep hcl ⟨hv, ha, hw⟩
  obtain ⟨τ, rfl⟩ := (ac (hv.at 4 rfl (hdep.1 rfl)) az).ups
  refine RL.quo (a := p0.Size) (b := 2) trivial rfl rfl rfl rfl ?_
  refine RL.nil ?_
  exact ⟨rfl, hv.put 5 rfl rfl, ha.up rfl, hw⟩
 ·rintro D σ w hD hdep hcl ⟨hv, ha, hw⟩
  obtain ⟨τ, rfl⟩ := (ac (hv.at 2 rfl (hdep.1 rfl)) (ac (hv.at 5 rfl (hdep.2.1 rfl)) az)).ups
  refine RL.iar (a := p0.At.X) (b := (IntKind.wrap .i64 (Int.tdiv p0.Size 2))) trivial rfl rfl rfl rfl ?_
  refine RL.nil ?_
  exact ⟨rfl, hv.put 6 rfl rfl, ha.up rfl, hw⟩
 ·rintro D σ w hD hdep hcl ⟨hv, ha, hw⟩
  obtain ⟨τ, rfl⟩ := (ac (ha.at 0 rfl) az).ups
  refine RL.fa_b trivial rfl rfl fa25_0 ?_
  refine RL.nil ?_
  exact ⟨rfl, hv.put 7 rfl rfl, ha.up rfl, hw⟩
 ·rintro D σ w hD hdep hcl ⟨hv, ha, hw⟩
  obtain ⟨τ, rfl⟩ := (ac (hv.at 7 rfl (hdep.1 rfl)) az).ups
  refine RL.fa_b trivial rfl rfl fa23_1 ?_
  refine RL.nil ?_
  exact ⟨rfl, hv.put 8 rfl rfl, ha.up rfl, hw⟩
 ·rintro D σ w hD hdep hcl ⟨hv, ha, hw⟩
  obtain ⟨τ, rfl⟩ := (ac (hv.at 8 rfl (hdep.1 rfl)) az).ups
  refine RL.load_bfs (i := 1) (f := (fun x => x.At.Y)) trivial rfl hw rfl rfl (Fd.comp fd_Bore_0 fd_Point_1 (by decide)) ty3 ?_
  refine RL.nil ?_
  exact ⟨rfl, hv.put 9 rfl rfl, ha.up rfl, hw⟩
 ·rintro D σ w hD hdep hcl ⟨hv, ha, hw⟩
  obtain ⟨τ, rfl⟩ := (ac (ha.at 0 rfl) az).ups
  refine RL.fa_b trivial rfl rfl fa25_1 ?_
  refine RL.nil ?_
  exact ⟨rfl, hv.put 10 rfl rfl, ha.up rfl, hw⟩
 ·rintro D σ w hD hdep hcl ⟨hv, ha, hw⟩
  obtain ⟨τ, rfl⟩ := (ac (hv.at 10 rfl (hdep.1 rfl)) az).ups
  refine RL.load_bfs (i := 1) (f := (fun x => x.Size)) trivial rfl hw rfl rfl fd_Bore_1 ty3 ?_
  refine RL.nil ?_
  exact ⟨rfl, hv.put 11 rfl rfl, ha.up rfl, hw⟩
 ·rintro D σ w hD hdep hcl ⟨hv, ha, hw⟩
  obtain ⟨τ, rfl⟩ := (ac (hv.at 11 rfl (hdep.1 rfl)) az).ups
  refine RL.quo (a := p0.Size) (b := 2) trivial rfl rfl rfl rfl ?_
  refine RL.nil ?_
  exact ⟨rfl, hv.put 12 rfl rfl, ha.up rfl, hw⟩
 ·rintro D σ w hD hdep hcl ⟨hv, ha, hw⟩
  obtain ⟨τ, rfl⟩ := (ac (hv.at 9 rfl (hdep.1 rfl)) (ac (hv.at 12 rfl (hdep.2.1 rfl)) az)).ups
  refine RL.iar (a := p0.At.Y) (b := (IntKind.wrap .i64 (Int.tdiv p0.Size 2))) trivial rfl rfl rfl rfl ?_
  refine RL.nil ?_
  exact ⟨rfl, hv.put 13 rfl rfl, ha.up rfl, hw⟩
 ·rintro D σ w hD hdep hcl ⟨hv, ha, hw⟩
  obtain ⟨τ, rfl⟩ := (ac (hv.at 6 rfl (hdep.1 rfl)) az).ups
  refine as_ (vi (IntKind.wrap .i64 (p0.At.X - (IntKind.wrap .i64 (Int.tdiv p0.Size 2))))) rfl rfl ?_
  refine RL.nil ?_
  exact ⟨rfl, hv.put 14 rfl rfl, ha.up rfl, hw⟩
 ·rintro D σ w hD hdep hcl ⟨hv, ha, hw⟩
  obtain ⟨τ, rfl⟩ := (ac (hv.at 13 rfl (hdep.1 rfl)) az).ups
  refine as_ (vi (IntKind.wrap .i64 (p0.At.Y - (IntKind.wrap .i64 (Int.tdiv p0.Size 2))))) rfl rfl ?_
  refine RL.nil ?_
  exact ⟨rfl, hv.put 15 rfl rfl, ha.up rfl, hw⟩
 rintro D σ w hall ⟨hv, ha, hw⟩
 obtain ⟨τ, rfl⟩ := (ac (hv.at 14 rfl (hall 14 (by decide))) (ac (hv.at 15 rfl (hall 15 (by decide))) (ac (ha.at 0 rfl) (ac (ha.at 1 rfl) az)))).ups
 refine thenQ_n ?_
 refine RC.sr ?_
 refine mv (vi (IntKind.wrap .i64 (p0.At.X - (IntKind.wrap .i64 (Int.tdiv p0.Size 2))))) rfl rfl ?_
 refine mv (vi (IntKind.wrap .i64 (p0.At.Y - (IntKind.wrap .i64 (Int.tdiv p0.Size 2))))) rfl rfl ?_
 refine mv (vi (IntKind.wrap .i64 (p0.At.X - (IntKind.wrap .i64 (Int.tdiv p0.Size 2))))) rfl rfl ?_
 refine RL.fa_b trivial rfl rfl fa25_1 ?_
 refine RL.load_bfs (i := 1) (f := (fun x => x.Size)) trivial rfl hw rfl rfl fd_Bore_1 ty3 ?_
 refine RL.iar (a := (IntKind.wrap .i64 (p0.At.X - (IntKind.wrap .i64 (Int.tdiv p0.Size 2))))) (b := p0.Size) trivial rfl rfl rfl rfl ?_
 refine mv (vi (IntKind.wrap .i64 (p0.At.Y - (IntKind.wrap .i64 (Int.tdiv p0.Size 2))))) rfl rfl ?_
 refine RL.fa_b trivial rfl rfl fa25_1 ?_
 refine RL.load_bfs (i := 1) (f := (fun x => x.Size)) trivial rfl hw rfl rfl fd_Bore_1 ty3 ?_
 refine RL.iar (a := (IntKind.wrap .i64 (p0.At.Y - (IntKind.wrap .i64 (Int.tdiv p0.Size 2))))) (b := p0.Size) trivial rfl rfl rfl rfl ?_
 have hw := hw.sc (γ := Int) (IntKind.wrap .i64 (p0.At.X - (IntKind.wrap .i64 (Int.tdiv p0.Size 2))))
 have hw := hw.sc (γ := Int) (IntKind.wrap .i64 (p0.At.Y - (IntKind.wrap .i64 (Int.tdiv p0.Size 2))))
 have hw := hw.sc (γ := Int) (IntKind.wrap .i64 ((IntKind.wrap .i64 (p0.At.X - (IntKind.wrap .i64 (Int.tdiv p0.Size 2)))) + p0.Size))
 have hw := hw.sc (γ := Int) (IntKind.wrap .i64 ((IntKind.wrap .i64 (p0.At.Y - (IntKind.wrap .i64 (Int.tdiv p0.Size 2)))) + p0.Size))
 refine RL.build (y := (⟨(IntKind.wrap .i64 (p0.At.X - (IntKind.wrap .i64 (Int.tdiv p0.Size 2)))), (IntKind.wrap .i64 (p0.At.Y - (IntKind.wrap .i64 (Int.tdiv p0.Size 2)))), (IntKind.wrap .i64 ((IntKind.wrap .i64 (p0.At.X - (IntKind.wrap .i64 (Int.tdiv p0.Size 2)))) + p0.Size)), (IntKind.wrap .i64 ((IntKind.wrap .i64 (p0.At.Y - (IntKind.wrap .i64 (Int.tdiv p0.Size 2)))) + p0.Size))⟩ : Rect)) trivial rfl hw [(0, (vi (IntKind.wrap .i64 (p0.At.X - (IntKind.wrap .i64 (Int.tdiv p0.Size 2)))))), (1, (vi (IntKind.wrap .i64 (p0.At.Y - (IntKind.wrap .i64 (Int.tdiv p0.Size 2)))))), (2, (vi (IntKind.wrap .i64 ((IntKind.wrap .i64 (p0.At.X - (IntKind.wrap .i64 (Int.tdiv p0.Size 2)))) + p0.Size)))), (3, (vi (IntKind.wrap .i64 ((IntKind.wrap .i64 (p0.At.Y - (IntKind.wrap .i64 (Int.tdiv p0.Size 2)))) + p0.Size))))] rfl st27 rfl (fun M hs g => by have h := z_Rect M; exact Fills.cons (f := fun (x : Rect) y => { x with X0 := y }) rfl h fs_Rect_0 (by decide) (g.sat 3 _ rfl).1 fun _ h => Fills.cons (f := fun (x : Rect) y => { x with Y0 := y }) rfl h fs_Rect_1 (by decide) (g.sat 2 _ rfl).1 fun _ h => Fills.cons (f := fun (x : Rect) y => { x with X1 := y }) rfl h fs_Rect_2 (by decide) (g.sat 1 _ rfl).1 fun _ h => Fills.cons (f := fun (x : Rect) y => { x with Y1 := y }) rfl h fs_Rect_3 (by decide) (g.sat 0 _ rfl).1 fun _ h => Fills.nil h) fun v33 hw => ?_
 refine RL.store_raw (i := 5) (j := 0) trivial hw rfl rfl rfl rfl ty27 rfl fun w hw => ?_
 refine RL.nt ?_
 refine RC.ret ?_
 obtain rfl := oi hb
 exact finC (i := 5) rfl hw rfl rfl ty27 fun v34 hw => (hw.pick 9 [0] (new := [rd v34 (⟨(IntKind.wrap .i64 (p0.At.X - (IntKind.wrap .i64 (Int.tdiv p0.Size 2)))), (IntKind.wrap .i64 (p0.At.Y - (IntKind.wrap .i64 (Int.tdiv p0.Size 2)))), (IntKind.wrap .i64 ((IntKind.wrap .i64 (p0.At.X - (IntKind.wrap .i64 (Int.tdiv p0.Size 2)))) + p0.Size)), (IntKind.wrap .i64 ((IntKind.wrap .i64 (p0.At.Y - (IntKind.wrap .i64 (Int.tdiv p0.Size 2)))) + p0.Size))⟩ : Rect)]) rfl rfl (by decide) (by decide))
end Go.Gk
