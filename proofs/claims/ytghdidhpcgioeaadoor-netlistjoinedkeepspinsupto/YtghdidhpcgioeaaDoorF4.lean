/-
  Printed by gen.py: Go functions as plain functions, and that they are.
-/
import Derived.Test.YtghdidhpcgioeaaDoorT
import Derived.Test.YtghdidhpcgioeaaDoorS
import Derived.Test.YtghdidhpcgioeaaDoorF2
import Derived.Test.YtghdidhpcgioeaaDoorF3
set_option linter.unusedVariables false
set_option linter.unusedSimpArgs false
set_option linter.unusedSectionVars false
set_option maxRecDepth 100000
set_option maxHeartbeats 4000000

namespace Go.Gk
open Go Go.Proofs
def etchhouselaw2_awake_R (E : World) (Γ : List HP) (res : Bool) (v : Value) (w : World) : Prop := v = (vb res) ∧ Holds E w Γ
def etchhouselaw2_awake_K (E : World) (Γ : List HP) (r : Bool) (σ : Nat → Value) (w : World) : Prop := finQ Tryd.prog 30 Tryd.f6 (etchhouselaw2_awake_R E Γ r) .ret σ w
theorem etchhouselaw2_awake_ok (N : Nat) {E w : World} {Γ : List HP}  {res : Bool} (hw : Holds E w Γ)  (hb : etchhouselaw2_awake N  = some res) :
    Calls Tryd.prog 6 [].toArray w (Ret (etchhouselaw2_awake_R E Γ res)) := by
 unfold etchhouselaw2_awake at hb
 refine enter Tryd.func6 rfl rfl (Nat.le_of_ble_eq_true rfl) ?_
 refine RC.sr ?_
 refine as_ (vb false) rfl rfl ?_
 refine RL.ns ?_
 have hw := hw.sc (γ := Str) ⟨[49]⟩
 have hw := hw.sc (γ := Int) 6
 refine RL.build (y := (⟨⟨[49]⟩, 6, 0⟩ : PinType)) trivial rfl hw [(0, (str ⟨[49]⟩)), (1, (vi 6))] rfl st63 rfl (fun M hs g => by have h := z_PinType M; exact Fills.cons (f := fun (x : PinType) y => { x with Name := y }) rfl h fs_PinType_0 (by decide) (g.sat 1 _ rfl).1 fun _ h => Fills.cons (f := fun (x : PinType) y => { x with Kind := y }) rfl h fs_PinType_1 (by decide) (g.sat 0 _ rfl).1 fun _ h => Fills.nil h) fun v31 hw => ?_
 refine RL.bslice (l := ([(⟨⟨[49]⟩, 6, 0⟩ : PinType)] : (List PinType))) trivial rfl hw [v31] rfl rfl rfl sl64 ze63 (fun M hs g => ⟨(g.sat 0 _ rfl).1, trivial⟩) fun v32 w hw => ?_
 have hw := hw.sc (γ := Str) ⟨[114]⟩
 have hw := hw.freeze (i := 1) rfl
 refine RL.build (y := (⟨⟨[114]⟩, ([(⟨⟨[49]⟩, 6, 0⟩ : PinType)] : (List PinType))⟩ : PartType)) trivial rfl hw [(0, (str ⟨[114]⟩)), (1, v32)] rfl st66 rfl (fun M hs g => by have h := z_PartType M; exact Fills.cons (f := fun (x : PartType) y => { x with Name := y }) rfl h fs_PartType_0 (by decide) (g.sat 0 _ rfl).1 fun _ h => Fills.cons (f := fun (x : PartType) y => { x with Pins := y }) rfl h fs_PartType_1 (by decide) (g.sat 1 _ rfl).1 fun _ h => Fills.nil h) fun v33 hw => ?_
 refine RL.bslice (l := ([(⟨⟨[114]⟩, ([(⟨⟨[49]⟩, 6, 0⟩ : PinType)] : (List PinType))⟩ : PartType)] : (List PartType))) trivial rfl hw [v33] rfl rfl rfl sl22 ze66 (fun M hs g => ⟨(g.sat 0 _ rfl).1, trivial⟩) fun v34 w hw => ?_
 refine as_ v34 rfl rfl ?_
 refine RL.ns ?_
 refine mv v34 rfl rfl ?_
 have hw := hw.sc (γ := Str) ⟨[97]⟩
 have hw := hw.sc (γ := Str) ⟨[114]⟩
 refine RL.build (y := (⟨⟨[97]⟩, ⟨[114]⟩⟩ : Part)) trivial rfl hw [(0, (str ⟨[97]⟩)), (1, (str ⟨[114]⟩))] rfl st36 rfl (fun M hs g => by have h := z_Part M; exact Fills.cons (f := fun (x : Part) y => { x with Name := y }) rfl h fs_Part_0 (by decide) (g.sat 1 _ rfl).1 fun _ h => Fills.cons (f := fun (x : Part) y => { x with Type_ := y }) rfl h fs_Part_1 (by decide) (g.sat 0 _ rfl).1 fun _ h => Fills.nil h) fun v35 hw => ?_
 refine RL.bslice (l := ([(⟨⟨[97]⟩, ⟨[114]⟩⟩ : Part)] : (List Part))) trivial rfl hw [v35] rfl rfl rfl sl23 ze36 (fun M hs g => ⟨(g.sat 0 _ rfl).1, trivial⟩) fun v36 w hw => ?_
 have hw := hw.freeze (i := 0) rfl
 refine RL.build (y := (⟨([(⟨⟨[97]⟩, ⟨[114]⟩⟩ : Part)] : (List Part)), []⟩ : Netlist)) trivial rfl hw [(0, v36)] rfl st26 rfl (fun M hs g => by have h := z_Netlist M; exact Fills.cons (f := fun (x : Netlist) y => { x with Parts := y }) rfl h fs_Netlist_0 (by decide) (g.sat 0 _ rfl).1 fun _ h => Fills.nil h) fun v37 hw => ?_
 have hw := hw.freeze (i := 5) rfl
 obtain ⟨x38, hx38, hb⟩ := bd hb
 refine RL.call trivial rfl fn23 [v34, v37] rfl (Calls_ret (netlist_Loose_ok N  (i0 := 5) (i1 := 0) hw rfl rfl hx38) ?_)
 rintro _ w ⟨v39, rfl, hw⟩
 refine mv (.tuple #[v39, (vi x38.2)]) rfl rfl ?_
 refine RL.extract (v := v39) trivial rfl rfl rfl ?_
 refine RL.extract (v := (vi x38.2)) trivial rfl rfl rfl ?_
 refine as_ v39 rfl rfl ?_
 refine as_ (vi x38.2) rfl rfl ?_
 refine RL.nq ?_
 obtain ⟨s46, hj, hb⟩ := bd hb
 refine RC.jn (fun (s46 : Bool) (σ : Nat → Value) (w : World) => agree σ [(0, (vb s46))] ∧ Holds E w ([] ++ Γ)) s46 ?_ ?_
 ·refine RC.region ?_
  refine mv (vi x38.2) rfl rfl ?_
  refine ic (x38.2) 0 rfl rfl rfl rfl ?_
  refine mv (vb (x38.2 == 0)) rfl rfl ?_
  rcases Bool.eq_false_or_eq_true (x38.2 == 0) with hg47 | hg47
  rotate_left
  ·replace hj := cF hg47 hj
   refine sk rfl (.inl (cb hg47)) rfl ?_
   refine sk rfl (.inl (cb hg47)) rfl ?_
   refine sk rfl (.inl (cb hg47)) rfl ?_
   refine RL.pick (b := (x38.2 == 0)) (v := (vb false)) trivial rfl rfl (by rw [hg47]; rfl) ?_
   refine mv (vb false) rfl rfl ?_
   refine sk rfl (.inl rfl) rfl ?_
   refine sk rfl (.inl rfl) rfl ?_
   refine sk rfl (.inl rfl) rfl ?_
   refine sk rfl (.inl rfl) rfl ?_
   refine sk rfl (.inl rfl) rfl ?_
   refine RL.pick (b := false) (v := (vb false)) trivial rfl rfl rfl ?_
   refine as_ (vb false) rfl rfl ?_
   refine RL.nil ?_
   obtain rfl := oi hj
   exact ⟨rfl, ⟨rfl, trivial⟩, hw.pick 13 [] (new := []) rfl rfl (by decide) (by decide)⟩
  replace hj := cT hg47 hj
  refine RL.move (v := v39) ⟨_, rfl, cb hg47⟩ rfl rfl ?_
  refine RL.len_own (i := 0) (l := x38.1) ⟨_, rfl, cb hg47⟩ rfl hw rfl rfl un37 ?_
  refine RL.icmp (a := (x38.1.length : Int)) (b := 1) ⟨_, rfl, cb hg47⟩ rfl rfl rfl rfl ?_
  refine RL.pick (b := (x38.2 == 0)) (v := (vb ((x38.1.length : Int) == 1))) trivial rfl rfl (by rw [hg47]; rfl) ?_
  refine mv (vb ((x38.1.length : Int) == 1)) rfl rfl ?_
  rcases Bool.eq_false_or_eq_true ((x38.1.length : Int) == 1) with hg48 | hg48
  rotate_left
  ·replace hj := cF hg48 hj
   refine sk rfl (.inl (cb hg48)) rfl ?_
   refine sk rfl (.inl (cb hg48)) rfl ?_
   refine sk rfl (.inl (cb hg48)) rfl ?_
   refine sk rfl (.inl (cb hg48)) rfl ?_
   refine sk rfl (.inl (cb hg48)) rfl ?_
   refine RL.pick (b := ((x38.1.length : Int) == 1)) (v := (vb false)) trivial rfl rfl (by rw [hg48]; rfl) ?_
   refine as_ (vb false) rfl rfl ?_
   refine RL.nil ?_
   obtain rfl := oi hj
   exact ⟨rfl, ⟨rfl, trivial⟩, hw.pick 13 [] (new := []) rfl rfl (by decide) (by decide)⟩
  replace hj := cT hg48 hj
  refine RL.move (v := v39) ⟨_, rfl, cb hg48⟩ rfl rfl ?_
  obtain ⟨x49, hx49, hj⟩ := bd hj
  refine RL.ia_ownA (i := 0) ⟨_, rfl, cb hg48⟩ rfl hw rfl rfl rfl sl37 hx49 ?_
  refine RL.load_el (i := 0) (f := (fun x => x)) ⟨_, rfl, cb hg48⟩ rfl hw rfl (elp hw (i := 0) rfl hx49 0) rfl (idx_some hx49).2.1 Fd.self ty45 fun v50 hw => ?_
  have hw := hw.sc (γ := Str) ⟨[97]⟩
  have hw := hw.sc (γ := Str) ⟨[49]⟩
  refine RL.build (y := (⟨⟨[97]⟩, ⟨[49]⟩⟩ : Pin)) ⟨_, rfl, cb hg48⟩ rfl hw [(0, (str ⟨[97]⟩)), (1, (str ⟨[49]⟩))] rfl st45 rfl (fun M hs g => by have h := z_Pin M; exact Fills.cons (f := fun (x : Pin) y => { x with Part := y }) rfl h fs_Pin_0 (by decide) (g.sat 1 _ rfl).1 fun _ h => Fills.cons (f := fun (x : Pin) y => { x with Pin := y }) rfl h fs_Pin_1 (by decide) (g.sat 0 _ rfl).1 fun _ h => Fills.nil h) fun v51 hw => ?_
  refine RL.seq (i := 3) (j := 0) (a := x49) (b := (⟨⟨[97]⟩, ⟨[49]⟩⟩ : Pin)) ⟨_, rfl, cb hg48⟩ rfl hw rfl rfl rfl rfl eqt45 rfl ?_
  refine RL.pick (b := ((x38.1.length : Int) == 1)) (v := (vb (decide (x49 = (⟨⟨[97]⟩, ⟨[49]⟩⟩ : Pin))))) trivial rfl rfl (by rw [hg48]; rfl) ?_
  refine as_ (vb (decide (x49 = (⟨⟨[97]⟩, ⟨[49]⟩⟩ : Pin)))) rfl rfl ?_
  refine RL.nil ?_
  obtain rfl := oi hj
  exact ⟨rfl, ⟨rfl, trivial⟩, hw.pick 17 [] (new := []) rfl rfl (by decide) (by decide)⟩
 rintro σ w ⟨ha, hw⟩
 obtain ⟨τ, rfl⟩ := ha.ups
 refine thenQ_n ?_
 refine RC.ret ?_
 obtain rfl := oi hb
 exact fin1 rfl rfl ⟨rfl, hw.drop 0 rfl⟩
def etchhouseref2_before_R (E : World) (Γ : List HP) (res : Bool) (v : Value) (w : World) : Prop := v = (vb res) ∧ Holds E w Γ
def etchhouseref2_before_K (E : World) (Γ : List HP) (r : Bool) (σ : Nat → Value) (w : World) : Prop := finQ Tryd.prog 24 Tryd.f62 (etchhouseref2_before_R E Γ r) .ret σ w
theorem etchhouseref2_before_ok (N : Nat) {E w : World} {Γ : List HP} {i0 : Nat} {v0 : Value} {p0 : Pin} {i1 : Nat} {v1 : Value} {p1 : Pin} {res : Bool} (hw : Holds E w Γ) (h0 : Γ[i0]? = some (rd v0 p0)) (h1 : Γ[i1]? = some (rd v1 p1)) (hb : etchhouseref2_before N p0 p1 = some res) :
    Calls Tryd.prog 62 [v0, v1].toArray w (Ret (etchhouseref2_before_R E Γ res)) := by
 unfold etchhouseref2_before at hb
 refine enter Tryd.func62 rfl rfl (Nat.le_of_ble_eq_true rfl) ?_
 have hw := hw.dup (i := i0 + 0) h0
 have hw := hw.dup (i := i1 + 1) h1
 refine RC.sr ?_
 refine RL.box_rd (i := 1) (v := v0) trivial rfl hw rfl rfl fun b31 w hw => ?_
 refine RL.box_rd (i := 1) (v := v1) trivial rfl hw rfl rfl fun b32 w hw => ?_
 refine as_ (vb false) rfl rfl ?_
 refine RL.ns ?_
 refine RL.fa_b trivial rfl rfl fa45_0 ?_
 refine RL.load_bfs (i := 1) (f := (fun x => x.Part)) trivial rfl hw rfl rfl fd_Pin_0 ty9 ?_
 refine RL.fa_b trivial rfl rfl fa45_0 ?_
 refine RL.load_bfs (i := 0) (f := (fun x => x.Part)) trivial rfl hw rfl rfl fd_Pin_0 ty9 ?_
 refine RL.scmp (a := p0.Part) (b := p1.Part) trivial rfl rfl rfl rfl ?_
 refine mv (vb (p0.Part.ltb p1.Part)) rfl rfl ?_
 refine RL.gs (c := true) (b := (p0.Part.ltb p1.Part)) (v := (vp b31 0)) rfl rfl rfl (gs_fa_b rfl (fun _ => rfl) fa45_0) ?_
 refine RL.gs (c := true) (b := (p0.Part.ltb p1.Part)) (v := (str p0.Part)) rfl rfl rfl (gs_load_bfs (i := 1) (f := (fun x => x.Part)) rfl hw (fun h => by exact (cv_t h : cv (true && ((p0.Part.ltb p1.Part) == false)) (vp b31 0) = (vp b31 0))) rfl fd_Pin_0 ty9) ?_
 refine RL.gs (c := true) (b := (p0.Part.ltb p1.Part)) (v := (vp b32 0)) rfl rfl rfl (gs_fa_b rfl (fun _ => rfl) fa45_0) ?_
 refine RL.gs (c := true) (b := (p0.Part.ltb p1.Part)) (v := (str p1.Part)) rfl rfl rfl (gs_load_bfs (i := 0) (f := (fun x => x.Part)) rfl hw (fun h => by exact (cv_t h : cv (true && ((p0.Part.ltb p1.Part) == false)) (vp b32 0) = (vp b32 0))) rfl fd_Pin_0 ty9) ?_
 refine RL.gs (c := true) (b := (p0.Part.ltb p1.Part)) (v := (vb (p0.Part.eqb p1.Part))) rfl rfl rfl (gs_scmp (bop := .eql) (a := p0.Part) (b := p1.Part) rfl (fun h => by exact (cv_t h : cv (true && ((p0.Part.ltb p1.Part) == false)) (str p0.Part) = (str p0.Part))) (fun h => by exact (cv_t h : cv (true && ((p0.Part.ltb p1.Part) == false)) (str p1.Part) = (str p1.Part))) rfl) ?_
 refine RL.gs (c := true) (b := (p0.Part.ltb p1.Part)) (v := (vb (p0.Part.eqb p1.Part))) rfl rfl rfl (gs_move rfl (fun h => by exact (cv_t h : cv (true && ((p0.Part.ltb p1.Part) == false)) (vb (p0.Part.eqb p1.Part)) = (vb (p0.Part.eqb p1.Part))))) ?_
 refine RL.gs (c := (true && ((p0.Part.ltb p1.Part) == false))) (b := (p0.Part.eqb p1.Part)) (v := (vp b31 1)) rfl rfl rfl (gs_fa_b rfl (fun _ => rfl) fa45_1) ?_
 refine RL.gs (c := (true && ((p0.Part.ltb p1.Part) == false))) (b := (p0.Part.eqb p1.Part)) (v := (str p0.Pin)) rfl rfl rfl (gs_load_bfs (i := 1) (f := (fun x => x.Pin)) rfl hw (fun h => by exact (cv_t h : cv ((true && ((p0.Part.ltb p1.Part) == false)) && ((p0.Part.eqb p1.Part) == true)) (vp b31 1) = (vp b31 1))) rfl fd_Pin_1 ty9) ?_
 refine RL.gs (c := (true && ((p0.Part.ltb p1.Part) == false))) (b := (p0.Part.eqb p1.Part)) (v := (vp b32 1)) rfl rfl rfl (gs_fa_b rfl (fun _ => rfl) fa45_1) ?_
 refine RL.gs (c := (true && ((p0.Part.ltb p1.Part) == false))) (b := (p0.Part.eqb p1.Part)) (v := (str p1.Pin)) rfl rfl rfl (gs_load_bfs (i := 0) (f := (fun x => x.Pin)) rfl hw (fun h => by exact (cv_t h : cv ((true && ((p0.Part.ltb p1.Part) == false)) && ((p0.Part.eqb p1.Part) == true)) (vp b32 1) = (vp b32 1))) rfl fd_Pin_1 ty9) ?_
 refine RL.gs (c := (true && ((p0.Part.ltb p1.Part) == false))) (b := (p0.Part.eqb p1.Part)) (v := (vb (p0.Pin.ltb p1.Pin))) rfl rfl rfl (gs_scmp (bop := .lss) (a := p0.Pin) (b := p1.Pin) rfl (fun h => by exact (cv_t h : cv ((true && ((p0.Part.ltb p1.Part) == false)) && ((p0.Part.eqb p1.Part) == true)) (str p0.Pin) = (str p0.Pin))) (fun h => by exact (cv_t h : cv ((true && ((p0.Part.ltb p1.Part) == false)) && ((p0.Part.eqb p1.Part) == true)) (str p1.Pin) = (str p1.Pin))) rfl) ?_
 refine RL.gs (c := true) (b := (p0.Part.ltb p1.Part)) (v := (vb ((p0.Part.eqb p1.Part) && (p0.Pin.ltb p1.Pin)))) rfl rfl rfl (gs_pick (b := (p0.Part.eqb p1.Part)) rfl (fun h => by exact (cv_t h : cv (true && ((p0.Part.ltb p1.Part) == false)) (vb (p0.Part.eqb p1.Part)) = (vb (p0.Part.eqb p1.Part)))) (fun h => by exact pk_and (c := (true && ((p0.Part.ltb p1.Part) == false))) h)) ?_
 refine RL.pick (b := (p0.Part.ltb p1.Part)) (v := (vb ((p0.Part.ltb p1.Part) || ((p0.Part.eqb p1.Part) && (p0.Pin.ltb p1.Pin))))) trivial rfl rfl (pk_or (c := true) rfl) ?_
 refine as_ (vb ((p0.Part.ltb p1.Part) || ((p0.Part.eqb p1.Part) && (p0.Pin.ltb p1.Pin)))) rfl rfl ?_
 refine RL.nt ?_
 refine RC.ret ?_
 obtain rfl := oi hb
 exact fin1 rfl rfl ⟨rfl, hw.drop 4 rfl⟩
def etchhouseref2_sortedPins_R (E : World) (Γ : List HP) (res : (List Pin)) (v : Value) (w : World) : Prop := Holds E w (own 45 v res :: Γ)
def etchhouseref2_sortedPins_K (E : World) (Γ : List HP) (r : (List Pin)) (σ : Nat → Value) (w : World) : Prop := finQ Tryd.prog 35 Tryd.f31 (etchhouseref2_sortedPins_R E Γ r) .ret σ w
theorem etchhouseref2_sortedPins_ok (N : Nat) {E w : World} {Γ : List HP} {i0 : Nat} {v0 : Value} {p0 : (List Pin)} {res : (List Pin)} (hw : Holds E w Γ) (h0 : Γ[i0]? = some (rd v0 p0)) (hb : etchhouseref2_sortedPins N p0 = some res) :
    Calls Tryd.prog 31 [v0].toArray w (Ret (etchhouseref2_sortedPins_R E Γ res)) := by
 unfold etchhouseref2_sortedPins at hb
 refine enter Tryd.func31 rfl rfl (Nat.le_of_ble_eq_true rfl) ?_
 have hw := hw.dup (i := i0 + 0) h0
 refine RC.sr ?_
 refine as_ (.slice none 0 0) rfl rfl ?_
 refine RL.ns ?_
 refine as_ (.slice none 0 0) rfl rfl ?_
 refine RL.nq ?_
 refine RC.sr ?_
 refine mv v0 rfl rfl ?_
 refine RL.len_rd (i := 0) (l := p0) trivial rfl hw rfl rfl un37 ?_
 refine mv (vi 0) rfl rfl ?_
 refine RL.nt ?_
 obtain ⟨s32, hN, hb⟩ := bd hb
 refine RC.fold (fun (k31 : Nat) (s32 : (List Pin)) (σ : Nat → Value) (w : World) => ∃ v159 : Value, agree σ [(3, v159), (7, v0), (8, (vi (p0.length : Int))), (9, (vi (k31 : Int)))] ∧ Holds E w ([rd v0 p0, own 45 v159 s32] ++ Γ)) (fun (s32 : (List Pin)) (σ : Nat → Value) (w : World) => ∃ v160 : Value, agree σ [(3, v160)] ∧ Holds E w ([rd v0 p0, own 45 v160 s32] ++ Γ)) hN ?_ ?_ ?_ ?_
 ·have hw := hw.own_nil Pin 45
  exact ⟨(.slice none 0 0), ⟨rfl, rfl, rfl, rfl, trivial⟩, hw.pick 2 [1, 0] (new := [rd v0 p0, own 45 (.slice none 0 0) ([] : (List Pin))]) rfl rfl (by decide) (by decide)⟩
 ·intro hm s32 σ w hI
  obtain ⟨v218, ha, hw⟩ := hI
  obtain ⟨τ, rfl⟩ := ha.ups
  refine RC.sr ?_
  refine ic ((p0.length : Int)) ((p0.length : Int)) rfl rfl rfl rfl ?_
  refine RL.nq ?_
  refine RC.cond_f dge ?_
  refine RC.ex ?_
  exact ⟨rfl, v218, ⟨rfl, trivial⟩, hw.pick 2 [0, 1] (new := [rd v0 p0, own 45 v218 s32]) rfl rfl (by decide) (by decide)⟩
 ·intro hm k31 s32 s' σ w hk hI hb
  obtain ⟨v161, ha, hw⟩ := hI
  obtain ⟨τ, rfl⟩ := ha.ups
  refine RC.sr ?_
  refine ic ((k31 : Int)) ((p0.length : Int)) rfl rfl rfl rfl ?_
  refine RL.nq ?_
  refine RC.cond_t (dlt hk) ?_
  refine RC.ss ?_
  refine RC.bs ?_
  obtain ⟨x162, hx162, hb⟩ := bd hb
  refine RL.ia_rd (i := 0) trivial rfl hw rfl rfl rfl sl37 hx162 fun v163 hw => ?_
  refine RL.load_pt (i := 0) (x := x162) trivial rfl hw rfl rfl ty45 fun v164 hw => ?_
  refine RL.alloc trivial rfl hw ze45.z fun b165 w hw => ?_
  refine RL.store_raw (i := 0) (j := 1) trivial hw rfl rfl rfl rfl ty45 rfl fun w hw => ?_
  refine RL.ns ?_
  refine mv v161 rfl rfl ?_
  refine RL.len_own (i := 4) (l := s32) trivial rfl hw rfl rfl un37 ?_
  refine as_ (vi (s32.length : Int)) rfl rfl ?_
  refine RL.nq ?_
  obtain ⟨o217, hN, hb⟩ := bd hb
  refine RC.iter (fun (s167 : Int) (σ : Nat → Value) (w : World) => agree σ [(3, v161), (5, (vp b165 0)), (6, (vi s167)), (7, v0), (8, (vi (p0.length : Int))), (9, (vi (k31 : Int)))] ∧ Holds E w ([own 45 v161 s32, bx 45 b165 x162, rd v0 p0] ++ Γ)) (fun (s167 : Int) (σ : Nat → Value) (w : World) => agree σ [(3, v161), (5, (vp b165 0)), (6, (vi s167)), (7, v0), (8, (vi (p0.length : Int))), (9, (vi (k31 : Int)))] ∧ Holds E w ([own 45 v161 s32, bx 45 b165 x162, rd v0 p0] ++ Γ)) (fun (r : Empty) (_ : Nat → Value) (_ : World) => r.elim) hN ?_ ?_ ?_ ?_ 
  ·exact ⟨⟨rfl, rfl, rfl, rfl, rfl, rfl, trivial⟩, hw.pick 5 [4, 0, 3] (new := [own 45 v161 s32, bx 45 b165 x162, rd v0 p0]) rfl rfl (by decide) (by decide)⟩
  ·intro s167 fl σ w hI hb
   obtain ⟨ha, hw⟩ := hI
   obtain ⟨τ, rfl⟩ := ha.ups
   refine RC.seq ?_
   refine RC.seq ?_
   obtain ⟨s205, hj, hb⟩ := bd hb
   refine RC.jn (fun (s205 : Bool) (σ : Nat → Value) (w : World) => agree σ [(3, v161), (5, (vp b165 0)), (6, (vi s167)), (7, v0), (8, (vi (p0.length : Int))), (9, (vi (k31 : Int))), (25, (vb s205))] ∧ Holds E w ([own 45 v161 s32, bx 45 b165 x162, rd v0 p0] ++ Γ)) s205 ?_ ?_
   ·rcases Bool.eq_false_or_eq_true (decide (s167 > 0)) with hg206 | hg206
    rotate_left
    ·replace hj := cF hg206 hj
     refine RC.drw mixed rfl (fun (D : Nat → Bool) (σ : Nat → Value) (w : World) => doneV D σ [(0, 15, (vi s167)), (1, 16, (vb (decide (s167 > 0)))), (2, 17, (vb (decide (s167 > 0)))), (3, 18, undef), (4, 19, undef), (5, 20, undef), (6, 21, undef), (7, 22, undef), (8, 23, undef), (9, 24, undef), (10, 25, (vb false))] ∧ agree σ [(3, v161), (5, (vp b165 0)), (6, (vi s167)), (7, v0), (8, (vi (p0.length : Int))), (9, (vi (k31 : Int)))] ∧ Holds E w ([own 45 v161 s32, bx 45 b165 x162, rd v0 p0] ++ Γ)) ?_ ⟨?_, ?_, ?_, ?_, ?_, ?_, ?_, ?_, ?_, ?_, ?_, trivial⟩ ?_
     ·have hw := hw.drew
      exact ⟨doneV.none, ⟨rfl, rfl, rfl, rfl, rfl, rfl, trivial⟩, hw⟩
     ·rintro D σ w hD hdep hcl ⟨hv, ha, hw⟩
      obtain ⟨τ, rfl⟩ := (ac (ha.at 2 rfl) az).ups
      refine mv (vi s167) rfl rfl ?_
      refine RL.nil ?_
      exact ⟨rfl, hv.put 0 rfl rfl, ha.up rfl, hw⟩
     ·rintro D σ w hD hdep hcl ⟨hv, ha, hw⟩
      obtain ⟨τ, rfl⟩ := (ac (hv.at 0 rfl (hdep.1 rfl)) az).ups
      refine ic s167 0 rfl rfl rfl rfl ?_
      refine RL.nil ?_
      exact ⟨rfl, hv.put 1 rfl rfl, ha.up rfl, hw⟩
     ·rintro D σ w hD hdep hcl ⟨hv, ha, hw⟩
      obtain ⟨τ, rfl⟩ := (ac (hv.at 1 rfl (hdep.1 rfl)) az).ups
      refine mv (vb (decide (s167 > 0))) rfl rfl ?_
      refine RL.nil ?_
      exact ⟨rfl, hv.put 2 rfl rfl, ha.up rfl, hw⟩
     ·rintro D σ w hD hdep hcl ⟨hv, ha, hw⟩
      obtain ⟨τ, rfl⟩ := (ac (hv.at 2 rfl (hdep.1 rfl)) (ac (ha.at 1 rfl) az)).ups
      refine sk rfl (.inl (cb hg206)) rfl ?_
      refine RL.nil ?_
      exact ⟨rfl, hv.put 3 rfl rfl, ha.up rfl, hw⟩
     ·rintro D σ w hD hdep hcl ⟨hv, ha, hw⟩
      obtain ⟨τ, rfl⟩ := (ac (hv.at 2 rfl (hdep.1 rfl)) (ac (ha.at 0 rfl) az)).ups
      refine sk rfl (.inl (cb hg206)) rfl ?_
      refine RL.nil ?_
      exact ⟨rfl, hv.put 4 rfl rfl, ha.up rfl, hw⟩
     ·rintro D σ w hD hdep hcl ⟨hv, ha, hw⟩
      obtain ⟨τ, rfl⟩ := (ac (hv.at 2 rfl (hdep.1 rfl)) (ac (ha.at 2 rfl) az)).ups
      refine sk rfl (.inl (cb hg206)) rfl ?_
      refine RL.nil ?_
      exact ⟨rfl, hv.put 5 rfl rfl, ha.up rfl, hw⟩
     ·rintro D σ w hD hdep hcl ⟨hv, ha, hw⟩
      obtain ⟨τ, rfl⟩ := (ac (hv.at 2 rfl (hdep.2.1 rfl)) (ac (hv.at 5 rfl (hdep.1 rfl)) az)).ups
      refine sk rfl (.inl (cb hg206)) rfl ?_
      refine RL.nil ?_
      exact ⟨rfl, hv.put 6 rfl rfl, ha.up rfl, hw⟩
     ·rintro D σ w hD hdep hcl ⟨hv, ha, hw⟩
      obtain ⟨τ, rfl⟩ := (ac (hv.at 2 rfl (hdep.2.2.1 rfl)) (ac (hv.at 4 rfl (hdep.1 rfl)) (ac (hv.at 6 rfl (hdep.2.1 rfl)) az))).ups
      refine sk rfl (.inl (cb hg206)) rfl ?_
      refine RL.nil ?_
      exact ⟨rfl, hv.put 7 rfl rfl, ha.up rfl, hw⟩
     ·rintro D σ w hD hdep hcl ⟨hv, ha, hw⟩
      obtain ⟨τ, rfl⟩ := (ac (hv.at 2 rfl (hdep.2.1 rfl)) (ac (hv.at 7 rfl (hdep.1 rfl)) az)).ups
      refine sk rfl (.inl (cb hg206)) rfl ?_
      refine RL.nil ?_
      exact ⟨rfl, hv.put 8 rfl rfl, ha.up rfl, hw⟩
     ·rintro D σ w hD hdep hcl ⟨hv, ha, hw⟩
      obtain ⟨τ, rfl⟩ := (ac (hv.at 2 rfl (hdep.2.2.1 rfl)) (ac (hv.at 3 rfl (hdep.1 rfl)) (ac (hv.at 8 rfl (hdep.2.1 rfl)) az))).ups
      refine sk rfl (.inl (cb hg206)) rfl ?_
      refine RL.nil ?_
      exact ⟨rfl, hv.put 9 rfl rfl, ha.up rfl, hw⟩
     ·rintro D σ w hD hdep hcl ⟨hv, ha, hw⟩
      obtain ⟨τ, rfl⟩ := (ac (hv.at 2 rfl (hdep.1 rfl)) (ac (hv.at 9 rfl (hdep.2.1 rfl)) az)).ups
      refine RL.pick (b := (decide (s167 > 0))) (v := (vb false)) trivial rfl rfl (by rw [hg206]; rfl) ?_
      refine RL.nil ?_
      exact ⟨rfl, hv.put 10 rfl rfl, ha.up rfl, hw⟩
     rintro D σ w hall ⟨hv, ha, hw⟩
     obtain ⟨τ, rfl⟩ := (ac (hv.at 10 rfl (hall 10 (by decide))) (ac (ha.at 0 rfl) (ac (ha.at 1 rfl) (ac (ha.at 2 rfl) (ac (ha.at 3 rfl) (ac (ha.at 4 rfl) (ac (ha.at 5 rfl) az))))))).ups
     obtain rfl := oi hj
     exact ⟨rfl, ⟨rfl, rfl, rfl, rfl, rfl, rfl, rfl, trivial⟩, hw.pick 3 [0, 1, 2] (new := [own 45 v161 s32, bx 45 b165 x162, rd v0 p0]) rfl rfl (by decide) (by decide)⟩
    replace hj := cT hg206 hj
    obtain ⟨x208, hx208, hj⟩ := bd hj
    obtain ⟨x210, hx210, hj⟩ := bd hj
    refine RC.drw mixed rfl (fun (D : Nat → Bool) (σ : Nat → Value) (w : World) => ∃ (v207 : Value) (v209 : Value), doneV D σ [(0, 15, (vi s167)), (1, 16, (vb (decide (s167 > 0)))), (2, 17, (vb (decide (s167 > 0)))), (3, 18, v207), (4, 19, v161), (5, 20, (vi s167)), (6, 21, (vi (IntKind.wrap .i64 (s167 - 1)))), (7, 22, (elA v161 (Int.toNat (IntKind.wrap .i64 (s167 - 1))) 2 0)), (8, 23, v209), (9, 24, (vb x210)), (10, 25, (vb x210))] ∧ agree σ [(3, v161), (5, (vp b165 0)), (6, (vi s167)), (7, v0), (8, (vi (p0.length : Int))), (9, (vi (k31 : Int)))] ∧ Holds E w ([bif D 3 then (rd v207 x162) else junk, bif D 8 then (rd v209 x208) else junk, own 45 v161 s32, bx 45 b165 x162, rd v0 p0] ++ Γ)) ?_ ⟨?_, ?_, ?_, ?_, ?_, ?_, ?_, ?_, ?_, ?_, ?_, trivial⟩ ?_
    ·have hw := hw.drew
     have hw := hw.junk
     have hw := hw.junk
     exact ⟨undef, undef, doneV.none, ⟨rfl, rfl, rfl, rfl, rfl, rfl, trivial⟩, hw⟩
    ·rintro D σ w hD hdep hcl ⟨v207, v209, hv, ha, hw⟩
     obtain ⟨τ, rfl⟩ := (ac (ha.at 2 rfl) az).ups
     refine mv (vi s167) rfl rfl ?_
     refine RL.nil ?_
     exact ⟨rfl, v207, v209, hv.put 0 rfl rfl, ha.up rfl, hw⟩
    ·rintro D σ w hD hdep hcl ⟨v207, v209, hv, ha, hw⟩
     obtain ⟨τ, rfl⟩ := (ac (hv.at 0 rfl (hdep.1 rfl)) az).ups
     refine ic s167 0 rfl rfl rfl rfl ?_
     refine RL.nil ?_
     exact ⟨rfl, v207, v209, hv.put 1 rfl rfl, ha.up rfl, hw⟩
    ·rintro D σ w hD hdep hcl ⟨v207, v209, hv, ha, hw⟩
     obtain ⟨τ, rfl⟩ := (ac (hv.at 1 rfl (hdep.1 rfl)) az).ups
     refine mv (vb (decide (s167 > 0))) rfl rfl ?_
     refine RL.nil ?_
     exact ⟨rfl, v207, v209, hv.put 2 rfl rfl, ha.up rfl, hw⟩
    ·rintro D σ w hD hdep hcl ⟨v207, v209, hv, ha, hw⟩
     obtain ⟨τ, rfl⟩ := (ac (hv.at 2 rfl (hdep.1 rfl)) (ac (ha.at 1 rfl) az)).ups
     have hw := hw.selF (i := 0) rfl hD
     refine RL.load_bf (i := 3) (f := (fun x => x)) ⟨_, rfl, cb hg206⟩ rfl hw rfl rfl Fd.self ty45 fun v211 hw => ?_
     have hw := hw.pick 6 [0, 2, 3, 4, 5] (new := [rd v211 x162, bif D 8 then (rd v209 x208) else junk, own 45 v161 s32, bx 45 b165 x162, rd v0 p0]) rfl rfl (by decide) (by decide)
     have hw := hw.altT (i := 0) (b := true) rfl rfl (junk)
     refine RL.nil ?_
     exact ⟨rfl, v211, v209, hv.put 3 rfl rfl, ha.up rfl, hw⟩
    ·rintro D σ w hD hdep hcl ⟨v207, v209, hv, ha, hw⟩
     obtain ⟨τ, rfl⟩ := (ac (hv.at 2 rfl (hdep.1 rfl)) (ac (ha.at 0 rfl) az)).ups
     refine RL.move (v := v161) ⟨_, rfl, cb hg206⟩ rfl rfl ?_
     refine RL.nil ?_
     exact ⟨rfl, v207, v209, hv.put 4 rfl rfl, ha.up rfl, hw⟩
    ·rintro D σ w hD hdep hcl ⟨v207, v209, hv, ha, hw⟩
     obtain ⟨τ, rfl⟩ := (ac (hv.at 2 rfl (hdep.1 rfl)) (ac (ha.at 2 rfl) az)).ups
     refine RL.move (v := (vi s167)) ⟨_, rfl, cb hg206⟩ rfl rfl ?_
     refine RL.nil ?_
     exact ⟨rfl, v207, v209, hv.put 5 rfl rfl, ha.up rfl, hw⟩
    ·rintro D σ w hD hdep hcl ⟨v207, v209, hv, ha, hw⟩
     obtain ⟨τ, rfl⟩ := (ac (hv.at 2 rfl (hdep.2.1 rfl)) (ac (hv.at 5 rfl (hdep.1 rfl)) az)).ups
     refine RL.iar (a := s167) (b := 1) ⟨_, rfl, cb hg206⟩ rfl rfl rfl rfl ?_
     refine RL.nil ?_
     exact ⟨rfl, v207, v209, hv.put 6 rfl rfl, ha.up rfl, hw⟩
    ·rintro D σ w hD hdep hcl ⟨v207, v209, hv, ha, hw⟩
     obtain ⟨τ, rfl⟩ := (ac (hv.at 2 rfl (hdep.2.2.1 rfl)) (ac (hv.at 4 rfl (hdep.1 rfl)) (ac (hv.at 6 rfl (hdep.2.1 rfl)) az))).ups
     refine RL.ia_ownA (i := 2) ⟨_, rfl, cb hg206⟩ rfl hw rfl rfl rfl sl37 hx208 ?_
     refine RL.nil ?_
     exact ⟨rfl, v207, v209, hv.put 7 rfl rfl, ha.up rfl, hw⟩
    ·rintro D σ w hD hdep hcl ⟨v207, v209, hv, ha, hw⟩
     obtain ⟨τ, rfl⟩ := (ac (hv.at 2 rfl (hdep.2.1 rfl)) (ac (hv.at 7 rfl (hdep.1 rfl)) az)).ups
     have hw := hw.selF (i := 1) rfl hD
     refine RL.load_el (i := 2) (f := (fun x => x)) ⟨_, rfl, cb hg206⟩ rfl hw rfl (elp hw (i := 2) rfl hx208 0) rfl (idx_some hx208).2.1 Fd.self ty45 fun v212 hw => ?_
     have hw := hw.pick 6 [1, 0, 3, 4, 5] (new := [bif D 3 then (rd v207 x162) else junk, rd v212 x208, own 45 v161 s32, bx 45 b165 x162, rd v0 p0]) rfl rfl (by decide) (by decide)
     have hw := hw.altT (i := 1) (b := true) rfl rfl (junk)
     refine RL.nil ?_
     exact ⟨rfl, v207, v212, hv.put 8 rfl rfl, ha.up rfl, hw⟩
    ·rintro D σ w hD hdep hcl ⟨v207, v209, hv, ha, hw⟩
     obtain ⟨τ, rfl⟩ := (ac (hv.at 2 rfl (hdep.2.2.1 rfl)) (ac (hv.at 3 rfl (hdep.1 rfl)) (ac (hv.at 8 rfl (hdep.2.1 rfl)) az))).ups
     have hw := hw.selT (i := 0) rfl (hdep.1 rfl)
     have hw := hw.selT (i := 1) rfl (hdep.2.1 rfl)
     refine RL.call ⟨_, rfl, cb hg206⟩ rfl fn62 [v207, v209] rfl (Calls_ret (etchhouseref2_before_ok N  (i0 := 0) (i1 := 1) hw rfl rfl hx210) ?_)
     rintro _ w ⟨rfl, hw⟩
     have hw := hw.altT (i := 0) (b := D 3) rfl (hdep.1 rfl) (junk)
     have hw := hw.altT (i := 1) (b := D 8) rfl (hdep.2.1 rfl) (junk)
     refine RL.nil ?_
     exact ⟨rfl, v207, v209, hv.put 9 rfl rfl, ha.up rfl, hw⟩
    ·rintro D σ w hD hdep hcl ⟨v207, v209, hv, ha, hw⟩
     obtain ⟨τ, rfl⟩ := (ac (hv.at 2 rfl (hdep.1 rfl)) (ac (hv.at 9 rfl (hdep.2.1 rfl)) az)).ups
     refine RL.pick (b := (decide (s167 > 0))) (v := (vb x210)) trivial rfl rfl (by rw [hg206]; rfl) ?_
     refine RL.nil ?_
     exact ⟨rfl, v207, v209, hv.put 10 rfl rfl, ha.up rfl, hw⟩
    rintro D σ w hall ⟨v207, v209, hv, ha, hw⟩
    rw [hall 3 (by decide), hall 8 (by decide)] at hw
    obtain ⟨τ, rfl⟩ := (ac (hv.at 10 rfl (hall 10 (by decide))) (ac (ha.at 0 rfl) (ac (ha.at 1 rfl) (ac (ha.at 2 rfl) (ac (ha.at 3 rfl) (ac (ha.at 4 rfl) (ac (ha.at 5 rfl) az))))))).ups
    obtain rfl := oi hj
    exact ⟨rfl, ⟨rfl, rfl, rfl, rfl, rfl, rfl, rfl, trivial⟩, hw.pick 5 [2, 3, 4] (new := [own 45 v161 s32, bx 45 b165 x162, rd v0 p0]) rfl rfl (by decide) (by decide)⟩
   rintro σ w ⟨ha, hw⟩
   obtain ⟨τ, rfl⟩ := ha.ups
   refine thenQ_n ?_
   refine RC.cond (b := s205) rfl (fun hc => ?_) (fun hc => ?_)
   rotate_left
   ·replace hb := cF hc hb
    refine RC.ex ?_
    obtain rfl := oi hb
    exact ⟨rfl, ⟨rfl, rfl, rfl, rfl, rfl, rfl, trivial⟩, hw.pick 3 [0, 1, 2] (new := [own 45 v161 s32, bx 45 b165 x162, rd v0 p0]) rfl rfl (by decide) (by decide)⟩
   replace hb := cT hc hb
   refine RC.sn ?_
   refine RC.block ?_
   refine RC.region ?_
   refine mv (vi s167) rfl rfl ?_
   refine RL.iar (a := s167) (b := 1) trivial rfl rfl rfl rfl ?_
   refine as_ (vi (IntKind.wrap .i64 (s167 - 1))) rfl rfl ?_
   refine RL.nil ?_
   refine blkQ_n ?_
   obtain rfl := oi hb
   exact ⟨rfl, ⟨rfl, rfl, rfl, rfl, rfl, rfl, trivial⟩, hw.pick 3 [0, 1, 2] (new := [own 45 v161 s32, bx 45 b165 x162, rd v0 p0]) rfl rfl (by decide) (by decide)⟩
  ·intro r _ _ _ _
   exact r.elim
  intro s167 σ w e hJ
  subst e
  rw [Fo.cs_go] at hb
  obtain ⟨ha, hw⟩ := hJ
  obtain ⟨τ, rfl⟩ := ha.ups
  refine thenQ_n ?_
  refine RC.region ?_
  refine mv v161 rfl rfl ?_
  refine mv (vi s167) rfl rfl ?_
  refine RL.load_bf (i := 1) (f := (fun x => x)) trivial rfl hw rfl rfl Fd.self ty45 fun v213 hw => ?_
  refine RL.bslice (l := ([x162] : (List Pin))) trivial rfl hw [v213] rfl rfl rfl sl37 ze45 (fun M hs g => ⟨(g.sat 0 _ rfl).1, trivial⟩) fun v214 w hw => ?_
  obtain ⟨x215, hx215, hb⟩ := bd hb
  have hw := hw.pull (i := 0) rfl
  have hw := hw.pull (i := 3) rfl
  refine RL.call trivial rfl fn63 [v161, (vi s167), v214] rfl (Calls_ret (ins63_ok sl37 el37 zd45 hw hx215) ?_)
  rintro v216 w hw
  refine as_ v216 rfl rfl ?_
  refine RL.nil ?_
  refine blkQ_n ?_
  refine thenQ_n ?_
  refine RC.region ?_
  refine RL.inc trivial rfl hk hm rfl rfl ?_
  refine mv (vi ((k31 + 1 : Nat) : Int)) rfl rfl ?_
  refine RL.nil ?_
  obtain rfl := oi hb
  exact ⟨rfl, v216, ⟨rfl, rfl, rfl, rfl, trivial⟩, hw.pick 6 [5, 0] (new := [rd v0 p0, own 45 v216 x215]) rfl rfl (by decide) (by decide)⟩
 intro σ w hJ
 obtain ⟨v160, ha, hw⟩ := hJ
 obtain ⟨τ, rfl⟩ := ha.ups
 refine thenQ_n ?_
 refine RC.sr ?_
 refine mv v160 rfl rfl ?_
 refine as_ v160 rfl rfl ?_
 refine RL.nt ?_
 refine RC.ret ?_
 obtain rfl := oi hb
 exact fin1 rfl rfl (hw.pick 2 [1] (new := [own 45 v160 s32]) rfl rfl (by decide) (by decide))
def etchhouseref2_AllPins_R (E : World) (Γ : List HP) (res : (List Pin)) (v : Value) (w : World) : Prop := Holds E w (own 45 v res :: Γ)
def etchhouseref2_AllPins_K (E : World) (Γ : List HP) (r : (List Pin)) (σ : Nat → Value) (w : World) : Prop := finQ Tryd.prog 20 Tryd.f10 (etchhouseref2_AllPins_R E Γ r) .ret σ w
theorem etchhouseref2_AllPins_ok (N : Nat) {E w : World} {Γ : List HP} {i0 : Nat} {v0 : Value} {p0 : Netlist} {res : (List Pin)} (hw : Holds E w Γ) (h0 : Γ[i0]? = some (rd v0 p0)) (hb : etchhouseref2_AllPins N p0 = some res) :
    Calls Tryd.prog 10 [v0].toArray w (Ret (etchhouseref2_AllPins_R E Γ res)) := by
 unfold etchhouseref2_AllPins at hb
 refine enter Tryd.func10 rfl rfl (Nat.le_of_ble_eq_true rfl) ?_
 have hw := hw.dup (i := i0 + 0) h0
 refine RC.sr ?_
 refine RL.box_rd (i := 0) (v := v0) trivial rfl hw rfl rfl fun b31 w hw => ?_
 refine as_ (.slice none 0 0) rfl rfl ?_
 refine RL.ns ?_
 refine as_ (.slice none 0 0) rfl rfl ?_
 refine RL.nq ?_
 refine RC.sr ?_
 refine RL.fa_b trivial rfl rfl fa26_1 ?_
 refine RL.load_bf (i := 0) (f := (fun x => x.Nets)) trivial rfl hw rfl rfl fd_Netlist_1 ty24 fun v32 hw => ?_
 refine RL.len_rd (i := 0) (l := p0.Nets) trivial rfl hw rfl rfl un24 ?_
 refine mv (vi 0) rfl rfl ?_
 refine RL.nt ?_
 obtain ⟨s34, hN, hb⟩ := bd hb
 refine RC.fold (fun (k33 : Nat) (s34 : (List Pin)) (σ : Nat → Value) (w : World) => ∃ v51 : Value, agree σ [(3, v51), (7, v32), (8, (vi (p0.Nets.length : Int))), (9, (vi (k33 : Int)))] ∧ Holds E w ([rd v32 p0.Nets, own 45 v51 s34] ++ Γ)) (fun (s34 : (List Pin)) (σ : Nat → Value) (w : World) => ∃ v52 : Value, agree σ [(3, v52)] ∧ Holds E w ([rd v32 p0.Nets, own 45 v52 s34] ++ Γ)) hN ?_ ?_ ?_ ?_
 ·have hw := hw.own_nil Pin 45
  exact ⟨(.slice none 0 0), ⟨rfl, rfl, rfl, rfl, trivial⟩, hw.pick 4 [1, 0] (new := [rd v32 p0.Nets, own 45 (.slice none 0 0) ([] : (List Pin))]) rfl rfl (by decide) (by decide)⟩
 ·intro hm s34 σ w hI
  obtain ⟨v61, ha, hw⟩ := hI
  obtain ⟨τ, rfl⟩ := ha.ups
  refine RC.sr ?_
  refine ic ((p0.Nets.length : Int)) ((p0.Nets.length : Int)) rfl rfl rfl rfl ?_
  refine RL.nq ?_
  refine RC.cond_f dge ?_
  refine RC.ex ?_
  exact ⟨rfl, v61, ⟨rfl, trivial⟩, hw.pick 2 [0, 1] (new := [rd v32 p0.Nets, own 45 v61 s34]) rfl rfl (by decide) (by decide)⟩
 ·intro hm k33 s34 s' σ w hk hI hb
  obtain ⟨v53, ha, hw⟩ := hI
  obtain ⟨τ, rfl⟩ := ha.ups
  refine RC.sr ?_
  refine ic ((k33 : Int)) ((p0.Nets.length : Int)) rfl rfl rfl rfl ?_
  refine RL.nq ?_
  refine RC.cond_t (dlt hk) ?_
  refine RC.ss ?_
  refine RC.bs ?_
  obtain ⟨x54, hx54, hb⟩ := bd hb
  refine RL.ia_rd (i := 0) trivial rfl hw rfl rfl rfl sl24 hx54 fun v55 hw => ?_
  refine RL.load_pt (i := 0) (x := x54) trivial rfl hw rfl rfl ty39 fun v56 hw => ?_
  refine RL.alloc trivial rfl hw ze39.z fun b57 w hw => ?_
  refine RL.store_raw (i := 0) (j := 1) trivial hw rfl rfl rfl rfl ty39 rfl fun w hw => ?_
  refine RL.nt ?_
  refine RC.region ?_
  refine mv v53 rfl rfl ?_
  refine RL.fa_b trivial rfl rfl fa39_1 ?_
  refine RL.load_bf (i := 0) (f := (fun x => x.Pins)) trivial rfl hw rfl rfl fd_Net_1 ty37 fun v58 hw => ?_
  obtain ⟨x59, hx59, hb⟩ := bd hb
  refine RL.app (i := 5) (j := 0) trivial rfl hw rfl rfl rfl rfl el37 hx59 fun v60 w hw => ?_
  refine as_ v60 rfl rfl ?_
  refine RL.nil ?_
  refine blkQ_n ?_
  refine thenQ_n ?_
  refine RC.region ?_
  refine RL.inc trivial rfl hk hm rfl rfl ?_
  refine mv (vi ((k33 + 1 : Nat) : Int)) rfl rfl ?_
  refine RL.nil ?_
  obtain rfl := oi hb
  exact ⟨rfl, v60, ⟨rfl, rfl, rfl, rfl, trivial⟩, hw.pick 6 [4, 5] (new := [rd v32 p0.Nets, own 45 v60 x59]) rfl rfl (by decide) (by decide)⟩
 intro σ w hJ
 obtain ⟨v52, ha, hw⟩ := hJ
 obtain ⟨τ, rfl⟩ := ha.ups
 refine thenQ_n ?_
 refine RC.sr ?_
 refine mv v52 rfl rfl ?_
 have hw := hw.freeze (i := 1) rfl
 obtain ⟨x62, hx62, hb⟩ := bd hb
 refine RL.call trivial rfl fn31 [v52] rfl (Calls_ret (etchhouseref2_sortedPins_ok N  (i0 := 1) hw rfl hx62) ?_)
 rintro v63 w hw
 refine as_ v63 rfl rfl ?_
 refine RL.nt ?_
 refine RC.ret ?_
 obtain rfl := oi hb
 exact fin1 rfl rfl (hw.pick 3 [0] (new := [own 45 v63 x62]) rfl rfl (by decide) (by decide))
def etchhouseref2_Below_R (E : World) (Γ : List HP) (res : Int) (v : Value) (w : World) : Prop := v = (vi res) ∧ Holds E w Γ
def etchhouseref2_Below_K (E : World) (Γ : List HP) (r : Int) (σ : Nat → Value) (w : World) : Prop := finQ Tryd.prog 14 Tryd.f11 (etchhouseref2_Below_R E Γ r) .ret σ w
theorem etchhouseref2_Below_ok (N : Nat) {E w : World} {Γ : List HP} {p0 : Int} {p1 : Int} {res : Int} (hw : Holds E w Γ)  (hb : etchhouseref2_Below N p0 p1 = some res) :
    Calls Tryd.prog 11 [(vi p0), (vi p1)].toArray w (Ret (etchhouseref2_Below_R E Γ res)) := by
 unfold etchhouseref2_Below at hb
 refine enter Tryd.func11 rfl rfl (Nat.le_of_ble_eq_true rfl) ?_
 refine RC.sr ?_
 refine as_ (vi 0) rfl rfl ?_
 refine RL.ns ?_
 refine mv (vi p0) rfl rfl ?_
 refine mv (vi p1) rfl rfl ?_
 obtain ⟨x32, hx32, hb⟩ := bd hb
 refine RL.rem (a := p0) (b := p1) trivial rfl rfl rfl (nz_ hx32) ?_
 refine as_ (vi (Int.tmod p0 p1)) rfl rfl ?_
 refine RL.nq ?_
 refine RC.sr ?_
 refine mv (vi (Int.tmod p0 p1)) rfl rfl ?_
 refine ic ((Int.tmod p0 p1)) 0 rfl rfl rfl rfl ?_
 refine RL.nt ?_
 obtain ⟨s33, hj, hb⟩ := bd hb
 refine RC.jn (fun (s33 : Int) (σ : Nat → Value) (w : World) => agree σ [(0, (vi s33))] ∧ Holds E w ([] ++ Γ)) s33 ?_ ?_
 ·refine RC.cond (b := (decide ((Int.tmod p0 p1) < 0))) rfl (fun hc => ?_) (fun hc => ?_)
  rotate_left
  ·replace hj := cF hc hj
   refine RC.skip ?_
   obtain rfl := oi hj
   exact ⟨rfl, ⟨rfl, trivial⟩, hw.pick 0 [] (new := []) rfl rfl (by decide) (by decide)⟩
  replace hj := cT hc hj
  refine RC.region ?_
  refine mv (vi (Int.tmod p0 p1)) rfl rfl ?_
  refine mv (vi p1) rfl rfl ?_
  refine RL.iar (a := (Int.tmod p0 p1)) (b := p1) trivial rfl rfl rfl rfl ?_
  refine as_ (vi (IntKind.wrap .i64 ((Int.tmod p0 p1) + p1))) rfl rfl ?_
  refine RL.nil ?_
  obtain rfl := oi hj
  exact ⟨rfl, ⟨rfl, trivial⟩, hw.pick 0 [] (new := []) rfl rfl (by decide) (by decide)⟩
 rintro σ w ⟨ha, hw⟩
 obtain ⟨τ, rfl⟩ := ha.ups
 refine thenQ_n ?_
 refine RC.sr ?_
 refine mv (vi s33) rfl rfl ?_
 refine as_ (vi s33) rfl rfl ?_
 refine RL.nt ?_
 refine RC.ret ?_
 obtain rfl := oi hb
 exact fin1 rfl rfl ⟨rfl, hw.drop 0 rfl⟩
def slices_Equal_Pin_R (E : World) (Γ : List HP) (res : Bool) (v : Value) (w : World) : Prop := v = (vb res) ∧ Holds E w Γ
def slices_Equal_Pin_K (E : World) (Γ : List HP) (r : Bool) (σ : Nat → Value) (w : World) : Prop := finQ Tryd.prog 26 Tryd.f12 (slices_Equal_Pin_R E Γ r) .ret σ w
theorem slices_Equal_Pin_ok (N : Nat) {E w : World} {Γ : List HP} {i0 : Nat} {v0 : Value} {p0 : (List Pin)} {i1 : Nat} {v1 : Value} {p1 : (List Pin)} {res : Bool} (hw : Holds E w Γ) (h0 : Γ[i0]? = some (rd v0 p0)) (h1 : Γ[i1]? = some (rd v1 p1)) (hb : slices_Equal_Pin N p0 p1 = some res) :
    Calls Tryd.prog 12 [v0, v1].toArray w (Ret (slices_Equal_Pin_R E Γ res)) := by
 unfold slices_Equal_Pin at hb
 refine enter Tryd.func12 rfl rfl (Nat.le_of_ble_eq_true rfl) ?_
 have hw := hw.dup (i := i0 + 0) h0
 have hw := hw.dup (i := i1 + 1) h1
 refine RC.sr ?_
 refine as_ (vb false) rfl rfl ?_
 refine RL.nq ?_
 refine RC.sr ?_
 refine mv v0 rfl rfl ?_
 refine RL.len_rd (i := 1) (l := p0) trivial rfl hw rfl rfl un37 ?_
 refine mv v1 rfl rfl ?_
 refine RL.len_rd (i := 0) (l := p1) trivial rfl hw rfl rfl un37 ?_
 refine ic ((p0.length : Int)) ((p1.length : Int)) rfl rfl rfl rfl ?_
 refine RL.nt ?_
 refine RC.cond (b := ((p0.length : Int) != (p1.length : Int))) rfl (fun hc => ?_) (fun hc => ?_)
 ·replace hb := cT hc hb
  refine RC.sr ?_
  refine as_ (vb false) rfl rfl ?_
  refine RL.nt ?_
  refine RC.rt ?_
  obtain rfl := oi hb
  exact fin1 rfl rfl ⟨rfl, hw.drop 2 rfl⟩
 replace hb := cF hc hb
 refine RC.ss ?_
 refine RC.sr ?_
 refine mv v0 rfl rfl ?_
 refine RL.len_rd (i := 1) (l := p0) trivial rfl hw rfl rfl un37 ?_
 refine mv (vi 0) rfl rfl ?_
 refine RL.nt ?_
 obtain ⟨o53, hN, hb⟩ := bd hb
 refine RC.range (fun (k31 : Nat) (s32 : Unit) (σ : Nat → Value) (w : World) => agree σ [(0, v0), (1, v1), (12, (vi (p0.length : Int))), (13, (vi (k31 : Int)))] ∧ Holds E w ([rd v0 p0, rd v1 p1] ++ Γ)) (fun (s32 : Unit) (σ : Nat → Value) (w : World) => agree σ [] ∧ Holds E w ([rd v0 p0, rd v1 p1] ++ Γ)) (slices_Equal_Pin_K E Γ) hN ?_ ?_ ?_ ?_ ?_ 
 ·exact ⟨⟨rfl, rfl, rfl, rfl, trivial⟩, hw.pick 2 [1, 0] (new := [rd v0 p0, rd v1 p1]) rfl rfl (by decide) (by decide)⟩
 ·intro hm s32 σ w hI
  obtain ⟨ha, hw⟩ := hI
  obtain ⟨τ, rfl⟩ := ha.ups
  refine RC.sr ?_
  refine ic ((p0.length : Int)) ((p0.length : Int)) rfl rfl rfl rfl ?_
  refine RL.nq ?_
  refine RC.cond_f dge ?_
  refine RC.ex ?_
  exact ⟨rfl, trivial, hw.pick 2 [0, 1] (new := [rd v0 p0, rd v1 p1]) rfl rfl (by decide) (by decide)⟩
 ·intro hm k31 s32 fl σ w hk hI hb
  obtain ⟨ha, hw⟩ := hI
  obtain ⟨τ, rfl⟩ := ha.ups
  refine RC.sr ?_
  refine ic ((k31 : Int)) ((p0.length : Int)) rfl rfl rfl rfl ?_
  refine RL.nq ?_
  refine RC.cond_t (dlt hk) ?_
  refine RC.ss ?_
  refine RC.bs ?_
  refine mv (vi (k31 : Int)) rfl rfl ?_
  refine as_ (vi (k31 : Int)) rfl rfl ?_
  refine RL.nq ?_
  obtain ⟨x43, hx43, hb⟩ := bd hb
  obtain ⟨x46, hx46, hb⟩ := bd hb
  refine RC.drw mixed rfl (fun (D : Nat → Bool) (σ : Nat → Value) (w : World) => ∃ (v44 : Value) (v45 : Value) (v47 : Value) (v48 : Value), doneV D σ [(0, 16, v0), (1, 17, (vi (k31 : Int))), (2, 18, v44), (3, 19, v45), (4, 20, v1), (5, 21, (vi (k31 : Int))), (6, 22, v47), (7, 23, v48), (8, 24, (vb (!(decide (x43 = x46)))))] ∧ agree σ [(0, v0), (1, v1), (5, (vi (k31 : Int))), (12, (vi (p0.length : Int))), (13, (vi (k31 : Int)))] ∧ Holds E w ([bif D 2 then (pt v44 x43) else junk, bif D 3 then (rd v45 x43) else junk, bif D 6 then (pt v47 x46) else junk, bif D 7 then (rd v48 x46) else junk, rd v0 p0, rd v1 p1] ++ Γ)) ?_ ⟨?_, ?_, ?_, ?_, ?_, ?_, ?_, ?_, ?_, trivial⟩ ?_
  ·have hw := hw.drew
   have hw := hw.junk
   have hw := hw.junk
   have hw := hw.junk
   have hw := hw.junk
   exact ⟨undef, undef, undef, undef, doneV.none, ⟨rfl, rfl, rfl, rfl, rfl, trivial⟩, hw⟩
  ·rintro D σ w hD hdep hcl ⟨v44, v45, v47, v48, hv, ha, hw⟩
   obtain ⟨τ, rfl⟩ := (ac (ha.at 0 rfl) az).ups
   refine mv v0 rfl rfl ?_
   refine RL.nil ?_
   exact ⟨rfl, v44, v45, v47, v48, hv.put 0 rfl rfl, ha.up rfl, hw⟩
  ·rintro D σ w hD hdep hcl ⟨v44, v45, v47, v48, hv, ha, hw⟩
   obtain ⟨τ, rfl⟩ := (ac (ha.at 2 rfl) az).ups
   refine mv (vi (k31 : Int)) rfl rfl ?_
   refine RL.nil ?_
   exact ⟨rfl, v44, v45, v47, v48, hv.put 1 rfl rfl, ha.up rfl, hw⟩
  ·rintro D σ w hD hdep hcl ⟨v44, v45, v47, v48, hv, ha, hw⟩
   obtain ⟨τ, rfl⟩ := (ac (hv.at 0 rfl (hdep.1 rfl)) (ac (hv.at 1 rfl (hdep.2.1 rfl)) az)).ups
   have hw := hw.selF (i := 0) rfl hD
   refine RL.ia_rd (i := 4) trivial rfl hw rfl rfl rfl sl37 hx43 fun v49 hw => ?_
   have hw := hw.pick 7 [0, 2, 3, 4, 5, 6] (new := [pt v49 x43, bif D 3 then (rd v45 x43) else junk, bif D 6 then (pt v47 x46) else junk, bif D 7 then (rd v48 x46) else junk, rd v0 p0, rd v1 p1]) rfl rfl (by decide) (by decide)
   have hw := hw.altT (i := 0) (b := true) rfl rfl (junk)
   refine RL.nil ?_
   exact ⟨rfl, v49, v45, v47, v48, hv.put 2 rfl rfl, ha.up rfl, hw⟩
  ·rintro D σ w hD hdep hcl ⟨v44, v45, v47, v48, hv, ha, hw⟩
   obtain ⟨τ, rfl⟩ := (ac (hv.at 2 rfl (hdep.1 rfl)) az).ups
   have hw := hw.selT (i := 0) rfl (hdep.1 rfl)
   have hw := hw.selF (i := 1) rfl hD
   refine RL.load_pt (i := 0) (x := x43) trivial rfl hw rfl rfl ty45 fun v50 hw => ?_
   have hw := hw.pick 7 [1, 0, 3, 4, 5, 6] (new := [pt v44 x43, rd v50 x43, bif D 6 then (pt v47 x46) else junk, bif D 7 then (rd v48 x46) else junk, rd v0 p0, rd v1 p1]) rfl rfl (by decide) (by decide)
   have hw := hw.altT (i := 0) (b := D 2) rfl (hdep.1 rfl) (junk)
   have hw := hw.altT (i := 1) (b := true) rfl rfl (junk)
   refine RL.nil ?_
   exact ⟨rfl, v44, v50, v47, v48, hv.put 3 rfl rfl, ha.up rfl, hw⟩
  ·rintro D σ w hD hdep hcl ⟨v44, v45, v47, v48, hv, ha, hw⟩
   obtain ⟨τ, rfl⟩ := (ac (ha.at 1 rfl) az).ups
   refine mv v1 rfl rfl ?_
   refine RL.nil ?_
   exact ⟨rfl, v44, v45, v47, v48, hv.put 4 rfl rfl, ha.up rfl, hw⟩
  ·rintro D σ w hD hdep hcl ⟨v44, v45, v47, v48, hv, ha, hw⟩
   obtain ⟨τ, rfl⟩ := (ac (ha.at 2 rfl) az).ups
   refine mv (vi (k31 : Int)) rfl rfl ?_
   refine RL.nil ?_
   exact ⟨rfl, v44, v45, v47, v48, hv.put 5 rfl rfl, ha.up rfl, hw⟩
  ·rintro D σ w hD hdep hcl ⟨v44, v45, v47, v48, hv, ha, hw⟩
   obtain ⟨τ, rfl⟩ := (ac (hv.at 4 rfl (hdep.1 rfl)) (ac (hv.at 5 rfl (hdep.2.1 rfl)) az)).ups
   have hw := hw.selF (i := 2) rfl hD
   refine RL.ia_rd (i := 5) trivial rfl hw rfl rfl rfl sl37 hx46 fun v51 hw => ?_
   have hw := hw.pick 7 [1, 2, 0, 4, 5, 6] (new := [bif D 2 then (pt v44 x43) else junk, bif D 3 then (rd v45 x43) else junk, pt v51 x46, bif D 7 then (rd v48 x46) else junk, rd v0 p0, rd v1 p1]) rfl rfl (by decide) (by decide)
   have hw := hw.altT (i := 2) (b := true) rfl rfl (junk)
   refine RL.nil ?_
   exact ⟨rfl, v44, v45, v51, v48, hv.put 6 rfl rfl, ha.up rfl, hw⟩
  ·rintro D σ w hD hdep hcl ⟨v44, v45, v47, v48, hv, ha, hw⟩
   obtain ⟨τ, rfl⟩ := (ac (hv.at 6 rfl (hdep.1 rfl)) az).ups
   have hw := hw.selT (i := 2) rfl (hdep.1 rfl)
   have hw := hw.selF (i := 3) rfl hD
   refine RL.load_pt (i := 2) (x := x46) trivial rfl hw rfl rfl ty45 fun v52 hw => ?_
   have hw := hw.pick 7 [1, 2, 3, 0, 5, 6] (new := [bif D 2 then (pt v44 x43) else junk, bif D 3 then (rd v45 x43) else junk, pt v47 x46, rd v52 x46, rd v0 p0, rd v1 p1]) rfl rfl (by decide) (by decide)
   have hw := hw.altT (i := 2) (b := D 6) rfl (hdep.1 rfl) (junk)
   have hw := hw.altT (i := 3) (b := true) rfl rfl (junk)
   refine RL.nil ?_
   exact ⟨rfl, v44, v45, v47, v52, hv.put 7 rfl rfl, ha.up rfl, hw⟩
  ·rintro D σ w hD hdep hcl ⟨v44, v45, v47, v48, hv, ha, hw⟩
   obtain ⟨τ, rfl⟩ := (ac (hv.at 3 rfl (hdep.1 rfl)) (ac (hv.at 7 rfl (hdep.2.1 rfl)) az)).ups
   have hw := hw.selT (i := 1) rfl (hdep.1 rfl)
   have hw := hw.selT (i := 3) rfl (hdep.2.1 rfl)
   refine RL.sne (i := 1) (j := 3) (a := x43) (b := x46) trivial rfl hw rfl rfl rfl rfl eqt45 rfl ?_
   have hw := hw.altT (i := 1) (b := D 3) rfl (hdep.1 rfl) (junk)
   have hw := hw.altT (i := 3) (b := D 7) rfl (hdep.2.1 rfl) (junk)
   refine RL.nil ?_
   exact ⟨rfl, v44, v45, v47, v48, hv.put 8 rfl rfl, ha.up rfl, hw⟩
  rintro D σ w hall ⟨v44, v45, v47, v48, hv, ha, hw⟩
  rw [hall 2 (by decide), hall 3 (by decide), hall 6 (by decide), hall 7 (by decide)] at hw
  obtain ⟨τ, rfl⟩ := (ac (hv.at 8 rfl (hall 8 (by decide))) (ac (ha.at 0 rfl) (ac (ha.at 1 rfl) (ac (ha.at 2 rfl) (ac (ha.at 3 rfl) (ac (ha.at 4 rfl) az)))))).ups
  refine thenQ_n ?_
  refine RC.cond (b := (!(decide (x43 = x46)))) rfl (fun hc => ?_) (fun hc => ?_)
  rotate_left
  ·replace hb := cF hc hb
   refine RC.skip ?_
   refine blkQ_n ?_
   refine thenQ_n ?_
   refine RC.region ?_
   refine RL.inc trivial rfl hk hm rfl rfl ?_
   refine mv (vi ((k31 + 1 : Nat) : Int)) rfl rfl ?_
   refine RL.nil ?_
   obtain rfl := oi hb
   exact ⟨rfl, ⟨rfl, rfl, rfl, rfl, trivial⟩, hw.pick 6 [4, 5] (new := [rd v0 p0, rd v1 p1]) rfl rfl (by decide) (by decide)⟩
  replace hb := cT hc hb
  refine RC.sr ?_
  refine as_ (vb false) rfl rfl ?_
  refine RL.nt ?_
  refine RC.rb ?_
  refine thenQ_r ?_
  obtain rfl := oi hb
  exact ⟨rfl, fin1 rfl rfl ⟨rfl, hw.drop 6 rfl⟩⟩
 ·intro r σ w e hK
  subst e
  refine thenQ_r ?_
  obtain rfl := oi hb
  exact hK
 intro s32 σ w e hJ
 subst e
 rw [Fo.cs_go] at hb
 obtain ⟨ha, hw⟩ := hJ
 obtain ⟨τ, rfl⟩ := ha.ups
 refine thenQ_n ?_
 refine RC.sr ?_
 refine as_ (vb true) rfl rfl ?_
 refine RL.nt ?_
 refine RC.ret ?_
 obtain rfl := oi hb
 exact fin1 rfl rfl ⟨rfl, hw.drop 2 rfl⟩
def slices_Index_Pin_R (E : World) (Γ : List HP) (res : Int) (v : Value) (w : World) : Prop := v = (vi res) ∧ Holds E w Γ
def slices_Index_Pin_K (E : World) (Γ : List HP) (r : Int) (σ : Nat → Value) (w : World) : Prop := finQ Tryd.prog 19 Tryd.f92 (slices_Index_Pin_R E Γ r) .ret σ w
theorem slices_Index_Pin_ok (N : Nat) {E w : World} {Γ : List HP} {i0 : Nat} {v0 : Value} {p0 : (List Pin)} {i1 : Nat} {v1 : Value} {p1 : Pin} {res : Int} (hw : Holds E w Γ) (h0 : Γ[i0]? = some (rd v0 p0)) (h1 : Γ[i1]? = some (rd v1 p1)) (hb : slices_Index_Pin N p0 p1 = some res) :
    Calls Tryd.prog 92 [v0, v1].toArray w (Ret (slices_Index_Pin_R E Γ res)) := by
 unfold slices_Index_Pin at hb
 refine enter Tryd.func92 rfl rfl (Nat.le_of_ble_eq_true rfl) ?_
 have hw := hw.dup (i := i0 + 0) h0
 have hw := hw.dup (i := i1 + 1) h1
 refine RC.sr ?_
 refine RL.box_rd (i := 0) (v := v1) trivial rfl hw rfl rfl fun b31 w hw => ?_
 refine as_ (vi 0) rfl rfl ?_
 refine RL.nq ?_
 refine RC.sr ?_
 refine mv v0 rfl rfl ?_
 refine RL.len_rd (i := 2) (l := p0) trivial rfl hw rfl rfl un37 ?_
 refine mv (vi 0) rfl rfl ?_
 refine RL.nt ?_
 obtain ⟨o48, hN, hb⟩ := bd hb
 refine RC.range (fun (k32 : Nat) (s33 : Unit) (σ : Nat → Value) (w : World) => agree σ [(0, v0), (3, (vp b31 0)), (7, (vi (p0.length : Int))), (8, (vi (k32 : Int)))] ∧ Holds E w ([rd v0 p0, bx 45 b31 p1] ++ Γ)) (fun (s33 : Unit) (σ : Nat → Value) (w : World) => agree σ [] ∧ Holds E w ([rd v0 p0, bx 45 b31 p1] ++ Γ)) (slices_Index_Pin_K E Γ) hN ?_ ?_ ?_ ?_ ?_ 
 ·exact ⟨⟨rfl, rfl, rfl, rfl, trivial⟩, hw.pick 3 [2, 0] (new := [rd v0 p0, bx 45 b31 p1]) rfl rfl (by decide) (by decide)⟩
 ·intro hm s33 σ w hI
  obtain ⟨ha, hw⟩ := hI
  obtain ⟨τ, rfl⟩ := ha.ups
  refine RC.sr ?_
  refine ic ((p0.length : Int)) ((p0.length : Int)) rfl rfl rfl rfl ?_
  refine RL.nq ?_
  refine RC.cond_f dge ?_
  refine RC.ex ?_
  exact ⟨rfl, trivial, hw.pick 2 [0, 1] (new := [rd v0 p0, bx 45 b31 p1]) rfl rfl (by decide) (by decide)⟩
 ·intro hm k32 s33 fl σ w hk hI hb
  obtain ⟨ha, hw⟩ := hI
  obtain ⟨τ, rfl⟩ := ha.ups
  refine RC.sr ?_
  refine ic ((k32 : Int)) ((p0.length : Int)) rfl rfl rfl rfl ?_
  refine RL.nq ?_
  refine RC.cond_t (dlt hk) ?_
  refine RC.ss ?_
  refine RC.bs ?_
  refine mv (vi (k32 : Int)) rfl rfl ?_
  refine as_ (vi (k32 : Int)) rfl rfl ?_
  refine RL.nq ?_
  obtain ⟨x42, hx42, hb⟩ := bd hb
  refine RC.drw mixed rfl (fun (D : Nat → Bool) (σ : Nat → Value) (w : World) => ∃ (v41 : Value) (v43 : Value) (v44 : Value), doneV D σ [(0, 11, v41), (1, 12, v0), (2, 13, (vi (k32 : Int))), (3, 14, v43), (4, 15, v44), (5, 16, (vb (decide (p1 = x42))))] ∧ agree σ [(0, v0), (3, (vp b31 0)), (5, (vi (k32 : Int))), (7, (vi (p0.length : Int))), (8, (vi (k32 : Int)))] ∧ Holds E w ([bif D 0 then (rd v41 p1) else junk, bif D 3 then (pt v43 x42) else junk, bif D 4 then (rd v44 x42) else junk, rd v0 p0, bx 45 b31 p1] ++ Γ)) ?_ ⟨?_, ?_, ?_, ?_, ?_, ?_, trivial⟩ ?_
  ·have hw := hw.drew
   have hw := hw.junk
   have hw := hw.junk
   have hw := hw.junk
   exact ⟨undef, undef, undef, doneV.none, ⟨rfl, rfl, rfl, rfl, rfl, trivial⟩, hw⟩
  ·rintro D σ w hD hdep hcl ⟨v41, v43, v44, hv, ha, hw⟩
   obtain ⟨τ, rfl⟩ := (ac (ha.at 1 rfl) az).ups
   have hw := hw.selF (i := 0) rfl hD
   refine RL.load_bf (i := 4) (f := (fun x => x)) trivial rfl hw rfl rfl Fd.self ty45 fun v45 hw => ?_
   have hw := hw.pick 6 [0, 2, 3, 4, 5] (new := [rd v45 p1, bif D 3 then (pt v43 x42) else junk, bif D 4 then (rd v44 x42) else junk, rd v0 p0, bx 45 b31 p1]) rfl rfl (by decide) (by decide)
   have hw := hw.altT (i := 0) (b := true) rfl rfl (junk)
   refine RL.nil ?_
   exact ⟨rfl, v45, v43, v44, hv.put 0 rfl rfl, ha.up rfl, hw⟩
  ·rintro D σ w hD hdep hcl ⟨v41, v43, v44, hv, ha, hw⟩
   obtain ⟨τ, rfl⟩ := (ac (ha.at 0 rfl) az).ups
   refine mv v0 rfl rfl ?_
   refine RL.nil ?_
   exact ⟨rfl, v41, v43, v44, hv.put 1 rfl rfl, ha.up rfl, hw⟩
  ·rintro D σ w hD hdep hcl ⟨v41, v43, v44, hv, ha, hw⟩
   obtain ⟨τ, rfl⟩ := (ac (ha.at 2 rfl) az).ups
   refine mv (vi (k32 : Int)) rfl rfl ?_
   refine RL.nil ?_
   exact ⟨rfl, v41, v43, v44, hv.put 2 rfl rfl, ha.up rfl, hw⟩
  ·rintro D σ w hD hdep hcl ⟨v41, v43, v44, hv, ha, hw⟩
   obtain ⟨τ, rfl⟩ := (ac (hv.at 1 rfl (hdep.1 rfl)) (ac (hv.at 2 rfl (hdep.2.1 rfl)) az)).ups
   have hw := hw.selF (i := 1) rfl hD
   refine RL.ia_rd (i := 3) trivial rfl hw rfl rfl rfl sl37 hx42 fun v46 hw => ?_
   have hw := hw.pick 6 [1, 0, 3, 4, 5] (new := [bif D 0 then (rd v41 p1) else junk, pt v46 x42, bif D 4 then (rd v44 x42) else junk, rd v0 p0, bx 45 b31 p1]) rfl rfl (by decide) (by decide)
   have hw := hw.altT (i := 1) (b := true) rfl rfl (junk)
   refine RL.nil ?_
   exact ⟨rfl, v41, v46, v44, hv.put 3 rfl rfl, ha.up rfl, hw⟩
  ·rintro D σ w hD hdep hcl ⟨v41, v43, v44, hv, ha, hw⟩
   obtain ⟨τ, rfl⟩ := (ac (hv.at 3 rfl (hdep.1 rfl)) az).ups
   have hw := hw.selT (i := 1) rfl (hdep.1 rfl)
   have hw := hw.selF (i := 2) rfl hD
   refine RL.load_pt (i := 1) (x := x42) trivial rfl hw rfl rfl ty45 fun v47 hw => ?_
   have hw := hw.pick 6 [1, 2, 0, 4, 5] (new := [bif D 0 then (rd v41 p1) else junk, pt v43 x42, rd v47 x42, rd v0 p0, bx 45 b31 p1]) rfl rfl (by decide) (by decide)
   have hw := hw.altT (i := 1) (b := D 3) rfl (hdep.1 rfl) (junk)
   have hw := hw.altT (i := 2) (b := true) rfl rfl (junk)
   refine RL.nil ?_
   exact ⟨rfl, v41, v43, v47, hv.put 4 rfl rfl, ha.up rfl, hw⟩
  ·rintro D σ w hD hdep hcl ⟨v41, v43, v44, hv, ha, hw⟩
   obtain ⟨τ, rfl⟩ := (ac (hv.at 0 rfl (hdep.1 rfl)) (ac (hv.at 4 rfl (hdep.2.1 rfl)) az)).ups
   have hw := hw.selT (i := 0) rfl (hdep.1 rfl)
   have hw := hw.selT (i := 2) rfl (hdep.2.1 rfl)
   refine RL.seq (i := 0) (j := 2) (a := p1) (b := x42) trivial rfl hw rfl rfl rfl rfl eqt45 rfl ?_
   have hw := hw.altT (i := 0) (b := D 0) rfl (hdep.1 rfl) (junk)
   have hw := hw.altT (i := 2) (b := D 4) rfl (hdep.2.1 rfl) (junk)
   refine RL.nil ?_
   exact ⟨rfl, v41, v43, v44, hv.put 5 rfl rfl, ha.up rfl, hw⟩
  rintro D σ w hall ⟨v41, v43, v44, hv, ha, hw⟩
  rw [hall 0 (by decide), hall 3 (by decide), hall 4 (by decide)] at hw
  obtain ⟨τ, rfl⟩ := (ac (hv.at 5 rfl (hall 5 (by decide))) (ac (ha.at 0 rfl) (ac (ha.at 1 rfl) (ac (ha.at 2 rfl) (ac (ha.at 3 rfl) (ac (ha.at 4 rfl) az)))))).ups
  refine thenQ_n ?_
  refine RC.cond (b := (decide (p1 = x42))) rfl (fun hc => ?_) (fun hc => ?_)
  rotate_left
  ·replace hb := cF hc hb
   refine RC.skip ?_
   refine blkQ_n ?_
   refine thenQ_n ?_
   refine RC.region ?_
   refine RL.inc trivial rfl hk hm rfl rfl ?_
   refine mv (vi ((k32 + 1 : Nat) : Int)) rfl rfl ?_
   refine RL.nil ?_
   obtain rfl := oi hb
   exact ⟨rfl, ⟨rfl, rfl, rfl, rfl, trivial⟩, hw.pick 5 [3, 4] (new := [rd v0 p0, bx 45 b31 p1]) rfl rfl (by decide) (by decide)⟩
  replace hb := cT hc hb
  refine RC.sr ?_
  refine mv (vi (k32 : Int)) rfl rfl ?_
  refine as_ (vi (k32 : Int)) rfl rfl ?_
  refine RL.nt ?_
  refine RC.rb ?_
  refine thenQ_r ?_
  obtain rfl := oi hb
  exact ⟨rfl, fin1 rfl rfl ⟨rfl, hw.drop 5 rfl⟩⟩
 ·intro r σ w e hK
  subst e
  refine thenQ_r ?_
  obtain rfl := oi hb
  exact hK
 intro s33 σ w e hJ
 subst e
 rw [Fo.cs_go] at hb
 obtain ⟨ha, hw⟩ := hJ
 obtain ⟨τ, rfl⟩ := ha.ups
 refine thenQ_n ?_
 refine RC.sr ?_
 refine as_ (vi (-1)) rfl rfl ?_
 refine RL.nt ?_
 refine RC.ret ?_
 obtain rfl := oi hb
 exact fin1 rfl rfl ⟨rfl, hw.drop 2 rfl⟩
def slices_Contains_Pin_R (E : World) (Γ : List HP) (res : Bool) (v : Value) (w : World) : Prop := v = (vb res) ∧ Holds E w Γ
def slices_Contains_Pin_K (E : World) (Γ : List HP) (r : Bool) (σ : Nat → Value) (w : World) : Prop := finQ Tryd.prog 9 Tryd.f64 (slices_Contains_Pin_R E Γ r) .ret σ w
theorem slices_Contains_Pin_ok (N : Nat) {E w : World} {Γ : List HP} {i0 : Nat} {v0 : Value} {p0 : (List Pin)} {i1 : Nat} {v1 : Value} {p1 : Pin} {res : Bool} (hw : Holds E w Γ) (h0 : Γ[i0]? = some (rd v0 p0)) (h1 : Γ[i1]? = some (rd v1 p1)) (hb : slices_Contains_Pin N p0 p1 = some res) :
    Calls Tryd.prog 64 [v0, v1].toArray w (Ret (slices_Contains_Pin_R E Γ res)) := by
 unfold slices_Contains_Pin at hb
 refine enter Tryd.func64 rfl rfl (Nat.le_of_ble_eq_true rfl) ?_
 have hw := hw.dup (i := i0 + 0) h0
 have hw := hw.dup (i := i1 + 1) h1
 refine RC.sr ?_
 refine RL.box_rd (i := 0) (v := v1) trivial rfl hw rfl rfl fun b31 w hw => ?_
 refine as_ (vb false) rfl rfl ?_
 refine RL.ns ?_
 refine mv v0 rfl rfl ?_
 refine RL.load_bf (i := 0) (f := (fun x => x)) trivial rfl hw rfl rfl Fd.self ty45 fun v32 hw => ?_
 obtain ⟨x33, hx33, hb⟩ := bd hb
 refine RL.call trivial rfl fn92 [v0, v32] rfl (Calls_ret (slices_Index_Pin_ok N  (i0 := 3) (i1 := 0) hw rfl rfl hx33) ?_)
 rintro _ w ⟨rfl, hw⟩
 refine ic x33 0 rfl rfl rfl rfl ?_
 refine as_ (vb (decide (x33 ≥ 0))) rfl rfl ?_
 refine RL.nt ?_
 refine RC.ret ?_
 obtain rfl := oi hb
 exact fin1 rfl rfl ⟨rfl, hw.drop 4 rfl⟩
def etchhouseref2_netOf_R (E : World) (Γ : List HP) (res : Int) (v : Value) (w : World) : Prop := v = (vi res) ∧ Holds E w Γ
def etchhouseref2_netOf_K (E : World) (Γ : List HP) (r : Int) (σ : Nat → Value) (w : World) : Prop := finQ Tryd.prog 21 Tryd.f32 (etchhouseref2_netOf_R E Γ r) .ret σ w
theorem etchhouseref2_netOf_ok (N : Nat) {E w : World} {Γ : List HP} {i0 : Nat} {v0 : Value} {p0 : Netlist} {i1 : Nat} {v1 : Value} {p1 : Pin} {res : Int} (hw : Holds E w Γ) (h0 : Γ[i0]? = some (rd v0 p0)) (h1 : Γ[i1]? = some (rd v1 p1)) (hb : etchhouseref2_netOf N p0 p1 = some res) :
    Calls Tryd.prog 32 [v0, v1].toArray w (Ret (etchhouseref2_netOf_R E Γ res)) := by
 unfold etchhouseref2_netOf at hb
 refine enter Tryd.func32 rfl rfl (Nat.le_of_ble_eq_true rfl) ?_
 have hw := hw.dup (i := i0 + 0) h0
 have hw := hw.dup (i := i1 + 1) h1
 refine RC.sr ?_
 refine RL.box_rd (i := 1) (v := v0) trivial rfl hw rfl rfl fun b31 w hw => ?_
 refine RL.box_rd (i := 1) (v := v1) trivial rfl hw rfl rfl fun b32 w hw => ?_
 refine as_ (vi 0) rfl rfl ?_
 refine RL.nq ?_
 refine RC.sr ?_
 refine RL.fa_b trivial rfl rfl fa26_1 ?_
 refine RL.load_bf (i := 1) (f := (fun x => x.Nets)) trivial rfl hw rfl rfl fd_Netlist_1 ty24 fun v33 hw => ?_
 refine RL.len_rd (i := 0) (l := p0.Nets) trivial rfl hw rfl rfl un24 ?_
 refine mv (vi 0) rfl rfl ?_
 refine RL.nt ?_
 obtain ⟨o50, hN, hb⟩ := bd hb
 refine RC.range (fun (k34 : Nat) (s35 : Unit) (σ : Nat → Value) (w : World) => agree σ [(3, (vp b32 0)), (8, v33), (9, (vi (p0.Nets.length : Int))), (10, (vi (k34 : Int)))] ∧ Holds E w ([bx 45 b32 p1, rd v33 p0.Nets] ++ Γ)) (fun (s35 : Unit) (σ : Nat → Value) (w : World) => agree σ [] ∧ Holds E w ([bx 45 b32 p1, rd v33 p0.Nets] ++ Γ)) (etchhouseref2_netOf_K E Γ) hN ?_ ?_ ?_ ?_ ?_ 
 ·exact ⟨⟨rfl, rfl, rfl, rfl, trivial⟩, hw.pick 5 [1, 0] (new := [bx 45 b32 p1, rd v33 p0.Nets]) rfl rfl (by decide) (by decide)⟩
 ·intro hm s35 σ w hI
  obtain ⟨ha, hw⟩ := hI
  obtain ⟨τ, rfl⟩ := ha.ups
  refine RC.sr ?_
  refine ic ((p0.Nets.length : Int)) ((p0.Nets.length : Int)) rfl rfl rfl rfl ?_
  refine RL.nq ?_
  refine RC.cond_f dge ?_
  refine RC.ex ?_
  exact ⟨rfl, trivial, hw.pick 2 [0, 1] (new := [bx 45 b32 p1, rd v33 p0.Nets]) rfl rfl (by decide) (by decide)⟩
 ·intro hm k34 s35 fl σ w hk hI hb
  obtain ⟨ha, hw⟩ := hI
  obtain ⟨τ, rfl⟩ := ha.ups
  refine RC.sr ?_
  refine ic ((k34 : Int)) ((p0.Nets.length : Int)) rfl rfl rfl rfl ?_
  refine RL.nq ?_
  refine RC.cond_t (dlt hk) ?_
  refine RC.ss ?_
  refine RC.bs ?_
  refine mv (vi (k34 : Int)) rfl rfl ?_
  obtain ⟨x43, hx43, hb⟩ := bd hb
  refine RL.ia_rd (i := 1) trivial rfl hw rfl rfl rfl sl24 hx43 fun v44 hw => ?_
  refine RL.load_pt (i := 0) (x := x43) trivial rfl hw rfl rfl ty39 fun v45 hw => ?_
  refine RL.alloc trivial rfl hw ze39.z fun b46 w hw => ?_
  refine as_ (vi (k34 : Int)) rfl rfl ?_
  refine RL.store_raw (i := 0) (j := 1) trivial hw rfl rfl rfl rfl ty39 rfl fun w hw => ?_
  refine RL.ns ?_
  refine RL.fa_b trivial rfl rfl fa39_1 ?_
  refine RL.load_bf (i := 0) (f := (fun x => x.Pins)) trivial rfl hw rfl rfl fd_Net_1 ty37 fun v47 hw => ?_
  refine RL.load_bf (i := 4) (f := (fun x => x)) trivial rfl hw rfl rfl Fd.self ty45 fun v48 hw => ?_
  obtain ⟨x49, hx49, hb⟩ := bd hb
  refine RL.call trivial rfl fn64 [v47, v48] rfl (Calls_ret (slices_Contains_Pin_ok N  (i0 := 1) (i1 := 0) hw rfl rfl hx49) ?_)
  rintro _ w ⟨rfl, hw⟩
  refine RL.nt ?_
  refine RC.cond (b := x49) rfl (fun hc => ?_) (fun hc => ?_)
  rotate_left
  ·replace hb := cF hc hb
   refine RC.skip ?_
   refine blkQ_n ?_
   refine thenQ_n ?_
   refine RC.region ?_
   refine RL.inc trivial rfl hk hm rfl rfl ?_
   refine mv (vi ((k34 + 1 : Nat) : Int)) rfl rfl ?_
   refine RL.nil ?_
   obtain rfl := oi hb
   exact ⟨rfl, ⟨rfl, rfl, rfl, rfl, trivial⟩, hw.pick 7 [5, 6] (new := [bx 45 b32 p1, rd v33 p0.Nets]) rfl rfl (by decide) (by decide)⟩
  replace hb := cT hc hb
  refine RC.sr ?_
  refine mv (vi (k34 : Int)) rfl rfl ?_
  refine as_ (vi (k34 : Int)) rfl rfl ?_
  refine RL.nt ?_
  refine RC.rb ?_
  refine thenQ_r ?_
  obtain rfl := oi hb
  exact ⟨rfl, fin1 rfl rfl ⟨rfl, hw.drop 7 rfl⟩⟩
 ·intro r σ w e hK
  subst e
  refine thenQ_r ?_
  obtain rfl := oi hb
  exact hK
 intro s35 σ w e hJ
 subst e
 rw [Fo.cs_go] at hb
 obtain ⟨ha, hw⟩ := hJ
 obtain ⟨τ, rfl⟩ := ha.ups
 refine thenQ_n ?_
 refine RC.sr ?_
 refine as_ (vi (-1)) rfl rfl ?_
 refine RL.nt ?_
 refine RC.ret ?_
 obtain rfl := oi hb
 exact fin1 rfl rfl ⟨rfl, hw.drop 2 rfl⟩
def etchhouseref2_Together_R (E : World) (Γ : List HP) (res : Bool) (v : Value) (w : World) : Prop := v = (vb res) ∧ Holds E w Γ
def etchhouseref2_Together_K (E : World) (Γ : List HP) (r : Bool) (σ : Nat → Value) (w : World) : Prop := finQ Tryd.prog 20 Tryd.f13 (etchhouseref2_Together_R E Γ r) .ret σ w
theorem etchhouseref2_Together_ok (N : Nat) {E w : World} {Γ : List HP} {i0 : Nat} {v0 : Value} {p0 : Netlist} {i1 : Nat} {v1 : Value} {p1 : Pin} {i2 : Nat} {v2 : Value} {p2 : Pin} {res : Bool} (hw : Holds E w Γ) (h0 : Γ[i0]? = some (rd v0 p0)) (h1 : Γ[i1]? = some (rd v1 p1)) (h2 : Γ[i2]? = some (rd v2 p2)) (hb : etchhouseref2_Together N p0 p1 p2 = some res) :
    Calls Tryd.prog 13 [v0, v1, v2].toArray w (Ret (etchhouseref2_Together_R E Γ res)) := by
 unfold etchhouseref2_Together at hb
 refine enter Tryd.func13 rfl rfl (Nat.le_of_ble_eq_true rfl) ?_
 have hw := hw.dup (i := i0 + 0) h0
 have hw := hw.dup (i := i1 + 1) h1
 have hw := hw.dup (i := i2 + 2) h2
 refine RC.sr ?_
 refine RL.box_rd (i := 2) (v := v0) trivial rfl hw rfl rfl fun b31 w hw => ?_
 refine RL.box_rd (i := 2) (v := v1) trivial rfl hw rfl rfl fun b32 w hw => ?_
 refine RL.box_rd (i := 2) (v := v2) trivial rfl hw rfl rfl fun b33 w hw => ?_
 refine as_ (vb false) rfl rfl ?_
 refine RL.ns ?_
 refine RL.load_bf (i := 2) (f := (fun x => x)) trivial rfl hw rfl rfl Fd.self ty26 fun v34 hw => ?_
 refine RL.load_bf (i := 2) (f := (fun x => x)) trivial rfl hw rfl rfl Fd.self ty45 fun v35 hw => ?_
 obtain ⟨x36, hx36, hb⟩ := bd hb
 refine RL.call trivial rfl fn32 [v34, v35] rfl (Calls_ret (etchhouseref2_netOf_ok N  (i0 := 1) (i1 := 0) hw rfl rfl hx36) ?_)
 rintro _ w ⟨rfl, hw⟩
 refine as_ (vi x36) rfl rfl ?_
 refine RL.nq ?_
 obtain ⟨s41, hj, hb⟩ := bd hb
 refine RC.jn (fun (s41 : Bool) (σ : Nat → Value) (w : World) => agree σ [(6, (vb s41))] ∧ Holds E w ([] ++ Γ)) s41 ?_ ?_
 ·refine RC.region ?_
  refine mv (vi x36) rfl rfl ?_
  refine ic x36 0 rfl rfl rfl rfl ?_
  refine mv (vb (decide (x36 ≥ 0))) rfl rfl ?_
  rcases Bool.eq_false_or_eq_true (decide (x36 ≥ 0)) with hg42 | hg42
  rotate_left
  ·replace hj := cF hg42 hj
   refine sk rfl (.inl (cb hg42)) rfl ?_
   refine sk rfl (.inl (cb hg42)) rfl ?_
   refine sk rfl (.inl (cb hg42)) rfl ?_
   refine sk rfl (.inl (cb hg42)) rfl ?_
   refine sk rfl (.inl (cb hg42)) rfl ?_
   refine RL.pick (b := (decide (x36 ≥ 0))) (v := (vb false)) trivial rfl rfl (by rw [hg42]; rfl) ?_
   refine as_ (vb false) rfl rfl ?_
   refine RL.nil ?_
   obtain rfl := oi hj
   exact ⟨rfl, ⟨rfl, trivial⟩, hw.pick 8 [] (new := []) rfl rfl (by decide) (by decide)⟩
  replace hj := cT hg42 hj
  refine RL.move (v := (vi x36)) ⟨_, rfl, cb hg42⟩ rfl rfl ?_
  refine RL.load_bf (i := 4) (f := (fun x => x)) ⟨_, rfl, cb hg42⟩ rfl hw rfl rfl Fd.self ty26 fun v43 hw => ?_
  refine RL.load_bf (i := 3) (f := (fun x => x)) ⟨_, rfl, cb hg42⟩ rfl hw rfl rfl Fd.self ty45 fun v44 hw => ?_
  obtain ⟨x45, hx45, hj⟩ := bd hj
  refine RL.call ⟨_, rfl, cb hg42⟩ rfl fn32 [v43, v44] rfl (Calls_ret (etchhouseref2_netOf_ok N  (i0 := 1) (i1 := 0) hw rfl rfl hx45) ?_)
  rintro _ w ⟨rfl, hw⟩
  refine RL.icmp (a := x36) (b := x45) ⟨_, rfl, cb hg42⟩ rfl rfl rfl rfl ?_
  refine RL.pick (b := (decide (x36 ≥ 0))) (v := (vb (x36 == x45))) trivial rfl rfl (by rw [hg42]; rfl) ?_
  refine as_ (vb (x36 == x45)) rfl rfl ?_
  refine RL.nil ?_
  obtain rfl := oi hj
  exact ⟨rfl, ⟨rfl, trivial⟩, hw.pick 10 [] (new := []) rfl rfl (by decide) (by decide)⟩
 rintro σ w ⟨ha, hw⟩
 obtain ⟨τ, rfl⟩ := ha.ups
 refine thenQ_n ?_
 refine RC.ret ?_
 obtain rfl := oi hb
 exact fin1 rfl rfl ⟨rfl, hw.drop 0 rfl⟩
def etchhouselaw2_NetlistJoinedKeepsPins_R (E : World) (Γ : List HP) (res : Bool) (v : Value) (w : World) : Prop := v = (vb res) ∧ Holds E w Γ
def etchhouselaw2_NetlistJoinedKeepsPins_K (E : World) (Γ : List HP) (r : Bool) (σ : Nat → Value) (w : World) : Prop := finQ Tryd.prog 87 Tryd.f4 (etchhouselaw2_NetlistJoinedKeepsPins_R E Γ r) .ret σ w
theorem etchhouselaw2_NetlistJoinedKeepsPins_ok (N : Nat) {E w : World} {Γ : List HP} {i0 : Nat} {v0 : Value} {p0 : (List PartType)} {i1 : Nat} {v1 : Value} {p1 : Netlist} {p2 : Str} {p3 : Str} {p4 : Int} {p5 : Int} {res : Bool} (hw : Holds E w Γ) (h0 : Γ[i0]? = some (rd v0 p0)) (h1 : Γ[i1]? = some (rd v1 p1)) (hb : etchhouselaw2_NetlistJoinedKeepsPins N p0 p1 p2 p3 p4 p5 = some res) :
    Calls Tryd.prog 4 [v0, v1, (str p2), (str p3), (vi p4), (vi p5)].toArray w (Ret (etchhouselaw2_NetlistJoinedKeepsPins_R E Γ res)) := by
 unfold etchhouselaw2_NetlistJoinedKeepsPins at hb
 refine enter Tryd.func4 rfl rfl (Nat.le_of_ble_eq_true rfl) ?_
 have hw := hw.dup (i := i0 + 0) h0
 have hw := hw.dup (i := i1 + 1) h1
 refine RC.sr ?_
 refine RL.box_rd (i := 0) (v := v1) trivial rfl hw rfl rfl fun b31 w hw => ?_
 refine as_ (vb false) rfl rfl ?_
 refine RL.ns ?_
 refine mv v0 rfl rfl ?_
 refine RL.load_bf (i := 0) (f := (fun x => x)) trivial rfl hw rfl rfl Fd.self ty26 fun v32 hw => ?_
 refine mv (str p2) rfl rfl ?_
 refine mv (str p3) rfl rfl ?_
 obtain ⟨x33, hx33, hb⟩ := bd hb
 refine RL.call trivial rfl fn9 [v0, v32, (str p2), (str p3)] rfl (Calls_ret (netlist_Joined_ok N (p2 := p2) (p3 := p3) (i0 := 3) (i1 := 0) hw rfl rfl hx33) ?_)
 rintro _ w ⟨v34, rfl, hw⟩
 refine mv (.tuple #[v34, (vi x33.2)]) rfl rfl ?_
 refine RL.extract (v := v34) trivial rfl rfl rfl ?_
 refine RL.extract (v := (vi x33.2)) trivial rfl rfl rfl ?_
 refine RL.alloc trivial rfl hw ze26.z fun b35 w hw => ?_
 refine RL.store_raw (i := 0) (j := 1) trivial hw rfl rfl rfl rfl ty26 rfl fun w hw => ?_
 refine as_ (vi x33.2) rfl rfl ?_
 refine RL.nq ?_
 refine RC.sr ?_
 refine mv (vi x33.2) rfl rfl ?_
 refine ic (x33.2) 0 rfl rfl rfl rfl ?_
 refine RL.nt ?_
 refine RC.cond (b := (x33.2 != 0)) rfl (fun hc => ?_) (fun hc => ?_)
 ·replace hb := cT hc hb
  refine RC.seq ?_
  obtain ⟨s48, hj, hb⟩ := bd hb
  refine RC.jn (fun (s48 : Bool) (σ : Nat → Value) (w : World) => agree σ [(12, (vb s48))] ∧ Holds E w ([] ++ Γ)) s48 ?_ ?_
  ·refine RC.region ?_
   refine RL.fa_b trivial rfl rfl fa26_1 ?_
   refine RL.load_bf (i := 0) (f := (fun x => x.Nets)) trivial rfl hw rfl rfl fd_Netlist_1 ty24 fun v49 hw => ?_
   refine RL.len_rd (i := 0) (l := x33.1.Nets) trivial rfl hw rfl rfl un24 ?_
   refine ic ((x33.1.Nets.length : Int)) 0 rfl rfl rfl rfl ?_
   refine mv (vb ((x33.1.Nets.length : Int) == 0)) rfl rfl ?_
   rcases Bool.eq_false_or_eq_true ((x33.1.Nets.length : Int) == 0) with hg50 | hg50
   rotate_left
   ·replace hj := cF hg50 hj
    refine sk rfl (.inl (cb hg50)) rfl ?_
    refine RL.pick (b := ((x33.1.Nets.length : Int) == 0)) (v := (vb false)) trivial rfl rfl (by rw [hg50]; rfl) ?_
    refine as_ (vb false) rfl rfl ?_
    refine RL.nil ?_
    obtain rfl := oi hj
    exact ⟨rfl, ⟨rfl, trivial⟩, hw.pick 7 [] (new := []) rfl rfl (by decide) (by decide)⟩
   replace hj := cT hg50 hj
   obtain ⟨x51, hx51, hj⟩ := bd hj
   refine RL.call ⟨_, rfl, cb hg50⟩ rfl fn6 [] rfl (Calls_ret (etchhouselaw2_awake_ok N   hw  hx51) ?_)
   rintro _ w ⟨rfl, hw⟩
   refine RL.pick (b := ((x33.1.Nets.length : Int) == 0)) (v := (vb x51)) trivial rfl rfl (by rw [hg50]; rfl) ?_
   refine as_ (vb x51) rfl rfl ?_
   refine RL.nil ?_
   obtain rfl := oi hj
   exact ⟨rfl, ⟨rfl, trivial⟩, hw.pick 7 [] (new := []) rfl rfl (by decide) (by decide)⟩
  rintro σ w ⟨ha, hw⟩
  obtain ⟨τ, rfl⟩ := ha.ups
  refine thenQ_n ?_
  refine RC.rt ?_
  obtain rfl := oi hb
  exact fin1 rfl rfl ⟨rfl, hw.drop 0 rfl⟩
 replace hb := cF hc hb
 refine RC.sx ?_
 refine RL.load_bf (i := 3) (f := (fun x => x)) trivial rfl hw rfl rfl Fd.self ty26 fun v52 hw => ?_
 obtain ⟨x53, hx53, hb⟩ := bd hb
 refine RL.call trivial rfl fn10 [v52] rfl (Calls_ret (etchhouseref2_AllPins_ok N  (i0 := 0) hw rfl hx53) ?_)
 rintro v54 w hw
 refine as_ v54 rfl rfl ?_
 refine RL.nq ?_
 obtain ⟨x55, hx55, hb⟩ := bd hb
 obtain ⟨x56, hx56, hb⟩ := bd hb
 obtain ⟨x58, hx58, hb⟩ := bd hb
 obtain ⟨x59, hx59, hb⟩ := bd hb
 refine RC.drw mixed rfl (fun (D : Nat → Bool) (σ : Nat → Value) (w : World) => ∃ (v57 : Value) (v60 : Value) (b61 : Nat) (b62 : Nat), doneV D σ [(0, 37, v54), (1, 38, (vi p4)), (2, 39, v54), (3, 40, (vi (x53.length : Int))), (4, 41, (vi x55)), (5, 42, (elA v54 (Int.toNat x55) 2 0)), (6, 43, v57), (7, 44, v54), (8, 45, (vi p5)), (9, 46, v54), (10, 47, (vi (x53.length : Int))), (11, 48, (vi x58)), (12, 49, (elA v54 (Int.toNat x58) 2 0)), (13, 50, v60), (14, 16, (vp b61 0)), (15, 17, (vp b62 0))] ∧ agree σ [(0, v0), (4, (vi p4)), (5, (vi p5)), (7, (vp b31 0)), (13, (vp b35 0)), (15, v54)] ∧ Holds E w ([bif D 6 then (rd v57 x56) else junk, bif D 13 then (rd v60 x59) else junk, bif D 16 then (bx 45 b61 x56) else (bif D 14 then (raw 45 b61 2) else junk), bif D 17 then (bx 45 b62 x59) else (bif D 15 then (raw 45 b62 2) else junk), own 45 v54 x53, rd v52 p1, bx 26 b35 x33.1, rd v34 x33.1, rd v32 p1, bx 26 b31 p1, rd v1 p1, rd v0 p0] ++ Γ)) ?_ ⟨?_, ?_, ?_, ?_, ?_, ?_, ?_, ?_, ?_, ?_, ?_, ?_, ?_, ?_, ?_, ?_, ?_, ?_, trivial⟩ ?_
 ·have hw := hw.drew
  have hw := hw.junk
  have hw := hw.junk
  have hw := hw.junk
  have hw := hw.junk
  exact ⟨undef, undef, 0, 0, doneV.none, ⟨rfl, rfl, rfl, rfl, rfl, rfl, trivial⟩, hw⟩
 ·rintro D σ w hD hdep hcl ⟨v57, v60, b61, b62, hv, ha, hw⟩
  obtain ⟨τ, rfl⟩ := (ac (ha.at 5 rfl) az).ups
  refine mv v54 rfl rfl ?_
  refine RL.nil ?_
  exact ⟨rfl, v57, v60, b61, b62, hv.put 0 rfl rfl, ha.up rfl, hw⟩
 ·rintro D σ w hD hdep hcl ⟨v57, v60, b61, b62, hv, ha, hw⟩
  obtain ⟨τ, rfl⟩ := (ac (ha.at 1 rfl) az).ups
  refine mv (vi p4) rfl rfl ?_
  refine RL.nil ?_
  exact ⟨rfl, v57, v60, b61, b62, hv.put 1 rfl rfl, ha.up rfl, hw⟩
 ·rintro D σ w hD hdep hcl ⟨v57, v60, b61, b62, hv, ha, hw⟩
  obtain ⟨τ, rfl⟩ := (ac (ha.at 5 rfl) az).ups
  refine mv v54 rfl rfl ?_
  refine RL.nil ?_
  exact ⟨rfl, v57, v60, b61, b62, hv.put 2 rfl rfl, ha.up rfl, hw⟩
 ·rintro D σ w hD hdep hcl ⟨v57, v60, b61, b62, hv, ha, hw⟩
  obtain ⟨τ, rfl⟩ := (ac (hv.at 2 rfl (hdep.1 rfl)) az).ups
  refine RL.len_own (i := 4) (l := x53) trivial rfl hw rfl rfl un37 ?_
  refine RL.nil ?_
  exact ⟨rfl, v57, v60, b61, b62, hv.put 3 rfl rfl, ha.up rfl, hw⟩
 ·rintro D σ w hD hdep hcl ⟨v57, v60, b61, b62, hv, ha, hw⟩
  obtain ⟨τ, rfl⟩ := (ac (hv.at 1 rfl (hdep.1 rfl)) (ac (hv.at 3 rfl (hdep.2.1 rfl)) az)).ups
  refine RL.call trivial rfl fn11 [(vi p4), (vi (x53.length : Int))] rfl (Calls_ret (etchhouseref2_Below_ok N (p0 := p4) (p1 := (x53.length : Int))  hw  hx55) ?_)
  rintro _ w ⟨rfl, hw⟩
  refine RL.nil ?_
  exact ⟨rfl, v57, v60, b61, b62, hv.put 4 rfl rfl, ha.up rfl, hw⟩
 ·rintro D σ w hD hdep hcl ⟨v57, v60, b61, b62, hv, ha, hw⟩
  obtain ⟨τ, rfl⟩ := (ac (hv.at 0 rfl (hdep.1 rfl)) (ac (hv.at 4 rfl (hdep.2.1 rfl)) az)).ups
  refine RL.ia_ownA (i := 4) trivial rfl hw rfl rfl rfl sl37 hx56 ?_
  refine RL.nil ?_
  exact ⟨rfl, v57, v60, b61, b62, hv.put 5 rfl rfl, ha.up rfl, hw⟩
 ·rintro D σ w hD hdep hcl ⟨v57, v60, b61, b62, hv, ha, hw⟩
  obtain ⟨τ, rfl⟩ := (ac (hv.at 5 rfl (hdep.1 rfl)) az).ups
  have hw := hw.selF (i := 0) rfl hD
  refine RL.load_el (i := 4) (f := (fun x => x)) trivial rfl hw rfl (elp hw (i := 4) rfl hx56 0) rfl (idx_some hx56).2.1 Fd.self ty45 fun v63 hw => ?_
  have hw := hw.pick 13 [0, 2, 3, 4, 5, 6, 7, 8, 9, 10, 11, 12] (new := [rd v63 x56, bif D 13 then (rd v60 x59) else junk, bif D 16 then (bx 45 b61 x56) else (bif D 14 then (raw 45 b61 2) else junk), bif D 17 then (bx 45 b62 x59) else (bif D 15 then (raw 45 b62 2) else junk), own 45 v54 x53, rd v52 p1, bx 26 b35 x33.1, rd v34 x33.1, rd v32 p1, bx 26 b31 p1, rd v1 p1, rd v0 p0]) rfl rfl (by decide) (by decide)
  have hw := hw.altT (i := 0) (b := true) rfl rfl (junk)
  refine RL.nil ?_
  exact ⟨rfl, v63, v60, b61, b62, hv.put 6 rfl rfl, ha.up rfl, hw⟩
 ·rintro D σ w hD hdep hcl ⟨v57, v60, b61, b62, hv, ha, hw⟩
  obtain ⟨τ, rfl⟩ := (ac (ha.at 5 rfl) az).ups
  refine mv v54 rfl rfl ?_
  refine RL.nil ?_
  exact ⟨rfl, v57, v60, b61, b62, hv.put 7 rfl rfl, ha.up rfl, hw⟩
 ·rintro D σ w hD hdep hcl ⟨v57, v60, b61, b62, hv, ha, hw⟩
  obtain ⟨τ, rfl⟩ := (ac (ha.at 2 rfl) az).ups
  refine mv (vi p5) rfl rfl ?_
  refine RL.nil ?_
  exact ⟨rfl, v57, v60, b61, b62, hv.put 8 rfl rfl, ha.up rfl, hw⟩
 ·rintro D σ w hD hdep hcl ⟨v57, v60, b61, b62, hv, ha, hw⟩
  obtain ⟨τ, rfl⟩ := (ac (ha.at 5 rfl) az).ups
  refine mv v54 rfl rfl ?_
  refine RL.nil ?_
  exact ⟨rfl, v57, v60, b61, b62, hv.put 9 rfl rfl, ha.up rfl, hw⟩
 ·rintro D σ w hD hdep hcl ⟨v57, v60, b61, b62, hv, ha, hw⟩
  obtain ⟨τ, rfl⟩ := (ac (hv.at 9 rfl (hdep.1 rfl)) az).ups
  refine RL.len_own (i := 4) (l := x53) trivial rfl hw rfl rfl un37 ?_
  refine RL.nil ?_
  exact ⟨rfl, v57, v60, b61, b62, hv.put 10 rfl rfl, ha.up rfl, hw⟩
 ·rintro D σ w hD hdep hcl ⟨v57, v60, b61, b62, hv, ha, hw⟩
  obtain ⟨τ, rfl⟩ := (ac (hv.at 8 rfl (hdep.1 rfl)) (ac (hv.at 10 rfl (hdep.2.1 rfl)) az)).ups
  refine RL.call trivial rfl fn11 [(vi p5), (vi (x53.length : Int))] rfl (Calls_ret (etchhouseref2_Below_ok N (p0 := p5) (p1 := (x53.length : Int))  hw  hx58) ?_)
  rintro _ w ⟨rfl, hw⟩
  refine RL.nil ?_
  exact ⟨rfl, v57, v60, b61, b62, hv.put 11 rfl rfl, ha.up rfl, hw⟩
 ·rintro D σ w hD hdep hcl ⟨v57, v60, b61, b62, hv, ha, hw⟩
  obtain ⟨τ, rfl⟩ := (ac (hv.at 7 rfl (hdep.1 rfl)) (ac (hv.at 11 rfl (hdep.2.1 rfl)) az)).ups
  refine RL.ia_ownA (i := 4) trivial rfl hw rfl rfl rfl sl37 hx59 ?_
  refine RL.nil ?_
  exact ⟨rfl, v57, v60, b61, b62, hv.put 12 rfl rfl, ha.up rfl, hw⟩
 ·rintro D σ w hD hdep hcl ⟨v57, v60, b61, b62, hv, ha, hw⟩
  obtain ⟨τ, rfl⟩ := (ac (hv.at 12 rfl (hdep.1 rfl)) az).ups
  have hw := hw.selF (i := 1) rfl hD
  refine RL.load_el (i := 4) (f := (fun x => x)) trivial rfl hw rfl (elp hw (i := 4) rfl hx59 0) rfl (idx_some hx59).2.1 Fd.self ty45 fun v64 hw => ?_
  have hw := hw.pick 13 [1, 0, 3, 4, 5, 6, 7, 8, 9, 10, 11, 12] (new := [bif D 6 then (rd v57 x56) else junk, rd v64 x59, bif D 16 then (bx 45 b61 x56) else (bif D 14 then (raw 45 b61 2) else junk), bif D 17 then (bx 45 b62 x59) else (bif D 15 then (raw 45 b62 2) else junk), own 45 v54 x53, rd v52 p1, bx 26 b35 x33.1, rd v34 x33.1, rd v32 p1, bx 26 b31 p1, rd v1 p1, rd v0 p0]) rfl rfl (by decide) (by decide)
  have hw := hw.altT (i := 1) (b := true) rfl rfl (junk)
  refine RL.nil ?_
  exact ⟨rfl, v57, v64, b61, b62, hv.put 13 rfl rfl, ha.up rfl, hw⟩
 ·rintro D σ w hD hdep hcl ⟨v57, v60, b61, b62, hv, ha, hw⟩
  obtain ⟨τ, rfl⟩ := (az (σ := σ)).ups
  have hw := hw.selF (i := 2) rfl (nf (fun h => ft hD ((hcl 16 _ rfl h).1 rfl)))
  have hw := hw.selF (i := 2) rfl hD
  refine RL.alloc trivial rfl hw ze45.z fun b65 w hw => ?_
  have hw := hw.pick 13 [1, 2, 0, 4, 5, 6, 7, 8, 9, 10, 11, 12] (new := [bif D 6 then (rd v57 x56) else junk, bif D 13 then (rd v60 x59) else junk, raw 45 b65 2, bif D 17 then (bx 45 b62 x59) else (bif D 15 then (raw 45 b62 2) else junk), own 45 v54 x53, rd v52 p1, bx 26 b35 x33.1, rd v34 x33.1, rd v32 p1, bx 26 b31 p1, rd v1 p1, rd v0 p0]) rfl rfl (by decide) (by decide)
  have hw := hw.altT (i := 2) (b := true) rfl rfl (junk)
  have hw := hw.altF (i := 2) (b := D 16) rfl (nf (fun h => ft hD ((hcl 16 _ rfl h).1 rfl))) (bx 45 b65 x56)
  refine RL.nil ?_
  exact ⟨rfl, v57, v60, b65, b62, hv.put 14 rfl rfl, ha.up rfl, hw⟩
 ·rintro D σ w hD hdep hcl ⟨v57, v60, b61, b62, hv, ha, hw⟩
  obtain ⟨τ, rfl⟩ := (az (σ := σ)).ups
  have hw := hw.selF (i := 3) rfl (nf (fun h => ft hD ((hcl 17 _ rfl h).1 rfl)))
  have hw := hw.selF (i := 3) rfl hD
  refine RL.alloc trivial rfl hw ze45.z fun b66 w hw => ?_
  have hw := hw.pick 13 [1, 2, 3, 0, 5, 6, 7, 8, 9, 10, 11, 12] (new := [bif D 6 then (rd v57 x56) else junk, bif D 13 then (rd v60 x59) else junk, bif D 16 then (bx 45 b61 x56) else (bif D 14 then (raw 45 b61 2) else junk), raw 45 b66 2, own 45 v54 x53, rd v52 p1, bx 26 b35 x33.1, rd v34 x33.1, rd v32 p1, bx 26 b31 p1, rd v1 p1, rd v0 p0]) rfl rfl (by decide) (by decide)
  have hw := hw.altT (i := 3) (b := true) rfl rfl (junk)
  have hw := hw.altF (i := 3) (b := D 17) rfl (nf (fun h => ft hD ((hcl 17 _ rfl h).1 rfl))) (bx 45 b66 x59)
  refine RL.nil ?_
  exact ⟨rfl, v57, v60, b61, b66, hv.put 15 rfl rfl, ha.up rfl, hw⟩
 ·rintro D σ w hD hdep hcl ⟨v57, v60, b61, b62, hv, ha, hw⟩
  obtain ⟨τ, rfl⟩ := (ac (hv.at 6 rfl (hdep.2.1 rfl)) (ac (hv.at 14 rfl (hdep.1 rfl)) az)).ups
  have hw := hw.selT (i := 0) rfl (hdep.2.1 rfl)
  have hw := hw.selF (i := 2) rfl hD
  have hw := hw.selT (i := 2) rfl (hdep.1 rfl)
  refine RL.store_raw (i := 2) (j := 0) trivial hw rfl rfl rfl rfl ty45 rfl fun w hw => ?_
  have hw := hw.altT (i := 0) (b := D 6) rfl (hdep.2.1 rfl) (junk)
  have hw := hw.altT (i := 2) (b := true) rfl rfl (bif D 14 then (raw 45 b61 2) else junk)
  refine RL.nil ?_
  exact ⟨rfl, v57, v60, b61, b62, hv.no rfl, ha, hw⟩
 ·rintro D σ w hD hdep hcl ⟨v57, v60, b61, b62, hv, ha, hw⟩
  obtain ⟨τ, rfl⟩ := (ac (hv.at 13 rfl (hdep.2.1 rfl)) (ac (hv.at 15 rfl (hdep.1 rfl)) az)).ups
  have hw := hw.selT (i := 1) rfl (hdep.2.1 rfl)
  have hw := hw.selF (i := 3) rfl hD
  have hw := hw.selT (i := 3) rfl (hdep.1 rfl)
  refine RL.store_raw (i := 3) (j := 1) trivial hw rfl rfl rfl rfl ty45 rfl fun w hw => ?_
  have hw := hw.altT (i := 1) (b := D 13) rfl (hdep.2.1 rfl) (junk)
  have hw := hw.altT (i := 3) (b := true) rfl rfl (bif D 15 then (raw 45 b62 2) else junk)
  refine RL.nil ?_
  exact ⟨rfl, v57, v60, b61, b62, hv.no rfl, ha, hw⟩
 rintro D σ w hall ⟨v57, v60, b61, b62, hv, ha, hw⟩
 rw [hall 6 (by decide), hall 13 (by decide), hall 14 (by decide), hall 15 (by decide), hall 16 (by decide), hall 17 (by decide)] at hw
 obtain ⟨τ, rfl⟩ := (ac (hv.at 14 rfl (hall 14 (by decide))) (ac (hv.at 15 rfl (hall 15 (by decide))) (ac (ha.at 0 rfl) (ac (ha.at 1 rfl) (ac (ha.at 2 rfl) (ac (ha.at 3 rfl) (ac (ha.at 4 rfl) (ac (ha.at 5 rfl) az)))))))).ups
 refine thenQ_n ?_
 refine RC.seq ?_
 obtain ⟨s150, hj, hb⟩ := bd hb
 refine RC.jn (fun (s150 : Bool) (σ : Nat → Value) (w : World) => agree σ [(12, (vb s150))] ∧ Holds E w ([] ++ Γ)) s150 ?_ ?_
 ·refine RC.region ?_
  refine RL.fa_b trivial rfl rfl fa26_1 ?_
  refine RL.load_bf (i := 6) (f := (fun x => x.Nets)) trivial rfl hw rfl rfl fd_Netlist_1 ty24 fun v151 hw => ?_
  refine RL.len_rd (i := 0) (l := x33.1.Nets) trivial rfl hw rfl rfl un24 ?_
  refine RL.fa_b trivial rfl rfl fa26_1 ?_
  refine RL.load_bf (i := 10) (f := (fun x => x.Nets)) trivial rfl hw rfl rfl fd_Netlist_1 ty24 fun v152 hw => ?_
  refine RL.len_rd (i := 0) (l := p1.Nets) trivial rfl hw rfl rfl un24 ?_
  refine RL.iar (a := (p1.Nets.length : Int)) (b := 1) trivial rfl rfl rfl rfl ?_
  refine ic ((x33.1.Nets.length : Int)) ((IntKind.wrap .i64 ((p1.Nets.length : Int) - 1))) rfl rfl rfl rfl ?_
  refine mv (vb ((x33.1.Nets.length : Int) == (IntKind.wrap .i64 ((p1.Nets.length : Int) - 1)))) rfl rfl ?_
  rcases Bool.eq_false_or_eq_true ((x33.1.Nets.length : Int) == (IntKind.wrap .i64 ((p1.Nets.length : Int) - 1))) with hg153 | hg153
  rotate_left
  ·replace hj := cF hg153 hj
   refine sk rfl (.inl (cb hg153)) rfl ?_
   refine sk rfl (.inl (cb hg153)) rfl ?_
   refine sk rfl (.inl (cb hg153)) rfl ?_
   refine sk rfl (.inl (cb hg153)) rfl ?_
   refine RL.pick (b := ((x33.1.Nets.length : Int) == (IntKind.wrap .i64 ((p1.Nets.length : Int) - 1)))) (v := (vb false)) trivial rfl rfl (by rw [hg153]; rfl) ?_
   refine mv (vb false) rfl rfl ?_
   refine sk rfl (.inl rfl) rfl ?_
   refine sk rfl (.inl rfl) rfl ?_
   refine sk rfl (.inl rfl) rfl ?_
   refine sk rfl (.inl rfl) rfl ?_
   refine sk rfl (.inl rfl) rfl ?_
   refine sk rfl (.inl rfl) rfl ?_
   refine sk rfl (.inr rfl) rfl ?_
   refine sk rfl (.inr rfl) rfl ?_
   refine sk rfl (.inr rfl) rfl ?_
   refine sk rfl (.inr rfl) rfl ?_
   refine sk rfl (.inl rfl) rfl ?_
   refine RL.pick (b := false) (v := (vb false)) trivial rfl rfl rfl ?_
   refine mv (vb false) rfl rfl ?_
   refine sk rfl (.inl rfl) rfl ?_
   refine sk rfl (.inl rfl) rfl ?_
   refine sk rfl (.inl rfl) rfl ?_
   refine sk rfl (.inl rfl) rfl ?_
   refine RL.pick (b := false) (v := (vb false)) trivial rfl rfl rfl ?_
   refine mv (vb false) rfl rfl ?_
   refine sk rfl (.inl rfl) rfl ?_
   refine RL.pick (b := false) (v := (vb false)) trivial rfl rfl rfl ?_
   refine as_ (vb false) rfl rfl ?_
   refine RL.nil ?_
   obtain rfl := oi hj
   exact ⟨rfl, ⟨rfl, trivial⟩, hw.pick 14 [] (new := []) rfl rfl (by decide) (by decide)⟩
  replace hj := cT hg153 hj
  refine RL.move (v := v54) ⟨_, rfl, cb hg153⟩ rfl rfl ?_
  refine RL.load_bf (i := 8) (f := (fun x => x)) ⟨_, rfl, cb hg153⟩ rfl hw rfl rfl Fd.self ty26 fun v154 hw => ?_
  obtain ⟨x155, hx155, hj⟩ := bd hj
  refine RL.call ⟨_, rfl, cb hg153⟩ rfl fn10 [v154] rfl (Calls_ret (etchhouseref2_AllPins_ok N  (i0 := 0) hw rfl hx155) ?_)
  rintro v156 w hw
  have hw := hw.freeze (i := 8) rfl
  have hw := hw.freeze (i := 0) rfl
  obtain ⟨x157, hx157, hj⟩ := bd hj
  refine RL.call ⟨_, rfl, cb hg153⟩ rfl fn12 [v54, v156] rfl (Calls_ret (slices_Equal_Pin_ok N  (i0 := 8) (i1 := 0) hw rfl rfl hx157) ?_)
  rintro _ w ⟨rfl, hw⟩
  refine RL.pick (b := ((x33.1.Nets.length : Int) == (IntKind.wrap .i64 ((p1.Nets.length : Int) - 1)))) (v := (vb x157)) trivial rfl rfl (by rw [hg153]; rfl) ?_
  refine mv (vb x157) rfl rfl ?_
  rcases Bool.eq_false_or_eq_true x157 with hg158 | hg158
  rotate_left
  ·replace hj := cF hg158 hj
   refine sk rfl (.inl (cb hg158)) rfl ?_
   refine sk rfl (.inl (cb hg158)) rfl ?_
   refine sk rfl (.inl (cb hg158)) rfl ?_
   refine sk rfl (.inl (cb hg158)) rfl ?_
   refine sk rfl (.inl (cb hg158)) rfl ?_
   refine sk rfl (.inl (cb hg158)) rfl ?_
   refine sk rfl (.inr rfl) rfl ?_
   refine sk rfl (.inr rfl) rfl ?_
   refine sk rfl (.inr rfl) rfl ?_
   refine sk rfl (.inr rfl) rfl ?_
   refine sk rfl (.inl (cb hg158)) rfl ?_
   refine RL.pick (b := x157) (v := (vb false)) trivial rfl rfl (by rw [hg158]; rfl) ?_
   refine mv (vb false) rfl rfl ?_
   refine sk rfl (.inl rfl) rfl ?_
   refine sk rfl (.inl rfl) rfl ?_
   refine sk rfl (.inl rfl) rfl ?_
   refine sk rfl (.inl rfl) rfl ?_
   refine RL.pick (b := false) (v := (vb false)) trivial rfl rfl rfl ?_
   refine mv (vb false) rfl rfl ?_
   refine sk rfl (.inl rfl) rfl ?_
   refine RL.pick (b := false) (v := (vb false)) trivial rfl rfl rfl ?_
   refine as_ (vb false) rfl rfl ?_
   refine RL.nil ?_
   obtain rfl := oi hj
   exact ⟨rfl, ⟨rfl, trivial⟩, hw.pick 16 [] (new := []) rfl rfl (by decide) (by decide)⟩
  replace hj := cT hg158 hj
  refine RL.load_bf (i := 13) (f := (fun x => x)) ⟨_, rfl, cb hg158⟩ rfl hw rfl rfl Fd.self ty26 fun v159 hw => ?_
  refine RL.load_bf (i := 7) (f := (fun x => x)) ⟨_, rfl, cb hg158⟩ rfl hw rfl rfl Fd.self ty45 fun v160 hw => ?_
  refine RL.load_bf (i := 9) (f := (fun x => x)) ⟨_, rfl, cb hg158⟩ rfl hw rfl rfl Fd.self ty45 fun v161 hw => ?_
  obtain ⟨x162, hx162, hj⟩ := bd hj
  refine RL.call ⟨_, rfl, cb hg158⟩ rfl fn13 [v159, v160, v161] rfl (Calls_ret (etchhouseref2_Together_ok N  (i0 := 2) (i1 := 1) (i2 := 0) hw rfl rfl rfl hx162) ?_)
  rintro _ w ⟨rfl, hw⟩
  refine RL.not (b := x162) ⟨_, rfl, cb hg158⟩ rfl rfl ?_
  refine RL.move (v := (vb (!x162))) ⟨_, rfl, cb hg158⟩ rfl rfl ?_
  rcases Bool.eq_false_or_eq_true (!x162) with hg163 | hg163
  ·replace hj := cT hg163 hj
   refine sk rfl (.inl (cb hg163)) rfl ?_
   refine sk rfl (.inl (cb hg163)) rfl ?_
   refine sk rfl (.inl (cb hg163)) rfl ?_
   refine sk rfl (.inl (cb hg163)) rfl ?_
   refine RL.pick (b := (!x162)) (v := (vb true)) ⟨_, rfl, cb hg158⟩ rfl rfl (by rw [hg163]; rfl) ?_
   refine RL.pick (b := x157) (v := (vb true)) trivial rfl rfl (by rw [hg158]; rfl) ?_
   refine mv (vb true) rfl rfl ?_
   refine RL.move (v := v0) ⟨_, rfl, rfl⟩ rfl rfl ?_
   refine RL.load_bf (i := 13) (f := (fun x => x)) ⟨_, rfl, rfl⟩ rfl hw rfl rfl Fd.self ty26 fun v164 hw => ?_
   obtain ⟨x165, hx165, hj⟩ := bd hj
   refine RL.call ⟨_, rfl, rfl⟩ rfl fn14 [v0, v164] rfl (Calls_ret (netlist_CheckList_ok N  (i0 := 19) (i1 := 0) hw rfl rfl hx165) ?_)
   rintro _ w ⟨rfl, hw⟩
   refine RL.icmp (a := x165) (b := 0) ⟨_, rfl, rfl⟩ rfl rfl rfl rfl ?_
   refine RL.pick (b := true) (v := (vb (x165 == 0))) trivial rfl rfl rfl ?_
   refine mv (vb (x165 == 0)) rfl rfl ?_
   rcases Bool.eq_false_or_eq_true (x165 == 0) with hg166 | hg166
   rotate_left
   ·replace hj := cF hg166 hj
    refine sk rfl (.inl (cb hg166)) rfl ?_
    refine RL.pick (b := (x165 == 0)) (v := (vb false)) trivial rfl rfl (by rw [hg166]; rfl) ?_
    refine as_ (vb false) rfl rfl ?_
    refine RL.nil ?_
    obtain rfl := oi hj
    exact ⟨rfl, ⟨rfl, trivial⟩, hw.pick 20 [] (new := []) rfl rfl (by decide) (by decide)⟩
   replace hj := cT hg166 hj
   obtain ⟨x167, hx167, hj⟩ := bd hj
   refine RL.call ⟨_, rfl, cb hg166⟩ rfl fn6 [] rfl (Calls_ret (etchhouselaw2_awake_ok N   hw  hx167) ?_)
   rintro _ w ⟨rfl, hw⟩
   refine RL.pick (b := (x165 == 0)) (v := (vb x167)) trivial rfl rfl (by rw [hg166]; rfl) ?_
   refine as_ (vb x167) rfl rfl ?_
   refine RL.nil ?_
   obtain rfl := oi hj
   exact ⟨rfl, ⟨rfl, trivial⟩, hw.pick 20 [] (new := []) rfl rfl (by decide) (by decide)⟩
  replace hj := cF hg163 hj
  refine RL.load_bf (i := 13) (f := (fun x => x)) ⟨_, rfl, cb hg163⟩ rfl hw rfl rfl Fd.self ty26 fun v168 hw => ?_
  refine RL.load_bf (i := 10) (f := (fun x => x)) ⟨_, rfl, cb hg163⟩ rfl hw rfl rfl Fd.self ty45 fun v169 hw => ?_
  refine RL.load_bf (i := 12) (f := (fun x => x)) ⟨_, rfl, cb hg163⟩ rfl hw rfl rfl Fd.self ty45 fun v170 hw => ?_
  obtain ⟨x171, hx171, hj⟩ := bd hj
  refine RL.call ⟨_, rfl, cb hg163⟩ rfl fn13 [v168, v169, v170] rfl (Calls_ret (etchhouseref2_Together_ok N  (i0 := 2) (i1 := 1) (i2 := 0) hw rfl rfl rfl hx171) ?_)
  rintro _ w ⟨rfl, hw⟩
  refine RL.pick (b := (!x162)) (v := (vb x171)) ⟨_, rfl, cb hg158⟩ rfl rfl (by rw [hg163]; rfl) ?_
  refine RL.pick (b := x157) (v := (vb x171)) trivial rfl rfl (by rw [hg158]; rfl) ?_
  refine mv (vb x171) rfl rfl ?_
  rcases Bool.eq_false_or_eq_true x171 with hg172 | hg172
  rotate_left
  ·replace hj := cF hg172 hj
   refine sk rfl (.inl (cb hg172)) rfl ?_
   refine sk rfl (.inl (cb hg172)) rfl ?_
   refine sk rfl (.inl (cb hg172)) rfl ?_
   refine sk rfl (.inl (cb hg172)) rfl ?_
   refine RL.pick (b := x171) (v := (vb false)) trivial rfl rfl (by rw [hg172]; rfl) ?_
   refine mv (vb false) rfl rfl ?_
   refine sk rfl (.inl rfl) rfl ?_
   refine RL.pick (b := false) (v := (vb false)) trivial rfl rfl rfl ?_
   refine as_ (vb false) rfl rfl ?_
   refine RL.nil ?_
   obtain rfl := oi hj
   exact ⟨rfl, ⟨rfl, trivial⟩, hw.pick 22 [] (new := []) rfl rfl (by decide) (by decide)⟩
  replace hj := cT hg172 hj
  refine RL.move (v := v0) ⟨_, rfl, cb hg172⟩ rfl rfl ?_
  refine RL.load_bf (i := 16) (f := (fun x => x)) ⟨_, rfl, cb hg172⟩ rfl hw rfl rfl Fd.self ty26 fun v173 hw => ?_
  obtain ⟨x174, hx174, hj⟩ := bd hj
  refine RL.call ⟨_, rfl, cb hg172⟩ rfl fn14 [v0, v173] rfl (Calls_ret (netlist_CheckList_ok N  (i0 := 22) (i1 := 0) hw rfl rfl hx174) ?_)
  rintro _ w ⟨rfl, hw⟩
  refine RL.icmp (a := x174) (b := 0) ⟨_, rfl, cb hg172⟩ rfl rfl rfl rfl ?_
  refine RL.pick (b := x171) (v := (vb (x174 == 0))) trivial rfl rfl (by rw [hg172]; rfl) ?_
  refine mv (vb (x174 == 0)) rfl rfl ?_
  rcases Bool.eq_false_or_eq_true (x174 == 0) with hg175 | hg175
  rotate_left
  ·replace hj := cF hg175 hj
   refine sk rfl (.inl (cb hg175)) rfl ?_
   refine RL.pick (b := (x174 == 0)) (v := (vb false)) trivial rfl rfl (by rw [hg175]; rfl) ?_
   refine as_ (vb false) rfl rfl ?_
   refine RL.nil ?_
   obtain rfl := oi hj
   exact ⟨rfl, ⟨rfl, trivial⟩, hw.pick 23 [] (new := []) rfl rfl (by decide) (by decide)⟩
  replace hj := cT hg175 hj
  obtain ⟨x176, hx176, hj⟩ := bd hj
  refine RL.call ⟨_, rfl, cb hg175⟩ rfl fn6 [] rfl (Calls_ret (etchhouselaw2_awake_ok N   hw  hx176) ?_)
  rintro _ w ⟨rfl, hw⟩
  refine RL.pick (b := (x174 == 0)) (v := (vb x176)) trivial rfl rfl (by rw [hg175]; rfl) ?_
  refine as_ (vb x176) rfl rfl ?_
  refine RL.nil ?_
  obtain rfl := oi hj
  exact ⟨rfl, ⟨rfl, trivial⟩, hw.pick 23 [] (new := []) rfl rfl (by decide) (by decide)⟩
 rintro σ w ⟨ha, hw⟩
 obtain ⟨τ, rfl⟩ := ha.ups
 refine thenQ_n ?_
 refine RC.ret ?_
 obtain rfl := oi hb
 exact fin1 rfl rfl ⟨rfl, hw.drop 0 rfl⟩
end Go.Gk
