/-
  Printed by gen.py: Go functions as plain functions, and that they are.
-/
import Derived.Test.YtfkpknhicijjbaaT
import Derived.Test.YtfkpknhicijjbaaS
set_option linter.unusedVariables false
set_option linter.unusedSimpArgs false
set_option linter.unusedSectionVars false
set_option maxRecDepth 100000
set_option maxHeartbeats 4000000

namespace Go.Gk
open Go Go.Proofs
def copper_within_R (E : World) (Γ : List HP) (res : Bool) (v : Value) (w : World) : Prop := v = (vb res) ∧ Holds E w Γ
def copper_within_K (E : World) (Γ : List HP) (r : Bool) (σ : Nat → Value) (w : World) : Prop := finQ Try.prog 15 Try.f12 (copper_within_R E Γ r) .ret σ w
theorem copper_within_ok (N : Nat) {E w : World} {Γ : List HP} {p0 : Int} {p1 : Int} {p2 : Int} {res : Bool} (hw : Holds E w Γ)  (hb : copper_within N p0 p1 p2 = some res) :
    Calls Try.prog 12 [(vi p0), (vi p1), (vi p2)].toArray w (Ret (copper_within_R E Γ res)) := by
 unfold copper_within at hb
 refine enter Try.func12 rfl rfl (Nat.le_of_ble_eq_true rfl) ?_
 refine RC.sr ?_
 refine as_ (vb false) rfl rfl ?_
 refine RL.ns ?_
 refine mv (vi p0) rfl rfl ?_
 refine mv (vi p1) rfl rfl ?_
 refine ic p0 p1 rfl rfl rfl rfl ?_
 refine mv (vb (decide (p0 ≥ p1))) rfl rfl ?_
 refine RL.gs (c := true) (b := (decide (p0 ≥ p1))) (v := (vi p0)) rfl rfl rfl (gs_move rfl (fun _ => rfl)) ?_
 refine RL.gs (c := true) (b := (decide (p0 ≥ p1))) (v := (vi p2)) rfl rfl rfl (gs_move rfl (fun _ => rfl)) ?_
 refine RL.gs (c := true) (b := (decide (p0 ≥ p1))) (v := (vb (decide (p0 ≤ p2)))) rfl rfl rfl (gs_icmp (bop := .leq) (K := .i64) (a := p0) (b := p2) rfl (fun h => by exact (cv_t h : cv (true && ((decide (p0 ≥ p1)) == true)) (vi p0) = (vi p0))) (fun h => by exact (cv_t h : cv (true && ((decide (p0 ≥ p1)) == true)) (vi p2) = (vi p2))) rfl) ?_
 refine RL.pick (b := (decide (p0 ≥ p1))) (v := (vb ((decide (p0 ≥ p1)) && (decide (p0 ≤ p2))))) trivial rfl rfl (pk_and (c := true) rfl) ?_
 refine as_ (vb ((decide (p0 ≥ p1)) && (decide (p0 ≤ p2)))) rfl rfl ?_
 refine RL.nt ?_
 refine RC.ret ?_
 obtain rfl := oi hb
 exact fin1 rfl rfl ⟨rfl, hw.drop 0 rfl⟩
def shape_within_R (E : World) (Γ : List HP) (res : Bool) (v : Value) (w : World) : Prop := v = (vb res) ∧ Holds E w Γ
def shape_within_K (E : World) (Γ : List HP) (r : Bool) (σ : Nat → Value) (w : World) : Prop := finQ Try.prog 15 Try.f53 (shape_within_R E Γ r) .ret σ w
theorem shape_within_ok (N : Nat) {E w : World} {Γ : List HP} {p0 : Int} {p1 : Int} {p2 : Int} {res : Bool} (hw : Holds E w Γ)  (hb : shape_within N p0 p1 p2 = some res) :
    Calls Try.prog 53 [(vi p0), (vi p1), (vi p2)].toArray w (Ret (shape_within_R E Γ res)) := by
 unfold shape_within at hb
 refine enter Try.func53 rfl rfl (Nat.le_of_ble_eq_true rfl) ?_
 refine RC.sr ?_
 refine as_ (vb false) rfl rfl ?_
 refine RL.ns ?_
 refine mv (vi p0) rfl rfl ?_
 refine mv (vi p1) rfl rfl ?_
 refine ic p0 p1 rfl rfl rfl rfl ?_
 refine mv (vb (decide (p0 ≥ p1))) rfl rfl ?_
 refine RL.gs (c := true) (b := (decide (p0 ≥ p1))) (v := (vi p0)) rfl rfl rfl (gs_move rfl (fun _ => rfl)) ?_
 refine RL.gs (c := true) (b := (decide (p0 ≥ p1))) (v := (vi p2)) rfl rfl rfl (gs_move rfl (fun _ => rfl)) ?_
 refine RL.gs (c := true) (b := (decide (p0 ≥ p1))) (v := (vb (decide (p0 ≤ p2)))) rfl rfl rfl (gs_icmp (bop := .leq) (K := .i64) (a := p0) (b := p2) rfl (fun h => by exact (cv_t h : cv (true && ((decide (p0 ≥ p1)) == true)) (vi p0) = (vi p0))) (fun h => by exact (cv_t h : cv (true && ((decide (p0 ≥ p1)) == true)) (vi p2) = (vi p2))) rfl) ?_
 refine RL.pick (b := (decide (p0 ≥ p1))) (v := (vb ((decide (p0 ≥ p1)) && (decide (p0 ≤ p2))))) trivial rfl rfl (pk_and (c := true) rfl) ?_
 refine as_ (vb ((decide (p0 ≥ p1)) && (decide (p0 ≤ p2)))) rfl rfl ?_
 refine RL.nt ?_
 refine RC.ret ?_
 obtain rfl := oi hb
 exact fin1 rfl rfl ⟨rfl, hw.drop 0 rfl⟩
def shape_IsAt_R (E : World) (Γ : List HP) (res : Bool) (v : Value) (w : World) : Prop := v = (vb res) ∧ Holds E w Γ
def shape_IsAt_K (E : World) (Γ : List HP) (r : Bool) (σ : Nat → Value) (w : World) : Prop := finQ Try.prog 5 Try.f29 (shape_IsAt_R E Γ r) .ret σ w
theorem shape_IsAt_ok (N : Nat) {E w : World} {Γ : List HP} {p0 : Int} {res : Bool} (hw : Holds E w Γ)  (hb : shape_IsAt N p0 = some res) :
    Calls Try.prog 29 [(vi p0)].toArray w (Ret (shape_IsAt_R E Γ res)) := by
 unfold shape_IsAt at hb
 refine enter Try.func29 rfl rfl (Nat.le_of_ble_eq_true rfl) ?_
 refine RC.sr ?_
 refine as_ (vb false) rfl rfl ?_
 refine RL.ns ?_
 refine mv (vi p0) rfl rfl ?_
 obtain ⟨x31, hx31, hb⟩ := bd hb
 refine RL.call trivial rfl fn53 [(vi p0), (vi (-1000000)), (vi 1000000)] rfl (Calls_ret (shape_within_ok N (p0 := p0) (p1 := (-1000000)) (p2 := 1000000)  hw  hx31) ?_)
 rintro _ w ⟨rfl, hw⟩
 refine as_ (vb x31) rfl rfl ?_
 refine RL.nt ?_
 refine RC.ret ?_
 obtain rfl := oi hb
 exact fin1 rfl rfl ⟨rfl, hw.drop 0 rfl⟩
def shape_IsPoint_R (E : World) (Γ : List HP) (res : Bool) (v : Value) (w : World) : Prop := v = (vb res) ∧ Holds E w Γ
def shape_IsPoint_K (E : World) (Γ : List HP) (r : Bool) (σ : Nat → Value) (w : World) : Prop := finQ Try.prog 11 Try.f13 (shape_IsPoint_R E Γ r) .ret σ w
theorem shape_IsPoint_ok (N : Nat) {E w : World} {Γ : List HP} {i0 : Nat} {v0 : Value} {p0 : Point} {res : Bool} (hw : Holds E w Γ) (h0 : Γ[i0]? = some (rd v0 p0)) (hb : shape_IsPoint N p0 = some res) :
    Calls Try.prog 13 [v0].toArray w (Ret (shape_IsPoint_R E Γ res)) := by
 unfold shape_IsPoint at hb
 refine enter Try.func13 rfl rfl (Nat.le_of_ble_eq_true rfl) ?_
 have hw := hw.dup (i := i0 + 0) h0
 refine RC.sr ?_
 refine RL.box_rd (i := 0) (v := v0) trivial rfl hw rfl rfl fun b31 w hw => ?_
 refine as_ (vb false) rfl rfl ?_
 refine RL.nq ?_
 obtain ⟨s36, hj, hb⟩ := bd hb
 refine RC.jn (fun (s36 : Bool) (σ : Nat → Value) (w : World) => agree σ [(2, (vb s36))] ∧ Holds E w ([] ++ Γ)) s36 ?_ ?_
 ·refine RC.region ?_
  refine RL.fa_b trivial rfl rfl fa23_0 ?_
  refine RL.load_bfs (i := 0) (f := (fun x => x.X)) trivial rfl hw rfl rfl fd_Point_0 ty3 ?_
  obtain ⟨x37, hx37, hj⟩ := bd hj
  refine RL.call trivial rfl fn29 [(vi p0.X)] rfl (Calls_ret (shape_IsAt_ok N (p0 := p0.X)  hw  hx37) ?_)
  rintro _ w ⟨rfl, hw⟩
  refine mv (vb x37) rfl rfl ?_
  rcases Bool.eq_false_or_eq_true x37 with hg38 | hg38
  rotate_left
  ·replace hj := cF hg38 hj
   refine sk rfl (.inl (cb hg38)) rfl ?_
   refine sk rfl (.inl (cb hg38)) rfl ?_
   refine sk rfl (.inl (cb hg38)) rfl ?_
   refine RL.pick (b := x37) (v := (vb false)) trivial rfl rfl (by rw [hg38]; rfl) ?_
   refine as_ (vb false) rfl rfl ?_
   refine RL.nil ?_
   obtain rfl := oi hj
   exact ⟨rfl, ⟨rfl, trivial⟩, hw.pick 2 [] (new := []) rfl rfl (by decide) (by decide)⟩
  replace hj := cT hg38 hj
  refine RL.fa_b ⟨_, rfl, cb hg38⟩ rfl rfl fa23_1 ?_
  refine RL.load_bfs (i := 0) (f := (fun x => x.Y)) ⟨_, rfl, cb hg38⟩ rfl hw rfl rfl fd_Point_1 ty3 ?_
  obtain ⟨x39, hx39, hj⟩ := bd hj
  refine RL.call ⟨_, rfl, cb hg38⟩ rfl fn29 [(vi p0.Y)] rfl (Calls_ret (shape_IsAt_ok N (p0 := p0.Y)  hw  hx39) ?_)
  rintro _ w ⟨rfl, hw⟩
  refine RL.pick (b := x37) (v := (vb x39)) trivial rfl rfl (by rw [hg38]; rfl) ?_
  refine as_ (vb x39) rfl rfl ?_
  refine RL.nil ?_
  obtain rfl := oi hj
  exact ⟨rfl, ⟨rfl, trivial⟩, hw.pick 2 [] (new := []) rfl rfl (by decide) (by decide)⟩
 rintro σ w ⟨ha, hw⟩
 obtain ⟨τ, rfl⟩ := ha.ups
 refine thenQ_n ?_
 refine RC.ret ?_
 obtain rfl := oi hb
 exact fin1 rfl rfl ⟨rfl, hw.drop 0 rfl⟩
def copper_SquareOf_R (E : World) (Γ : List HP) (res : Rect) (v : Value) (w : World) : Prop := Holds E w (rd v res :: Γ)
def copper_SquareOf_K (E : World) (Γ : List HP) (r : Rect) (σ : Nat → Value) (w : World) : Prop := finQ Try.prog 30 Try.f14 (copper_SquareOf_R E Γ r) .ret σ w
theorem copper_SquareOf_ok (N : Nat) {E w : World} {Γ : List HP} {i0 : Nat} {v0 : Value} {p0 : Bore} {res : Rect} (hw : Holds E w Γ) (h0 : Γ[i0]? = some (rd v0 p0)) (hb : copper_SquareOf N p0 = some res) :
    Calls Try.prog 14 [v0].toArray w (Ret (copper_SquareOf_R E Γ res)) := by
 unfold copper_SquareOf at hb
 refine enter Try.func14 rfl rfl (Nat.le_of_ble_eq_true rfl) ?_
 have hw := hw.dup (i := i0 + 0) h0
 refine RC.sr ?_
 refine RL.box_rd (i := 0) (v := v0) trivial rfl hw rfl rfl fun b31 w hw => ?_
 refine RL.alloc trivial rfl hw ze27.z fun b32 w hw => ?_
 refine RL.nq ?_
 refine RC.drw mixed rfl (fun (D : Nat → Bool) (σ : Nat → Value) (w : World) => doneV D σ [(0, 5, (vp b31 0)), (1, 6, (vp b31 0)), (2, 7, (vi p0.At.X)), (3, 8, (vp b31 2)), (4, 9, (vi p0.Size)), (5, 10, (vi (IntKind.wrap .i64 (Int.tdiv p0.Size 2)))), (6, 11, (vi (IntKind.wrap .i64 (p0.At.X - (IntKind.wrap .i64 (Int.tdiv p0.Size 2)))))), (7, 12, (vp b31 0)), (8, 13, (vp b31 1)), (9, 14, (vi p0.At.Y)), (10, 15, (vp b31 2)), (11, 16, (vi p0.Size)), (12, 17, (vi (IntKind.wrap .i64 (Int.tdiv p0.Size 2)))), (13, 18, (vi (IntKind.wrap .i64 (p0.At.Y - (IntKind.wrap .i64 (Int.tdiv p0.Size 2)))))), (14, 3, (vi (IntKind.wrap .i64 (p0.At.X - (IntKind.wrap .i64 (Int.tdiv p0.Size 2)))))), (15, 4, (vi (IntKind.wrap .i64 (p0.At.Y - (IntKind.wrap .i64 (Int.tdiv p0.Size 2))))))] ∧ agree σ [(1, (vp b31 0)), (2, (vp b32 0))] ∧ Holds E w ([raw 27 b32 4, bx 25 b31 p0, rd v0 p0] ++ Γ)) ?_ ⟨?_, ?_, ?_, ?_, ?_, ?_, ?_, ?_, ?_, ?_, ?_, ?_, ?_, ?_, ?_, ?_, trivial⟩ ?_
 ·have hw := hw.drew
  exact ⟨doneV.none, ⟨rfl, rfl, trivial⟩, hw⟩
 ·rintro D σ w hD hdep hcl ⟨hv, ha, hw⟩
  obtain ⟨τ, rfl⟩ := (ac (ha.at 0 rfl) az).ups
  refine RL.fa_b trivial rfl rfl fa25_0 ?_
  refine RL.nil ?_
  exact ⟨rfl, hv.put 0 rfl rfl, ha.up rfl, hw⟩
 ·rintro D σ w hD hdep hcl ⟨hv, ha, hw⟩
  obtain ⟨τ, rfl⟩ := (ac (hv.at 0 rfl (hdep.1 rfl)) az).ups
  refine RL.fa_b trivial rfl rfl fa23_0 ?_
  refine RL.nil ?_
  exact ⟨rfl, hv.put 1 rfl rfl, ha.up rfl, hw⟩
 ·rintro D σ w hD hdep hcl ⟨hv, ha, hw⟩
  obtain ⟨τ, rfl⟩ := (ac (hv.at 1 rfl (hdep.1 rfl)) az).ups
  refine RL.load_bfs (i := 1) (f := (fun x => x.At.X)) trivial rfl hw rfl rfl (Fd.comp fd_Bore_0 fd_Point_0 (by decide)) ty3 ?_
  refine RL.nil ?_
  exact ⟨rfl, hv.put 2 rfl rfl, ha.up rfl, hw⟩
 ·rintro D σ w hD hdep hcl ⟨hv, ha, hw⟩
  obtain ⟨τ, rfl⟩ := (ac (ha.at 0 rfl) az).ups
  refine RL.fa_b trivial rfl rfl fa25_1 ?_
  refine RL.nil ?_
  exact ⟨rfl, hv.put 3 rfl rfl, ha.up rfl, hw⟩
 ·rintro D σ w hD hdep hcl ⟨hv, ha, hw⟩
  obtain ⟨τ, rfl⟩ := (ac (hv.at 3 rfl (hdep.1 rfl)) az).ups
  refine RL.load_bfs (i := 1) (f := (fun x => x.Size)) trivial rfl hw rfl rfl fd_Bore_1 ty3 ?_
  refine RL.nil ?_
  exact ⟨rfl, hv.put 4 rfl rfl, ha.up rfl, hw⟩
 ·rintro D σ w hD hdep hcl ⟨hv, ha, hw⟩
  obtain ⟨τ, rfl⟩ := (ac (hv.at 4 rfl (hdep.1 rfl)) az).ups
  refine RL.quo (a := p0.Size) (b := 2) trivial rfl rfl rfl rfl ?_
  refine RL.nil ?_
  exact ⟨rfl, hv.put 5 rfl rfl, ha.up rfl, hw⟩
 ·rintro D σ w hD hdep hcl ⟨hv, ha, hw⟩
  obtain ⟨τ, rfl⟩ := (ac (hv.at 2 rfl (hdep.1 rfl)) (ac (hv.at 5 rfl (hdep.2.1 rfl)) az)).ups
  refine RL.iar (a := p0.At.X) (b := (IntKind.wrap .i64 (Int.tdiv p0.Size 2))) trivial rfl rfl rfl rfl ?_
  refine RL.nil ?_
  exact ⟨rfl, hv.put 6 rfl rfl, ha.up rfl, hw⟩
 ·rintro D σ w hD hdep hcl ⟨hv, ha, hw⟩
  obtain ⟨τ, rfl⟩ := (ac (ha.at 0 rfl) az).ups
  refine RL.fa_b trivial rfl rfl fa25_0 ?_
  refine RL.nil ?_
  exact ⟨rfl, hv.put 7 rfl rfl, ha.up rfl, hw⟩
 ·rintro D σ w hD hdep hcl ⟨hv, ha, hw⟩
  obtain ⟨τ, rfl⟩ := (ac (hv.at 7 rfl (hdep.1 rfl)) az).ups
  refine RL.fa_b trivial rfl rfl fa23_1 ?_
  refine RL.nil ?_
  exact ⟨rfl, hv.put 8 rfl rfl, ha.up rfl, hw⟩
 ·rintro D σ w hD hdep hcl ⟨hv, ha, hw⟩
  obtain ⟨τ, rfl⟩ := (ac (hv.at 8 rfl (hdep.1 rfl)) az).ups
  refine RL.load_bfs (i := 1) (f := (fun x => x.At.Y)) trivial rfl hw rfl rfl (Fd.comp fd_Bore_0 fd_Point_1 (by decide)) ty3 ?_
  refine RL.nil ?_
  exact ⟨rfl, hv.put 9 rfl rfl, ha.up rfl, hw⟩
 ·rintro D σ w hD hdep hcl ⟨hv, ha, hw⟩
  obtain ⟨τ, rfl⟩ := (ac (ha.at 0 rfl) az).ups
  refine RL.fa_b trivial rfl rfl fa25_1 ?_
  refine RL.nil ?_
  exact ⟨rfl, hv.put 10 rfl rfl, ha.up rfl, hw⟩
 ·rintro D σ w hD hdep hcl ⟨hv, ha, hw⟩
  obtain ⟨τ, rfl⟩ := (ac (hv.at 10 rfl (hdep.1 rfl)) az).ups
  refine RL.load_bfs (i := 1) (f := (fun x => x.Size)) trivial rfl hw rfl rfl fd_Bore_1 ty3 ?_
  refine RL.nil ?_
  exact ⟨rfl, hv.put 11 rfl rfl, ha.up rfl, hw⟩
 ·rintro D σ w hD hdep hcl ⟨hv, ha, hw⟩
  obtain ⟨τ, rfl⟩ := (ac (hv.at 11 rfl (hdep.1 rfl)) az).ups
  refine RL.quo (a := p0.Size) (b := 2) trivial rfl rfl rfl rfl ?_
  refine RL.nil ?_
  exact ⟨rfl, hv.put 12 rfl rfl, ha.up rfl, hw⟩
 ·rintro D σ w hD hdep hcl ⟨hv, ha, hw⟩
  obtain ⟨τ, rfl⟩ := (ac (hv.at 9 rfl (hdep.1 rfl)) (ac (hv.at 12 rfl (hdep.2.1 rfl)) az)).ups
  refine RL.iar (a := p0.At.Y) (b := (IntKind.wrap .i64 (Int.tdiv p0.Size 2))) trivial rfl rfl rfl rfl ?_
  refine RL.nil ?_
  exact ⟨rfl, hv.put 13 rfl rfl, ha.up rfl, hw⟩
 ·rintro D σ w hD hdep hcl ⟨hv, ha, hw⟩
  obtain ⟨τ, rfl⟩ := (ac (hv.at 6 rfl (hdep.1 rfl)) az).ups
  refine as_ (vi (IntKind.wrap .i64 (p0.At.X - (IntKind.wrap .i64 (Int.tdiv p0.Size 2))))) rfl rfl ?_
  refine RL.nil ?_
  exact ⟨rfl, hv.put 14 rfl rfl, ha.up rfl, hw⟩
 ·rintro D σ w hD hdep hcl ⟨hv, ha, hw⟩
  obtain ⟨τ, rfl⟩ := (ac (hv.at 13 rfl (hdep.1 rfl)) az).ups
  refine as_ (vi (IntKind.wrap .i64 (p0.At.Y - (IntKind.wrap .i64 (Int.tdiv p0.Size 2))))) rfl rfl ?_
  refine RL.nil ?_
  exact ⟨rfl, hv.put 15 rfl rfl, ha.up rfl, hw⟩
 rintro D σ w hall ⟨hv, ha, hw⟩
 obtain ⟨τ, rfl⟩ := (ac (hv.at 14 rfl (hall 14 (by decide))) (ac (hv.at 15 rfl (hall 15 (by decide))) (ac (ha.at 0 rfl) (ac (ha.at 1 rfl) az)))).ups
 refine thenQ_n ?_
 refine RC.sr ?_
 refine mv (vi (IntKind.wrap .i64 (p0.At.X - (IntKind.wrap .i64 (Int.tdiv p0.Size 2))))) rfl rfl ?_
 refine mv (vi (IntKind.wrap .i64 (p0.At.Y - (IntKind.wrap .i64 (Int.tdiv p0.Size 2))))) rfl rfl ?_
 refine mv (vi (IntKind.wrap .i64 (p0.At.X - (IntKind.wrap .i64 (Int.tdiv p0.Size 2))))) rfl rfl ?_
 refine RL.fa_b trivial rfl rfl fa25_1 ?_
 refine RL.load_bfs (i := 1) (f := (fun x => x.Size)) trivial rfl hw rfl rfl fd_Bore_1 ty3 ?_
 refine RL.iar (a := (IntKind.wrap .i64 (p0.At.X - (IntKind.wrap .i64 (Int.tdiv p0.Size 2))))) (b := p0.Size) trivial rfl rfl rfl rfl ?_
 refine mv (vi (IntKind.wrap .i64 (p0.At.Y - (IntKind.wrap .i64 (Int.tdiv p0.Size 2))))) rfl rfl ?_
 refine RL.fa_b trivial rfl rfl fa25_1 ?_
 refine RL.load_bfs (i := 1) (f := (fun x => x.Size)) trivial rfl hw rfl rfl fd_Bore_1 ty3 ?_
 refine RL.iar (a := (IntKind.wrap .i64 (p0.At.Y - (IntKind.wrap .i64 (Int.tdiv p0.Size 2))))) (b := p0.Size) trivial rfl rfl rfl rfl ?_
 have hw := hw.sc (γ := Int) (IntKind.wrap .i64 (p0.At.X - (IntKind.wrap .i64 (Int.tdiv p0.Size 2))))
 have hw := hw.sc (γ := Int) (IntKind.wrap .i64 (p0.At.Y - (IntKind.wrap .i64 (Int.tdiv p0.Size 2))))
 have hw := hw.sc (γ := Int) (IntKind.wrap .i64 ((IntKind.wrap .i64 (p0.At.X - (IntKind.wrap .i64 (Int.tdiv p0.Size 2)))) + p0.Size))
 have hw := hw.sc (γ := Int) (IntKind.wrap .i64 ((IntKind.wrap .i64 (p0.At.Y - (IntKind.wrap .i64 (Int.tdiv p0.Size 2)))) + p0.Size))
 refine RL.build (y := (⟨(IntKind.wrap .i64 (p0.At.X - (IntKind.wrap .i64 (Int.tdiv p0.Size 2)))), (IntKind.wrap .i64 (p0.At.Y - (IntKind.wrap .i64 (Int.tdiv p0.Size 2)))), (IntKind.wrap .i64 ((IntKind.wrap .i64 (p0.At.X - (IntKind.wrap .i64 (Int.tdiv p0.Size 2)))) + p0.Size)), (IntKind.wrap .i64 ((IntKind.wrap .i64 (p0.At.Y - (IntKind.wrap .i64 (Int.tdiv p0.Size 2)))) + p0.Size))⟩ : Rect)) trivial rfl hw [(0, (vi (IntKind.wrap .i64 (p0.At.X - (IntKind.wrap .i64 (Int.tdiv p0.Size 2)))))), (1, (vi (IntKind.wrap .i64 (p0.At.Y - (IntKind.wrap .i64 (Int.tdiv p0.Size 2)))))), (2, (vi (IntKind.wrap .i64 ((IntKind.wrap .i64 (p0.At.X - (IntKind.wrap .i64 (Int.tdiv p0.Size 2)))) + p0.Size)))), (3, (vi (IntKind.wrap .i64 ((IntKind.wrap .i64 (p0.At.Y - (IntKind.wrap .i64 (Int.tdiv p0.Size 2)))) + p0.Size))))] rfl st27 rfl (fun M hs g => by have h := z_Rect M; exact Fills.cons (f := fun (x : Rect) y => { x with X0 := y }) rfl h fs_Rect_0 (by decide) (g.sat 3 _ rfl).1 fun _ h => Fills.cons (f := fun (x : Rect) y => { x with Y0 := y }) rfl h fs_Rect_1 (by decide) (g.sat 2 _ rfl).1 fun _ h => Fills.cons (f := fun (x : Rect) y => { x with X1 := y }) rfl h fs_Rect_2 (by decide) (g.sat 1 _ rfl).1 fun _ h => Fills.cons (f := fun (x : Rect) y => { x with Y1 := y }) rfl h fs_Rect_3 (by decide) (g.sat 0 _ rfl).1 fun _ h => Fills.nil h) fun v33 hw => ?_
 refine RL.store_raw (i := 5) (j := 0) trivial hw rfl rfl rfl rfl ty27 rfl fun w hw => ?_
 refine RL.nt ?_
 refine RC.ret ?_
 obtain rfl := oi hb
 exact finC (i := 5) rfl hw rfl rfl ty27 fun v34 hw => (hw.pick 9 [0] (new := [rd v34 (⟨(IntKind.wrap .i64 (p0.At.X - (IntKind.wrap .i64 (Int.tdiv p0.Size 2)))), (IntKind.wrap .i64 (p0.At.Y - (IntKind.wrap .i64 (Int.tdiv p0.Size 2)))), (IntKind.wrap .i64 ((IntKind.wrap .i64 (p0.At.X - (IntKind.wrap .i64 (Int.tdiv p0.Size 2)))) + p0.Size)), (IntKind.wrap .i64 ((IntKind.wrap .i64 (p0.At.Y - (IntKind.wrap .i64 (Int.tdiv p0.Size 2)))) + p0.Size))⟩ : Rect)]) rfl rfl (by decide) (by decide))
def slices_Clone_Rect_R (E : World) (Γ : List HP) (res : (List Rect)) (v : Value) (w : World) : Prop := Holds E w (own 27 v res :: Γ)
def slices_Clone_Rect_K (E : World) (Γ : List HP) (r : (List Rect)) (σ : Nat → Value) (w : World) : Prop := finQ Try.prog 8 Try.f30 (slices_Clone_Rect_R E Γ r) .ret σ w
theorem slices_Clone_Rect_ok (N : Nat) {E w : World} {Γ : List HP} {i0 : Nat} {v0 : Value} {p0 : (List Rect)} {res : (List Rect)} (hw : Holds E w Γ) (h0 : Γ[i0]? = some (rd v0 p0)) (hb : slices_Clone_Rect N p0 = some res) :
    Calls Try.prog 30 [v0].toArray w (Ret (slices_Clone_Rect_R E Γ res)) := by
 unfold slices_Clone_Rect at hb
 refine enter Try.func30 rfl rfl (Nat.le_of_ble_eq_true rfl) ?_
 have hw := hw.dup (i := i0 + 0) h0
 refine RC.sr ?_
 refine as_ (.slice none 0 0) rfl rfl ?_
 refine RL.nq ?_
 refine RC.sr ?_
 refine mv v0 rfl rfl ?_
 refine RL.eqnil (i := 0) trivial rfl hw rfl rfl rfl un38 ?_
 refine RL.nt ?_
 refine RC.cond (b := (nilV v0)) rfl (fun hc => ?_) (fun hc => ?_)
 ·have hx := hw.nilx (i := 0) rfl hc
  rw [hx] at hb
  replace hb : some ([] : (List Rect)) = _ := hb
  refine RC.sr ?_
  refine as_ (.slice none 0 0) rfl rfl ?_
  refine RL.nt ?_
  refine RC.rt ?_
  obtain rfl := oi hb
  have hw := hw.own_nil Rect 27
  exact fin1 rfl rfl (hw.pick 2 [0] (new := [own 27 (.slice none 0 0) ([] : (List Rect))]) rfl rfl (by decide) (by decide))
 refine RC.sx ?_
 refine RL.bslice (l := ([] : (List Rect))) trivial rfl hw [] rfl rfl rfl sl38 ze27 (fun M hs g => trivial) fun v31 w hw => ?_
 refine mv v0 rfl rfl ?_
 obtain ⟨x32, hx32, hb⟩ := bd hb
 refine RL.app (i := 0) (j := 1) trivial rfl hw rfl rfl rfl rfl el38 hx32 fun v33 w hw => ?_
 refine as_ v33 rfl rfl ?_
 refine RL.nt ?_
 refine RC.ret ?_
 obtain rfl := oi hb
 exact fin1 rfl rfl (hw.pick 2 [0] (new := [own 27 v33 x32]) rfl rfl (by decide) (by decide))
def shape_SetOf_c1_R (E : World) (Γ : List HP) (res : Int) (v : Value) (w : World) : Prop := v = (vi res) ∧ Holds E w Γ
def shape_SetOf_c1_K (E : World) (Γ : List HP) (r : Int) (σ : Nat → Value) (w : World) : Prop := finQ Try.prog 10 Try.f32 (shape_SetOf_c1_R E Γ r) .ret σ w
theorem shape_SetOf_c1_ok (N : Nat) {E w : World} {Γ : List HP} {i0 : Nat} {v0 : Value} {p0 : Rect} {i1 : Nat} {v1 : Value} {p1 : Rect} {res : Int} (hw : Holds E w Γ) (h0 : Γ[i0]? = some (rd v0 p0)) (h1 : Γ[i1]? = some (rd v1 p1)) (hb : shape_SetOf_c1 N p0 p1 = some res) :
    Calls Try.prog 32 [v0, v1].toArray w (Ret (shape_SetOf_c1_R E Γ res)) := by
 unfold shape_SetOf_c1 at hb
 refine enter Try.func32 rfl rfl (Nat.le_of_ble_eq_true rfl) ?_
 have hw := hw.dup (i := i0 + 0) h0
 have hw := hw.dup (i := i1 + 1) h1
 refine RC.sr ?_
 refine RL.box_rd (i := 1) (v := v0) trivial rfl hw rfl rfl fun b31 w hw => ?_
 refine RL.box_rd (i := 1) (v := v1) trivial rfl hw rfl rfl fun b32 w hw => ?_
 refine as_ (vi 0) rfl rfl ?_
 refine RL.ns ?_
 refine RL.fa_b trivial rfl rfl fa27_1 ?_
 refine RL.load_bfs (i := 1) (f := (fun x => x.Y0)) trivial rfl hw rfl rfl fd_Rect_1 ty3 ?_
 refine RL.fa_b trivial rfl rfl fa27_1 ?_
 refine RL.load_bfs (i := 0) (f := (fun x => x.Y0)) trivial rfl hw rfl rfl fd_Rect_1 ty3 ?_
 refine RL.iar (a := p0.Y0) (b := p1.Y0) trivial rfl rfl rfl rfl ?_
 refine as_ (vi (IntKind.wrap .i64 (p0.Y0 - p1.Y0))) rfl rfl ?_
 refine RL.nt ?_
 refine RC.ret ?_
 obtain rfl := oi hb
 exact fin1 rfl rfl ⟨rfl, hw.drop 4 rfl⟩
def slices_Compact_int_R (E : World) (Γ : List HP) (res : (List Int)) (v : Value) (w : World) : Prop := Holds E w (own 3 v res :: Γ)
def slices_Compact_int_K (E : World) (Γ : List HP) (r : (List Int)) (σ : Nat → Value) (w : World) : Prop := finQ Try.prog 61 Try.f34 (slices_Compact_int_R E Γ r) .ret σ w
theorem slices_Compact_int_ok (N : Nat) {E w : World} {Γ : List HP} {v0 : Value} {p0 : (List Int)} {res : (List Int)} (hw : Holds E w (own 3 v0 p0 :: Γ))  (hb : slices_Compact_int N p0 = some res) :
    Calls Try.prog 34 [v0].toArray w (Ret (slices_Compact_int_R E Γ res)) := by
 unfold slices_Compact_int at hb
 refine enter Try.func34 rfl rfl (Nat.le_of_ble_eq_true rfl) ?_
 refine RC.sr ?_
 refine as_ (.slice none 0 0) rfl rfl ?_
 refine RL.nq ?_
 refine RC.sr ?_
 refine mv v0 rfl rfl ?_
 refine RL.len_own (i := 0) (l := p0) trivial rfl hw rfl rfl un75 ?_
 refine ic ((p0.length : Int)) 2 rfl rfl rfl rfl ?_
 refine RL.nt ?_
 refine RC.cond (b := (decide ((p0.length : Int) < 2))) rfl (fun hc => ?_) (fun hc => ?_)
 ·replace hb := cT hc hb
  refine RC.sr ?_
  refine mv v0 rfl rfl ?_
  refine as_ v0 rfl rfl ?_
  refine RL.nt ?_
  refine RC.rt ?_
  obtain rfl := oi hb
  exact fin1 rfl rfl (hw.pick 1 [0] (new := [own 3 v0 p0]) rfl rfl (by decide) (by decide))
 replace hb := cF hc hb
 refine RC.ss ?_
 refine RC.sr ?_
 refine as_ (vi 1) rfl rfl ?_
 refine RL.nt ?_
 obtain ⟨o207, hN, hb⟩ := bd hb
 refine RC.iter (fun (s32 : Int) (σ : Nat → Value) (w : World) => agree σ [(0, v0), (3, (vi s32))] ∧ Holds E w ([own 3 v0 p0] ++ Γ)) (fun (s32 : Int) (σ : Nat → Value) (w : World) => agree σ [(0, v0)] ∧ Holds E w ([own 3 v0 p0] ++ Γ)) (slices_Compact_int_K E Γ) hN ?_ ?_ ?_ ?_ 
 ·exact ⟨⟨rfl, rfl, trivial⟩, hw.pick 1 [0] (new := [own 3 v0 p0]) rfl rfl (by decide) (by decide)⟩
 ·intro s32 fl σ w hI hb
  obtain ⟨ha, hw⟩ := hI
  obtain ⟨τ, rfl⟩ := ha.ups
  refine RC.seq ?_
  refine RC.sr ?_
  refine mv (vi s32) rfl rfl ?_
  refine mv v0 rfl rfl ?_
  refine RL.len_own (i := 0) (l := p0) trivial rfl hw rfl rfl un75 ?_
  refine ic s32 ((p0.length : Int)) rfl rfl rfl rfl ?_
  refine RL.nt ?_
  refine RC.cond (b := (decide (s32 < (p0.length : Int)))) rfl (fun hc => ?_) (fun hc => ?_)
  rotate_left
  ·replace hb := cF hc hb
   refine RC.ex ?_
   obtain rfl := oi hb
   exact ⟨rfl, ⟨rfl, trivial⟩, hw.pick 1 [0] (new := [own 3 v0 p0]) rfl rfl (by decide) (by decide)⟩
  replace hb := cT hc hb
  refine RC.ss ?_
  refine RC.block ?_
  refine RC.seq ?_
  obtain ⟨x149, hx149, hb⟩ := bd hb
  obtain ⟨x150, hx150, hb⟩ := bd hb
  refine RC.drw mixed rfl (fun (D : Nat → Bool) (σ : Nat → Value) (w : World) => doneV D σ [(0, 16, v0), (1, 17, (vi s32)), (2, 18, (elA v0 (Int.toNat s32) 1 0)), (3, 19, (vi x149)), (4, 20, v0), (5, 21, (vi s32)), (6, 22, (vi (IntKind.wrap .i64 (s32 - 1)))), (7, 23, (elA v0 (Int.toNat (IntKind.wrap .i64 (s32 - 1))) 1 0)), (8, 24, (vi x150)), (9, 25, (vb (x149 == x150)))] ∧ agree σ [(0, v0), (3, (vi s32))] ∧ Holds E w ([own 3 v0 p0] ++ Γ)) ?_ ⟨?_, ?_, ?_, ?_, ?_, ?_, ?_, ?_, ?_, ?_, trivial⟩ ?_
  ·have hw := hw.drew
   exact ⟨doneV.none, ⟨rfl, rfl, trivial⟩, hw⟩
  ·rintro D σ w hD hdep hcl ⟨hv, ha, hw⟩
   obtain ⟨τ, rfl⟩ := (ac (ha.at 0 rfl) az).ups
   refine mv v0 rfl rfl ?_
   refine RL.nil ?_
   exact ⟨rfl, hv.put 0 rfl rfl, ha.up rfl, hw⟩
  ·rintro D σ w hD hdep hcl ⟨hv, ha, hw⟩
   obtain ⟨τ, rfl⟩ := (ac (ha.at 1 rfl) az).ups
   refine mv (vi s32) rfl rfl ?_
   refine RL.nil ?_
   exact ⟨rfl, hv.put 1 rfl rfl, ha.up rfl, hw⟩
  ·rintro D σ w hD hdep hcl ⟨hv, ha, hw⟩
   obtain ⟨τ, rfl⟩ := (ac (hv.at 0 rfl (hdep.1 rfl)) (ac (hv.at 1 rfl (hdep.2.1 rfl)) az)).ups
   refine RL.ia_ownA (i := 0) trivial rfl hw rfl rfl rfl sl75 hx149 ?_
   refine RL.nil ?_
   exact ⟨rfl, hv.put 2 rfl rfl, ha.up rfl, hw⟩
  ·rintro D σ w hD hdep hcl ⟨hv, ha, hw⟩
   obtain ⟨τ, rfl⟩ := (ac (hv.at 2 rfl (hdep.1 rfl)) az).ups
   refine RL.load_els (i := 0) (f := (fun x => x)) trivial rfl hw rfl (elp hw (i := 0) rfl hx149 0) rfl (idx_some hx149).2.1 Fd.self ty3 ?_
   refine RL.nil ?_
   exact ⟨rfl, hv.put 3 rfl rfl, ha.up rfl, hw⟩
  ·rintro D σ w hD hdep hcl ⟨hv, ha, hw⟩
   obtain ⟨τ, rfl⟩ := (ac (ha.at 0 rfl) az).ups
   refine mv v0 rfl rfl ?_
   refine RL.nil ?_
   exact ⟨rfl, hv.put 4 rfl rfl, ha.up rfl, hw⟩
  ·rintro D σ w hD hdep hcl ⟨hv, ha, hw⟩
   obtain ⟨τ, rfl⟩ := (ac (ha.at 1 rfl) az).ups
   refine mv (vi s32) rfl rfl ?_
   refine RL.nil ?_
   exact ⟨rfl, hv.put 5 rfl rfl, ha.up rfl, hw⟩
  ·rintro D σ w hD hdep hcl ⟨hv, ha, hw⟩
   obtain ⟨τ, rfl⟩ := (ac (hv.at 5 rfl (hdep.1 rfl)) az).ups
   refine RL.iar (a := s32) (b := 1) trivial rfl rfl rfl rfl ?_
   refine RL.nil ?_
   exact ⟨rfl, hv.put 6 rfl rfl, ha.up rfl, hw⟩
  ·rintro D σ w hD hdep hcl ⟨hv, ha, hw⟩
   obtain ⟨τ, rfl⟩ := (ac (hv.at 4 rfl (hdep.1 rfl)) (ac (hv.at 6 rfl (hdep.2.1 rfl)) az)).ups
   refine RL.ia_ownA (i := 0) trivial rfl hw rfl rfl rfl sl75 hx150 ?_
   refine RL.nil ?_
   exact ⟨rfl, hv.put 7 rfl rfl, ha.up rfl, hw⟩
  ·rintro D σ w hD hdep hcl ⟨hv, ha, hw⟩
   obtain ⟨τ, rfl⟩ := (ac (hv.at 7 rfl (hdep.1 rfl)) az).ups
   refine RL.load_els (i := 0) (f := (fun x => x)) trivial rfl hw rfl (elp hw (i := 0) rfl hx150 0) rfl (idx_some hx150).2.1 Fd.self ty3 ?_
   refine RL.nil ?_
   exact ⟨rfl, hv.put 8 rfl rfl, ha.up rfl, hw⟩
  ·rintro D σ w hD hdep hcl ⟨hv, ha, hw⟩
   obtain ⟨τ, rfl⟩ := (ac (hv.at 3 rfl (hdep.1 rfl)) (ac (hv.at 8 rfl (hdep.2.1 rfl)) az)).ups
   refine ic x149 x150 rfl rfl rfl rfl ?_
   refine RL.nil ?_
   exact ⟨rfl, hv.put 9 rfl rfl, ha.up rfl, hw⟩
  rintro D σ w hall ⟨hv, ha, hw⟩
  obtain ⟨τ, rfl⟩ := (ac (hv.at 9 rfl (hall 9 (by decide))) (ac (ha.at 0 rfl) (ac (ha.at 1 rfl) az))).ups
  refine thenQ_n ?_
  refine RC.cond (b := (x149 == x150)) rfl (fun hc => ?_) (fun hc => ?_)
  rotate_left
  ·replace hb := cF hc hb
   refine RC.skip ?_
   refine blkQ_n ?_
   refine thenQ_n ?_
   refine RC.region ?_
   refine mv (vi s32) rfl rfl ?_
   refine RL.iar (a := s32) (b := 1) trivial rfl rfl rfl rfl ?_
   refine as_ (vi (IntKind.wrap .i64 (s32 + 1))) rfl rfl ?_
   refine RL.nil ?_
   obtain rfl := oi hb
   exact ⟨rfl, ⟨rfl, rfl, trivial⟩, hw.pick 1 [0] (new := [own 3 v0 p0]) rfl rfl (by decide) (by decide)⟩
  replace hb := cT hc hb
  refine RC.sr ?_
  refine mv v0 rfl rfl ?_
  refine mv (vi s32) rfl rfl ?_
  obtain ⟨x179, hx179, hb⟩ := bd hb
  refine RL.view (i := 0) (lo := s32) trivial rfl hw rfl rfl sl75 (.inl rfl) hx179 ?_
  refine as_ (vw v0 (Int.toNat s32) 1) rfl rfl ?_
  refine RL.nq ?_
  refine RC.sr ?_
  refine as_ (vi 1) rfl rfl ?_
  refine RL.nt ?_
  obtain ⟨o206, hN, hb⟩ := bd hb
  refine RC.iter (fun (s181 : (List Int) × Int × Int) (σ : Nat → Value) (w : World) => agree σ [(0, v0), (3, (vi s181.2.1)), (4, (vw v0 (Int.toNat s32) 1)), (5, (vi s181.2.2))] ∧ Holds E w ([own 3 v0 s181.1] ++ Γ)) (fun (s181 : (List Int) × Int × Int) (σ : Nat → Value) (w : World) => agree σ [(0, v0), (3, (vi s181.2.1))] ∧ Holds E w ([own 3 v0 s181.1] ++ Γ)) (fun (r : Empty) (_ : Nat → Value) (_ : World) => r.elim) hN ?_ ?_ ?_ ?_ 
  ·exact ⟨⟨rfl, rfl, rfl, rfl, trivial⟩, hw.pick 1 [0] (new := [own 3 v0 p0]) rfl rfl (by decide) (by decide)⟩
  ·intro s181 fl σ w hI hb
   obtain ⟨ha, hw⟩ := hI
   obtain ⟨τ, rfl⟩ := ha.ups
   refine RC.seq ?_
   refine RC.sr ?_
   refine mv (vi s181.2.2) rfl rfl ?_
   refine mv (vw v0 (Int.toNat s32) 1) rfl rfl ?_
   refine RL.len_vw (i := 0) (l := s181.1) trivial rfl hw rfl rfl un75 ?_
   refine ic (s181.2.2) ((((s181.1.length - Int.toNat s32) : Nat) : Int)) rfl rfl rfl rfl ?_
   refine RL.nt ?_
   refine RC.cond (b := (decide (s181.2.2 < (((s181.1.length - Int.toNat s32) : Nat) : Int)))) rfl (fun hc => ?_) (fun hc => ?_)
   rotate_left
   ·replace hb := cF hc hb
    refine RC.ex ?_
    obtain rfl := oi hb
    exact ⟨rfl, ⟨rfl, rfl, trivial⟩, hw.pick 1 [0] (new := [own 3 v0 s181.1]) rfl rfl (by decide) (by decide)⟩
   replace hb := cT hc hb
   refine RC.ss ?_
   refine RC.block ?_
   refine RC.seq ?_
   obtain ⟨x196, hx196, hb⟩ := bd hb
   obtain ⟨x197, hx197, hb⟩ := bd hb
   refine RC.drw mixed rfl (fun (D : Nat → Bool) (σ : Nat → Value) (w : World) => doneV D σ [(0, 35, (vw v0 (Int.toNat s32) 1)), (1, 36, (vi s181.2.2)), (2, 37, (elA v0 (Int.toNat (s32 + s181.2.2)) 1 0)), (3, 38, (vi x196)), (4, 39, (vw v0 (Int.toNat s32) 1)), (5, 40, (vi s181.2.2)), (6, 41, (vi (IntKind.wrap .i64 (s181.2.2 - 1)))), (7, 42, (elA v0 (Int.toNat (s32 + (IntKind.wrap .i64 (s181.2.2 - 1)))) 1 0)), (8, 43, (vi x197)), (9, 44, (vb (x196 != x197)))] ∧ agree σ [(0, v0), (3, (vi s181.2.1)), (4, (vw v0 (Int.toNat s32) 1)), (5, (vi s181.2.2))] ∧ Holds E w ([own 3 v0 s181.1] ++ Γ)) ?_ ⟨?_, ?_, ?_, ?_, ?_, ?_, ?_, ?_, ?_, ?_, trivial⟩ ?_
   ·have hw := hw.drew
    exact ⟨doneV.none, ⟨rfl, rfl, rfl, rfl, trivial⟩, hw⟩
   ·rintro D σ w hD hdep hcl ⟨hv, ha, hw⟩
    obtain ⟨τ, rfl⟩ := (ac (ha.at 2 rfl) az).ups
    refine mv (vw v0 (Int.toNat s32) 1) rfl rfl ?_
    refine RL.nil ?_
    exact ⟨rfl, hv.put 0 rfl rfl, ha.up rfl, hw⟩
   ·rintro D σ w hD hdep hcl ⟨hv, ha, hw⟩
    obtain ⟨τ, rfl⟩ := (ac (ha.at 3 rfl) az).ups
    refine mv (vi s181.2.2) rfl rfl ?_
    refine RL.nil ?_
    exact ⟨rfl, hv.put 1 rfl rfl, ha.up rfl, hw⟩
   ·rintro D σ w hD hdep hcl ⟨hv, ha, hw⟩
    obtain ⟨τ, rfl⟩ := (ac (hv.at 0 rfl (hdep.1 rfl)) (ac (hv.at 1 rfl (hdep.2.1 rfl)) az)).ups
    refine RL.ia_vw (i := 0) (lo := s32) trivial rfl hw rfl rfl rfl sl75 (slc_ge hx179) (idxv_some hx196).1 (idxv_some hx196).2 ?_
    refine RL.nil ?_
    exact ⟨rfl, hv.put 2 rfl rfl, ha.up rfl, hw⟩
   ·rintro D σ w hD hdep hcl ⟨hv, ha, hw⟩
    obtain ⟨τ, rfl⟩ := (ac (hv.at 2 rfl (hdep.1 rfl)) az).ups
    refine RL.load_els (i := 0) (f := (fun x => x)) trivial rfl hw rfl (elp hw (i := 0) rfl (idxv_some hx196).2 0) rfl (idx_some (idxv_some hx196).2).2.1 Fd.self ty3 ?_
    refine RL.nil ?_
    exact ⟨rfl, hv.put 3 rfl rfl, ha.up rfl, hw⟩
   ·rintro D σ w hD hdep hcl ⟨hv, ha, hw⟩
    obtain ⟨τ, rfl⟩ := (ac (ha.at 2 rfl) az).ups
    refine mv (vw v0 (Int.toNat s32) 1) rfl rfl ?_
    refine RL.nil ?_
    exact ⟨rfl, hv.put 4 rfl rfl, ha.up rfl, hw⟩
   ·rintro D σ w hD hdep hcl ⟨hv, ha, hw⟩
    obtain ⟨τ, rfl⟩ := (ac (ha.at 3 rfl) az).ups
    refine mv (vi s181.2.2) rfl rfl ?_
    refine RL.nil ?_
    exact ⟨rfl, hv.put 5 rfl rfl, ha.up rfl, hw⟩
   ·rintro D σ w hD hdep hcl ⟨hv, ha, hw⟩
    obtain ⟨τ, rfl⟩ := (ac (hv.at 5 rfl (hdep.1 rfl)) az).ups
    refine RL.iar (a := s181.2.2) (b := 1) trivial rfl rfl rfl rfl ?_
    refine RL.nil ?_
    exact ⟨rfl, hv.put 6 rfl rfl, ha.up rfl, hw⟩
   ·rintro D σ w hD hdep hcl ⟨hv, ha, hw⟩
    obtain ⟨τ, rfl⟩ := (ac (hv.at 4 rfl (hdep.1 rfl)) (ac (hv.at 6 rfl (hdep.2.1 rfl)) az)).ups
    refine RL.ia_vw (i := 0) (lo := s32) trivial rfl hw rfl rfl rfl sl75 (slc_ge hx179) (idxv_some hx197).1 (idxv_some hx197).2 ?_
    refine RL.nil ?_
    exact ⟨rfl, hv.put 7 rfl rfl, ha.up rfl, hw⟩
   ·rintro D σ w hD hdep hcl ⟨hv, ha, hw⟩
    obtain ⟨τ, rfl⟩ := (ac (hv.at 7 rfl (hdep.1 rfl)) az).ups
    refine RL.load_els (i := 0) (f := (fun x => x)) trivial rfl hw rfl (elp hw (i := 0) rfl (idxv_some hx197).2 0) rfl (idx_some (idxv_some hx197).2).2.1 Fd.self ty3 ?_
    refine RL.nil ?_
    exact ⟨rfl, hv.put 8 rfl rfl, ha.up rfl, hw⟩
   ·rintro D σ w hD hdep hcl ⟨hv, ha, hw⟩
    obtain ⟨τ, rfl⟩ := (ac (hv.at 3 rfl (hdep.1 rfl)) (ac (hv.at 8 rfl (hdep.2.1 rfl)) az)).ups
    refine ic x196 x197 rfl rfl rfl rfl ?_
    refine RL.nil ?_
    exact ⟨rfl, hv.put 9 rfl rfl, ha.up rfl, hw⟩
   rintro D σ w hall ⟨hv, ha, hw⟩
   obtain ⟨τ, rfl⟩ := (ac (hv.at 9 rfl (hall 9 (by decide))) (ac (ha.at 0 rfl) (ac (ha.at 1 rfl) (ac (ha.at 2 rfl) (ac (ha.at 3 rfl) az))))).ups
   refine thenQ_n ?_
   obtain ⟨s200, hj, hb⟩ := bd hb
   refine RC.jn (fun (s200 : (List Int) × Int) (σ : Nat → Value) (w : World) => agree σ [(0, v0), (3, (vi s200.2)), (4, (vw v0 (Int.toNat s32) 1)), (5, (vi s181.2.2))] ∧ Holds E w ([own 3 v0 s200.1] ++ Γ)) s200 ?_ ?_
   ·refine RC.cond (b := (x196 != x197)) rfl (fun hc => ?_) (fun hc => ?_)
    rotate_left
    ·replace hj := cF hc hj
     refine RC.skip ?_
     obtain rfl := oi hj
     exact ⟨rfl, ⟨rfl, rfl, rfl, rfl, trivial⟩, hw.pick 1 [0] (new := [own 3 v0 s181.1]) rfl rfl (by decide) (by decide)⟩
    replace hj := cT hc hj
    refine RC.sr ?_
    refine mv v0 rfl rfl ?_
    refine mv (vi s181.2.1) rfl rfl ?_
    refine mv (vw v0 (Int.toNat s32) 1) rfl rfl ?_
    refine mv (vi s181.2.2) rfl rfl ?_
    obtain ⟨x201, hx201, hj⟩ := bd hj
    refine RL.ia_vw (i := 0) (lo := s32) trivial rfl hw rfl rfl rfl sl75 (slc_ge hx179) (idxv_some hx201).1 (idxv_some hx201).2 ?_
    refine RL.load_els (i := 0) (f := (fun x => x)) trivial rfl hw rfl (elp hw (i := 0) rfl (idxv_some hx201).2 0) rfl (idx_some (idxv_some hx201).2).2.1 Fd.self ty3 ?_
    obtain ⟨x202, hx202, hj⟩ := bd hj
    refine RL.ia_ownA (i := 0) trivial rfl hw rfl rfl rfl sl75 hx202 ?_
    have hw := hw.sc (γ := Int) x201
    refine RL.store_el (i := 1) (j := 0) (f := (fun _ y => y)) trivial hw rfl rfl (elp hw (i := 1) rfl hx202 0) rfl (idx_some hx202).2.1 rfl Fs.self (by decide) ty3 fun w hw => ?_
    refine RL.nt ?_
    refine RC.region ?_
    refine mv (vi s181.2.1) rfl rfl ?_
    refine RL.iar (a := s181.2.1) (b := 1) trivial rfl rfl rfl rfl ?_
    refine as_ (vi (IntKind.wrap .i64 (s181.2.1 + 1))) rfl rfl ?_
    refine RL.nil ?_
    obtain rfl := oi hj
    exact ⟨rfl, ⟨rfl, rfl, rfl, rfl, trivial⟩, hw.pick 2 [1] (new := [own 3 v0 (s181.1.set (Int.toNat s181.2.1) x201)]) rfl rfl (by decide) (by decide)⟩
   rintro σ w ⟨ha, hw⟩
   obtain ⟨τ, rfl⟩ := ha.ups
   refine blkQ_n ?_
   refine thenQ_n ?_
   refine RC.region ?_
   refine mv (vi s181.2.2) rfl rfl ?_
   refine RL.iar (a := s181.2.2) (b := 1) trivial rfl rfl rfl rfl ?_
   refine as_ (vi (IntKind.wrap .i64 (s181.2.2 + 1))) rfl rfl ?_
   refine RL.nil ?_
   obtain rfl := oi hb
   exact ⟨rfl, ⟨rfl, rfl, rfl, rfl, trivial⟩, hw.pick 1 [0] (new := [own 3 v0 s200.1]) rfl rfl (by decide) (by decide)⟩
  ·intro r _ _ _ _
   exact r.elim
  intro s181 σ w e hJ
  subst e
  rw [Fo.cs_go] at hb
  obtain ⟨ha, hw⟩ := hJ
  obtain ⟨τ, rfl⟩ := ha.ups
  refine thenQ_n ?_
  refine RC.sr ?_
  refine mv v0 rfl rfl ?_
  refine mv (vi s181.2.1) rfl rfl ?_
  obtain ⟨x203, hx203, hb⟩ := bd hb
  refine RL.view (i := 0) (lo := s181.2.1) trivial rfl hw rfl rfl sl75 (.inl rfl) hx203 ?_
  refine RL.clear_vw (i := 0) trivial hw rfl rfl el75 zd3 (slc_le hx203) fun w hw => ?_
  refine RL.ns ?_
  refine mv v0 rfl rfl ?_
  refine mv (vi s181.2.1) rfl rfl ?_
  obtain ⟨x204, hx204, hb⟩ := bd hb
  refine RL.cut_own (i := 0) trivial rfl hw rfl rfl sl75 (.inr ⟨rfl, rfl⟩) (.inl rfl) hx204 fun v205 hw => ?_
  refine as_ v205 rfl rfl ?_
  refine RL.nt ?_
  refine RC.rb ?_
  refine thenQ_r ?_
  obtain rfl := oi hb
  exact ⟨rfl, fin1 rfl rfl (hw.pick 1 [0] (new := [own 3 v205 x204]) rfl rfl (by decide) (by decide))⟩
 ·intro r σ w e hK
  subst e
  refine thenQ_r ?_
  obtain rfl := oi hb
  exact hK
 intro s32 σ w e hJ
 subst e
 rw [Fo.cs_go] at hb
 obtain ⟨ha, hw⟩ := hJ
 obtain ⟨τ, rfl⟩ := ha.ups
 refine thenQ_n ?_
 refine RC.sr ?_
 refine mv v0 rfl rfl ?_
 refine as_ v0 rfl rfl ?_
 refine RL.nt ?_
 refine RC.ret ?_
 obtain rfl := oi hb
 exact fin1 rfl rfl (hw.pick 1 [0] (new := [own 3 v0 p0]) rfl rfl (by decide) (by decide))
def shape_SetOf_c2_R (E : World) (Γ : List HP) (res : Bool) (v : Value) (w : World) : Prop := v = (vb res) ∧ Holds E w Γ
def shape_SetOf_c2_K (E : World) (Γ : List HP) (r : Bool) (σ : Nat → Value) (w : World) : Prop := finQ Try.prog 12 Try.f36 (shape_SetOf_c2_R E Γ r) .ret σ w
theorem shape_SetOf_c2_ok (N : Nat) {E w : World} {Γ : List HP} {i0 : Nat} {v0 : Value} {p0 : Rect} {i1 : Nat} {v1 : Value} {p1 : (List Int)} {i2 : Nat} {v2 : Value} {p2 : Int} {res : Bool} (hw : Holds E w Γ) (h0 : Γ[i0]? = some (rd v0 p0)) (h1 : Γ[i1]? = some (pt v1 p1)) (h2 : Γ[i2]? = some (pt v2 p2)) (hb : shape_SetOf_c2 N p0 p1 p2 = some res) :
    Calls Try.prog 36 [v0, v1, v2].toArray w (Ret (shape_SetOf_c2_R E Γ res)) := by
 unfold shape_SetOf_c2 at hb
 refine enter Try.func36 rfl rfl (Nat.le_of_ble_eq_true rfl) ?_
 have hw := hw.dup (i := i0 + 0) h0
 have hw := hw.dup_pt (i := i1 + 1) h1
 have hw := hw.dup_pt (i := i2 + 2) h2
 refine RC.sr ?_
 refine RL.box_rd (i := 2) (v := v0) trivial rfl hw rfl rfl fun b31 w hw => ?_
 refine as_ (vb false) rfl rfl ?_
 refine RL.nq ?_
 obtain ⟨x33, hx33, hb⟩ := bd hb
 refine RC.drw mixed rfl (fun (D : Nat → Bool) (σ : Nat → Value) (w : World) => ∃ (v32 : Value) (v34 : Value), doneV D σ [(0, 5, (vp b31 3)), (1, 6, (vi p0.Y1)), (2, 7, v32), (3, 8, (vi p2)), (4, 9, v34), (5, 10, (vi x33)), (6, 11, (vb (decide (p0.Y1 ≤ x33)))), (7, 4, (vb (decide (p0.Y1 ≤ x33))))] ∧ agree σ [(1, v1), (2, v2), (3, (vp b31 0))] ∧ Holds E w ([bif D 2 then (rd v32 p1) else junk, bif D 4 then (pt v34 x33) else junk, bx 27 b31 p0, pt v2 p2, pt v1 p1, rd v0 p0] ++ Γ)) ?_ ⟨?_, ?_, ?_, ?_, ?_, ?_, ?_, ?_, trivial⟩ ?_
 ·have hw := hw.drew
  have hw := hw.junk
  have hw := hw.junk
  exact ⟨undef, undef, doneV.none, ⟨rfl, rfl, rfl, trivial⟩, hw⟩
 ·rintro D σ w hD hdep hcl ⟨v32, v34, hv, ha, hw⟩
  obtain ⟨τ, rfl⟩ := (ac (ha.at 2 rfl) az).ups
  refine RL.fa_b trivial rfl rfl fa27_3 ?_
  refine RL.nil ?_
  exact ⟨rfl, v32, v34, hv.put 0 rfl rfl, ha.up rfl, hw⟩
 ·rintro D σ w hD hdep hcl ⟨v32, v34, hv, ha, hw⟩
  obtain ⟨τ, rfl⟩ := (ac (hv.at 0 rfl (hdep.1 rfl)) az).ups
  refine RL.load_bfs (i := 2) (f := (fun x => x.Y1)) trivial rfl hw rfl rfl fd_Rect_3 ty3 ?_
  refine RL.nil ?_
  exact ⟨rfl, v32, v34, hv.put 1 rfl rfl, ha.up rfl, hw⟩
 ·rintro D σ w hD hdep hcl ⟨v32, v34, hv, ha, hw⟩
  obtain ⟨τ, rfl⟩ := (ac (ha.at 0 rfl) az).ups
  have hw := hw.selF (i := 0) rfl hD
  refine RL.load_pt (i := 4) (x := p1) trivial rfl hw rfl rfl ty75 fun v35 hw => ?_
  have hw := hw.pick 7 [0, 2, 3, 4, 5, 6] (new := [rd v35 p1, bif D 4 then (pt v34 x33) else junk, bx 27 b31 p0, pt v2 p2, pt v1 p1, rd v0 p0]) rfl rfl (by decide) (by decide)
  have hw := hw.altT (i := 0) (b := true) rfl rfl (junk)
  refine RL.nil ?_
  exact ⟨rfl, v35, v34, hv.put 2 rfl rfl, ha.up rfl, hw⟩
 ·rintro D σ w hD hdep hcl ⟨v32, v34, hv, ha, hw⟩
  obtain ⟨τ, rfl⟩ := (ac (ha.at 1 rfl) az).ups
  refine RL.load_pts (i := 3) (y := p2) trivial rfl hw rfl rfl ty3 ?_
  refine RL.nil ?_
  exact ⟨rfl, v32, v34, hv.put 3 rfl rfl, ha.up rfl, hw⟩
 ·rintro D σ w hD hdep hcl ⟨v32, v34, hv, ha, hw⟩
  obtain ⟨τ, rfl⟩ := (ac (hv.at 2 rfl (hdep.1 rfl)) (ac (hv.at 3 rfl (hdep.2.1 rfl)) az)).ups
  have hw := hw.selT (i := 0) rfl (hdep.1 rfl)
  have hw := hw.selF (i := 1) rfl hD
  refine RL.ia_rd (i := 0) trivial rfl hw rfl rfl rfl sl75 hx33 fun v36 hw => ?_
  have hw := hw.pick 7 [1, 0, 3, 4, 5, 6] (new := [rd v32 p1, pt v36 x33, bx 27 b31 p0, pt v2 p2, pt v1 p1, rd v0 p0]) rfl rfl (by decide) (by decide)
  have hw := hw.altT (i := 0) (b := D 2) rfl (hdep.1 rfl) (junk)
  have hw := hw.altT (i := 1) (b := true) rfl rfl (junk)
  refine RL.nil ?_
  exact ⟨rfl, v32, v36, hv.put 4 rfl rfl, ha.up rfl, hw⟩
 ·rintro D σ w hD hdep hcl ⟨v32, v34, hv, ha, hw⟩
  obtain ⟨τ, rfl⟩ := (ac (hv.at 4 rfl (hdep.1 rfl)) az).ups
  have hw := hw.selT (i := 1) rfl (hdep.1 rfl)
  refine RL.load_pts (i := 1) (y := x33) trivial rfl hw rfl rfl ty3 ?_
  have hw := hw.altT (i := 1) (b := D 4) rfl (hdep.1 rfl) (junk)
  refine RL.nil ?_
  exact ⟨rfl, v32, v34, hv.put 5 rfl rfl, ha.up rfl, hw⟩
 ·rintro D σ w hD hdep hcl ⟨v32, v34, hv, ha, hw⟩
  obtain ⟨τ, rfl⟩ := (ac (hv.at 1 rfl (hdep.1 rfl)) (ac (hv.at 5 rfl (hdep.2.1 rfl)) az)).ups
  refine ic (p0.Y1) x33 rfl rfl rfl rfl ?_
  refine RL.nil ?_
  exact ⟨rfl, v32, v34, hv.put 6 rfl rfl, ha.up rfl, hw⟩
 ·rintro D σ w hD hdep hcl ⟨v32, v34, hv, ha, hw⟩
  obtain ⟨τ, rfl⟩ := (ac (hv.at 6 rfl (hdep.1 rfl)) az).ups
  refine as_ (vb (decide (p0.Y1 ≤ x33))) rfl rfl ?_
  refine RL.nil ?_
  exact ⟨rfl, v32, v34, hv.put 7 rfl rfl, ha.up rfl, hw⟩
 rintro D σ w hall ⟨v32, v34, hv, ha, hw⟩
 rw [hall 2 (by decide), hall 4 (by decide)] at hw
 obtain ⟨τ, rfl⟩ := (ac (hv.at 7 rfl (hall 7 (by decide))) (ac (ha.at 0 rfl) (ac (ha.at 1 rfl) (ac (ha.at 2 rfl) az)))).ups
 refine thenQ_n ?_
 refine RC.ret ?_
 obtain rfl := oi hb
 exact fin1 rfl rfl ⟨rfl, hw.drop 6 rfl⟩
def slices_IndexFunc_Rect_o0_R (E : World) (Γ : List HP) (v0 : Value) (p0 : (List Rect)) (res : Int) (v : Value) (w : World) : Prop := v = (vi res) ∧ Holds E w (own 27 v0 p0 :: Γ)
def slices_IndexFunc_Rect_o0_K (E : World) (Γ : List HP) (v0 : Value) (p0 : (List Rect)) (r : Int) (σ : Nat → Value) (w : World) : Prop := finQ Try.prog 19 Try.f57 (slices_IndexFunc_Rect_o0_R E Γ v0 p0 r) .ret σ w
theorem slices_IndexFunc_Rect_o0_ok (N : Nat) {E w : World} {Γ : List HP} {v0 : Value} {p0 : (List Rect)} {v1 : Value} {p1 : Rect → Option Bool} {res : Int} (hw : Holds E w (own 27 v0 p0 :: Γ)) (h1 : Fn1 Try.prog E Γ v1 p1 (fun (r : Bool) => Value.bool r)) (hb : slices_IndexFunc_Rect_o0 N p0 p1 = some res) :
    Calls Try.prog 57 [v0, v1].toArray w (Ret (slices_IndexFunc_Rect_o0_R E Γ v0 p0 res)) := by
 unfold slices_IndexFunc_Rect_o0 at hb
 refine enter Try.func57 rfl rfl (Nat.le_of_ble_eq_true rfl) ?_
 refine RC.sr ?_
 refine as_ (vi 0) rfl rfl ?_
 refine RL.nq ?_
 refine RC.sr ?_
 refine mv v0 rfl rfl ?_
 refine RL.len_own (i := 0) (l := p0) trivial rfl hw rfl rfl un38 ?_
 refine mv (vi 0) rfl rfl ?_
 refine RL.nt ?_
 obtain ⟨o39, hN, hb⟩ := bd hb
 refine RC.range (fun (k31 : Nat) (s32 : Unit) (σ : Nat → Value) (w : World) => agree σ [(0, v0), (1, v1), (7, (vi (p0.length : Int))), (8, (vi (k31 : Int)))] ∧ Holds E w ([own 27 v0 p0] ++ Γ)) (fun (s32 : Unit) (σ : Nat → Value) (w : World) => agree σ [(0, v0)] ∧ Holds E w ([own 27 v0 p0] ++ Γ)) (slices_IndexFunc_Rect_o0_K E Γ v0 p0) hN ?_ ?_ ?_ ?_ ?_ 
 ·exact ⟨⟨rfl, rfl, rfl, rfl, trivial⟩, hw.pick 1 [0] (new := [own 27 v0 p0]) rfl rfl (by decide) (by decide)⟩
 ·intro hm s32 σ w hI
  obtain ⟨ha, hw⟩ := hI
  obtain ⟨τ, rfl⟩ := ha.ups
  refine RC.sr ?_
  refine ic ((p0.length : Int)) ((p0.length : Int)) rfl rfl rfl rfl ?_
  refine RL.nq ?_
  refine RC.cond_f dge ?_
  refine RC.ex ?_
  exact ⟨rfl, ⟨rfl, trivial⟩, hw.pick 1 [0] (new := [own 27 v0 p0]) rfl rfl (by decide) (by decide)⟩
 ·intro hm k31 s32 fl σ w hk hI hb
  obtain ⟨ha, hw⟩ := hI
  obtain ⟨τ, rfl⟩ := ha.ups
  refine RC.sr ?_
  refine ic ((k31 : Int)) ((p0.length : Int)) rfl rfl rfl rfl ?_
  refine RL.nq ?_
  refine RC.cond_t (dlt hk) ?_
  refine RC.ss ?_
  refine RC.bs ?_
  refine mv (vi (k31 : Int)) rfl rfl ?_
  refine as_ (vi (k31 : Int)) rfl rfl ?_
  refine RL.ns ?_
  refine mv v1 rfl rfl ?_
  refine mv v0 rfl rfl ?_
  refine mv (vi (k31 : Int)) rfl rfl ?_
  obtain ⟨x36, hx36, hb⟩ := bd hb
  refine RL.ia_ownA (i := 0) trivial rfl hw rfl rfl rfl sl38 hx36 ?_
  refine RL.load_el (i := 0) (f := (fun x => x)) trivial rfl hw rfl (elp hw (i := 0) rfl hx36 0) rfl (idx_some hx36).2.1 Fd.self ty27 fun v37 hw => ?_
  obtain ⟨x38, hx38, hb⟩ := bd hb
  refine RL.callF1 (i := 0) trivial rfl hw rfl h1 2 rfl rfl rfl hx38 fun w hw => ?_
  refine RL.nt ?_
  refine RC.cond (b := x38) rfl (fun hc => ?_) (fun hc => ?_)
  rotate_left
  ·replace hb := cF hc hb
   refine RC.skip ?_
   refine blkQ_n ?_
   refine thenQ_n ?_
   refine RC.region ?_
   refine RL.inc trivial rfl hk hm rfl rfl ?_
   refine mv (vi ((k31 + 1 : Nat) : Int)) rfl rfl ?_
   refine RL.nil ?_
   obtain rfl := oi hb
   exact ⟨rfl, ⟨rfl, rfl, rfl, rfl, trivial⟩, hw.pick 2 [1] (new := [own 27 v0 p0]) rfl rfl (by decide) (by decide)⟩
  replace hb := cT hc hb
  refine RC.sr ?_
  refine mv (vi (k31 : Int)) rfl rfl ?_
  refine as_ (vi (k31 : Int)) rfl rfl ?_
  refine RL.nt ?_
  refine RC.rb ?_
  refine thenQ_r ?_
  obtain rfl := oi hb
  exact ⟨rfl, fin1 rfl rfl ⟨rfl, hw.pick 2 [1] (new := [own 27 v0 p0]) rfl rfl (by decide) (by decide)⟩⟩
 ·intro r σ w e hK
  subst e
  refine thenQ_r ?_
  obtain rfl := oi hb
  exact hK
 intro s32 σ w e hJ
 subst e
 rw [Fo.cs_go] at hb
 obtain ⟨ha, hw⟩ := hJ
 obtain ⟨τ, rfl⟩ := ha.ups
 refine thenQ_n ?_
 refine RC.sr ?_
 refine as_ (vi (-1)) rfl rfl ?_
 refine RL.nt ?_
 refine RC.ret ?_
 obtain rfl := oi hb
 exact fin1 rfl rfl ⟨rfl, hw.pick 1 [0] (new := [own 27 v0 p0]) rfl rfl (by decide) (by decide)⟩
def slices_DeleteFunc_Rect_R (E : World) (Γ : List HP) (res : (List Rect)) (v : Value) (w : World) : Prop := Holds E w (own 27 v res :: Γ)
def slices_DeleteFunc_Rect_K (E : World) (Γ : List HP) (r : (List Rect)) (σ : Nat → Value) (w : World) : Prop := finQ Try.prog 42 Try.f35 (slices_DeleteFunc_Rect_R E Γ r) .ret σ w
theorem slices_DeleteFunc_Rect_ok (N : Nat) {E w : World} {Γ : List HP} {v0 : Value} {p0 : (List Rect)} {v1 : Value} {p1 : Rect → Option Bool} {res : (List Rect)} (hw : Holds E w (own 27 v0 p0 :: Γ)) (h1 : Fn1 Try.prog E Γ v1 p1 (fun (r : Bool) => Value.bool r)) (hb : slices_DeleteFunc_Rect N p0 p1 = some res) :
    Calls Try.prog 35 [v0, v1].toArray w (Ret (slices_DeleteFunc_Rect_R E Γ res)) := by
 unfold slices_DeleteFunc_Rect at hb
 refine enter Try.func35 rfl rfl (Nat.le_of_ble_eq_true rfl) ?_
 refine RC.sr ?_
 refine as_ (.slice none 0 0) rfl rfl ?_
 refine RL.ns ?_
 refine mv v0 rfl rfl ?_
 refine mv v1 rfl rfl ?_
 have hw := hw.pull (i := 0) rfl
 obtain ⟨x31, hx31, hb⟩ := bd hb
 refine RL.call trivial rfl fn57 [v0, v1] rfl (Calls_ret (slices_IndexFunc_Rect_o0_ok N   hw (h1.lift 1 rfl) hx31) ?_)
 rintro _ w ⟨rfl, hw⟩
 refine as_ (vi x31) rfl rfl ?_
 refine RL.nq ?_
 refine RC.sr ?_
 refine mv (vi x31) rfl rfl ?_
 refine ic x31 ((-1)) rfl rfl rfl rfl ?_
 refine RL.nt ?_
 refine RC.cond (b := (x31 == (-1))) rfl (fun hc => ?_) (fun hc => ?_)
 ·replace hb := cT hc hb
  refine RC.sr ?_
  refine mv v0 rfl rfl ?_
  refine as_ v0 rfl rfl ?_
  refine RL.nt ?_
  refine RC.rt ?_
  obtain rfl := oi hb
  exact fin1 rfl rfl (hw.pick 2 [0] (new := [own 27 v0 p0]) rfl rfl (by decide) (by decide))
 replace hb := cF hc hb
 refine RC.ss ?_
 refine RC.sr ?_
 refine mv (vi x31) rfl rfl ?_
 refine RL.iar (a := x31) (b := 1) trivial rfl rfl rfl rfl ?_
 refine as_ (vi (IntKind.wrap .i64 (x31 + 1))) rfl rfl ?_
 refine RL.nt ?_
 obtain ⟨o67, hN, hb⟩ := bd hb
 refine RC.iter (fun (s33 : (List Rect) × Int × Int) (σ : Nat → Value) (w : World) => agree σ [(0, v0), (1, v1), (5, (vi s33.2.1)), (6, (vi s33.2.2))] ∧ Holds E w ([own 27 v0 s33.1] ++ Γ)) (fun (s33 : (List Rect) × Int × Int) (σ : Nat → Value) (w : World) => agree σ [(0, v0), (5, (vi s33.2.1))] ∧ Holds E w ([own 27 v0 s33.1] ++ Γ)) (fun (r : Empty) (_ : Nat → Value) (_ : World) => r.elim) hN ?_ ?_ ?_ ?_ 
 ·exact ⟨⟨rfl, rfl, rfl, rfl, trivial⟩, hw.pick 2 [0] (new := [own 27 v0 p0]) rfl rfl (by decide) (by decide)⟩
 ·intro s33 fl σ w hI hb
  obtain ⟨ha, hw⟩ := hI
  obtain ⟨τ, rfl⟩ := ha.ups
  refine RC.seq ?_
  refine RC.sr ?_
  refine mv (vi s33.2.2) rfl rfl ?_
  refine mv v0 rfl rfl ?_
  refine RL.len_own (i := 0) (l := s33.1) trivial rfl hw rfl rfl un38 ?_
  refine ic (s33.2.2) ((s33.1.length : Int)) rfl rfl rfl rfl ?_
  refine RL.nt ?_
  refine RC.cond (b := (decide (s33.2.2 < (s33.1.length : Int)))) rfl (fun hc => ?_) (fun hc => ?_)
  rotate_left
  ·replace hb := cF hc hb
   refine RC.ex ?_
   obtain rfl := oi hb
   exact ⟨rfl, ⟨rfl, rfl, trivial⟩, hw.pick 1 [0] (new := [own 27 v0 s33.1]) rfl rfl (by decide) (by decide)⟩
  replace hb := cT hc hb
  refine RC.ss ?_
  refine RC.bs ?_
  refine mv v0 rfl rfl ?_
  refine mv (vi s33.2.2) rfl rfl ?_
  obtain ⟨x54, hx54, hb⟩ := bd hb
  refine RL.ia_ownA (i := 0) trivial rfl hw rfl rfl rfl sl38 hx54 ?_
  refine RL.load_el (i := 0) (f := (fun x => x)) trivial rfl hw rfl (elp hw (i := 0) rfl hx54 0) rfl (idx_some hx54).2.1 Fd.self ty27 fun v55 hw => ?_
  refine RL.alloc trivial rfl hw ze27.z fun b56 w hw => ?_
  refine RL.store_raw (i := 0) (j := 1) trivial hw rfl rfl rfl rfl ty27 rfl fun w hw => ?_
  refine RL.ns ?_
  refine mv v1 rfl rfl ?_
  refine RL.load_bf (i := 0) (f := (fun x => x)) trivial rfl hw rfl rfl Fd.self ty27 fun v57 hw => ?_
  obtain ⟨x58, hx58, hb⟩ := bd hb
  refine RL.callF1 (i := 0) trivial rfl hw rfl h1 4 rfl rfl rfl hx58 fun w hw => ?_
  refine RL.not (b := x58) trivial rfl rfl ?_
  refine RL.nt ?_
  obtain ⟨s61, hj, hb⟩ := bd hb
  refine RC.jn (fun (s61 : (List Rect) × Int) (σ : Nat → Value) (w : World) => agree σ [(0, v0), (1, v1), (5, (vi s61.2)), (6, (vi s33.2.2))] ∧ Holds E w ([own 27 v0 s61.1] ++ Γ)) s61 ?_ ?_
  ·refine RC.cond (b := (!x58)) rfl (fun hc => ?_) (fun hc => ?_)
   rotate_left
   ·replace hj := cF hc hj
    refine RC.skip ?_
    obtain rfl := oi hj
    exact ⟨rfl, ⟨rfl, rfl, rfl, rfl, trivial⟩, hw.pick 4 [3] (new := [own 27 v0 s33.1]) rfl rfl (by decide) (by decide)⟩
   replace hj := cT hc hj
   refine RC.sr ?_
   refine mv v0 rfl rfl ?_
   refine mv (vi s33.2.1) rfl rfl ?_
   refine RL.load_bf (i := 1) (f := (fun x => x)) trivial rfl hw rfl rfl Fd.self ty27 fun v62 hw => ?_
   obtain ⟨x63, hx63, hj⟩ := bd hj
   refine RL.ia_ownA (i := 4) trivial rfl hw rfl rfl rfl sl38 hx63 ?_
   refine RL.store_el (i := 4) (j := 0) (f := (fun _ y => y)) trivial hw rfl rfl (elp hw (i := 4) rfl hx63 0) rfl (idx_some hx63).2.1 rfl Fs.self (by decide) ty27 fun w hw => ?_
   refine RL.nt ?_
   refine RC.region ?_
   refine mv (vi s33.2.1) rfl rfl ?_
   refine RL.iar (a := s33.2.1) (b := 1) trivial rfl rfl rfl rfl ?_
   refine as_ (vi (IntKind.wrap .i64 (s33.2.1 + 1))) rfl rfl ?_
   refine RL.nil ?_
   obtain rfl := oi hj
   exact ⟨rfl, ⟨rfl, rfl, rfl, rfl, trivial⟩, hw.pick 5 [4] (new := [own 27 v0 (s33.1.set (Int.toNat s33.2.1) x54)]) rfl rfl (by decide) (by decide)⟩
  rintro σ w ⟨ha, hw⟩
  obtain ⟨τ, rfl⟩ := ha.ups
  refine blkQ_n ?_
  refine thenQ_n ?_
  refine RC.region ?_
  refine mv (vi s33.2.2) rfl rfl ?_
  refine RL.iar (a := s33.2.2) (b := 1) trivial rfl rfl rfl rfl ?_
  refine as_ (vi (IntKind.wrap .i64 (s33.2.2 + 1))) rfl rfl ?_
  refine RL.nil ?_
  obtain rfl := oi hb
  exact ⟨rfl, ⟨rfl, rfl, rfl, rfl, trivial⟩, hw.pick 1 [0] (new := [own 27 v0 s61.1]) rfl rfl (by decide) (by decide)⟩
 ·intro r _ _ _ _
  exact r.elim
 intro s33 σ w e hJ
 subst e
 rw [Fo.cs_go] at hb
 obtain ⟨ha, hw⟩ := hJ
 obtain ⟨τ, rfl⟩ := ha.ups
 refine thenQ_n ?_
 refine RC.sr ?_
 refine mv v0 rfl rfl ?_
 refine mv (vi s33.2.1) rfl rfl ?_
 obtain ⟨x64, hx64, hb⟩ := bd hb
 refine RL.view (i := 0) (lo := s33.2.1) trivial rfl hw rfl rfl sl38 (.inl rfl) hx64 ?_
 refine RL.clear_vw (i := 0) trivial hw rfl rfl el38 zd27 (slc_le hx64) fun w hw => ?_
 refine RL.ns ?_
 refine mv v0 rfl rfl ?_
 refine mv (vi s33.2.1) rfl rfl ?_
 obtain ⟨x65, hx65, hb⟩ := bd hb
 refine RL.cut_own (i := 0) trivial rfl hw rfl rfl sl38 (.inr ⟨rfl, rfl⟩) (.inl rfl) hx65 fun v66 hw => ?_
 refine as_ v66 rfl rfl ?_
 refine RL.nt ?_
 refine RC.ret ?_
 obtain rfl := oi hb
 exact fin1 rfl rfl (hw.pick 1 [0] (new := [own 27 v66 x65]) rfl rfl (by decide) (by decide))
def shape_stretches_c1_R (E : World) (Γ : List HP) (res : Int) (v : Value) (w : World) : Prop := v = (vi res) ∧ Holds E w Γ
def shape_stretches_c1_K (E : World) (Γ : List HP) (r : Int) (σ : Nat → Value) (w : World) : Prop := finQ Try.prog 10 Try.f59 (shape_stretches_c1_R E Γ r) .ret σ w
theorem shape_stretches_c1_ok (N : Nat) {E w : World} {Γ : List HP} {i0 : Nat} {v0 : Value} {p0 : Rect} {i1 : Nat} {v1 : Value} {p1 : Rect} {res : Int} (hw : Holds E w Γ) (h0 : Γ[i0]? = some (rd v0 p0)) (h1 : Γ[i1]? = some (rd v1 p1)) (hb : shape_stretches_c1 N p0 p1 = some res) :
    Calls Try.prog 59 [v0, v1].toArray w (Ret (shape_stretches_c1_R E Γ res)) := by
 unfold shape_stretches_c1 at hb
 refine enter Try.func59 rfl rfl (Nat.le_of_ble_eq_true rfl) ?_
 have hw := hw.dup (i := i0 + 0) h0
 have hw := hw.dup (i := i1 + 1) h1
 refine RC.sr ?_
 refine RL.box_rd (i := 1) (v := v0) trivial rfl hw rfl rfl fun b31 w hw => ?_
 refine RL.box_rd (i := 1) (v := v1) trivial rfl hw rfl rfl fun b32 w hw => ?_
 refine as_ (vi 0) rfl rfl ?_
 refine RL.ns ?_
 refine RL.fa_b trivial rfl rfl fa27_0 ?_
 refine RL.load_bfs (i := 1) (f := (fun x => x.X0)) trivial rfl hw rfl rfl fd_Rect_0 ty3 ?_
 refine RL.fa_b trivial rfl rfl fa27_0 ?_
 refine RL.load_bfs (i := 0) (f := (fun x => x.X0)) trivial rfl hw rfl rfl fd_Rect_0 ty3 ?_
 refine RL.iar (a := p0.X0) (b := p1.X0) trivial rfl rfl rfl rfl ?_
 refine as_ (vi (IntKind.wrap .i64 (p0.X0 - p1.X0))) rfl rfl ?_
 refine RL.nt ?_
 refine RC.ret ?_
 obtain rfl := oi hb
 exact fin1 rfl rfl ⟨rfl, hw.drop 4 rfl⟩
def shape_stretches_R (E : World) (Γ : List HP) (v0 : Value) (res : (List Int) × (List Rect)) (v : Value) (w : World) : Prop := Holds E w (own 3 v res.1 :: own 27 v0 res.2 :: Γ)
def shape_stretches_K (E : World) (Γ : List HP) (v0 : Value) (r : (List Int) × (List Rect)) (σ : Nat → Value) (w : World) : Prop := finQ Try.prog 48 Try.f38 (shape_stretches_R E Γ v0 r) .ret σ w
theorem shape_stretches_ok (N : Nat) {E w : World} {Γ : List HP} {v0 : Value} {p0 : (List Rect)} {res : (List Int) × (List Rect)} (hw : Holds E w (own 27 v0 p0 :: Γ))  (hb : shape_stretches N p0 = some res) :
    Calls Try.prog 38 [v0].toArray w (Ret (shape_stretches_R E Γ v0 res)) := by
 unfold shape_stretches at hb
 refine enter Try.func38 rfl rfl (Nat.le_of_ble_eq_true rfl) ?_
 refine RC.sr ?_
 refine as_ (.slice none 0 0) rfl rfl ?_
 refine RL.ns ?_
 refine mv v0 rfl rfl ?_
 obtain ⟨x31, hx31, hb⟩ := bd hb
 have hw := hw.pull (i := 0) rfl
 refine RL.call trivial rfl fn31 [v0, (.func (.func 59) #[] #[])] rfl (Calls_ret (sort_ok (α := Rect) Try.lay31 rfl ty27.isA ty27.sz fn59 (fun hw hi hj hr => shape_stretches_c1_ok N hw hi hj hr) hw hx31) ?_)
 rintro _ w ⟨rfl, hw⟩
 refine RL.ns ?_
 refine as_ (.slice none 0 0) rfl rfl ?_
 refine RL.nq ?_
 refine RC.sr ?_
 refine mv v0 rfl rfl ?_
 refine RL.len_own (i := 0) (l := x31) trivial rfl hw rfl rfl un38 ?_
 refine mv (vi 0) rfl rfl ?_
 refine RL.nt ?_
 have hw := hw.own_nil Int 3
 obtain ⟨s33, hN, hb⟩ := bd hb
 refine RC.fold (fun (k32 : Nat) (s33 : (List Int)) (σ : Nat → Value) (w : World) => ∃ v76 : Value, agree σ [(0, v0), (3, v76), (9, v0), (10, (vi (x31.length : Int))), (11, (vi (k32 : Int)))] ∧ Holds E w ([own 27 v0 x31, own 3 v76 s33] ++ Γ)) (fun (s33 : (List Int)) (σ : Nat → Value) (w : World) => ∃ v77 : Value, agree σ [(0, v0), (3, v77)] ∧ Holds E w ([own 27 v0 x31, own 3 v77 s33] ++ Γ)) hN ?_ ?_ ?_ ?_
 ·exact ⟨(.slice none 0 0), ⟨rfl, rfl, rfl, rfl, rfl, trivial⟩, hw.pick 3 [1, 0] (new := [own 27 v0 x31, own 3 (.slice none 0 0) ([] : (List Int))]) rfl rfl (by decide) (by decide)⟩
 ·intro hm s33 σ w hI
  obtain ⟨v99, ha, hw⟩ := hI
  obtain ⟨τ, rfl⟩ := ha.ups
  refine RC.sr ?_
  refine ic ((x31.length : Int)) ((x31.length : Int)) rfl rfl rfl rfl ?_
  refine RL.nq ?_
  refine RC.cond_f dge ?_
  refine RC.ex ?_
  exact ⟨rfl, v99, ⟨rfl, rfl, trivial⟩, hw.pick 2 [0, 1] (new := [own 27 v0 x31, own 3 v99 s33]) rfl rfl (by decide) (by decide)⟩
 ·intro hm k32 s33 s' σ w hk hI hb
  obtain ⟨v78, ha, hw⟩ := hI
  obtain ⟨τ, rfl⟩ := ha.ups
  refine RC.sr ?_
  refine ic ((k32 : Int)) ((x31.length : Int)) rfl rfl rfl rfl ?_
  refine RL.nq ?_
  refine RC.cond_t (dlt hk) ?_
  refine RC.ss ?_
  refine RC.bs ?_
  obtain ⟨x79, hx79, hb⟩ := bd hb
  refine RL.ia_ownA (i := 0) trivial rfl hw rfl rfl rfl sl38 hx79 ?_
  refine RL.load_el (i := 0) (f := (fun x => x)) trivial rfl hw rfl (elp hw (i := 0) rfl hx79 0) rfl (idx_some hx79).2.1 Fd.self ty27 fun v80 hw => ?_
  refine RL.alloc trivial rfl hw ze27.z fun b81 w hw => ?_
  refine RL.store_raw (i := 0) (j := 1) trivial hw rfl rfl rfl rfl ty27 rfl fun w hw => ?_
  refine RL.ns ?_
  refine mv v78 rfl rfl ?_
  refine RL.len_own (i := 3) (l := s33) trivial rfl hw rfl rfl un75 ?_
  refine RL.iar (a := (s33.length : Int)) (b := 1) trivial rfl rfl rfl rfl ?_
  refine as_ (vi (IntKind.wrap .i64 ((s33.length : Int) - 1))) rfl rfl ?_
  refine RL.nq ?_
  obtain ⟨s84, hj, hb⟩ := bd hb
  refine RC.jn (fun (s84 : Bool) (σ : Nat → Value) (w : World) => agree σ [(0, v0), (3, v78), (5, (vp b81 0)), (6, (vi (IntKind.wrap .i64 ((s33.length : Int) - 1)))), (9, v0), (10, (vi (x31.length : Int))), (11, (vi (k32 : Int))), (28, (vb s84))] ∧ Holds E w ([own 27 v0 x31, own 3 v78 s33, bx 27 b81 x79] ++ Γ)) s84 ?_ ?_
  ·rcases Bool.eq_false_or_eq_true (decide ((IntKind.wrap .i64 ((s33.length : Int) - 1)) ≥ 0)) with hg85 | hg85
   rotate_left
   ·replace hj := cF hg85 hj
    refine RC.drw mixed rfl (fun (D : Nat → Bool) (σ : Nat → Value) (w : World) => doneV D σ [(0, 18, (vi (IntKind.wrap .i64 ((s33.length : Int) - 1)))), (1, 19, (vb (decide ((IntKind.wrap .i64 ((s33.length : Int) - 1)) ≥ 0)))), (2, 20, (vb (decide ((IntKind.wrap .i64 ((s33.length : Int) - 1)) ≥ 0)))), (3, 21, undef), (4, 22, undef), (5, 23, undef), (6, 24, undef), (7, 25, undef), (8, 26, undef), (9, 27, undef), (10, 28, (vb false))] ∧ agree σ [(0, v0), (3, v78), (5, (vp b81 0)), (6, (vi (IntKind.wrap .i64 ((s33.length : Int) - 1)))), (9, v0), (10, (vi (x31.length : Int))), (11, (vi (k32 : Int)))] ∧ Holds E w ([bx 27 b81 x79, rd v80 x79, own 27 v0 x31, own 3 v78 s33] ++ Γ)) ?_ ⟨?_, ?_, ?_, ?_, ?_, ?_, ?_, ?_, ?_, ?_, ?_, trivial⟩ ?_
    ·have hw := hw.drew
     exact ⟨doneV.none, ⟨rfl, rfl, rfl, rfl, rfl, rfl, rfl, trivial⟩, hw⟩
    ·rintro D σ w hD hdep hcl ⟨hv, ha, hw⟩
     obtain ⟨τ, rfl⟩ := (ac (ha.at 3 rfl) az).ups
     refine mv (vi (IntKind.wrap .i64 ((s33.length : Int) - 1))) rfl rfl ?_
     refine RL.nil ?_
     exact ⟨rfl, hv.put 0 rfl rfl, ha.up rfl, hw⟩
    ·rintro D σ w hD hdep hcl ⟨hv, ha, hw⟩
     obtain ⟨τ, rfl⟩ := (ac (hv.at 0 rfl (hdep.1 rfl)) az).ups
     refine ic ((IntKind.wrap .i64 ((s33.length : Int) - 1))) 0 rfl rfl rfl rfl ?_
     refine RL.nil ?_
     exact ⟨rfl, hv.put 1 rfl rfl, ha.up rfl, hw⟩
    ·rintro D σ w hD hdep hcl ⟨hv, ha, hw⟩
     obtain ⟨τ, rfl⟩ := (ac (hv.at 1 rfl (hdep.1 rfl)) az).ups
     refine mv (vb (decide ((IntKind.wrap .i64 ((s33.length : Int) - 1)) ≥ 0))) rfl rfl ?_
     refine RL.nil ?_
     exact ⟨rfl, hv.put 2 rfl rfl, ha.up rfl, hw⟩
    ·rintro D σ w hD hdep hcl ⟨hv, ha, hw⟩
     obtain ⟨τ, rfl⟩ := (ac (hv.at 2 rfl (hdep.1 rfl)) (ac (ha.at 2 rfl) az)).ups
     refine sk rfl (.inl (cb hg85)) rfl ?_
     refine RL.nil ?_
     exact ⟨rfl, hv.put 3 rfl rfl, ha.up rfl, hw⟩
    ·rintro D σ w hD hdep hcl ⟨hv, ha, hw⟩
     obtain ⟨τ, rfl⟩ := (ac (hv.at 2 rfl (hdep.2.1 rfl)) (ac (hv.at 3 rfl (hdep.1 rfl)) az)).ups
     refine sk rfl (.inl (cb hg85)) rfl ?_
     refine RL.nil ?_
     exact ⟨rfl, hv.put 4 rfl rfl, ha.up rfl, hw⟩
    ·rintro D σ w hD hdep hcl ⟨hv, ha, hw⟩
     obtain ⟨τ, rfl⟩ := (ac (hv.at 2 rfl (hdep.1 rfl)) (ac (ha.at 1 rfl) az)).ups
     refine sk rfl (.inl (cb hg85)) rfl ?_
     refine RL.nil ?_
     exact ⟨rfl, hv.put 5 rfl rfl, ha.up rfl, hw⟩
    ·rintro D σ w hD hdep hcl ⟨hv, ha, hw⟩
     obtain ⟨τ, rfl⟩ := (ac (hv.at 2 rfl (hdep.1 rfl)) (ac (ha.at 3 rfl) az)).ups
     refine sk rfl (.inl (cb hg85)) rfl ?_
     refine RL.nil ?_
     exact ⟨rfl, hv.put 6 rfl rfl, ha.up rfl, hw⟩
    ·rintro D σ w hD hdep hcl ⟨hv, ha, hw⟩
     obtain ⟨τ, rfl⟩ := (ac (hv.at 2 rfl (hdep.2.2.1 rfl)) (ac (hv.at 5 rfl (hdep.1 rfl)) (ac (hv.at 6 rfl (hdep.2.1 rfl)) az))).ups
     refine sk rfl (.inl (cb hg85)) rfl ?_
     refine RL.nil ?_
     exact ⟨rfl, hv.put 7 rfl rfl, ha.up rfl, hw⟩
    ·rintro D σ w hD hdep hcl ⟨hv, ha, hw⟩
     obtain ⟨τ, rfl⟩ := (ac (hv.at 2 rfl (hdep.2.1 rfl)) (ac (hv.at 7 rfl (hdep.1 rfl)) az)).ups
     refine sk rfl (.inl (cb hg85)) rfl ?_
     refine RL.nil ?_
     exact ⟨rfl, hv.put 8 rfl rfl, ha.up rfl, hw⟩
    ·rintro D σ w hD hdep hcl ⟨hv, ha, hw⟩
     obtain ⟨τ, rfl⟩ := (ac (hv.at 2 rfl (hdep.2.2.1 rfl)) (ac (hv.at 4 rfl (hdep.1 rfl)) (ac (hv.at 8 rfl (hdep.2.1 rfl)) az))).ups
     refine sk rfl (.inl (cb hg85)) rfl ?_
     refine RL.nil ?_
     exact ⟨rfl, hv.put 9 rfl rfl, ha.up rfl, hw⟩
    ·rintro D σ w hD hdep hcl ⟨hv, ha, hw⟩
     obtain ⟨τ, rfl⟩ := (ac (hv.at 2 rfl (hdep.1 rfl)) (ac (hv.at 9 rfl (hdep.2.1 rfl)) az)).ups
     refine RL.pick (b := (decide ((IntKind.wrap .i64 ((s33.length : Int) - 1)) ≥ 0))) (v := (vb false)) trivial rfl rfl (by rw [hg85]; rfl) ?_
     refine RL.nil ?_
     exact ⟨rfl, hv.put 10 rfl rfl, ha.up rfl, hw⟩
    rintro D σ w hall ⟨hv, ha, hw⟩
    obtain ⟨τ, rfl⟩ := (ac (hv.at 10 rfl (hall 10 (by decide))) (ac (ha.at 0 rfl) (ac (ha.at 1 rfl) (ac (ha.at 2 rfl) (ac (ha.at 3 rfl) (ac (ha.at 4 rfl) (ac (ha.at 5 rfl) (ac (ha.at 6 rfl) az)))))))).ups
    obtain rfl := oi hj
    exact ⟨rfl, ⟨rfl, rfl, rfl, rfl, rfl, rfl, rfl, rfl, trivial⟩, hw.pick 4 [2, 3, 0] (new := [own 27 v0 x31, own 3 v78 s33, bx 27 b81 x79]) rfl rfl (by decide) (by decide)⟩
   replace hj := cT hg85 hj
   obtain ⟨x86, hx86, hj⟩ := bd hj
   refine RC.drw mixed rfl (fun (D : Nat → Bool) (σ : Nat → Value) (w : World) => doneV D σ [(0, 18, (vi (IntKind.wrap .i64 ((s33.length : Int) - 1)))), (1, 19, (vb (decide ((IntKind.wrap .i64 ((s33.length : Int) - 1)) ≥ 0)))), (2, 20, (vb (decide ((IntKind.wrap .i64 ((s33.length : Int) - 1)) ≥ 0)))), (3, 21, (vp b81 0)), (4, 22, (vi x79.X0)), (5, 23, v78), (6, 24, (vi (IntKind.wrap .i64 ((s33.length : Int) - 1)))), (7, 25, (elA v78 (Int.toNat (IntKind.wrap .i64 ((s33.length : Int) - 1))) 1 0)), (8, 26, (vi x86)), (9, 27, (vb (decide (x79.X0 ≤ x86)))), (10, 28, (vb (decide (x79.X0 ≤ x86))))] ∧ agree σ [(0, v0), (3, v78), (5, (vp b81 0)), (6, (vi (IntKind.wrap .i64 ((s33.length : Int) - 1)))), (9, v0), (10, (vi (x31.length : Int))), (11, (vi (k32 : Int)))] ∧ Holds E w ([bx 27 b81 x79, rd v80 x79, own 27 v0 x31, own 3 v78 s33] ++ Γ)) ?_ ⟨?_, ?_, ?_, ?_, ?_, ?_, ?_, ?_, ?_, ?_, ?_, trivial⟩ ?_
   ·have hw := hw.drew
    exact ⟨doneV.none, ⟨rfl, rfl, rfl, rfl, rfl, rfl, rfl, trivial⟩, hw⟩
   ·rintro D σ w hD hdep hcl ⟨hv, ha, hw⟩
    obtain ⟨τ, rfl⟩ := (ac (ha.at 3 rfl) az).ups
    refine mv (vi (IntKind.wrap .i64 ((s33.length : Int) - 1))) rfl rfl ?_
    refine RL.nil ?_
    exact ⟨rfl, hv.put 0 rfl rfl, ha.up rfl, hw⟩
   ·rintro D σ w hD hdep hcl ⟨hv, ha, hw⟩
    obtain ⟨τ, rfl⟩ := (ac (hv.at 0 rfl (hdep.1 rfl)) az).ups
    refine ic ((IntKind.wrap .i64 ((s33.length : Int) - 1))) 0 rfl rfl rfl rfl ?_
    refine RL.nil ?_
    exact ⟨rfl, hv.put 1 rfl rfl, ha.up rfl, hw⟩
   ·rintro D σ w hD hdep hcl ⟨hv, ha, hw⟩
    obtain ⟨τ, rfl⟩ := (ac (hv.at 1 rfl (hdep.1 rfl)) az).ups
    refine mv (vb (decide ((IntKind.wrap .i64 ((s33.length : Int) - 1)) ≥ 0))) rfl rfl ?_
    refine RL.nil ?_
    exact ⟨rfl, hv.put 2 rfl rfl, ha.up rfl, hw⟩
   ·rintro D σ w hD hdep hcl ⟨hv, ha, hw⟩
    obtain ⟨τ, rfl⟩ := (ac (hv.at 2 rfl (hdep.1 rfl)) (ac (ha.at 2 rfl) az)).ups
    refine RL.fa_b ⟨_, rfl, cb hg85⟩ rfl rfl fa27_0 ?_
    refine RL.nil ?_
    exact ⟨rfl, hv.put 3 rfl rfl, ha.up rfl, hw⟩
   ·rintro D σ w hD hdep hcl ⟨hv, ha, hw⟩
    obtain ⟨τ, rfl⟩ := (ac (hv.at 2 rfl (hdep.2.1 rfl)) (ac (hv.at 3 rfl (hdep.1 rfl)) az)).ups
    refine RL.load_bfs (i := 0) (f := (fun x => x.X0)) ⟨_, rfl, cb hg85⟩ rfl hw rfl rfl fd_Rect_0 ty3 ?_
    refine RL.nil ?_
    exact ⟨rfl, hv.put 4 rfl rfl, ha.up rfl, hw⟩
   ·rintro D σ w hD hdep hcl ⟨hv, ha, hw⟩
    obtain ⟨τ, rfl⟩ := (ac (hv.at 2 rfl (hdep.1 rfl)) (ac (ha.at 1 rfl) az)).ups
    refine RL.move (v := v78) ⟨_, rfl, cb hg85⟩ rfl rfl ?_
    refine RL.nil ?_
    exact ⟨rfl, hv.put 5 rfl rfl, ha.up rfl, hw⟩
   ·rintro D σ w hD hdep hcl ⟨hv, ha, hw⟩
    obtain ⟨τ, rfl⟩ := (ac (hv.at 2 rfl (hdep.1 rfl)) (ac (ha.at 3 rfl) az)).ups
    refine RL.move (v := (vi (IntKind.wrap .i64 ((s33.length : Int) - 1)))) ⟨_, rfl, cb hg85⟩ rfl rfl ?_
    refine RL.nil ?_
    exact ⟨rfl, hv.put 6 rfl rfl, ha.up rfl, hw⟩
   ·rintro D σ w hD hdep hcl ⟨hv, ha, hw⟩
    obtain ⟨τ, rfl⟩ := (ac (hv.at 2 rfl (hdep.2.2.1 rfl)) (ac (hv.at 5 rfl (hdep.1 rfl)) (ac (hv.at 6 rfl (hdep.2.1 rfl)) az))).ups
    refine RL.ia_ownA (i := 3) ⟨_, rfl, cb hg85⟩ rfl hw rfl rfl rfl sl75 hx86 ?_
    refine RL.nil ?_
    exact ⟨rfl, hv.put 7 rfl rfl, ha.up rfl, hw⟩
   ·rintro D σ w hD hdep hcl ⟨hv, ha, hw⟩
    obtain ⟨τ, rfl⟩ := (ac (hv.at 2 rfl (hdep.2.1 rfl)) (ac (hv.at 7 rfl (hdep.1 rfl)) az)).ups
    refine RL.load_els (i := 3) (f := (fun x => x)) ⟨_, rfl, cb hg85⟩ rfl hw rfl (elp hw (i := 3) rfl hx86 0) rfl (idx_some hx86).2.1 Fd.self ty3 ?_
    refine RL.nil ?_
    exact ⟨rfl, hv.put 8 rfl rfl, ha.up rfl, hw⟩
   ·rintro D σ w hD hdep hcl ⟨hv, ha, hw⟩
    obtain ⟨τ, rfl⟩ := (ac (hv.at 2 rfl (hdep.2.2.1 rfl)) (ac (hv.at 4 rfl (hdep.1 rfl)) (ac (hv.at 8 rfl (hdep.2.1 rfl)) az))).ups
    refine RL.icmp (a := x79.X0) (b := x86) ⟨_, rfl, cb hg85⟩ rfl rfl rfl rfl ?_
    refine RL.nil ?_
    exact ⟨rfl, hv.put 9 rfl rfl, ha.up rfl, hw⟩
   ·rintro D σ w hD hdep hcl ⟨hv, ha, hw⟩
    obtain ⟨τ, rfl⟩ := (ac (hv.at 2 rfl (hdep.1 rfl)) (ac (hv.at 9 rfl (hdep.2.1 rfl)) az)).ups
    refine RL.pick (b := (decide ((IntKind.wrap .i64 ((s33.length : Int) - 1)) ≥ 0))) (v := (vb (decide (x79.X0 ≤ x86)))) trivial rfl rfl (by rw [hg85]; rfl) ?_
    refine RL.nil ?_
    exact ⟨rfl, hv.put 10 rfl rfl, ha.up rfl, hw⟩
   rintro D σ w hall ⟨hv, ha, hw⟩
   obtain ⟨τ, rfl⟩ := (ac (hv.at 10 rfl (hall 10 (by decide))) (ac (ha.at 0 rfl) (ac (ha.at 1 rfl) (ac (ha.at 2 rfl) (ac (ha.at 3 rfl) (ac (ha.at 4 rfl) (ac (ha.at 5 rfl) (ac (ha.at 6 rfl) az)))))))).ups
   obtain rfl := oi hj
   exact ⟨rfl, ⟨rfl, rfl, rfl, rfl, rfl, rfl, rfl, rfl, trivial⟩, hw.pick 4 [2, 3, 0] (new := [own 27 v0 x31, own 3 v78 s33, bx 27 b81 x79]) rfl rfl (by decide) (by decide)⟩
  rintro σ w ⟨ha, hw⟩
  obtain ⟨τ, rfl⟩ := ha.ups
  refine thenQ_n ?_
  obtain ⟨s92, hj, hb⟩ := bd hb
  refine RC.jn (fun (s92 : (List Int)) (σ : Nat → Value) (w : World) => ∃ v93 : Value, agree σ [(0, v0), (3, v93), (9, v0), (10, (vi (x31.length : Int))), (11, (vi (k32 : Int)))] ∧ Holds E w ([own 27 v0 x31, own 3 v93 s92] ++ Γ)) s92 ?_ ?_
  ·refine RC.cond (b := s84) rfl (fun hc => ?_) (fun hc => ?_)
   rotate_left
   ·replace hj := cF hc hj
    refine RC.region ?_
    refine mv v78 rfl rfl ?_
    refine RL.fa_b trivial rfl rfl fa27_0 ?_
    refine RL.load_bfs (i := 2) (f := (fun x => x.X0)) trivial rfl hw rfl rfl fd_Rect_0 ty3 ?_
    refine RL.fa_b trivial rfl rfl fa27_2 ?_
    refine RL.load_bfs (i := 2) (f := (fun x => x.X1)) trivial rfl hw rfl rfl fd_Rect_2 ty3 ?_
    have hw := hw.sc (γ := Int) x79.X0
    have hw := hw.sc (γ := Int) x79.X1
    refine RL.bslice (l := ([x79.X0, x79.X1] : (List Int))) trivial rfl hw [(vi x79.X0), (vi x79.X1)] rfl rfl rfl sl75 ze3 (fun M hs g => ⟨(g.sat 1 _ rfl).1, ⟨(g.sat 0 _ rfl).1, trivial⟩⟩) fun v96 w hw => ?_
    have hw := hw.freeze (i := 0) rfl
    obtain ⟨x97, hx97, hj⟩ := bd hj
    refine RL.app (i := 4) (j := 0) trivial rfl hw rfl rfl rfl rfl el75 hx97 fun v98 w hw => ?_
    refine as_ v98 rfl rfl ?_
    refine RL.nil ?_
    obtain rfl := oi hj
    exact ⟨rfl, v98, ⟨rfl, rfl, rfl, rfl, rfl, trivial⟩, hw.pick 6 [3, 4] (new := [own 27 v0 x31, own 3 v98 x97]) rfl rfl (by decide) (by decide)⟩
   replace hj := cT hc hj
   obtain ⟨x94, hx94, hj⟩ := bd hj
   obtain ⟨x95, hx95, hj⟩ := bd hj
   refine RC.drw mixed rfl (fun (D : Nat → Bool) (σ : Nat → Value) (w : World) => doneV D σ [(0, 29, v78), (1, 30, (vi (IntKind.wrap .i64 ((s33.length : Int) - 1)))), (2, 31, v78), (3, 32, (vi (IntKind.wrap .i64 ((s33.length : Int) - 1)))), (4, 33, (elA v78 (Int.toNat (IntKind.wrap .i64 ((s33.length : Int) - 1))) 1 0)), (5, 34, (vi x94)), (6, 35, (vp b81 2)), (7, 36, (vi x79.X1)), (8, 37, (vi (if x94 < x79.X1 then x79.X1 else x94))), (9, 38, (elA v78 (Int.toNat (IntKind.wrap .i64 ((s33.length : Int) - 1))) 1 0))] ∧ agree σ [(0, v0), (3, v78), (5, (vp b81 0)), (6, (vi (IntKind.wrap .i64 ((s33.length : Int) - 1)))), (9, v0), (10, (vi (x31.length : Int))), (11, (vi (k32 : Int)))] ∧ Holds E w ([own 27 v0 x31, bif D 10 then (own 3 v78 (s33.set (Int.toNat (IntKind.wrap .i64 ((s33.length : Int) - 1))) (if x94 < x79.X1 then x79.X1 else x94))) else (own 3 v78 s33), bx 27 b81 x79] ++ Γ)) ?_ ⟨?_, ?_, ?_, ?_, ?_, ?_, ?_, ?_, ?_, ?_, ?_, trivial⟩ ?_
   ·have hw := hw.drew
    exact ⟨doneV.none, ⟨rfl, rfl, rfl, rfl, rfl, rfl, rfl, trivial⟩, hw⟩
   ·rintro D σ w hD hdep hcl ⟨hv, ha, hw⟩
    obtain ⟨τ, rfl⟩ := (ac (ha.at 1 rfl) az).ups
    refine mv v78 rfl rfl ?_
    refine RL.nil ?_
    exact ⟨rfl, hv.put 0 rfl rfl, ha.up rfl, hw⟩
   ·rintro D σ w hD hdep hcl ⟨hv, ha, hw⟩
    obtain ⟨τ, rfl⟩ := (ac (ha.at 3 rfl) az).ups
    refine mv (vi (IntKind.wrap .i64 ((s33.length : Int) - 1))) rfl rfl ?_
    refine RL.nil ?_
    exact ⟨rfl, hv.put 1 rfl rfl, ha.up rfl, hw⟩
   ·rintro D σ w hD hdep hcl ⟨hv, ha, hw⟩
    obtain ⟨τ, rfl⟩ := (ac (ha.at 1 rfl) az).ups
    refine mv v78 rfl rfl ?_
    refine RL.nil ?_
    exact ⟨rfl, hv.put 2 rfl rfl, ha.up rfl, hw⟩
   ·rintro D σ w hD hdep hcl ⟨hv, ha, hw⟩
    obtain ⟨τ, rfl⟩ := (ac (ha.at 3 rfl) az).ups
    refine mv (vi (IntKind.wrap .i64 ((s33.length : Int) - 1))) rfl rfl ?_
    refine RL.nil ?_
    exact ⟨rfl, hv.put 3 rfl rfl, ha.up rfl, hw⟩
   ·rintro D σ w hD hdep hcl ⟨hv, ha, hw⟩
    obtain ⟨τ, rfl⟩ := (ac (hv.at 2 rfl (hdep.1 rfl)) (ac (hv.at 3 rfl (hdep.2.1 rfl)) az)).ups
    have hw := hw.selF (i := 1) rfl (nf (fun h => ft hD ((hcl 10 _ rfl h).2.2.2.2.2.2.1 rfl)))
    refine RL.ia_ownA (i := 1) trivial rfl hw rfl rfl rfl sl75 hx94 ?_
    have hw := hw.altF (i := 1) (b := D 10) rfl (nf (fun h => ft hD ((hcl 10 _ rfl h).2.2.2.2.2.2.1 rfl))) (own 3 v78 (s33.set (Int.toNat (IntKind.wrap .i64 ((s33.length : Int) - 1))) (if x94 < x79.X1 then x79.X1 else x94)))
    refine RL.nil ?_
    exact ⟨rfl, hv.put 4 rfl rfl, ha.up rfl, hw⟩
   ·rintro D σ w hD hdep hcl ⟨hv, ha, hw⟩
    obtain ⟨τ, rfl⟩ := (ac (hv.at 4 rfl (hdep.1 rfl)) az).ups
    have hw := hw.selF (i := 1) rfl (nf (fun h => ft hD ((hcl 10 _ rfl h).2.2.2.2.2.2.2.1 rfl)))
    refine RL.load_els (i := 1) (f := (fun x => x)) trivial rfl hw rfl (elp hw (i := 1) rfl hx94 0) rfl (idx_some hx94).2.1 Fd.self ty3 ?_
    have hw := hw.altF (i := 1) (b := D 10) rfl (nf (fun h => ft hD ((hcl 10 _ rfl h).2.2.2.2.2.2.2.1 rfl))) (own 3 v78 (s33.set (Int.toNat (IntKind.wrap .i64 ((s33.length : Int) - 1))) (if x94 < x79.X1 then x79.X1 else x94)))
    refine RL.nil ?_
    exact ⟨rfl, hv.put 5 rfl rfl, ha.up rfl, hw⟩
   ·rintro D σ w hD hdep hcl ⟨hv, ha, hw⟩
    obtain ⟨τ, rfl⟩ := (ac (ha.at 2 rfl) az).ups
    refine RL.fa_b trivial rfl rfl fa27_2 ?_
    refine RL.nil ?_
    exact ⟨rfl, hv.put 6 rfl rfl, ha.up rfl, hw⟩
   ·rintro D σ w hD hdep hcl ⟨hv, ha, hw⟩
    obtain ⟨τ, rfl⟩ := (ac (hv.at 6 rfl (hdep.1 rfl)) az).ups
    refine RL.load_bfs (i := 2) (f := (fun x => x.X1)) trivial rfl hw rfl rfl fd_Rect_2 ty3 ?_
    refine RL.nil ?_
    exact ⟨rfl, hv.put 7 rfl rfl, ha.up rfl, hw⟩
   ·rintro D σ w hD hdep hcl ⟨hv, ha, hw⟩
    obtain ⟨τ, rfl⟩ := (ac (hv.at 5 rfl (hdep.1 rfl)) (ac (hv.at 7 rfl (hdep.2.1 rfl)) az)).ups
    refine RL.max (a := x94) (b := x79.X1) trivial rfl rfl rfl ?_
    refine RL.nil ?_
    exact ⟨rfl, hv.put 8 rfl rfl, ha.up rfl, hw⟩
   ·rintro D σ w hD hdep hcl ⟨hv, ha, hw⟩
    obtain ⟨τ, rfl⟩ := (ac (hv.at 0 rfl (hdep.1 rfl)) (ac (hv.at 1 rfl (hdep.2.1 rfl)) az)).ups
    have hw := hw.selF (i := 1) rfl (nf (fun h => ft hD ((hcl 10 _ rfl h).1 rfl)))
    refine RL.ia_ownA (i := 1) trivial rfl hw rfl rfl rfl sl75 hx95 ?_
    have hw := hw.altF (i := 1) (b := D 10) rfl (nf (fun h => ft hD ((hcl 10 _ rfl h).1 rfl))) (own 3 v78 (s33.set (Int.toNat (IntKind.wrap .i64 ((s33.length : Int) - 1))) (if x94 < x79.X1 then x79.X1 else x94)))
    refine RL.nil ?_
    exact ⟨rfl, hv.put 9 rfl rfl, ha.up rfl, hw⟩
   ·rintro D σ w hD hdep hcl ⟨hv, ha, hw⟩
    obtain ⟨τ, rfl⟩ := (ac (hv.at 8 rfl (hdep.2.1 rfl)) (ac (hv.at 9 rfl (hdep.1 rfl)) az)).ups
    have hw := hw.selF (i := 1) rfl hD
    have hw := hw.sc (γ := Int) (if x94 < x79.X1 then x79.X1 else x94)
    refine RL.store_el (i := 2) (j := 0) (f := (fun _ y => y)) trivial hw rfl rfl (elp hw (i := 2) rfl hx95 0) rfl (idx_some hx95).2.1 rfl Fs.self (by decide) ty3 fun w hw => ?_
    have hw := hw.pick 4 [1, 2, 3] (new := [own 27 v0 x31, own 3 v78 (s33.set (Int.toNat (IntKind.wrap .i64 ((s33.length : Int) - 1))) (if x94 < x79.X1 then x79.X1 else x94)), bx 27 b81 x79]) rfl rfl (by decide) (by decide)
    have hw := hw.altT (i := 1) (b := true) rfl rfl (own 3 v78 s33)
    refine RL.nil ?_
    exact ⟨rfl, hv.no rfl, ha, hw⟩
   rintro D σ w hall ⟨hv, ha, hw⟩
   rw [hall 10 (by decide)] at hw
   obtain ⟨τ, rfl⟩ := (ac (ha.at 0 rfl) (ac (ha.at 1 rfl) (ac (ha.at 2 rfl) (ac (ha.at 3 rfl) (ac (ha.at 4 rfl) (ac (ha.at 5 rfl) (ac (ha.at 6 rfl) az))))))).ups
   obtain rfl := oi hj
   exact ⟨rfl, v78, ⟨rfl, rfl, rfl, rfl, rfl, trivial⟩, hw.pick 3 [0, 1] (new := [own 27 v0 x31, own 3 v78 (s33.set (Int.toNat (IntKind.wrap .i64 ((s33.length : Int) - 1))) (if x94 < x79.X1 then x79.X1 else x94))]) rfl rfl (by decide) (by decide)⟩
  rintro σ w ⟨v93, ha, hw⟩
  obtain ⟨τ, rfl⟩ := ha.ups
  refine blkQ_n ?_
  refine thenQ_n ?_
  refine RC.region ?_
  refine RL.inc trivial rfl hk hm rfl rfl ?_
  refine mv (vi ((k32 + 1 : Nat) : Int)) rfl rfl ?_
  refine RL.nil ?_
  obtain rfl := oi hb
  exact ⟨rfl, v93, ⟨rfl, rfl, rfl, rfl, rfl, trivial⟩, hw.pick 2 [0, 1] (new := [own 27 v0 x31, own 3 v93 s92]) rfl rfl (by decide) (by decide)⟩
 intro σ w hJ
 obtain ⟨v77, ha, hw⟩ := hJ
 obtain ⟨τ, rfl⟩ := ha.ups
 refine thenQ_n ?_
 refine RC.sr ?_
 refine mv v77 rfl rfl ?_
 refine as_ v77 rfl rfl ?_
 refine RL.nt ?_
 refine RC.ret ?_
 obtain rfl := oi hb
 exact fin1 rfl rfl (hw.pick 2 [1, 0] (new := [own 3 v77 s33, own 27 v0 x31]) rfl rfl (by decide) (by decide))
def slices_Equal_int_R (E : World) (Γ : List HP) (res : Bool) (v : Value) (w : World) : Prop := v = (vb res) ∧ Holds E w Γ
def slices_Equal_int_K (E : World) (Γ : List HP) (r : Bool) (σ : Nat → Value) (w : World) : Prop := finQ Try.prog 26 Try.f58 (slices_Equal_int_R E Γ r) .ret σ w
theorem slices_Equal_int_ok (N : Nat) {E w : World} {Γ : List HP} {i0 : Nat} {v0 : Value} {p0 : (List Int)} {i1 : Nat} {v1 : Value} {p1 : (List Int)} {res : Bool} (hw : Holds E w Γ) (h0 : Γ[i0]? = some (rd v0 p0)) (h1 : Γ[i1]? = some (rd v1 p1)) (hb : slices_Equal_int N p0 p1 = some res) :
    Calls Try.prog 58 [v0, v1].toArray w (Ret (slices_Equal_int_R E Γ res)) := by
 unfold slices_Equal_int at hb
 refine enter Try.func58 rfl rfl (Nat.le_of_ble_eq_true rfl) ?_
 have hw := hw.dup (i := i0 + 0) h0
 have hw := hw.dup (i := i1 + 1) h1
 refine RC.sr ?_
 refine as_ (vb false) rfl rfl ?_
 refine RL.nq ?_
 refine RC.sr ?_
 refine mv v0 rfl rfl ?_
 refine RL.len_rd (i := 1) (l := p0) trivial rfl hw rfl rfl un75 ?_
 refine mv v1 rfl rfl ?_
 refine RL.len_rd (i := 0) (l := p1) trivial rfl hw rfl rfl un75 ?_
 refine ic ((p0.length : Int)) ((p1.length : Int)) rfl rfl rfl rfl ?_
 refine RL.nt ?_
 refine RC.cond (b := ((p0.length : Int) != (p1.length : Int))) rfl (fun hc => ?_) (fun hc => ?_)
 ·replace hb := cT hc hb
  refine RC.sr ?_
  refine as_ (vb false) rfl rfl ?_
  refine RL.nt ?_
  refine RC.rt ?_
  obtain rfl := oi hb
  exact fin1 rfl rfl ⟨rfl, hw.drop 2 rfl⟩
 replace hb := cF hc hb
 refine RC.ss ?_
 refine RC.sr ?_
 refine mv v0 rfl rfl ?_
 refine RL.len_rd (i := 1) (l := p0) trivial rfl hw rfl rfl un75 ?_
 refine mv (vi 0) rfl rfl ?_
 refine RL.nt ?_
 obtain ⟨o45, hN, hb⟩ := bd hb
 refine RC.range (fun (k31 : Nat) (s32 : Unit) (σ : Nat → Value) (w : World) => agree σ [(0, v0), (1, v1), (12, (vi (p0.length : Int))), (13, (vi (k31 : Int)))] ∧ Holds E w ([rd v0 p0, rd v1 p1] ++ Γ)) (fun (s32 : Unit) (σ : Nat → Value) (w : World) => agree σ [] ∧ Holds E w ([rd v0 p0, rd v1 p1] ++ Γ)) (slices_Equal_int_K E Γ) hN ?_ ?_ ?_ ?_ ?_ 
 ·exact ⟨⟨rfl, rfl, rfl, rfl, trivial⟩, hw.pick 2 [1, 0] (new := [rd v0 p0, rd v1 p1]) rfl rfl (by decide) (by decide)⟩
 ·intro hm s32 σ w hI
  obtain ⟨ha, hw⟩ := hI
  obtain ⟨τ, rfl⟩ := ha.ups
  refine RC.sr ?_
  refine ic ((p0.length : Int)) ((p0.length : Int)) rfl rfl rfl rfl ?_
  refine RL.nq ?_
  refine RC.cond_f dge ?_
  refine RC.ex ?_
  exact ⟨rfl, trivial, hw.pick 2 [0, 1] (new := [rd v0 p0, rd v1 p1]) rfl rfl (by decide) (by decide)⟩
 ·intro hm k31 s32 fl σ w hk hI hb
  obtain ⟨ha, hw⟩ := hI
  obtain ⟨τ, rfl⟩ := ha.ups
  refine RC.sr ?_
  refine ic ((k31 : Int)) ((p0.length : Int)) rfl rfl rfl rfl ?_
  refine RL.nq ?_
  refine RC.cond_t (dlt hk) ?_
  refine RC.ss ?_
  refine RC.bs ?_
  refine mv (vi (k31 : Int)) rfl rfl ?_
  refine as_ (vi (k31 : Int)) rfl rfl ?_
  refine RL.nq ?_
  obtain ⟨x39, hx39, hb⟩ := bd hb
  obtain ⟨x41, hx41, hb⟩ := bd hb
  refine RC.drw mixed rfl (fun (D : Nat → Bool) (σ : Nat → Value) (w : World) => ∃ (v40 : Value) (v42 : Value), doneV D σ [(0, 16, v0), (1, 17, (vi (k31 : Int))), (2, 18, v40), (3, 19, (vi x39)), (4, 20, v1), (5, 21, (vi (k31 : Int))), (6, 22, v42), (7, 23, (vi x41)), (8, 24, (vb (x39 != x41)))] ∧ agree σ [(0, v0), (1, v1), (5, (vi (k31 : Int))), (12, (vi (p0.length : Int))), (13, (vi (k31 : Int)))] ∧ Holds E w ([bif D 2 then (pt v40 x39) else junk, bif D 6 then (pt v42 x41) else junk, rd v0 p0, rd v1 p1] ++ Γ)) ?_ ⟨?_, ?_, ?_, ?_, ?_, ?_, ?_, ?_, ?_, trivial⟩ ?_
  ·have hw := hw.drew
   have hw := hw.junk
   have hw := hw.junk
   exact ⟨undef, undef, doneV.none, ⟨rfl, rfl, rfl, rfl, rfl, trivial⟩, hw⟩
  ·rintro D σ w hD hdep hcl ⟨v40, v42, hv, ha, hw⟩
   obtain ⟨τ, rfl⟩ := (ac (ha.at 0 rfl) az).ups
   refine mv v0 rfl rfl ?_
   refine RL.nil ?_
   exact ⟨rfl, v40, v42, hv.put 0 rfl rfl, ha.up rfl, hw⟩
  ·rintro D σ w hD hdep hcl ⟨v40, v42, hv, ha, hw⟩
   obtain ⟨τ, rfl⟩ := (ac (ha.at 2 rfl) az).ups
   refine mv (vi (k31 : Int)) rfl rfl ?_
   refine RL.nil ?_
   exact ⟨rfl, v40, v42, hv.put 1 rfl rfl, ha.up rfl, hw⟩
  ·rintro D σ w hD hdep hcl ⟨v40, v42, hv, ha, hw⟩
   obtain ⟨τ, rfl⟩ := (ac (hv.at 0 rfl (hdep.1 rfl)) (ac (hv.at 1 rfl (hdep.2.1 rfl)) az)).ups
   have hw := hw.selF (i := 0) rfl hD
   refine RL.ia_rd (i := 2) trivial rfl hw rfl rfl rfl sl75 hx39 fun v43 hw => ?_
   have hw := hw.pick 5 [0, 2, 3, 4] (new := [pt v43 x39, bif D 6 then (pt v42 x41) else junk, rd v0 p0, rd v1 p1]) rfl rfl (by decide) (by decide)
   have hw := hw.altT (i := 0) (b := true) rfl rfl (junk)
   refine RL.nil ?_
   exact ⟨rfl, v43, v42, hv.put 2 rfl rfl, ha.up rfl, hw⟩
  ·rintro D σ w hD hdep hcl ⟨v40, v42, hv, ha, hw⟩
   obtain ⟨τ, rfl⟩ := (ac (hv.at 2 rfl (hdep.1 rfl)) az).ups
   have hw := hw.selT (i := 0) rfl (hdep.1 rfl)
   refine RL.load_pts (i := 0) (y := x39) trivial rfl hw rfl rfl ty3 ?_
   have hw := hw.altT (i := 0) (b := D 2) rfl (hdep.1 rfl) (junk)
   refine RL.nil ?_
   exact ⟨rfl, v40, v42, hv.put 3 rfl rfl, ha.up rfl, hw⟩
  ·rintro D σ w hD hdep hcl ⟨v40, v42, hv, ha, hw⟩
   obtain ⟨τ, rfl⟩ := (ac (ha.at 1 rfl) az).ups
   refine mv v1 rfl rfl ?_
   refine RL.nil ?_
   exact ⟨rfl, v40, v42, hv.put 4 rfl rfl, ha.up rfl, hw⟩
  ·rintro D σ w hD hdep hcl ⟨v40, v42, hv, ha, hw⟩
   obtain ⟨τ, rfl⟩ := (ac (ha.at 2 rfl) az).ups
   refine mv (vi (k31 : Int)) rfl rfl ?_
   refine RL.nil ?_
   exact ⟨rfl, v40, v42, hv.put 5 rfl rfl, ha.up rfl, hw⟩
  ·rintro D σ w hD hdep hcl ⟨v40, v42, hv, ha, hw⟩
   obtain ⟨τ, rfl⟩ := (ac (hv.at 4 rfl (hdep.1 rfl)) (ac (hv.at 5 rfl (hdep.2.1 rfl)) az)).ups
   have hw := hw.selF (i := 1) rfl hD
   refine RL.ia_rd (i := 3) trivial rfl hw rfl rfl rfl sl75 hx41 fun v44 hw => ?_
   have hw := hw.pick 5 [1, 0, 3, 4] (new := [bif D 2 then (pt v40 x39) else junk, pt v44 x41, rd v0 p0, rd v1 p1]) rfl rfl (by decide) (by decide)
   have hw := hw.altT (i := 1) (b := true) rfl rfl (junk)
   refine RL.nil ?_
   exact ⟨rfl, v40, v44, hv.put 6 rfl rfl, ha.up rfl, hw⟩
  ·rintro D σ w hD hdep hcl ⟨v40, v42, hv, ha, hw⟩
   obtain ⟨τ, rfl⟩ := (ac (hv.at 6 rfl (hdep.1 rfl)) az).ups
   have hw := hw.selT (i := 1) rfl (hdep.1 rfl)
   refine RL.load_pts (i := 1) (y := x41) trivial rfl hw rfl rfl ty3 ?_
   have hw := hw.altT (i := 1) (b := D 6) rfl (hdep.1 rfl) (junk)
   refine RL.nil ?_
   exact ⟨rfl, v40, v42, hv.put 7 rfl rfl, ha.up rfl, hw⟩
  ·rintro D σ w hD hdep hcl ⟨v40, v42, hv, ha, hw⟩
   obtain ⟨τ, rfl⟩ := (ac (hv.at 3 rfl (hdep.1 rfl)) (ac (hv.at 7 rfl (hdep.2.1 rfl)) az)).ups
   refine ic x39 x41 rfl rfl rfl rfl ?_
   refine RL.nil ?_
   exact ⟨rfl, v40, v42, hv.put 8 rfl rfl, ha.up rfl, hw⟩
  rintro D σ w hall ⟨v40, v42, hv, ha, hw⟩
  rw [hall 2 (by decide), hall 6 (by decide)] at hw
  obtain ⟨τ, rfl⟩ := (ac (hv.at 8 rfl (hall 8 (by decide))) (ac (ha.at 0 rfl) (ac (ha.at 1 rfl) (ac (ha.at 2 rfl) (ac (ha.at 3 rfl) (ac (ha.at 4 rfl) az)))))).ups
  refine thenQ_n ?_
  refine RC.cond (b := (x39 != x41)) rfl (fun hc => ?_) (fun hc => ?_)
  rotate_left
  ·replace hb := cF hc hb
   refine RC.skip ?_
   refine blkQ_n ?_
   refine thenQ_n ?_
   refine RC.region ?_
   refine RL.inc trivial rfl hk hm rfl rfl ?_
   refine mv (vi ((k31 + 1 : Nat) : Int)) rfl rfl ?_
   refine RL.nil ?_
   obtain rfl := oi hb
   exact ⟨rfl, ⟨rfl, rfl, rfl, rfl, trivial⟩, hw.pick 4 [2, 3] (new := [rd v0 p0, rd v1 p1]) rfl rfl (by decide) (by decide)⟩
  replace hb := cT hc hb
  refine RC.sr ?_
  refine as_ (vb false) rfl rfl ?_
  refine RL.nt ?_
  refine RC.rb ?_
  refine thenQ_r ?_
  obtain rfl := oi hb
  exact ⟨rfl, fin1 rfl rfl ⟨rfl, hw.drop 4 rfl⟩⟩
 ·intro r σ w e hK
  subst e
  refine thenQ_r ?_
  obtain rfl := oi hb
  exact hK
 intro s32 σ w e hJ
 subst e
 rw [Fo.cs_go] at hb
 obtain ⟨ha, hw⟩ := hJ
 obtain ⟨τ, rfl⟩ := ha.ups
 refine thenQ_n ?_
 refine RC.sr ?_
 refine as_ (vb true) rfl rfl ?_
 refine RL.nt ?_
 refine RC.ret ?_
 obtain rfl := oi hb
 exact fin1 rfl rfl ⟨rfl, hw.drop 2 rfl⟩
def shape_Set_push_R (E : World) (Γ : List HP) (res : (List shape_Band)) (v : Value) (w : World) : Prop := Holds E w (own 83 v res :: Γ)
def shape_Set_push_K (E : World) (Γ : List HP) (r : (List shape_Band)) (σ : Nat → Value) (w : World) : Prop := finQ Try.prog 54 Try.f37 (shape_Set_push_R E Γ r) .ret σ w
theorem shape_Set_push_ok (N : Nat) {E w : World} {Γ : List HP} {v0 : Value} {p0 : (List shape_Band)} {i1 : Nat} {v1 : Value} {p1 : shape_Band} {res : (List shape_Band)} (hw : Holds E w (own 83 v0 p0 :: Γ)) (h1 : Γ[i1]? = some (rd v1 p1)) (hb : shape_Set_push N p0 p1 = some res) :
    Calls Try.prog 37 [v0, v1].toArray w (Ret (shape_Set_push_R E Γ res)) := by
 unfold shape_Set_push at hb
 refine enter Try.func37 rfl rfl (Nat.le_of_ble_eq_true rfl) ?_
 have hw := hw.dup (i := i1 + 1) h1
 refine RC.sr ?_
 refine RL.box_rd (i := 0) (v := v1) trivial rfl hw rfl rfl fun b31 w hw => ?_
 refine as_ (.slice none 0 0) rfl rfl ?_
 refine RL.nq ?_
 refine RC.sr ?_
 refine RL.fa_b trivial rfl rfl fa83_2 ?_
 refine RL.load_bf (i := 0) (f := (fun x => x.Xs)) trivial rfl hw rfl rfl fd_shape_Band_2 ty75 fun v33 hw => ?_
 refine RL.len_rd (i := 0) (l := p1.Xs) trivial rfl hw rfl rfl un75 ?_
 refine ic ((p1.Xs.length : Int)) 0 rfl rfl rfl rfl ?_
 refine mv (vb ((p1.Xs.length : Int) == 0)) rfl rfl ?_
 refine RL.gs (c := true) (b := ((p1.Xs.length : Int) == 0)) (v := (vp b31 1)) rfl rfl rfl (gs_fa_b rfl (fun _ => rfl) fa83_1) ?_
 refine RL.gs (c := true) (b := ((p1.Xs.length : Int) == 0)) (v := (vi p1.Y1)) rfl rfl rfl (gs_load_bfs (i := 1) (f := (fun x => x.Y1)) rfl hw (fun h => by exact (cv_t h : cv (true && (((p1.Xs.length : Int) == 0) == false)) (vp b31 1) = (vp b31 1))) rfl fd_shape_Band_1 ty3) ?_
 refine RL.gs (c := true) (b := ((p1.Xs.length : Int) == 0)) (v := (vp b31 0)) rfl rfl rfl (gs_fa_b rfl (fun _ => rfl) fa83_0) ?_
 refine RL.gs (c := true) (b := ((p1.Xs.length : Int) == 0)) (v := (vi p1.Y0)) rfl rfl rfl (gs_load_bfs (i := 1) (f := (fun x => x.Y0)) rfl hw (fun h => by exact (cv_t h : cv (true && (((p1.Xs.length : Int) == 0) == false)) (vp b31 0) = (vp b31 0))) rfl fd_shape_Band_0 ty3) ?_
 refine RL.gs (c := true) (b := ((p1.Xs.length : Int) == 0)) (v := (vb (decide (p1.Y1 ≤ p1.Y0)))) rfl rfl rfl (gs_icmp (bop := .leq) (K := .i64) (a := p1.Y1) (b := p1.Y0) rfl (fun h => by exact (cv_t h : cv (true && (((p1.Xs.length : Int) == 0) == false)) (vi p1.Y1) = (vi p1.Y1))) (fun h => by exact (cv_t h : cv (true && (((p1.Xs.length : Int) == 0) == false)) (vi p1.Y0) = (vi p1.Y0))) rfl) ?_
 refine RL.pick (b := ((p1.Xs.length : Int) == 0)) (v := (vb (((p1.Xs.length : Int) == 0) || (decide (p1.Y1 ≤ p1.Y0))))) trivial rfl rfl (pk_or (c := true) rfl) ?_
 refine RL.nt ?_
 refine RC.cond (b := (((p1.Xs.length : Int) == 0) || (decide (p1.Y1 ≤ p1.Y0)))) rfl (fun hc => ?_) (fun hc => ?_)
 ·replace hb := cT hc hb
  refine RC.sr ?_
  refine mv v0 rfl rfl ?_
  refine as_ v0 rfl rfl ?_
  refine RL.nt ?_
  refine RC.rt ?_
  obtain rfl := oi hb
  exact fin1 rfl rfl (hw.pick 4 [3] (new := [own 83 v0 p0]) rfl rfl (by decide) (by decide))
 replace hb := cF hc hb
 refine RC.ss ?_
 refine RC.sr ?_
 refine mv v0 rfl rfl ?_
 refine RL.len_own (i := 3) (l := p0) trivial rfl hw rfl rfl un53 ?_
 refine RL.iar (a := (p0.length : Int)) (b := 1) trivial rfl rfl rfl rfl ?_
 refine as_ (vi (IntKind.wrap .i64 ((p0.length : Int) - 1))) rfl rfl ?_
 refine RL.nq ?_
 obtain ⟨s45, hj, hb⟩ := bd hb
 refine RC.jn (fun (s45 : Bool) (σ : Nat → Value) (w : World) => agree σ [(0, v0), (3, (vp b31 0)), (5, (vi (IntKind.wrap .i64 ((p0.length : Int) - 1)))), (42, (vb s45))] ∧ Holds E w ([own 83 v0 p0, bx 83 b31 p1] ++ Γ)) s45 ?_ ?_
 ·rcases Bool.eq_false_or_eq_true (decide ((IntKind.wrap .i64 ((p0.length : Int) - 1)) ≥ 0)) with hg46 | hg46
  rotate_left
  ·replace hj := cF hg46 hj
   refine RC.drw mixed rfl (fun (D : Nat → Bool) (σ : Nat → Value) (w : World) => doneV D σ [(0, 21, (vi (IntKind.wrap .i64 ((p0.length : Int) - 1)))), (1, 22, (vb (decide ((IntKind.wrap .i64 ((p0.length : Int) - 1)) ≥ 0)))), (2, 23, (vb (decide ((IntKind.wrap .i64 ((p0.length : Int) - 1)) ≥ 0)))), (3, 24, undef), (4, 25, undef), (5, 26, undef), (6, 27, undef), (7, 28, undef), (8, 29, undef), (9, 30, undef), (10, 31, undef), (11, 32, (vb false)), (12, 33, (vb false)), (13, 34, undef), (14, 35, undef), (15, 36, undef), (16, 37, undef), (17, 38, undef), (18, 39, undef), (19, 40, undef), (20, 41, undef), (21, 42, (vb false))] ∧ agree σ [(0, v0), (3, (vp b31 0)), (5, (vi (IntKind.wrap .i64 ((p0.length : Int) - 1))))] ∧ Holds E w ([rd v33 p1.Xs, bx 83 b31 p1, rd v1 p1, own 83 v0 p0] ++ Γ)) ?_ ⟨?_, ?_, ?_, ?_, ?_, ?_, ?_, ?_, ?_, ?_, ?_, ?_, ?_, ?_, ?_, ?_, ?_, ?_, ?_, ?_, ?_, ?_, trivial⟩ ?_
   ·have hw := hw.drew
    exact ⟨doneV.none, ⟨rfl, rfl, rfl, trivial⟩, hw⟩
   ·rintro D σ w hD hdep hcl ⟨hv, ha, hw⟩
    obtain ⟨τ, rfl⟩ := (ac (ha.at 2 rfl) az).ups
    refine mv (vi (IntKind.wrap .i64 ((p0.length : Int) - 1))) rfl rfl ?_
    refine RL.nil ?_
    exact ⟨rfl, hv.put 0 rfl rfl, ha.up rfl, hw⟩
   ·rintro D σ w hD hdep hcl ⟨hv, ha, hw⟩
    obtain ⟨τ, rfl⟩ := (ac (hv.at 0 rfl (hdep.1 rfl)) az).ups
    refine ic ((IntKind.wrap .i64 ((p0.length : Int) - 1))) 0 rfl rfl rfl rfl ?_
    refine RL.nil ?_
    exact ⟨rfl, hv.put 1 rfl rfl, ha.up rfl, hw⟩
   ·rintro D σ w hD hdep hcl ⟨hv, ha, hw⟩
    obtain ⟨τ, rfl⟩ := (ac (hv.at 1 rfl (hdep.1 rfl)) az).ups
    refine mv (vb (decide ((IntKind.wrap .i64 ((p0.length : Int) - 1)) ≥ 0))) rfl rfl ?_
    refine RL.nil ?_
    exact ⟨rfl, hv.put 2 rfl rfl, ha.up rfl, hw⟩
   ·rintro D σ w hD hdep hcl ⟨hv, ha, hw⟩
    obtain ⟨τ, rfl⟩ := (ac (hv.at 2 rfl (hdep.1 rfl)) (ac (ha.at 0 rfl) az)).ups
    refine sk rfl (.inl (cb hg46)) rfl ?_
    refine RL.nil ?_
    exact ⟨rfl, hv.put 3 rfl rfl, ha.up rfl, hw⟩
   ·rintro D σ w hD hdep hcl ⟨hv, ha, hw⟩
    obtain ⟨τ, rfl⟩ := (ac (hv.at 2 rfl (hdep.1 rfl)) (ac (ha.at 2 rfl) az)).ups
    refine sk rfl (.inl (cb hg46)) rfl ?_
    refine RL.nil ?_
    exact ⟨rfl, hv.put 4 rfl rfl, ha.up rfl, hw⟩
   ·rintro D σ w hD hdep hcl ⟨hv, ha, hw⟩
    obtain ⟨τ, rfl⟩ := (ac (hv.at 2 rfl (hdep.2.2.1 rfl)) (ac (hv.at 3 rfl (hdep.1 rfl)) (ac (hv.at 4 rfl (hdep.2.1 rfl)) az))).ups
    refine sk rfl (.inl (cb hg46)) rfl ?_
    refine RL.nil ?_
    exact ⟨rfl, hv.put 5 rfl rfl, ha.up rfl, hw⟩
   ·rintro D σ w hD hdep hcl ⟨hv, ha, hw⟩
    obtain ⟨τ, rfl⟩ := (ac (hv.at 2 rfl (hdep.2.1 rfl)) (ac (hv.at 5 rfl (hdep.1 rfl)) az)).ups
    refine sk rfl (.inl (cb hg46)) rfl ?_
    refine RL.nil ?_
    exact ⟨rfl, hv.put 6 rfl rfl, ha.up rfl, hw⟩
   ·rintro D σ w hD hdep hcl ⟨hv, ha, hw⟩
    obtain ⟨τ, rfl⟩ := (ac (hv.at 2 rfl (hdep.2.1 rfl)) (ac (hv.at 6 rfl (hdep.1 rfl)) az)).ups
    refine sk rfl (.inl (cb hg46)) rfl ?_
    refine RL.nil ?_
    exact ⟨rfl, hv.put 7 rfl rfl, ha.up rfl, hw⟩
   ·rintro D σ w hD hdep hcl ⟨hv, ha, hw⟩
    obtain ⟨τ, rfl⟩ := (ac (hv.at 2 rfl (hdep.1 rfl)) (ac (ha.at 1 rfl) az)).ups
    refine sk rfl (.inl (cb hg46)) rfl ?_
    refine RL.nil ?_
    exact ⟨rfl, hv.put 8 rfl rfl, ha.up rfl, hw⟩
   ·rintro D σ w hD hdep hcl ⟨hv, ha, hw⟩
    obtain ⟨τ, rfl⟩ := (ac (hv.at 2 rfl (hdep.2.1 rfl)) (ac (hv.at 8 rfl (hdep.1 rfl)) az)).ups
    refine sk rfl (.inl (cb hg46)) rfl ?_
    refine RL.nil ?_
    exact ⟨rfl, hv.put 9 rfl rfl, ha.up rfl, hw⟩
   ·rintro D σ w hD hdep hcl ⟨hv, ha, hw⟩
    obtain ⟨τ, rfl⟩ := (ac (hv.at 2 rfl (hdep.2.2.1 rfl)) (ac (hv.at 7 rfl (hdep.1 rfl)) (ac (hv.at 9 rfl (hdep.2.1 rfl)) az))).ups
    refine sk rfl (.inl (cb hg46)) rfl ?_
    refine RL.nil ?_
    exact ⟨rfl, hv.put 10 rfl rfl, ha.up rfl, hw⟩
   ·rintro D σ w hD hdep hcl ⟨hv, ha, hw⟩
    obtain ⟨τ, rfl⟩ := (ac (hv.at 2 rfl (hdep.1 rfl)) (ac (hv.at 10 rfl (hdep.2.1 rfl)) az)).ups
    refine RL.pick (b := (decide ((IntKind.wrap .i64 ((p0.length : Int) - 1)) ≥ 0))) (v := (vb false)) trivial rfl rfl (by rw [hg46]; rfl) ?_
    refine RL.nil ?_
    exact ⟨rfl, hv.put 11 rfl rfl, ha.up rfl, hw⟩
   ·rintro D σ w hD hdep hcl ⟨hv, ha, hw⟩
    obtain ⟨τ, rfl⟩ := (ac (hv.at 11 rfl (hdep.1 rfl)) az).ups
    refine mv (vb false) rfl rfl ?_
    refine RL.nil ?_
    exact ⟨rfl, hv.put 12 rfl rfl, ha.up rfl, hw⟩
   ·rintro D σ w hD hdep hcl ⟨hv, ha, hw⟩
    obtain ⟨τ, rfl⟩ := (ac (hv.at 12 rfl (hdep.1 rfl)) (ac (ha.at 0 rfl) az)).ups
    refine sk rfl (.inl rfl) rfl ?_
    refine RL.nil ?_
    exact ⟨rfl, hv.put 13 rfl rfl, ha.up rfl, hw⟩
   ·rintro D σ w hD hdep hcl ⟨hv, ha, hw⟩
    obtain ⟨τ, rfl⟩ := (ac (hv.at 12 rfl (hdep.1 rfl)) (ac (ha.at 2 rfl) az)).ups
    refine sk rfl (.inl rfl) rfl ?_
    refine RL.nil ?_
    exact ⟨rfl, hv.put 14 rfl rfl, ha.up rfl, hw⟩
   ·rintro D σ w hD hdep hcl ⟨hv, ha, hw⟩
    obtain ⟨τ, rfl⟩ := (ac (hv.at 12 rfl (hdep.2.2.1 rfl)) (ac (hv.at 13 rfl (hdep.1 rfl)) (ac (hv.at 14 rfl (hdep.2.1 rfl)) az))).ups
    refine sk rfl (.inl rfl) rfl ?_
    refine RL.nil ?_
    exact ⟨rfl, hv.put 15 rfl rfl, ha.up rfl, hw⟩
   ·rintro D σ w hD hdep hcl ⟨hv, ha, hw⟩
    obtain ⟨τ, rfl⟩ := (ac (hv.at 12 rfl (hdep.2.1 rfl)) (ac (hv.at 15 rfl (hdep.1 rfl)) az)).ups
    refine sk rfl (.inl rfl) rfl ?_
    refine RL.nil ?_
    exact ⟨rfl, hv.put 16 rfl rfl, ha.up rfl, hw⟩
   ·rintro D σ w hD hdep hcl ⟨hv, ha, hw⟩
    obtain ⟨τ, rfl⟩ := (ac (hv.at 12 rfl (hdep.2.1 rfl)) (ac (hv.at 16 rfl (hdep.1 rfl)) az)).ups
    refine sk rfl (.inl rfl) rfl ?_
    refine RL.nil ?_
    exact ⟨rfl, hv.put 17 rfl rfl, ha.up rfl, hw⟩
   ·rintro D σ w hD hdep hcl ⟨hv, ha, hw⟩
    obtain ⟨τ, rfl⟩ := (ac (hv.at 12 rfl (hdep.1 rfl)) (ac (ha.at 1 rfl) az)).ups
    refine sk rfl (.inl rfl) rfl ?_
    refine RL.nil ?_
    exact ⟨rfl, hv.put 18 rfl rfl, ha.up rfl, hw⟩
   ·rintro D σ w hD hdep hcl ⟨hv, ha, hw⟩
    obtain ⟨τ, rfl⟩ := (ac (hv.at 12 rfl (hdep.2.1 rfl)) (ac (hv.at 18 rfl (hdep.1 rfl)) az)).ups
    refine sk rfl (.inl rfl) rfl ?_
    refine RL.nil ?_
    exact ⟨rfl, hv.put 19 rfl rfl, ha.up rfl, hw⟩
   ·rintro D σ w hD hdep hcl ⟨hv, ha, hw⟩
    obtain ⟨τ, rfl⟩ := (ac (hv.at 12 rfl (hdep.2.2.1 rfl)) (ac (hv.at 17 rfl (hdep.1 rfl)) (ac (hv.at 19 rfl (hdep.2.1 rfl)) az))).ups
    refine sk rfl (.inl rfl) rfl ?_
    refine RL.nil ?_
    exact ⟨rfl, hv.put 20 rfl rfl, ha.up rfl, hw⟩
   ·rintro D σ w hD hdep hcl ⟨hv, ha, hw⟩
    obtain ⟨τ, rfl⟩ := (ac (hv.at 12 rfl (hdep.1 rfl)) (ac (hv.at 20 rfl (hdep.2.1 rfl)) az)).ups
    refine RL.pick (b := false) (v := (vb false)) trivial rfl rfl rfl ?_
    refine RL.nil ?_
    exact ⟨rfl, hv.put 21 rfl rfl, ha.up rfl, hw⟩
   rintro D σ w hall ⟨hv, ha, hw⟩
   obtain ⟨τ, rfl⟩ := (ac (hv.at 21 rfl (hall 21 (by decide))) (ac (ha.at 0 rfl) (ac (ha.at 1 rfl) (ac (ha.at 2 rfl) az)))).ups
   obtain rfl := oi hj
   exact ⟨rfl, ⟨rfl, rfl, rfl, rfl, trivial⟩, hw.pick 4 [3, 1] (new := [own 83 v0 p0, bx 83 b31 p1]) rfl rfl (by decide) (by decide)⟩
  replace hj := cT hg46 hj
  obtain ⟨x47, hx47, hj⟩ := bd hj
  rcases Bool.eq_false_or_eq_true (x47.Y1 == p1.Y0) with hg48 | hg48
  rotate_left
  ·replace hj := cF hg48 hj
   refine RC.drw mixed rfl (fun (D : Nat → Bool) (σ : Nat → Value) (w : World) => doneV D σ [(0, 21, (vi (IntKind.wrap .i64 ((p0.length : Int) - 1)))), (1, 22, (vb (decide ((IntKind.wrap .i64 ((p0.length : Int) - 1)) ≥ 0)))), (2, 23, (vb (decide ((IntKind.wrap .i64 ((p0.length : Int) - 1)) ≥ 0)))), (3, 24, v0), (4, 25, (vi (IntKind.wrap .i64 ((p0.length : Int) - 1)))), (5, 26, (elA v0 (Int.toNat (IntKind.wrap .i64 ((p0.length : Int) - 1))) 3 0)), (6, 27, (elA v0 (Int.toNat (IntKind.wrap .i64 ((p0.length : Int) - 1))) 3 1)), (7, 28, (vi x47.Y1)), (8, 29, (vp b31 0)), (9, 30, (vi p1.Y0)), (10, 31, (vb (x47.Y1 == p1.Y0))), (11, 32, (vb (x47.Y1 == p1.Y0))), (12, 33, (vb (x47.Y1 == p1.Y0))), (13, 34, undef), (14, 35, undef), (15, 36, undef), (16, 37, undef), (17, 38, undef), (18, 39, undef), (19, 40, undef), (20, 41, undef), (21, 42, (vb false))] ∧ agree σ [(0, v0), (3, (vp b31 0)), (5, (vi (IntKind.wrap .i64 ((p0.length : Int) - 1))))] ∧ Holds E w ([rd v33 p1.Xs, bx 83 b31 p1, rd v1 p1, own 83 v0 p0] ++ Γ)) ?_ ⟨?_, ?_, ?_, ?_, ?_, ?_, ?_, ?_, ?_, ?_, ?_, ?_, ?_, ?_, ?_, ?_, ?_, ?_, ?_, ?_, ?_, ?_, trivial⟩ ?_
   ·have hw := hw.drew
    exact ⟨doneV.none, ⟨rfl, rfl, rfl, trivial⟩, hw⟩
   ·rintro D σ w hD hdep hcl ⟨hv, ha, hw⟩
    obtain ⟨τ, rfl⟩ := (ac (ha.at 2 rfl) az).ups
    refine mv (vi (IntKind.wrap .i64 ((p0.length : Int) - 1))) rfl rfl ?_
    refine RL.nil ?_
    exact ⟨rfl, hv.put 0 rfl rfl, ha.up rfl, hw⟩
   ·rintro D σ w hD hdep hcl ⟨hv, ha, hw⟩
    obtain ⟨τ, rfl⟩ := (ac (hv.at 0 rfl (hdep.1 rfl)) az).ups
    refine ic ((IntKind.wrap .i64 ((p0.length : Int) - 1))) 0 rfl rfl rfl rfl ?_
    refine RL.nil ?_
    exact ⟨rfl, hv.put 1 rfl rfl, ha.up rfl, hw⟩
   ·rintro D σ w hD hdep hcl ⟨hv, ha, hw⟩
    obtain ⟨τ, rfl⟩ := (ac (hv.at 1 rfl (hdep.1 rfl)) az).ups
    refine mv (vb (decide ((IntKind.wrap .i64 ((p0.length : Int) - 1)) ≥ 0))) rfl rfl ?_
    refine RL.nil ?_
    exact ⟨rfl, hv.put 2 rfl rfl, ha.up rfl, hw⟩
   ·rintro D σ w hD hdep hcl ⟨hv, ha, hw⟩
    obtain ⟨τ, rfl⟩ := (ac (hv.at 2 rfl (hdep.1 rfl)) (ac (ha.at 0 rfl) az)).ups
    refine RL.move (v := v0) ⟨_, rfl, cb hg46⟩ rfl rfl ?_
    refine RL.nil ?_
    exact ⟨rfl, hv.put 3 rfl rfl, ha.up rfl, hw⟩
   ·rintro D σ w hD hdep hcl ⟨hv, ha, hw⟩
    obtain ⟨τ, rfl⟩ := (ac (hv.at 2 rfl (hdep.1 rfl)) (ac (ha.at 2 rfl) az)).ups
    refine RL.move (v := (vi (IntKind.wrap .i64 ((p0.length : Int) - 1)))) ⟨_, rfl, cb hg46⟩ rfl rfl ?_
    refine RL.nil ?_
    exact ⟨rfl, hv.put 4 rfl rfl, ha.up rfl, hw⟩
   ·rintro D σ w hD hdep hcl ⟨hv, ha, hw⟩
    obtain ⟨τ, rfl⟩ := (ac (hv.at 2 rfl (hdep.2.2.1 rfl)) (ac (hv.at 3 rfl (hdep.1 rfl)) (ac (hv.at 4 rfl (hdep.2.1 rfl)) az))).ups
    refine RL.ia_ownA (i := 3) ⟨_, rfl, cb hg46⟩ rfl hw rfl rfl rfl sl53 hx47 ?_
    refine RL.nil ?_
    exact ⟨rfl, hv.put 5 rfl rfl, ha.up rfl, hw⟩
   ·rintro D σ w hD hdep hcl ⟨hv, ha, hw⟩
    obtain ⟨τ, rfl⟩ := (ac (hv.at 2 rfl (hdep.2.1 rfl)) (ac (hv.at 5 rfl (hdep.1 rfl)) az)).ups
    refine RL.fa_elA (α := shape_Band) ⟨_, rfl, cb hg46⟩ rfl rfl (elp hw (i := 3) rfl hx47 0) fa83_1 ?_
    refine RL.nil ?_
    exact ⟨rfl, hv.put 6 rfl rfl, ha.up rfl, hw⟩
   ·rintro D σ w hD hdep hcl ⟨hv, ha, hw⟩
    obtain ⟨τ, rfl⟩ := (ac (hv.at 2 rfl (hdep.2.1 rfl)) (ac (hv.at 6 rfl (hdep.1 rfl)) az)).ups
    refine RL.load_els (i := 3) (f := (fun x => x.Y1)) ⟨_, rfl, cb hg46⟩ rfl hw rfl (elp hw (i := 3) rfl hx47 1) rfl (idx_some hx47).2.1 fd_shape_Band_1 ty3 ?_
    refine RL.nil ?_
    exact ⟨rfl, hv.put 7 rfl rfl, ha.up rfl, hw⟩
   ·rintro D σ w hD hdep hcl ⟨hv, ha, hw⟩
    obtain ⟨τ, rfl⟩ := (ac (hv.at 2 rfl (hdep.1 rfl)) (ac (ha.at 1 rfl) az)).ups
    refine RL.fa_b ⟨_, rfl, cb hg46⟩ rfl rfl fa83_0 ?_
    refine RL.nil ?_
    exact ⟨rfl, hv.put 8 rfl rfl, ha.up rfl, hw⟩
   ·rintro D σ w hD hdep hcl ⟨hv, ha, hw⟩
    obtain ⟨τ, rfl⟩ := (ac (hv.at 2 rfl (hdep.2.1 rfl)) (ac (hv.at 8 rfl (hdep.1 rfl)) az)).ups
    refine RL.load_bfs (i := 1) (f := (fun x => x.Y0)) ⟨_, rfl, cb hg46⟩ rfl hw rfl rfl fd_shape_Band_0 ty3 ?_
    refine RL.nil ?_
    exact ⟨rfl, hv.put 9 rfl rfl, ha.up rfl, hw⟩
   ·rintro D σ w hD hdep hcl ⟨hv, ha, hw⟩
    obtain ⟨τ, rfl⟩ := (ac (hv.at 2 rfl (hdep.2.2.1 rfl)) (ac (hv.at 7 rfl (hdep.1 rfl)) (ac (hv.at 9 rfl (hdep.2.1 rfl)) az))).ups
    refine RL.icmp (a := x47.Y1) (b := p1.Y0) ⟨_, rfl, cb hg46⟩ rfl rfl rfl rfl ?_
    refine RL.nil ?_
    exact ⟨rfl, hv.put 10 rfl rfl, ha.up rfl, hw⟩
   ·rintro D σ w hD hdep hcl ⟨hv, ha, hw⟩
    obtain ⟨τ, rfl⟩ := (ac (hv.at 2 rfl (hdep.1 rfl)) (ac (hv.at 10 rfl (hdep.2.1 rfl)) az)).ups
    refine RL.pick (b := (decide ((IntKind.wrap .i64 ((p0.length : Int) - 1)) ≥ 0))) (v := (vb (x47.Y1 == p1.Y0))) trivial rfl rfl (by rw [hg46]; rfl) ?_
    refine RL.nil ?_
    exact ⟨rfl, hv.put 11 rfl rfl, ha.up rfl, hw⟩
   ·rintro D σ w hD hdep hcl ⟨hv, ha, hw⟩
    obtain ⟨τ, rfl⟩ := (ac (hv.at 11 rfl (hdep.1 rfl)) az).ups
    refine mv (vb (x47.Y1 == p1.Y0)) rfl rfl ?_
    refine RL.nil ?_
    exact ⟨rfl, hv.put 12 rfl rfl, ha.up rfl, hw⟩
   ·rintro D σ w hD hdep hcl ⟨hv, ha, hw⟩
    obtain ⟨τ, rfl⟩ := (ac (hv.at 12 rfl (hdep.1 rfl)) (ac (ha.at 0 rfl) az)).ups
    refine sk rfl (.inl (cb hg48)) rfl ?_
    refine RL.nil ?_
    exact ⟨rfl, hv.put 13 rfl rfl, ha.up rfl, hw⟩
   ·rintro D σ w hD hdep hcl ⟨hv, ha, hw⟩
    obtain ⟨τ, rfl⟩ := (ac (hv.at 12 rfl (hdep.1 rfl)) (ac (ha.at 2 rfl) az)).ups
    refine sk rfl (.inl (cb hg48)) rfl ?_
    refine RL.nil ?_
    exact ⟨rfl, hv.put 14 rfl rfl, ha.up rfl, hw⟩
   ·rintro D σ w hD hdep hcl ⟨hv, ha, hw⟩
    obtain ⟨τ, rfl⟩ := (ac (hv.at 12 rfl (hdep.2.2.1 rfl)) (ac (hv.at 13 rfl (hdep.1 rfl)) (ac (hv.at 14 rfl (hdep.2.1 rfl)) az))).ups
    refine sk rfl (.inl (cb hg48)) rfl ?_
    refine RL.nil ?_
    exact ⟨rfl, hv.put 15 rfl rfl, ha.up rfl, hw⟩
   ·rintro D σ w hD hdep hcl ⟨hv, ha, hw⟩
    obtain ⟨τ, rfl⟩ := (ac (hv.at 12 rfl (hdep.2.1 rfl)) (ac (hv.at 15 rfl (hdep.1 rfl)) az)).ups
    refine sk rfl (.inl (cb hg48)) rfl ?_
    refine RL.nil ?_
    exact ⟨rfl, hv.put 16 rfl rfl, ha.up rfl, hw⟩
   ·rintro D σ w hD hdep hcl ⟨hv, ha, hw⟩
    obtain ⟨τ, rfl⟩ := (ac (hv.at 12 rfl (hdep.2.1 rfl)) (ac (hv.at 16 rfl (hdep.1 rfl)) az)).ups
    refine sk rfl (.inl (cb hg48)) rfl ?_
    refine RL.nil ?_
    exact ⟨rfl, hv.put 17 rfl rfl, ha.up rfl, hw⟩
   ·rintro D σ w hD hdep hcl ⟨hv, ha, hw⟩
    obtain ⟨τ, rfl⟩ := (ac (hv.at 12 rfl (hdep.1 rfl)) (ac (ha.at 1 rfl) az)).ups
    refine sk rfl (.inl (cb hg48)) rfl ?_
    refine RL.nil ?_
    exact ⟨rfl, hv.put 18 rfl rfl, ha.up rfl, hw⟩
   ·rintro D σ w hD hdep hcl ⟨hv, ha, hw⟩
    obtain ⟨τ, rfl⟩ := (ac (hv.at 12 rfl (hdep.2.1 rfl)) (ac (hv.at 18 rfl (hdep.1 rfl)) az)).ups
    refine sk rfl (.inl (cb hg48)) rfl ?_
    refine RL.nil ?_
    exact ⟨rfl, hv.put 19 rfl rfl, ha.up rfl, hw⟩
   ·rintro D σ w hD hdep hcl ⟨hv, ha, hw⟩
    obtain ⟨τ, rfl⟩ := (ac (hv.at 12 rfl (hdep.2.2.1 rfl)) (ac (hv.at 17 rfl (hdep.1 rfl)) (ac (hv.at 19 rfl (hdep.2.1 rfl)) az))).ups
    refine sk rfl (.inl (cb hg48)) rfl ?_
    refine RL.nil ?_
    exact ⟨rfl, hv.put 20 rfl rfl, ha.up rfl, hw⟩
   ·rintro D σ w hD hdep hcl ⟨hv, ha, hw⟩
    obtain ⟨τ, rfl⟩ := (ac (hv.at 12 rfl (hdep.1 rfl)) (ac (hv.at 20 rfl (hdep.2.1 rfl)) az)).ups
    refine RL.pick (b := (x47.Y1 == p1.Y0)) (v := (vb false)) trivial rfl rfl (by rw [hg48]; rfl) ?_
    refine RL.nil ?_
    exact ⟨rfl, hv.put 21 rfl rfl, ha.up rfl, hw⟩
   rintro D σ w hall ⟨hv, ha, hw⟩
   obtain ⟨τ, rfl⟩ := (ac (hv.at 21 rfl (hall 21 (by decide))) (ac (ha.at 0 rfl) (ac (ha.at 1 rfl) (ac (ha.at 2 rfl) az)))).ups
   obtain rfl := oi hj
   exact ⟨rfl, ⟨rfl, rfl, rfl, rfl, trivial⟩, hw.pick 4 [3, 1] (new := [own 83 v0 p0, bx 83 b31 p1]) rfl rfl (by decide) (by decide)⟩
  replace hj := cT hg48 hj
  obtain ⟨x49, hx49, hj⟩ := bd hj
  obtain ⟨x52, hx52, hj⟩ := bd hj
  refine RC.drw mixed rfl (fun (D : Nat → Bool) (σ : Nat → Value) (w : World) => ∃ (v50 : Value) (v51 : Value), doneV D σ [(0, 21, (vi (IntKind.wrap .i64 ((p0.length : Int) - 1)))), (1, 22, (vb (decide ((IntKind.wrap .i64 ((p0.length : Int) - 1)) ≥ 0)))), (2, 23, (vb (decide ((IntKind.wrap .i64 ((p0.length : Int) - 1)) ≥ 0)))), (3, 24, v0), (4, 25, (vi (IntKind.wrap .i64 ((p0.length : Int) - 1)))), (5, 26, (elA v0 (Int.toNat (IntKind.wrap .i64 ((p0.length : Int) - 1))) 3 0)), (6, 27, (elA v0 (Int.toNat (IntKind.wrap .i64 ((p0.length : Int) - 1))) 3 1)), (7, 28, (vi x47.Y1)), (8, 29, (vp b31 0)), (9, 30, (vi p1.Y0)), (10, 31, (vb (x47.Y1 == p1.Y0))), (11, 32, (vb (x47.Y1 == p1.Y0))), (12, 33, (vb (x47.Y1 == p1.Y0))), (13, 34, v0), (14, 35, (vi (IntKind.wrap .i64 ((p0.length : Int) - 1)))), (15, 36, (elA v0 (Int.toNat (IntKind.wrap .i64 ((p0.length : Int) - 1))) 3 0)), (16, 37, (elA v0 (Int.toNat (IntKind.wrap .i64 ((p0.length : Int) - 1))) 3 2)), (17, 38, v50), (18, 39, (vp b31 2)), (19, 40, v51), (20, 41, (vb x52)), (21, 42, (vb x52))] ∧ agree σ [(0, v0), (3, (vp b31 0)), (5, (vi (IntKind.wrap .i64 ((p0.length : Int) - 1))))] ∧ Holds E w ([bif D 17 then (rd v50 x49.Xs) else junk, bif D 19 then (rd v51 p1.Xs) else junk, rd v33 p1.Xs, bx 83 b31 p1, rd v1 p1, own 83 v0 p0] ++ Γ)) ?_ ⟨?_, ?_, ?_, ?_, ?_, ?_, ?_, ?_, ?_, ?_, ?_, ?_, ?_, ?_, ?_, ?_, ?_, ?_, ?_, ?_, ?_, ?_, trivial⟩ ?_
  ·have hw := hw.drew
   have hw := hw.junk
   have hw := hw.junk
   exact ⟨undef, undef, doneV.none, ⟨rfl, rfl, rfl, trivial⟩, hw⟩
  ·rintro D σ w hD hdep hcl ⟨v50, v51, hv, ha, hw⟩
   obtain ⟨τ, rfl⟩ := (ac (ha.at 2 rfl) az).ups
   refine mv (vi (IntKind.wrap .i64 ((p0.length : Int) - 1))) rfl rfl ?_
   refine RL.nil ?_
   exact ⟨rfl, v50, v51, hv.put 0 rfl rfl, ha.up rfl, hw⟩
  ·rintro D σ w hD hdep hcl ⟨v50, v51, hv, ha, hw⟩
   obtain ⟨τ, rfl⟩ := (ac (hv.at 0 rfl (hdep.1 rfl)) az).ups
   refine ic ((IntKind.wrap .i64 ((p0.length : Int) - 1))) 0 rfl rfl rfl rfl ?_
   refine RL.nil ?_
   exact ⟨rfl, v50, v51, hv.put 1 rfl rfl, ha.up rfl, hw⟩
  ·rintro D σ w hD hdep hcl ⟨v50, v51, hv, ha, hw⟩
   obtain ⟨τ, rfl⟩ := (ac (hv.at 1 rfl (hdep.1 rfl)) az).ups
   refine mv (vb (decide ((IntKind.wrap .i64 ((p0.length : Int) - 1)) ≥ 0))) rfl rfl ?_
   refine RL.nil ?_
   exact ⟨rfl, v50, v51, hv.put 2 rfl rfl, ha.up rfl, hw⟩
  ·rintro D σ w hD hdep hcl ⟨v50, v51, hv, ha, hw⟩
   obtain ⟨τ, rfl⟩ := (ac (hv.at 2 rfl (hdep.1 rfl)) (ac (ha.at 0 rfl) az)).ups
   refine RL.move (v := v0) ⟨_, rfl, cb hg46⟩ rfl rfl ?_
   refine RL.nil ?_
   exact ⟨rfl, v50, v51, hv.put 3 rfl rfl, ha.up rfl, hw⟩
  ·rintro D σ w hD hdep hcl ⟨v50, v51, hv, ha, hw⟩
   obtain ⟨τ, rfl⟩ := (ac (hv.at 2 rfl (hdep.1 rfl)) (ac (ha.at 2 rfl) az)).ups
   refine RL.move (v := (vi (IntKind.wrap .i64 ((p0.length : Int) - 1)))) ⟨_, rfl, cb hg46⟩ rfl rfl ?_
   refine RL.nil ?_
   exact ⟨rfl, v50, v51, hv.put 4 rfl rfl, ha.up rfl, hw⟩
  ·rintro D σ w hD hdep hcl ⟨v50, v51, hv, ha, hw⟩
   obtain ⟨τ, rfl⟩ := (ac (hv.at 2 rfl (hdep.2.2.1 rfl)) (ac (hv.at 3 rfl (hdep.1 rfl)) (ac (hv.at 4 rfl (hdep.2.1 rfl)) az))).ups
   refine RL.ia_ownA (i := 5) ⟨_, rfl, cb hg46⟩ rfl hw rfl rfl rfl sl53 hx47 ?_
   refine RL.nil ?_
   exact ⟨rfl, v50, v51, hv.put 5 rfl rfl, ha.up rfl, hw⟩
  ·rintro D σ w hD hdep hcl ⟨v50, v51, hv, ha, hw⟩
   obtain ⟨τ, rfl⟩ := (ac (hv.at 2 rfl (hdep.2.1 rfl)) (ac (hv.at 5 rfl (hdep.1 rfl)) az)).ups
   refine RL.fa_elA (α := shape_Band) ⟨_, rfl, cb hg46⟩ rfl rfl (elp hw (i := 5) rfl hx47 0) fa83_1 ?_
   refine RL.nil ?_
   exact ⟨rfl, v50, v51, hv.put 6 rfl rfl, ha.up rfl, hw⟩
  ·rintro D σ w hD hdep hcl ⟨v50, v51, hv, ha, hw⟩
   obtain ⟨τ, rfl⟩ := (ac (hv.at 2 rfl (hdep.2.1 rfl)) (ac (hv.at 6 rfl (hdep.1 rfl)) az)).ups
   refine RL.load_els (i := 5) (f := (fun x => x.Y1)) ⟨_, rfl, cb hg46⟩ rfl hw rfl (elp hw (i := 5) rfl hx47 1) rfl (idx_some hx47).2.1 fd_shape_Band_1 ty3 ?_
   refine RL.nil ?_
   exact ⟨rfl, v50, v51, hv.put 7 rfl rfl, ha.up rfl, hw⟩
  ·rintro D σ w hD hdep hcl ⟨v50, v51, hv, ha, hw⟩
   obtain ⟨τ, rfl⟩ := (ac (hv.at 2 rfl (hdep.1 rfl)) (ac (ha.at 1 rfl) az)).ups
   refine RL.fa_b ⟨_, rfl, cb hg46⟩ rfl rfl fa83_0 ?_
   refine RL.nil ?_
   exact ⟨rfl, v50, v51, hv.put 8 rfl rfl, ha.up rfl, hw⟩
  ·rintro D σ w hD hdep hcl ⟨v50, v51, hv, ha, hw⟩
   obtain ⟨τ, rfl⟩ := (ac (hv.at 2 rfl (hdep.2.1 rfl)) (ac (hv.at 8 rfl (hdep.1 rfl)) az)).ups
   refine RL.load_bfs (i := 3) (f := (fun x => x.Y0)) ⟨_, rfl, cb hg46⟩ rfl hw rfl rfl fd_shape_Band_0 ty3 ?_
   refine RL.nil ?_
   exact ⟨rfl, v50, v51, hv.put 9 rfl rfl, ha.up rfl, hw⟩
  ·rintro D σ w hD hdep hcl ⟨v50, v51, hv, ha, hw⟩
   obtain ⟨τ, rfl⟩ := (ac (hv.at 2 rfl (hdep.2.2.1 rfl)) (ac (hv.at 7 rfl (hdep.1 rfl)) (ac (hv.at 9 rfl (hdep.2.1 rfl)) az))).ups
   refine RL.icmp (a := x47.Y1) (b := p1.Y0) ⟨_, rfl, cb hg46⟩ rfl rfl rfl rfl ?_
   refine RL.nil ?_
   exact ⟨rfl, v50, v51, hv.put 10 rfl rfl, ha.up rfl, hw⟩
  ·rintro D σ w hD hdep hcl ⟨v50, v51, hv, ha, hw⟩
   obtain ⟨τ, rfl⟩ := (ac (hv.at 2 rfl (hdep.1 rfl)) (ac (hv.at 10 rfl (hdep.2.1 rfl)) az)).ups
   refine RL.pick (b := (decide ((IntKind.wrap .i64 ((p0.length : Int) - 1)) ≥ 0))) (v := (vb (x47.Y1 == p1.Y0))) trivial rfl rfl (by rw [hg46]; rfl) ?_
   refine RL.nil ?_
   exact ⟨rfl, v50, v51, hv.put 11 rfl rfl, ha.up rfl, hw⟩
  ·rintro D σ w hD hdep hcl ⟨v50, v51, hv, ha, hw⟩
   obtain ⟨τ, rfl⟩ := (ac (hv.at 11 rfl (hdep.1 rfl)) az).ups
   refine mv (vb (x47.Y1 == p1.Y0)) rfl rfl ?_
   refine RL.nil ?_
   exact ⟨rfl, v50, v51, hv.put 12 rfl rfl, ha.up rfl, hw⟩
  ·rintro D σ w hD hdep hcl ⟨v50, v51, hv, ha, hw⟩
   obtain ⟨τ, rfl⟩ := (ac (hv.at 12 rfl (hdep.1 rfl)) (ac (ha.at 0 rfl) az)).ups
   refine RL.move (v := v0) ⟨_, rfl, cb hg48⟩ rfl rfl ?_
   refine RL.nil ?_
   exact ⟨rfl, v50, v51, hv.put 13 rfl rfl, ha.up rfl, hw⟩
  ·rintro D σ w hD hdep hcl ⟨v50, v51, hv, ha, hw⟩
   obtain ⟨τ, rfl⟩ := (ac (hv.at 12 rfl (hdep.1 rfl)) (ac (ha.at 2 rfl) az)).ups
   refine RL.move (v := (vi (IntKind.wrap .i64 ((p0.length : Int) - 1)))) ⟨_, rfl, cb hg48⟩ rfl rfl ?_
   refine RL.nil ?_
   exact ⟨rfl, v50, v51, hv.put 14 rfl rfl, ha.up rfl, hw⟩
  ·rintro D σ w hD hdep hcl ⟨v50, v51, hv, ha, hw⟩
   obtain ⟨τ, rfl⟩ := (ac (hv.at 12 rfl (hdep.2.2.1 rfl)) (ac (hv.at 13 rfl (hdep.1 rfl)) (ac (hv.at 14 rfl (hdep.2.1 rfl)) az))).ups
   refine RL.ia_ownA (i := 5) ⟨_, rfl, cb hg48⟩ rfl hw rfl rfl rfl sl53 hx49 ?_
   refine RL.nil ?_
   exact ⟨rfl, v50, v51, hv.put 15 rfl rfl, ha.up rfl, hw⟩
  ·rintro D σ w hD hdep hcl ⟨v50, v51, hv, ha, hw⟩
   obtain ⟨τ, rfl⟩ := (ac (hv.at 12 rfl (hdep.2.1 rfl)) (ac (hv.at 15 rfl (hdep.1 rfl)) az)).ups
   refine RL.fa_elA (α := shape_Band) ⟨_, rfl, cb hg48⟩ rfl rfl (elp hw (i := 5) rfl hx49 0) fa83_2 ?_
   refine RL.nil ?_
   exact ⟨rfl, v50, v51, hv.put 16 rfl rfl, ha.up rfl, hw⟩
  ·rintro D σ w hD hdep hcl ⟨v50, v51, hv, ha, hw⟩
   obtain ⟨τ, rfl⟩ := (ac (hv.at 12 rfl (hdep.2.1 rfl)) (ac (hv.at 16 rfl (hdep.1 rfl)) az)).ups
   have hw := hw.selF (i := 0) rfl hD
   refine RL.load_el (i := 5) (f := (fun x => x.Xs)) ⟨_, rfl, cb hg48⟩ rfl hw rfl (elp hw (i := 5) rfl hx49 2) rfl (idx_some hx49).2.1 fd_shape_Band_2 ty75 fun v53 hw => ?_
   have hw := hw.pick 7 [0, 2, 3, 4, 5, 6] (new := [rd v53 x49.Xs, bif D 19 then (rd v51 p1.Xs) else junk, rd v33 p1.Xs, bx 83 b31 p1, rd v1 p1, own 83 v0 p0]) rfl rfl (by decide) (by decide)
   have hw := hw.altT (i := 0) (b := true) rfl rfl (junk)
   refine RL.nil ?_
   exact ⟨rfl, v53, v51, hv.put 17 rfl rfl, ha.up rfl, hw⟩
  ·rintro D σ w hD hdep hcl ⟨v50, v51, hv, ha, hw⟩
   obtain ⟨τ, rfl⟩ := (ac (hv.at 12 rfl (hdep.1 rfl)) (ac (ha.at 1 rfl) az)).ups
   refine RL.fa_b ⟨_, rfl, cb hg48⟩ rfl rfl fa83_2 ?_
   refine RL.nil ?_
   exact ⟨rfl, v50, v51, hv.put 18 rfl rfl, ha.up rfl, hw⟩
  ·rintro D σ w hD hdep hcl ⟨v50, v51, hv, ha, hw⟩
   obtain ⟨τ, rfl⟩ := (ac (hv.at 12 rfl (hdep.2.1 rfl)) (ac (hv.at 18 rfl (hdep.1 rfl)) az)).ups
   have hw := hw.selF (i := 1) rfl hD
   refine RL.load_bf (i := 3) (f := (fun x => x.Xs)) ⟨_, rfl, cb hg48⟩ rfl hw rfl rfl fd_shape_Band_2 ty75 fun v54 hw => ?_
   have hw := hw.pick 7 [1, 0, 3, 4, 5, 6] (new := [bif D 17 then (rd v50 x49.Xs) else junk, rd v54 p1.Xs, rd v33 p1.Xs, bx 83 b31 p1, rd v1 p1, own 83 v0 p0]) rfl rfl (by decide) (by decide)
   have hw := hw.altT (i := 1) (b := true) rfl rfl (junk)
   refine RL.nil ?_
   exact ⟨rfl, v50, v54, hv.put 19 rfl rfl, ha.up rfl, hw⟩
  ·rintro D σ w hD hdep hcl ⟨v50, v51, hv, ha, hw⟩
   obtain ⟨τ, rfl⟩ := (ac (hv.at 12 rfl (hdep.2.2.1 rfl)) (ac (hv.at 17 rfl (hdep.1 rfl)) (ac (hv.at 19 rfl (hdep.2.1 rfl)) az))).ups
   have hw := hw.selT (i := 0) rfl (hdep.1 rfl)
   have hw := hw.selT (i := 1) rfl (hdep.2.1 rfl)
   refine RL.call ⟨_, rfl, cb hg48⟩ rfl fn58 [v50, v51] rfl (Calls_ret (slices_Equal_int_ok N  (i0 := 0) (i1 := 1) hw rfl rfl hx52) ?_)
   rintro _ w ⟨rfl, hw⟩
   have hw := hw.altT (i := 0) (b := D 17) rfl (hdep.1 rfl) (junk)
   have hw := hw.altT (i := 1) (b := D 19) rfl (hdep.2.1 rfl) (junk)
   refine RL.nil ?_
   exact ⟨rfl, v50, v51, hv.put 20 rfl rfl, ha.up rfl, hw⟩
  ·rintro D σ w hD hdep hcl ⟨v50, v51, hv, ha, hw⟩
   obtain ⟨τ, rfl⟩ := (ac (hv.at 12 rfl (hdep.1 rfl)) (ac (hv.at 20 rfl (hdep.2.1 rfl)) az)).ups
   refine RL.pick (b := (x47.Y1 == p1.Y0)) (v := (vb x52)) trivial rfl rfl (by rw [hg48]; rfl) ?_
   refine RL.nil ?_
   exact ⟨rfl, v50, v51, hv.put 21 rfl rfl, ha.up rfl, hw⟩
  rintro D σ w hall ⟨v50, v51, hv, ha, hw⟩
  rw [hall 17 (by decide), hall 19 (by decide)] at hw
  obtain ⟨τ, rfl⟩ := (ac (hv.at 21 rfl (hall 21 (by decide))) (ac (ha.at 0 rfl) (ac (ha.at 1 rfl) (ac (ha.at 2 rfl) az)))).ups
  obtain rfl := oi hj
  exact ⟨rfl, ⟨rfl, rfl, rfl, rfl, trivial⟩, hw.pick 6 [5, 3] (new := [own 83 v0 p0, bx 83 b31 p1]) rfl rfl (by decide) (by decide)⟩
 rintro σ w ⟨ha, hw⟩
 obtain ⟨τ, rfl⟩ := ha.ups
 refine thenQ_n ?_
 refine RC.cond (b := s45) rfl (fun hc => ?_) (fun hc => ?_)
 rotate_left
 ·replace hb := cF hc hb
  refine RC.sx ?_
  refine mv v0 rfl rfl ?_
  refine RL.load_bf (i := 1) (f := (fun x => x)) trivial rfl hw rfl rfl Fd.self ty83 fun v57 hw => ?_
  refine RL.bslice (l := ([p1] : (List shape_Band))) trivial rfl hw [v57] rfl rfl rfl sl53 ze83 (fun M hs g => ⟨(g.sat 0 _ rfl).1, trivial⟩) fun v58 w hw => ?_
  have hw := hw.freeze (i := 0) rfl
  obtain ⟨x59, hx59, hb⟩ := bd hb
  refine RL.app (i := 2) (j := 0) trivial rfl hw rfl rfl rfl rfl el53 hx59 fun v60 w hw => ?_
  refine as_ v60 rfl rfl ?_
  refine RL.nt ?_
  refine RC.ret ?_
  obtain rfl := oi hb
  exact fin1 rfl rfl (hw.pick 4 [2] (new := [own 83 v60 x59]) rfl rfl (by decide) (by decide))
 replace hb := cT hc hb
 refine RC.sr ?_
 refine mv v0 rfl rfl ?_
 refine mv (vi (IntKind.wrap .i64 ((p0.length : Int) - 1))) rfl rfl ?_
 refine RL.fa_b trivial rfl rfl fa83_1 ?_
 refine RL.load_bfs (i := 1) (f := (fun x => x.Y1)) trivial rfl hw rfl rfl fd_shape_Band_1 ty3 ?_
 obtain ⟨x56, hx56, hb⟩ := bd hb
 refine RL.ia_ownA (i := 0) trivial rfl hw rfl rfl rfl sl53 hx56 ?_
 refine RL.fa_elA (α := shape_Band) trivial rfl rfl (elp hw (i := 0) rfl hx56 0) fa83_1 ?_
 have hw := hw.sc (γ := Int) p1.Y1
 refine RL.store_el (i := 1) (j := 0) (f := (fun x y => { x with Y1 := y })) trivial hw rfl rfl (elp hw (i := 1) rfl hx56 1) rfl (idx_some hx56).2.1 rfl fs_shape_Band_1 (by decide) ty3 fun w hw => ?_
 refine RL.ns ?_
 refine mv v0 rfl rfl ?_
 refine as_ v0 rfl rfl ?_
 refine RL.nt ?_
 refine RC.rt ?_
 obtain rfl := oi hb
 exact fin1 rfl rfl (hw.pick 3 [1] (new := [own 83 v0 (p0.set (Int.toNat (IntKind.wrap .i64 ((p0.length : Int) - 1))) ({ x56 with Y1 := p1.Y1 }))]) rfl rfl (by decide) (by decide))
end Go.Gk
