/-
  Printed by gen.py: Go functions as plain functions, and that they are.
-/
import Derived.Test.YtfkpknhicijjbaaT
import Derived.Test.YtfkpknhicijjbaaS
import Derived.Test.YtfkpknhicijjbaaF2
set_option linter.unusedVariables false
set_option linter.unusedSimpArgs false
set_option linter.unusedSectionVars false
set_option maxRecDepth 100000
set_option maxHeartbeats 4000000

namespace Go.Gk
open Go Go.Proofs
def etchhouseref5_checkSquare_R (E : World) (Γ : List HP) (res : Int) (v : Value) (w : World) : Prop := v = (vi res) ∧ Holds E w Γ
def etchhouseref5_checkSquare_K (E : World) (Γ : List HP) (r : Int) (σ : Nat → Value) (w : World) : Prop := finQ Try.prog 38 Try.f17 (etchhouseref5_checkSquare_R E Γ r) .ret σ w
theorem etchhouseref5_checkSquare_ok (N : Nat) {E w : World} {Γ : List HP} {i0 : Nat} {v0 : Value} {p0 : Bore} {res : Int} (hw : Holds E w Γ) (h0 : Γ[i0]? = some (rd v0 p0)) (hb : etchhouseref5_checkSquare N p0 = some res) :
    Calls Try.prog 17 [v0].toArray w (Ret (etchhouseref5_checkSquare_R E Γ res)) := by
 unfold etchhouseref5_checkSquare at hb
 refine enter Try.func17 rfl rfl (Nat.le_of_ble_eq_true rfl) ?_
 have hw := hw.dup (i := i0 + 0) h0
 refine RC.sr ?_
 refine RL.box_rd (i := 0) (v := v0) trivial rfl hw rfl rfl fun b31 w hw => ?_
 refine as_ (vi 0) rfl rfl ?_
 refine RL.nq ?_
 refine RC.seq ?_
 obtain ⟨s37, hj, hb⟩ := bd hb
 refine RC.jn (fun (s37 : Bool) (σ : Nat → Value) (w : World) => agree σ [(1, (vp b31 0)), (13, (vb s37))] ∧ Holds E w ([bx 25 b31 p0] ++ Γ)) s37 ?_ ?_
 ·refine RC.region ?_
  refine RL.fa_b trivial rfl rfl fa25_1 ?_
  refine RL.load_bfs (i := 0) (f := (fun x => x.Size)) trivial rfl hw rfl rfl fd_Bore_1 ty3 ?_
  obtain ⟨x38, hx38, hj⟩ := bd hj
  refine RL.call trivial rfl fn41 [(vi p0.Size), (vi 1), (vi 10000)] rfl (Calls_ret (etchhouseref5_within_ok N (p0 := p0.Size) (p1 := 1) (p2 := 10000)  hw  hx38) ?_)
  rintro _ w ⟨rfl, hw⟩
  refine RL.not (b := x38) trivial rfl rfl ?_
  refine mv (vb (!x38)) rfl rfl ?_
  rcases Bool.eq_false_or_eq_true (!x38) with hg39 | hg39
  ·replace hj := cT hg39 hj
   refine sk rfl (.inl (cb hg39)) rfl ?_
   refine sk rfl (.inl (cb hg39)) rfl ?_
   refine sk rfl (.inl (cb hg39)) rfl ?_
   refine sk rfl (.inl (cb hg39)) rfl ?_
   refine RL.pick (b := (!x38)) (v := (vb true)) trivial rfl rfl (by rw [hg39]; rfl) ?_
   refine RL.nil ?_
   obtain rfl := oi hj
   exact ⟨rfl, ⟨rfl, rfl, trivial⟩, hw.pick 2 [0] (new := [bx 25 b31 p0]) rfl rfl (by decide) (by decide)⟩
  replace hj := cF hg39 hj
  refine RL.fa_b ⟨_, rfl, cb hg39⟩ rfl rfl fa25_0 ?_
  refine RL.load_bf (i := 0) (f := (fun x => x.At)) ⟨_, rfl, cb hg39⟩ rfl hw rfl rfl fd_Bore_0 ty23 fun v40 hw => ?_
  obtain ⟨x41, hx41, hj⟩ := bd hj
  refine RL.call ⟨_, rfl, cb hg39⟩ rfl fn42 [v40] rfl (Calls_ret (etchhouseref1_IsPoint_ok N  (i0 := 0) hw rfl hx41) ?_)
  rintro _ w ⟨rfl, hw⟩
  refine RL.not (b := x41) ⟨_, rfl, cb hg39⟩ rfl rfl ?_
  refine RL.pick (b := (!x38)) (v := (vb (!x41))) trivial rfl rfl (by rw [hg39]; rfl) ?_
  refine RL.nil ?_
  obtain rfl := oi hj
  exact ⟨rfl, ⟨rfl, rfl, trivial⟩, hw.pick 3 [1] (new := [bx 25 b31 p0]) rfl rfl (by decide) (by decide)⟩
 rintro σ w ⟨ha, hw⟩
 obtain ⟨τ, rfl⟩ := ha.ups
 refine thenQ_n ?_
 refine RC.cond (b := s37) rfl (fun hc => ?_) (fun hc => ?_)
 ·replace hb := cT hc hb
  refine RC.sr ?_
  refine as_ (vi 1) rfl rfl ?_
  refine RL.nt ?_
  refine RC.rt ?_
  obtain rfl := oi hb
  exact fin1 rfl rfl ⟨rfl, hw.drop 1 rfl⟩
 replace hb := cF hc hb
 refine RC.sx ?_
 refine RL.load_bf (i := 0) (f := (fun x => x)) trivial rfl hw rfl rfl Fd.self ty25 fun v42 hw => ?_
 obtain ⟨x43, hx43, hb⟩ := bd hb
 refine RL.call trivial rfl fn18 [v42] rfl (Calls_ret (etchhouseref5_SquareOf_ok N  (i0 := 0) hw rfl hx43) ?_)
 rintro v44 w hw
 refine RL.alloc trivial rfl hw ze27.z fun b45 w hw => ?_
 refine RL.store_raw (i := 0) (j := 1) trivial hw rfl rfl rfl rfl ty27 rfl fun w hw => ?_
 refine RL.nq ?_
 refine RC.seq ?_
 obtain ⟨s62, hj, hb⟩ := bd hb
 refine RC.jn (fun (s62 : Bool) (σ : Nat → Value) (w : World) => agree σ [(37, (vb s62))] ∧ Holds E w ([] ++ Γ)) s62 ?_ ?_
 ·refine RC.region ?_
  refine RL.fa_b trivial rfl rfl fa27_0 ?_
  refine RL.load_bfs (i := 0) (f := (fun x => x.X0)) trivial rfl hw rfl rfl fd_Rect_0 ty3 ?_
  obtain ⟨x63, hx63, hj⟩ := bd hj
  refine RL.call trivial rfl fn43 [(vi x43.X0)] rfl (Calls_ret (etchhouseref1_At_ok N (p0 := x43.X0)  hw  hx63) ?_)
  rintro _ w ⟨rfl, hw⟩
  refine RL.not (b := x63) trivial rfl rfl ?_
  refine mv (vb (!x63)) rfl rfl ?_
  rcases Bool.eq_false_or_eq_true (!x63) with hg64 | hg64
  ·replace hj := cT hg64 hj
   refine sk rfl (.inl (cb hg64)) rfl ?_
   refine sk rfl (.inl (cb hg64)) rfl ?_
   refine sk rfl (.inl (cb hg64)) rfl ?_
   refine sk rfl (.inl (cb hg64)) rfl ?_
   refine RL.pick (b := (!x63)) (v := (vb true)) trivial rfl rfl (by rw [hg64]; rfl) ?_
   refine mv (vb true) rfl rfl ?_
   refine sk rfl (.inl rfl) rfl ?_
   refine sk rfl (.inl rfl) rfl ?_
   refine sk rfl (.inl rfl) rfl ?_
   refine sk rfl (.inl rfl) rfl ?_
   refine RL.pick (b := true) (v := (vb true)) trivial rfl rfl rfl ?_
   refine mv (vb true) rfl rfl ?_
   refine sk rfl (.inl rfl) rfl ?_
   refine sk rfl (.inl rfl) rfl ?_
   refine sk rfl (.inl rfl) rfl ?_
   refine sk rfl (.inl rfl) rfl ?_
   refine RL.pick (b := true) (v := (vb true)) trivial rfl rfl rfl ?_
   refine RL.nil ?_
   obtain rfl := oi hj
   exact ⟨rfl, ⟨rfl, trivial⟩, hw.pick 4 [] (new := []) rfl rfl (by decide) (by decide)⟩
  replace hj := cF hg64 hj
  refine RL.fa_b ⟨_, rfl, cb hg64⟩ rfl rfl fa27_1 ?_
  refine RL.load_bfs (i := 0) (f := (fun x => x.Y0)) ⟨_, rfl, cb hg64⟩ rfl hw rfl rfl fd_Rect_1 ty3 ?_
  obtain ⟨x65, hx65, hj⟩ := bd hj
  refine RL.call ⟨_, rfl, cb hg64⟩ rfl fn43 [(vi x43.Y0)] rfl (Calls_ret (etchhouseref1_At_ok N (p0 := x43.Y0)  hw  hx65) ?_)
  rintro _ w ⟨rfl, hw⟩
  refine RL.not (b := x65) ⟨_, rfl, cb hg64⟩ rfl rfl ?_
  refine RL.pick (b := (!x63)) (v := (vb (!x65))) trivial rfl rfl (by rw [hg64]; rfl) ?_
  refine mv (vb (!x65)) rfl rfl ?_
  rcases Bool.eq_false_or_eq_true (!x65) with hg66 | hg66
  ·replace hj := cT hg66 hj
   refine sk rfl (.inl (cb hg66)) rfl ?_
   refine sk rfl (.inl (cb hg66)) rfl ?_
   refine sk rfl (.inl (cb hg66)) rfl ?_
   refine sk rfl (.inl (cb hg66)) rfl ?_
   refine RL.pick (b := (!x65)) (v := (vb true)) trivial rfl rfl (by rw [hg66]; rfl) ?_
   refine mv (vb true) rfl rfl ?_
   refine sk rfl (.inl rfl) rfl ?_
   refine sk rfl (.inl rfl) rfl ?_
   refine sk rfl (.inl rfl) rfl ?_
   refine sk rfl (.inl rfl) rfl ?_
   refine RL.pick (b := true) (v := (vb true)) trivial rfl rfl rfl ?_
   refine RL.nil ?_
   obtain rfl := oi hj
   exact ⟨rfl, ⟨rfl, trivial⟩, hw.pick 4 [] (new := []) rfl rfl (by decide) (by decide)⟩
  replace hj := cF hg66 hj
  refine RL.fa_b ⟨_, rfl, cb hg66⟩ rfl rfl fa27_2 ?_
  refine RL.load_bfs (i := 0) (f := (fun x => x.X1)) ⟨_, rfl, cb hg66⟩ rfl hw rfl rfl fd_Rect_2 ty3 ?_
  obtain ⟨x67, hx67, hj⟩ := bd hj
  refine RL.call ⟨_, rfl, cb hg66⟩ rfl fn43 [(vi x43.X1)] rfl (Calls_ret (etchhouseref1_At_ok N (p0 := x43.X1)  hw  hx67) ?_)
  rintro _ w ⟨rfl, hw⟩
  refine RL.not (b := x67) ⟨_, rfl, cb hg66⟩ rfl rfl ?_
  refine RL.pick (b := (!x65)) (v := (vb (!x67))) trivial rfl rfl (by rw [hg66]; rfl) ?_
  refine mv (vb (!x67)) rfl rfl ?_
  rcases Bool.eq_false_or_eq_true (!x67) with hg68 | hg68
  ·replace hj := cT hg68 hj
   refine sk rfl (.inl (cb hg68)) rfl ?_
   refine sk rfl (.inl (cb hg68)) rfl ?_
   refine sk rfl (.inl (cb hg68)) rfl ?_
   refine sk rfl (.inl (cb hg68)) rfl ?_
   refine RL.pick (b := (!x67)) (v := (vb true)) trivial rfl rfl (by rw [hg68]; rfl) ?_
   refine RL.nil ?_
   obtain rfl := oi hj
   exact ⟨rfl, ⟨rfl, trivial⟩, hw.pick 4 [] (new := []) rfl rfl (by decide) (by decide)⟩
  replace hj := cF hg68 hj
  refine RL.fa_b ⟨_, rfl, cb hg68⟩ rfl rfl fa27_3 ?_
  refine RL.load_bfs (i := 0) (f := (fun x => x.Y1)) ⟨_, rfl, cb hg68⟩ rfl hw rfl rfl fd_Rect_3 ty3 ?_
  obtain ⟨x69, hx69, hj⟩ := bd hj
  refine RL.call ⟨_, rfl, cb hg68⟩ rfl fn43 [(vi x43.Y1)] rfl (Calls_ret (etchhouseref1_At_ok N (p0 := x43.Y1)  hw  hx69) ?_)
  rintro _ w ⟨rfl, hw⟩
  refine RL.not (b := x69) ⟨_, rfl, cb hg68⟩ rfl rfl ?_
  refine RL.pick (b := (!x67)) (v := (vb (!x69))) trivial rfl rfl (by rw [hg68]; rfl) ?_
  refine RL.nil ?_
  obtain rfl := oi hj
  exact ⟨rfl, ⟨rfl, trivial⟩, hw.pick 4 [] (new := []) rfl rfl (by decide) (by decide)⟩
 rintro σ w ⟨ha, hw⟩
 obtain ⟨τ, rfl⟩ := ha.ups
 refine thenQ_n ?_
 refine RC.cond (b := s62) rfl (fun hc => ?_) (fun hc => ?_)
 ·replace hb := cT hc hb
  refine RC.sr ?_
  refine as_ (vi 1) rfl rfl ?_
  refine RL.nt ?_
  refine RC.rt ?_
  obtain rfl := oi hb
  exact fin1 rfl rfl ⟨rfl, hw.drop 0 rfl⟩
 replace hb := cF hc hb
 refine RC.sx ?_
 refine as_ (vi 0) rfl rfl ?_
 refine RL.nt ?_
 refine RC.ret ?_
 obtain rfl := oi hb
 exact fin1 rfl rfl ⟨rfl, hw.drop 0 rfl⟩
def etchhouseref5_Square_R (E : World) (Γ : List HP) (res : Rect × Int) (v : Value) (w : World) : Prop := ∃ u0 : Value, v = .tuple #[u0, (vi res.2)] ∧ Holds E w (rd u0 res.1 :: Γ)
def etchhouseref5_Square_K (E : World) (Γ : List HP) (r : Rect × Int) (σ : Nat → Value) (w : World) : Prop := finQ Try.prog 13 Try.f6 (etchhouseref5_Square_R E Γ r) .ret σ w
theorem etchhouseref5_Square_ok (N : Nat) {E w : World} {Γ : List HP} {i0 : Nat} {v0 : Value} {p0 : Bore} {res : Rect × Int} (hw : Holds E w Γ) (h0 : Γ[i0]? = some (rd v0 p0)) (hb : etchhouseref5_Square N p0 = some res) :
    Calls Try.prog 6 [v0].toArray w (Ret (etchhouseref5_Square_R E Γ res)) := by
 unfold etchhouseref5_Square at hb
 refine enter Try.func6 rfl rfl (Nat.le_of_ble_eq_true rfl) ?_
 have hw := hw.dup (i := i0 + 0) h0
 refine RC.sr ?_
 refine RL.box_rd (i := 0) (v := v0) trivial rfl hw rfl rfl fun b31 w hw => ?_
 refine RL.alloc trivial rfl hw ze27.z fun b32 w hw => ?_
 refine as_ (vi 0) rfl rfl ?_
 refine RL.nq ?_
 refine RC.sr ?_
 refine RL.load_bf (i := 1) (f := (fun x => x)) trivial rfl hw rfl rfl Fd.self ty25 fun v33 hw => ?_
 obtain ⟨x34, hx34, hb⟩ := bd hb
 refine RL.call trivial rfl fn17 [v33] rfl (Calls_ret (etchhouseref5_checkSquare_ok N  (i0 := 0) hw rfl hx34) ?_)
 rintro _ w ⟨rfl, hw⟩
 refine as_ (vi x34) rfl rfl ?_
 refine RL.ns ?_
 refine mv (vi x34) rfl rfl ?_
 refine ic x34 0 rfl rfl rfl rfl ?_
 refine RL.nt ?_
 refine RC.cond (b := (x34 != 0)) rfl (fun hc => ?_) (fun hc => ?_)
 ·replace hb := cT hc hb
  refine RC.sr ?_
  refine RL.build (y := (⟨0, 0, 0, 0⟩ : Rect)) trivial rfl hw [] rfl st27 rfl (fun M hs g => by have h := z_Rect M; exact Fills.nil h) fun v36 hw => ?_
  refine mv (vi x34) rfl rfl ?_
  refine RL.store_raw (i := 2) (j := 0) trivial hw rfl rfl rfl rfl ty27 rfl fun w hw => ?_
  refine as_ (vi x34) rfl rfl ?_
  refine RL.nt ?_
  refine RC.rt ?_
  obtain rfl := oi hb
  exact finC2 (i := 2) rfl hw rfl rfl ty27 rfl fun v37 hw => ⟨v37, rfl, hw.pick 6 [0] (new := [rd v37 (⟨0, 0, 0, 0⟩ : Rect)]) rfl rfl (by decide) (by decide)⟩
 replace hb := cF hc hb
 refine RC.sx ?_
 refine RL.load_bf (i := 2) (f := (fun x => x)) trivial rfl hw rfl rfl Fd.self ty25 fun v38 hw => ?_
 obtain ⟨x39, hx39, hb⟩ := bd hb
 refine RL.call trivial rfl fn18 [v38] rfl (Calls_ret (etchhouseref5_SquareOf_ok N  (i0 := 0) hw rfl hx39) ?_)
 rintro v40 w hw
 refine RL.store_raw (i := 3) (j := 0) trivial hw rfl rfl rfl rfl ty27 rfl fun w hw => ?_
 refine as_ (vi 0) rfl rfl ?_
 refine RL.nt ?_
 refine RC.ret ?_
 obtain rfl := oi hb
 exact finC2 (i := 3) rfl hw rfl rfl ty27 rfl fun v41 hw => ⟨v41, rfl, hw.pick 7 [0] (new := [rd v41 x39]) rfl rfl (by decide) (by decide)⟩
def etchhouselaw5_awake_R (E : World) (Γ : List HP) (res : Bool) (v : Value) (w : World) : Prop := v = (vb res) ∧ Holds E w Γ
def etchhouselaw5_awake_K (E : World) (Γ : List HP) (r : Bool) (σ : Nat → Value) (w : World) : Prop := finQ Try.prog 15 Try.f7 (etchhouselaw5_awake_R E Γ r) .ret σ w
theorem etchhouselaw5_awake_ok (N : Nat) {E w : World} {Γ : List HP}  {res : Bool} (hw : Holds E w Γ)  (hb : etchhouselaw5_awake N  = some res) :
    Calls Try.prog 7 [].toArray w (Ret (etchhouselaw5_awake_R E Γ res)) := by
 unfold etchhouselaw5_awake at hb
 refine enter Try.func7 rfl rfl (Nat.le_of_ble_eq_true rfl) ?_
 refine RC.sr ?_
 refine as_ (vb false) rfl rfl ?_
 refine RL.ns ?_
 have hw := hw.sc (γ := Int) 2
 refine RL.build (y := (⟨⟨0, 0⟩, 2, 0, 0, false⟩ : Bore)) trivial rfl hw [(1, (vi 2))] rfl st25 rfl (fun M hs g => by have h := z_Bore M; exact Fills.cons (f := fun (x : Bore) y => { x with Size := y }) rfl h fs_Bore_1 (by decide) (g.sat 0 _ rfl).1 fun _ h => Fills.nil h) fun v31 hw => ?_
 obtain ⟨x32, hx32, hb⟩ := bd hb
 refine RL.call trivial rfl fn5 [v31] rfl (Calls_ret (copper_Square_ok N  (i0 := 0) hw rfl hx32) ?_)
 rintro _ w ⟨v33, rfl, hw⟩
 refine mv (.tuple #[v33, (vi x32.2)]) rfl rfl ?_
 refine RL.extract (v := v33) trivial rfl rfl rfl ?_
 refine RL.extract (v := (vi x32.2)) trivial rfl rfl rfl ?_
 refine RL.alloc trivial rfl hw ze27.z fun b34 w hw => ?_
 refine RL.store_raw (i := 0) (j := 1) trivial hw rfl rfl rfl rfl ty27 rfl fun w hw => ?_
 refine as_ (vi x32.2) rfl rfl ?_
 refine RL.nq ?_
 obtain ⟨s38, hj, hb⟩ := bd hb
 refine RC.jn (fun (s38 : Bool) (σ : Nat → Value) (w : World) => agree σ [(0, (vb s38))] ∧ Holds E w ([] ++ Γ)) s38 ?_ ?_
 ·refine RC.region ?_
  refine mv (vi x32.2) rfl rfl ?_
  refine ic (x32.2) 0 rfl rfl rfl rfl ?_
  refine mv (vb (x32.2 == 0)) rfl rfl ?_
  rcases Bool.eq_false_or_eq_true (x32.2 == 0) with hg39 | hg39
  rotate_left
  ·replace hj := cF hg39 hj
   refine sk rfl (.inl (cb hg39)) rfl ?_
   refine sk rfl (.inl (cb hg39)) rfl ?_
   refine sk rfl (.inl (cb hg39)) rfl ?_
   refine RL.pick (b := (x32.2 == 0)) (v := (vb false)) trivial rfl rfl (by rw [hg39]; rfl) ?_
   refine as_ (vb false) rfl rfl ?_
   refine RL.nil ?_
   obtain rfl := oi hj
   exact ⟨rfl, ⟨rfl, trivial⟩, hw.pick 4 [] (new := []) rfl rfl (by decide) (by decide)⟩
  replace hj := cT hg39 hj
  refine RL.load_bf (i := 0) (f := (fun x => x)) ⟨_, rfl, cb hg39⟩ rfl hw rfl rfl Fd.self ty27 fun v40 hw => ?_
  have hw := hw.sc (γ := Int) (-1)
  have hw := hw.sc (γ := Int) (-1)
  have hw := hw.sc (γ := Int) 1
  have hw := hw.sc (γ := Int) 1
  refine RL.build (y := (⟨(-1), (-1), 1, 1⟩ : Rect)) ⟨_, rfl, cb hg39⟩ rfl hw [(0, (vi (-1))), (1, (vi (-1))), (2, (vi 1)), (3, (vi 1))] rfl st27 rfl (fun M hs g => by have h := z_Rect M; exact Fills.cons (f := fun (x : Rect) y => { x with X0 := y }) rfl h fs_Rect_0 (by decide) (g.sat 3 _ rfl).1 fun _ h => Fills.cons (f := fun (x : Rect) y => { x with Y0 := y }) rfl h fs_Rect_1 (by decide) (g.sat 2 _ rfl).1 fun _ h => Fills.cons (f := fun (x : Rect) y => { x with X1 := y }) rfl h fs_Rect_2 (by decide) (g.sat 1 _ rfl).1 fun _ h => Fills.cons (f := fun (x : Rect) y => { x with Y1 := y }) rfl h fs_Rect_3 (by decide) (g.sat 0 _ rfl).1 fun _ h => Fills.nil h) fun v41 hw => ?_
  refine RL.seq (i := 5) (j := 0) (a := x32.1) (b := (⟨(-1), (-1), 1, 1⟩ : Rect)) ⟨_, rfl, cb hg39⟩ rfl hw rfl rfl rfl rfl eqt27 rfl ?_
  refine RL.pick (b := (x32.2 == 0)) (v := (vb (decide (x32.1 = (⟨(-1), (-1), 1, 1⟩ : Rect))))) trivial rfl rfl (by rw [hg39]; rfl) ?_
  refine as_ (vb (decide (x32.1 = (⟨(-1), (-1), 1, 1⟩ : Rect)))) rfl rfl ?_
  refine RL.nil ?_
  obtain rfl := oi hj
  exact ⟨rfl, ⟨rfl, trivial⟩, hw.pick 10 [] (new := []) rfl rfl (by decide) (by decide)⟩
 rintro σ w ⟨ha, hw⟩
 obtain ⟨τ, rfl⟩ := ha.ups
 refine thenQ_n ?_
 refine RC.ret ?_
 obtain rfl := oi hb
 exact fin1 rfl rfl ⟨rfl, hw.drop 0 rfl⟩
def etchhouselaw5_ArtSquaresMatchSpec_R (E : World) (Γ : List HP) (res : Bool) (v : Value) (w : World) : Prop := v = (vb res) ∧ Holds E w Γ
def etchhouselaw5_ArtSquaresMatchSpec_K (E : World) (Γ : List HP) (r : Bool) (σ : Nat → Value) (w : World) : Prop := finQ Try.prog 28 Try.f3 (etchhouselaw5_ArtSquaresMatchSpec_R E Γ r) .ret σ w
theorem etchhouselaw5_ArtSquaresMatchSpec_ok (N : Nat) {E w : World} {Γ : List HP} {i0 : Nat} {v0 : Value} {p0 : Bore} {res : Bool} (hw : Holds E w Γ) (h0 : Γ[i0]? = some (rd v0 p0)) (hb : etchhouselaw5_ArtSquaresMatchSpec N p0 = some res) :
    Calls Try.prog 3 [v0].toArray w (Ret (etchhouselaw5_ArtSquaresMatchSpec_R E Γ res)) := by
 unfold etchhouselaw5_ArtSquaresMatchSpec at hb
 refine enter Try.func3 rfl rfl (Nat.le_of_ble_eq_true rfl) ?_
 have hw := hw.dup (i := i0 + 0) h0
 refine RC.sr ?_
 refine RL.box_rd (i := 0) (v := v0) trivial rfl hw rfl rfl fun b31 w hw => ?_
 refine as_ (vb false) rfl rfl ?_
 refine RL.ns ?_
 refine RL.load_bf (i := 0) (f := (fun x => x)) trivial rfl hw rfl rfl Fd.self ty25 fun v32 hw => ?_
 obtain ⟨x33, hx33, hb⟩ := bd hb
 refine RL.call trivial rfl fn5 [v32] rfl (Calls_ret (copper_Square_ok N  (i0 := 0) hw rfl hx33) ?_)
 rintro _ w ⟨v34, rfl, hw⟩
 refine mv (.tuple #[v34, (vi x33.2)]) rfl rfl ?_
 refine RL.extract (v := v34) trivial rfl rfl rfl ?_
 refine RL.extract (v := (vi x33.2)) trivial rfl rfl rfl ?_
 refine RL.alloc trivial rfl hw ze27.z fun b35 w hw => ?_
 refine RL.store_raw (i := 0) (j := 1) trivial hw rfl rfl rfl rfl ty27 rfl fun w hw => ?_
 refine as_ (vi x33.2) rfl rfl ?_
 refine RL.ns ?_
 refine RL.load_bf (i := 3) (f := (fun x => x)) trivial rfl hw rfl rfl Fd.self ty25 fun v36 hw => ?_
 obtain ⟨x37, hx37, hb⟩ := bd hb
 refine RL.call trivial rfl fn6 [v36] rfl (Calls_ret (etchhouseref5_Square_ok N  (i0 := 0) hw rfl hx37) ?_)
 rintro _ w ⟨v38, rfl, hw⟩
 refine mv (.tuple #[v38, (vi x37.2)]) rfl rfl ?_
 refine RL.extract (v := v38) trivial rfl rfl rfl ?_
 refine RL.extract (v := (vi x37.2)) trivial rfl rfl rfl ?_
 refine RL.alloc trivial rfl hw ze27.z fun b39 w hw => ?_
 refine RL.store_raw (i := 0) (j := 1) trivial hw rfl rfl rfl rfl ty27 rfl fun w hw => ?_
 refine as_ (vi x37.2) rfl rfl ?_
 refine RL.nq ?_
 obtain ⟨s46, hj, hb⟩ := bd hb
 refine RC.jn (fun (s46 : Bool) (σ : Nat → Value) (w : World) => agree σ [(2, (vb s46))] ∧ Holds E w ([] ++ Γ)) s46 ?_ ?_
 ·refine RC.region ?_
  refine RL.load_bf (i := 3) (f := (fun x => x)) trivial rfl hw rfl rfl Fd.self ty27 fun v47 hw => ?_
  refine RL.load_bf (i := 1) (f := (fun x => x)) trivial rfl hw rfl rfl Fd.self ty27 fun v48 hw => ?_
  refine RL.seq (i := 1) (j := 0) (a := x33.1) (b := x37.1) trivial rfl hw rfl rfl rfl rfl eqt27 rfl ?_
  refine mv (vb (decide (x33.1 = x37.1))) rfl rfl ?_
  refine RL.gs (c := true) (b := (decide (x33.1 = x37.1))) (v := (vi x33.2)) rfl rfl rfl (gs_move rfl (fun _ => rfl)) ?_
  refine RL.gs (c := true) (b := (decide (x33.1 = x37.1))) (v := (vi x37.2)) rfl rfl rfl (gs_move rfl (fun _ => rfl)) ?_
  refine RL.gs (c := true) (b := (decide (x33.1 = x37.1))) (v := (vb (x33.2 == x37.2))) rfl rfl rfl (gs_icmp (bop := .eql) (K := .i64) (a := x33.2) (b := x37.2) rfl (fun h => by exact (cv_t h : cv (true && ((decide (x33.1 = x37.1)) == true)) (vi x33.2) = (vi x33.2))) (fun h => by exact (cv_t h : cv (true && ((decide (x33.1 = x37.1)) == true)) (vi x37.2) = (vi x37.2))) rfl) ?_
  refine RL.pick (b := (decide (x33.1 = x37.1))) (v := (vb ((decide (x33.1 = x37.1)) && (x33.2 == x37.2)))) trivial rfl rfl (pk_and (c := true) rfl) ?_
  refine mv (vb ((decide (x33.1 = x37.1)) && (x33.2 == x37.2))) rfl rfl ?_
  rcases Bool.eq_false_or_eq_true ((decide (x33.1 = x37.1)) && (x33.2 == x37.2)) with hg49 | hg49
  rotate_left
  ·replace hj := cF hg49 hj
   refine sk rfl (.inl (cb hg49)) rfl ?_
   refine RL.pick (b := ((decide (x33.1 = x37.1)) && (x33.2 == x37.2))) (v := (vb false)) trivial rfl rfl (by rw [hg49]; rfl) ?_
   refine as_ (vb false) rfl rfl ?_
   refine RL.nil ?_
   obtain rfl := oi hj
   exact ⟨rfl, ⟨rfl, trivial⟩, hw.pick 10 [] (new := []) rfl rfl (by decide) (by decide)⟩
  replace hj := cT hg49 hj
  obtain ⟨x50, hx50, hj⟩ := bd hj
  refine RL.call ⟨_, rfl, cb hg49⟩ rfl fn7 [] rfl (Calls_ret (etchhouselaw5_awake_ok N   hw  hx50) ?_)
  rintro _ w ⟨rfl, hw⟩
  refine RL.pick (b := ((decide (x33.1 = x37.1)) && (x33.2 == x37.2))) (v := (vb x50)) trivial rfl rfl (by rw [hg49]; rfl) ?_
  refine as_ (vb x50) rfl rfl ?_
  refine RL.nil ?_
  obtain rfl := oi hj
  exact ⟨rfl, ⟨rfl, trivial⟩, hw.pick 10 [] (new := []) rfl rfl (by decide) (by decide)⟩
 rintro σ w ⟨ha, hw⟩
 obtain ⟨τ, rfl⟩ := ha.ups
 refine thenQ_n ?_
 refine RC.ret ?_
 obtain rfl := oi hb
 exact fin1 rfl rfl ⟨rfl, hw.drop 0 rfl⟩
end Go.Gk
