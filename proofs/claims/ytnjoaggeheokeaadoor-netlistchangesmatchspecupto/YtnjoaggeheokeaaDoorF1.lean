/-
  Printed by gen.py: Go functions as plain functions, and that they are.
-/
import Derived.Test.YtnjoaggeheokeaaDoorT
set_option linter.unusedVariables false
set_option linter.unusedSimpArgs false
set_option linter.unusedSectionVars false
set_option maxRecDepth 100000
set_option maxHeartbeats 4000000

namespace Go.Gk
open Go Go.Proofs
def stringslite_IndexByte_R (E : World) (Γ : List HP) (res : Int) (v : Value) (w : World) : Prop := v = (vi res) ∧ Holds E w Γ
def stringslite_IndexByte_K (E : World) (Γ : List HP) (r : Int) (σ : Nat → Value) (w : World) : Prop := finQ Tryd.prog 8 Tryd.f147 (stringslite_IndexByte_R E Γ r) .ret σ w
theorem stringslite_IndexByte_ok (N : Nat) {E w : World} {Γ : List HP} {p0 : Str} {p1 : Int} {res : Int} (hw : Holds E w Γ)  (hb : stringslite_IndexByte N p0 p1 = some res) :
    Calls Tryd.prog 147 [(str p0), (.int .u8 p1)].toArray w (Ret (stringslite_IndexByte_R E Γ res)) := by
 unfold stringslite_IndexByte at hb
 refine enter Tryd.func147 rfl rfl (Nat.le_of_ble_eq_true rfl) ?_
 refine RC.sr ?_
 refine as_ (vi 0) rfl rfl ?_
 refine RL.ns ?_
 refine mv (str p0) rfl rfl ?_
 refine mv (.int .u8 p1) rfl rfl ?_
 refine RL.xcall (v := (vi (Lib.indexByte p0.toL (Int.toNat p1).toUInt8))) trivial rfl [(str p0), (.int .u8 p1)] rfl (x159 p0 p1 w) ?_
 refine as_ (vi (Lib.indexByte p0.toL (Int.toNat p1).toUInt8)) rfl rfl ?_
 refine RL.nt ?_
 refine RC.ret ?_
 obtain rfl := oi hb
 exact fin1 rfl rfl ⟨rfl, hw.drop 0 rfl⟩
def strings_IndexByte_R (E : World) (Γ : List HP) (res : Int) (v : Value) (w : World) : Prop := v = (vi res) ∧ Holds E w Γ
def strings_IndexByte_K (E : World) (Γ : List HP) (r : Int) (σ : Nat → Value) (w : World) : Prop := finQ Tryd.prog 8 Tryd.f131 (strings_IndexByte_R E Γ r) .ret σ w
theorem strings_IndexByte_ok (N : Nat) {E w : World} {Γ : List HP} {p0 : Str} {p1 : Int} {res : Int} (hw : Holds E w Γ)  (hb : strings_IndexByte N p0 p1 = some res) :
    Calls Tryd.prog 131 [(str p0), (.int .u8 p1)].toArray w (Ret (strings_IndexByte_R E Γ res)) := by
 unfold strings_IndexByte at hb
 refine enter Tryd.func131 rfl rfl (Nat.le_of_ble_eq_true rfl) ?_
 refine RC.sr ?_
 refine as_ (vi 0) rfl rfl ?_
 refine RL.ns ?_
 refine mv (str p0) rfl rfl ?_
 refine mv (.int .u8 p1) rfl rfl ?_
 obtain ⟨x1, hx1, hb⟩ := bd hb
 refine RL.call trivial rfl fn147 [(str p0), (.int .u8 p1)] rfl (Calls_ret (stringslite_IndexByte_ok N (p0 := p0) (p1 := p1)  hw  hx1) ?_)
 rintro _ w ⟨rfl, hw⟩
 refine as_ (vi x1) rfl rfl ?_
 refine RL.nt ?_
 refine RC.ret ?_
 obtain rfl := oi hb
 exact fin1 rfl rfl ⟨rfl, hw.drop 0 rfl⟩
def netlist_IsWord_R (E : World) (Γ : List HP) (res : Bool) (v : Value) (w : World) : Prop := v = (vb res) ∧ Holds E w Γ
def netlist_IsWord_K (E : World) (Γ : List HP) (r : Bool) (σ : Nat → Value) (w : World) : Prop := finQ Tryd.prog 49 Tryd.f96 (netlist_IsWord_R E Γ r) .ret σ w
theorem netlist_IsWord_ok (N : Nat) {E w : World} {Γ : List HP} {p0 : Str} {res : Bool} (hw : Holds E w Γ)  (hb : netlist_IsWord N p0 = some res) :
    Calls Tryd.prog 96 [(str p0)].toArray w (Ret (netlist_IsWord_R E Γ res)) := by
 unfold netlist_IsWord at hb
 refine enter Tryd.func96 rfl rfl (Nat.le_of_ble_eq_true rfl) ?_
 refine RC.sr ?_
 refine as_ (vb false) rfl rfl ?_
 refine RL.nq ?_
 refine RC.sr ?_
 refine mv (str p0) rfl rfl ?_
 refine RL.lens (s := p0) trivial rfl rfl un9 ?_
 refine mv (vi 0) rfl rfl ?_
 refine RL.nt ?_
 obtain ⟨o15, hN, hb⟩ := bd hb
 refine RC.range (fun (k1 : Nat) (s2 : Unit) (σ : Nat → Value) (w : World) => agree σ [(0, (str p0)), (6, (vi (p0.toL.length : Int))), (7, (vi (k1 : Int)))] ∧ Holds E w ([] ++ Γ)) (fun (s2 : Unit) (σ : Nat → Value) (w : World) => agree σ [(0, (str p0))] ∧ Holds E w ([] ++ Γ)) (netlist_IsWord_K E Γ) hN ?_ ?_ ?_ ?_ ?_ 
 ·exact ⟨⟨rfl, rfl, rfl, trivial⟩, hw.pick 0 [] (new := []) rfl rfl (by decide) (by decide)⟩
 ·intro hm s2 σ w hI
  obtain ⟨ha, hw⟩ := hI
  obtain ⟨τ, rfl⟩ := ha.ups
  refine RC.sr ?_
  refine ic ((p0.toL.length : Int)) ((p0.toL.length : Int)) rfl rfl rfl rfl ?_
  refine RL.nq ?_
  refine RC.cond_f dge ?_
  refine RC.ex ?_
  exact ⟨rfl, ⟨rfl, trivial⟩, hw.pick 0 [] (new := []) rfl rfl (by decide) (by decide)⟩
 ·intro hm k1 s2 fl σ w hk hI hb
  obtain ⟨ha, hw⟩ := hI
  obtain ⟨τ, rfl⟩ := ha.ups
  refine RC.sr ?_
  refine ic ((k1 : Int)) ((p0.toL.length : Int)) rfl rfl rfl rfl ?_
  refine RL.nq ?_
  refine RC.cond_t (dlt hk) ?_
  refine RC.ss ?_
  refine RC.bs ?_
  refine mv (vi (k1 : Int)) rfl rfl ?_
  refine as_ (vi (k1 : Int)) rfl rfl ?_
  refine RL.ns ?_
  refine mv (str p0) rfl rfl ?_
  refine mv (vi (k1 : Int)) rfl rfl ?_
  obtain ⟨x9, hx9, hb⟩ := bd hb
  refine RL.idxs (s := p0) (i := (k1 : Int)) (c := x9) trivial rfl rfl rfl un9 hx9 ?_
  refine as_ (.int .u8 (x9.toNat : Int)) rfl rfl ?_
  refine RL.nq ?_
  obtain ⟨s12, hj, hb⟩ := bd hb
  refine RC.jn (fun (s12 : Bool) (σ : Nat → Value) (w : World) => agree σ [(0, (str p0)), (6, (vi (p0.toL.length : Int))), (7, (vi (k1 : Int))), (39, (vb s12))] ∧ Holds E w ([] ++ Γ)) s12 ?_ ?_
  ·refine RC.region ?_
   refine mv (.int .u8 (x9.toNat : Int)) rfl rfl ?_
   refine ic ((x9.toNat : Int)) 65 rfl rfl rfl rfl ?_
   refine mv (vb (decide ((x9.toNat : Int) < 65))) rfl rfl ?_
   refine RL.gs (c := true) (b := (decide ((x9.toNat : Int) < 65))) (v := (.int .u8 (x9.toNat : Int))) rfl rfl rfl (gs_move rfl (fun _ => rfl)) ?_
   refine RL.gs (c := true) (b := (decide ((x9.toNat : Int) < 65))) (v := (vb (decide ((x9.toNat : Int) > 90)))) rfl rfl rfl (gs_icmp (bop := .gtr) (K := .u8) (a := (x9.toNat : Int)) (b := 90) rfl (fun h => by exact (cv_t h : cv (true && ((decide ((x9.toNat : Int) < 65)) == false)) (.int .u8 (x9.toNat : Int)) = (.int .u8 (x9.toNat : Int)))) (fun _ => rfl) rfl) ?_
   refine RL.pick (b := (decide ((x9.toNat : Int) < 65))) (v := (vb ((decide ((x9.toNat : Int) < 65)) || (decide ((x9.toNat : Int) > 90))))) trivial rfl rfl (pk_or (c := true) rfl) ?_
   refine mv (vb ((decide ((x9.toNat : Int) < 65)) || (decide ((x9.toNat : Int) > 90)))) rfl rfl ?_
   refine RL.gs (c := true) (b := ((decide ((x9.toNat : Int) < 65)) || (decide ((x9.toNat : Int) > 90)))) (v := (.int .u8 (x9.toNat : Int))) rfl rfl rfl (gs_move rfl (fun _ => rfl)) ?_
   refine RL.gs (c := true) (b := ((decide ((x9.toNat : Int) < 65)) || (decide ((x9.toNat : Int) > 90)))) (v := (vb (decide ((x9.toNat : Int) < 97)))) rfl rfl rfl (gs_icmp (bop := .lss) (K := .u8) (a := (x9.toNat : Int)) (b := 97) rfl (fun h => by exact (cv_t h : cv (true && (((decide ((x9.toNat : Int) < 65)) || (decide ((x9.toNat : Int) > 90))) == true)) (.int .u8 (x9.toNat : Int)) = (.int .u8 (x9.toNat : Int)))) (fun _ => rfl) rfl) ?_
   refine RL.gs (c := true) (b := ((decide ((x9.toNat : Int) < 65)) || (decide ((x9.toNat : Int) > 90)))) (v := (vb (decide ((x9.toNat : Int) < 97)))) rfl rfl rfl (gs_move rfl (fun h => by exact (cv_t h : cv (true && (((decide ((x9.toNat : Int) < 65)) || (decide ((x9.toNat : Int) > 90))) == true)) (vb (decide ((x9.toNat : Int) < 97))) = (vb (decide ((x9.toNat : Int) < 97)))))) ?_
   refine RL.gs (c := (true && (((decide ((x9.toNat : Int) < 65)) || (decide ((x9.toNat : Int) > 90))) == true))) (b := (decide ((x9.toNat : Int) < 97))) (v := (.int .u8 (x9.toNat : Int))) rfl rfl rfl (gs_move rfl (fun _ => rfl)) ?_
   refine RL.gs (c := (true && (((decide ((x9.toNat : Int) < 65)) || (decide ((x9.toNat : Int) > 90))) == true))) (b := (decide ((x9.toNat : Int) < 97))) (v := (vb (decide ((x9.toNat : Int) > 122)))) rfl rfl rfl (gs_icmp (bop := .gtr) (K := .u8) (a := (x9.toNat : Int)) (b := 122) rfl (fun h => by exact (cv_t h : cv ((true && (((decide ((x9.toNat : Int) < 65)) || (decide ((x9.toNat : Int) > 90))) == true)) && ((decide ((x9.toNat : Int) < 97)) == false)) (.int .u8 (x9.toNat : Int)) = (.int .u8 (x9.toNat : Int)))) (fun _ => rfl) rfl) ?_
   refine RL.gs (c := true) (b := ((decide ((x9.toNat : Int) < 65)) || (decide ((x9.toNat : Int) > 90)))) (v := (vb ((decide ((x9.toNat : Int) < 97)) || (decide ((x9.toNat : Int) > 122))))) rfl rfl rfl (gs_pick (b := (decide ((x9.toNat : Int) < 97))) rfl (fun h => by exact (cv_t h : cv (true && (((decide ((x9.toNat : Int) < 65)) || (decide ((x9.toNat : Int) > 90))) == true)) (vb (decide ((x9.toNat : Int) < 97))) = (vb (decide ((x9.toNat : Int) < 97))))) (fun h => by exact pk_or (c := (true && (((decide ((x9.toNat : Int) < 65)) || (decide ((x9.toNat : Int) > 90))) == true))) h)) ?_
   refine RL.pick (b := ((decide ((x9.toNat : Int) < 65)) || (decide ((x9.toNat : Int) > 90)))) (v := (vb (((decide ((x9.toNat : Int) < 65)) || (decide ((x9.toNat : Int) > 90))) && ((decide ((x9.toNat : Int) < 97)) || (decide ((x9.toNat : Int) > 122)))))) trivial rfl rfl (pk_and (c := true) rfl) ?_
   refine mv (vb (((decide ((x9.toNat : Int) < 65)) || (decide ((x9.toNat : Int) > 90))) && ((decide ((x9.toNat : Int) < 97)) || (decide ((x9.toNat : Int) > 122))))) rfl rfl ?_
   refine RL.gs (c := true) (b := (((decide ((x9.toNat : Int) < 65)) || (decide ((x9.toNat : Int) > 90))) && ((decide ((x9.toNat : Int) < 97)) || (decide ((x9.toNat : Int) > 122))))) (v := (.int .u8 (x9.toNat : Int))) rfl rfl rfl (gs_move rfl (fun _ => rfl)) ?_
   refine RL.gs (c := true) (b := (((decide ((x9.toNat : Int) < 65)) || (decide ((x9.toNat : Int) > 90))) && ((decide ((x9.toNat : Int) < 97)) || (decide ((x9.toNat : Int) > 122))))) (v := (vb (decide ((x9.toNat : Int) < 48)))) rfl rfl rfl (gs_icmp (bop := .lss) (K := .u8) (a := (x9.toNat : Int)) (b := 48) rfl (fun h => by exact (cv_t h : cv (true && ((((decide ((x9.toNat : Int) < 65)) || (decide ((x9.toNat : Int) > 90))) && ((decide ((x9.toNat : Int) < 97)) || (decide ((x9.toNat : Int) > 122)))) == true)) (.int .u8 (x9.toNat : Int)) = (.int .u8 (x9.toNat : Int)))) (fun _ => rfl) rfl) ?_
   refine RL.gs (c := true) (b := (((decide ((x9.toNat : Int) < 65)) || (decide ((x9.toNat : Int) > 90))) && ((decide ((x9.toNat : Int) < 97)) || (decide ((x9.toNat : Int) > 122))))) (v := (vb (decide ((x9.toNat : Int) < 48)))) rfl rfl rfl (gs_move rfl (fun h => by exact (cv_t h : cv (true && ((((decide ((x9.toNat : Int) < 65)) || (decide ((x9.toNat : Int) > 90))) && ((decide ((x9.toNat : Int) < 97)) || (decide ((x9.toNat : Int) > 122)))) == true)) (vb (decide ((x9.toNat : Int) < 48))) = (vb (decide ((x9.toNat : Int) < 48)))))) ?_
   refine RL.gs (c := (true && ((((decide ((x9.toNat : Int) < 65)) || (decide ((x9.toNat : Int) > 90))) && ((decide ((x9.toNat : Int) < 97)) || (decide ((x9.toNat : Int) > 122)))) == true))) (b := (decide ((x9.toNat : Int) < 48))) (v := (.int .u8 (x9.toNat : Int))) rfl rfl rfl (gs_move rfl (fun _ => rfl)) ?_
   refine RL.gs (c := (true && ((((decide ((x9.toNat : Int) < 65)) || (decide ((x9.toNat : Int) > 90))) && ((decide ((x9.toNat : Int) < 97)) || (decide ((x9.toNat : Int) > 122)))) == true))) (b := (decide ((x9.toNat : Int) < 48))) (v := (vb (decide ((x9.toNat : Int) > 57)))) rfl rfl rfl (gs_icmp (bop := .gtr) (K := .u8) (a := (x9.toNat : Int)) (b := 57) rfl (fun h => by exact (cv_t h : cv ((true && ((((decide ((x9.toNat : Int) < 65)) || (decide ((x9.toNat : Int) > 90))) && ((decide ((x9.toNat : Int) < 97)) || (decide ((x9.toNat : Int) > 122)))) == true)) && ((decide ((x9.toNat : Int) < 48)) == false)) (.int .u8 (x9.toNat : Int)) = (.int .u8 (x9.toNat : Int)))) (fun _ => rfl) rfl) ?_
   refine RL.gs (c := true) (b := (((decide ((x9.toNat : Int) < 65)) || (decide ((x9.toNat : Int) > 90))) && ((decide ((x9.toNat : Int) < 97)) || (decide ((x9.toNat : Int) > 122))))) (v := (vb ((decide ((x9.toNat : Int) < 48)) || (decide ((x9.toNat : Int) > 57))))) rfl rfl rfl (gs_pick (b := (decide ((x9.toNat : Int) < 48))) rfl (fun h => by exact (cv_t h : cv (true && ((((decide ((x9.toNat : Int) < 65)) || (decide ((x9.toNat : Int) > 90))) && ((decide ((x9.toNat : Int) < 97)) || (decide ((x9.toNat : Int) > 122)))) == true)) (vb (decide ((x9.toNat : Int) < 48))) = (vb (decide ((x9.toNat : Int) < 48))))) (fun h => by exact pk_or (c := (true && ((((decide ((x9.toNat : Int) < 65)) || (decide ((x9.toNat : Int) > 90))) && ((decide ((x9.toNat : Int) < 97)) || (decide ((x9.toNat : Int) > 122)))) == true))) h)) ?_
   refine RL.pick (b := (((decide ((x9.toNat : Int) < 65)) || (decide ((x9.toNat : Int) > 90))) && ((decide ((x9.toNat : Int) < 97)) || (decide ((x9.toNat : Int) > 122))))) (v := (vb ((((decide ((x9.toNat : Int) < 65)) || (decide ((x9.toNat : Int) > 90))) && ((decide ((x9.toNat : Int) < 97)) || (decide ((x9.toNat : Int) > 122)))) && ((decide ((x9.toNat : Int) < 48)) || (decide ((x9.toNat : Int) > 57)))))) trivial rfl rfl (pk_and (c := true) rfl) ?_
   refine mv (vb ((((decide ((x9.toNat : Int) < 65)) || (decide ((x9.toNat : Int) > 90))) && ((decide ((x9.toNat : Int) < 97)) || (decide ((x9.toNat : Int) > 122)))) && ((decide ((x9.toNat : Int) < 48)) || (decide ((x9.toNat : Int) > 57))))) rfl rfl ?_
   rcases Bool.eq_false_or_eq_true ((((decide ((x9.toNat : Int) < 65)) || (decide ((x9.toNat : Int) > 90))) && ((decide ((x9.toNat : Int) < 97)) || (decide ((x9.toNat : Int) > 122)))) && ((decide ((x9.toNat : Int) < 48)) || (decide ((x9.toNat : Int) > 57)))) with hg13 | hg13
   rotate_left
   ·replace hj := cF hg13 hj
    refine sk rfl (.inl (cb hg13)) rfl ?_
    refine sk rfl (.inl (cb hg13)) rfl ?_
    refine sk rfl (.inl (cb hg13)) rfl ?_
    refine RL.pick (b := ((((decide ((x9.toNat : Int) < 65)) || (decide ((x9.toNat : Int) > 90))) && ((decide ((x9.toNat : Int) < 97)) || (decide ((x9.toNat : Int) > 122)))) && ((decide ((x9.toNat : Int) < 48)) || (decide ((x9.toNat : Int) > 57))))) (v := (vb false)) trivial rfl rfl (by rw [hg13]; rfl) ?_
    refine RL.nil ?_
    obtain rfl := oi hj
    exact ⟨rfl, ⟨rfl, rfl, rfl, rfl, trivial⟩, hw.pick 0 [] (new := []) rfl rfl (by decide) (by decide)⟩
   replace hj := cT hg13 hj
   refine RL.move (v := (.int .u8 (x9.toNat : Int))) ⟨_, rfl, cb hg13⟩ rfl rfl ?_
   obtain ⟨x14, hx14, hj⟩ := bd hj
   refine RL.call ⟨_, rfl, cb hg13⟩ rfl fn131 [(str ⟨[95, 43, 45, 35]⟩), (.int .u8 (x9.toNat : Int))] rfl (Calls_ret (strings_IndexByte_ok N (p0 := ⟨[95, 43, 45, 35]⟩) (p1 := (x9.toNat : Int))  hw  hx14) ?_)
   rintro _ w ⟨rfl, hw⟩
   refine RL.icmp (a := x14) (b := 0) ⟨_, rfl, cb hg13⟩ rfl rfl rfl rfl ?_
   refine RL.pick (b := ((((decide ((x9.toNat : Int) < 65)) || (decide ((x9.toNat : Int) > 90))) && ((decide ((x9.toNat : Int) < 97)) || (decide ((x9.toNat : Int) > 122)))) && ((decide ((x9.toNat : Int) < 48)) || (decide ((x9.toNat : Int) > 57))))) (v := (vb (decide (x14 < 0)))) trivial rfl rfl (by rw [hg13]; rfl) ?_
   refine RL.nil ?_
   obtain rfl := oi hj
   exact ⟨rfl, ⟨rfl, rfl, rfl, rfl, trivial⟩, hw.pick 0 [] (new := []) rfl rfl (by decide) (by decide)⟩
  rintro σ w ⟨ha, hw⟩
  obtain ⟨τ, rfl⟩ := ha.ups
  refine thenQ_n ?_
  refine RC.cond (b := s12) rfl (fun hc => ?_) (fun hc => ?_)
  rotate_left
  ·replace hb := cF hc hb
   refine RC.skip ?_
   refine blkQ_n ?_
   refine thenQ_n ?_
   refine RC.region ?_
   refine RL.inc trivial rfl hk hm rfl rfl ?_
   refine mv (vi ((k1 + 1 : Nat) : Int)) rfl rfl ?_
   refine RL.nil ?_
   obtain rfl := oi hb
   exact ⟨rfl, ⟨rfl, rfl, rfl, trivial⟩, hw.pick 0 [] (new := []) rfl rfl (by decide) (by decide)⟩
  replace hb := cT hc hb
  refine RC.sr ?_
  refine as_ (vb false) rfl rfl ?_
  refine RL.nt ?_
  refine RC.rb ?_
  refine thenQ_r ?_
  obtain rfl := oi hb
  exact ⟨rfl, fin1 rfl rfl ⟨rfl, hw.drop 0 rfl⟩⟩
 ·intro r σ w e hK
  subst e
  refine thenQ_r ?_
  obtain rfl := oi hb
  exact hK
 intro s2 σ w e hJ
 subst e
 rw [Fo.cs_go] at hb
 obtain ⟨ha, hw⟩ := hJ
 obtain ⟨τ, rfl⟩ := ha.ups
 refine thenQ_n ?_
 refine RC.sr ?_
 refine mv (str p0) rfl rfl ?_
 refine RL.lens (s := p0) trivial rfl rfl un9 ?_
 refine ic ((p0.toL.length : Int)) 1 rfl rfl rfl rfl ?_
 refine mv (vb (decide ((p0.toL.length : Int) ≥ 1))) rfl rfl ?_
 refine RL.gs (c := true) (b := (decide ((p0.toL.length : Int) ≥ 1))) (v := (str p0)) rfl rfl rfl (gs_move rfl (fun _ => rfl)) ?_
 refine RL.gs (c := true) (b := (decide ((p0.toL.length : Int) ≥ 1))) (v := (vi (p0.toL.length : Int))) rfl rfl rfl (gs_lens (s := p0) rfl (fun h => by exact (cv_t h : cv (true && ((decide ((p0.toL.length : Int) ≥ 1)) == true)) (str p0) = (str p0))) un9) ?_
 refine RL.gs (c := true) (b := (decide ((p0.toL.length : Int) ≥ 1))) (v := (vb (decide ((p0.toL.length : Int) ≤ 40)))) rfl rfl rfl (gs_icmp (bop := .leq) (K := .i64) (a := (p0.toL.length : Int)) (b := 40) rfl (fun h => by exact (cv_t h : cv (true && ((decide ((p0.toL.length : Int) ≥ 1)) == true)) (vi (p0.toL.length : Int)) = (vi (p0.toL.length : Int)))) (fun _ => rfl) rfl) ?_
 refine RL.pick (b := (decide ((p0.toL.length : Int) ≥ 1))) (v := (vb ((decide ((p0.toL.length : Int) ≥ 1)) && (decide ((p0.toL.length : Int) ≤ 40))))) trivial rfl rfl (pk_and (c := true) rfl) ?_
 refine as_ (vb ((decide ((p0.toL.length : Int) ≥ 1)) && (decide ((p0.toL.length : Int) ≤ 40)))) rfl rfl ?_
 refine RL.nt ?_
 refine RC.ret ?_
 obtain rfl := oi hb
 exact fin1 rfl rfl ⟨rfl, hw.drop 0 rfl⟩
def netlist_checkPins_c1_R (E : World) (Γ : List HP) (res : Bool) (v : Value) (w : World) : Prop := v = (vb res) ∧ Holds E w Γ
def netlist_checkPins_c1_K (E : World) (Γ : List HP) (r : Bool) (σ : Nat → Value) (w : World) : Prop := finQ Tryd.prog 21 Tryd.f133 (netlist_checkPins_c1_R E Γ r) .ret σ w
theorem netlist_checkPins_c1_ok (N : Nat) {E w : World} {Γ : List HP} {i0 : Nat} {v0 : Value} {p0 : PinType} {i1 : Nat} {v1 : Value} {p1 : PinType} {res : Bool} (hw : Holds E w Γ) (h0 : Γ[i0]? = some (rd v0 p0)) (h1 : Γ[i1]? = some (pt v1 p1)) (hb : netlist_checkPins_c1 N p0 p1 = some res) :
    Calls Tryd.prog 133 [v0, v1].toArray w (Ret (netlist_checkPins_c1_R E Γ res)) := by
 unfold netlist_checkPins_c1 at hb
 refine enter Tryd.func133 rfl rfl (Nat.le_of_ble_eq_true rfl) ?_
 have hw := hw.dup (i := i0 + 0) h0
 have hw := hw.dup_pt (i := i1 + 1) h1
 refine RC.sr ?_
 refine RL.box_rd (i := 1) (v := v0) trivial rfl hw rfl rfl fun b1 w hw => ?_
 refine as_ (vb false) rfl rfl ?_
 refine RL.nq ?_
 obtain ⟨s11, hj, hb⟩ := bd hb
 refine RC.jn (fun (s11 : Bool) (σ : Nat → Value) (w : World) => agree σ [(3, (vb s11))] ∧ Holds E w ([] ++ Γ)) s11 ?_ ?_
 ·refine RC.region ?_
  refine RL.fa_pt (i := 1) (f := fun (x : PinType) => x.Group) trivial rfl hw rfl rfl fa82_2 fd_PinType_2 fun v12 hw => ?_
  refine RL.load_pts (i := 0) (y := p1.Group) trivial rfl hw rfl rfl ty3 ?_
  refine ic (p1.Group) 0 rfl rfl rfl rfl ?_
  refine mv (vb (decide (p1.Group > 0))) rfl rfl ?_
  rcases Bool.eq_false_or_eq_true (decide (p1.Group > 0)) with hg13 | hg13
  rotate_left
  ·replace hj := cF hg13 hj
   refine sk rfl (.inl (cb hg13)) rfl ?_
   refine sk rfl (.inl (cb hg13)) rfl ?_
   refine sk rfl (.inl (cb hg13)) rfl ?_
   refine sk rfl (.inl (cb hg13)) rfl ?_
   refine sk rfl (.inl (cb hg13)) rfl ?_
   refine RL.pick (b := (decide (p1.Group > 0))) (v := (vb false)) trivial rfl rfl (by rw [hg13]; rfl) ?_
   refine mv (vb false) rfl rfl ?_
   refine sk rfl (.inl rfl) rfl ?_
   refine sk rfl (.inl rfl) rfl ?_
   refine sk rfl (.inl rfl) rfl ?_
   refine sk rfl (.inl rfl) rfl ?_
   refine sk rfl (.inl rfl) rfl ?_
   refine RL.pick (b := false) (v := (vb false)) trivial rfl rfl rfl ?_
   refine as_ (vb false) rfl rfl ?_
   refine RL.nil ?_
   obtain rfl := oi hj
   exact ⟨rfl, ⟨rfl, trivial⟩, hw.pick 4 [] (new := []) rfl rfl (by decide) (by decide)⟩
  replace hj := cT hg13 hj
  refine RL.fa_b ⟨_, rfl, cb hg13⟩ rfl rfl fa82_2 ?_
  refine RL.load_bfs (i := 1) (f := (fun x => x.Group)) ⟨_, rfl, cb hg13⟩ rfl hw rfl rfl fd_PinType_2 ty3 ?_
  refine RL.fa_pt (i := 2) (f := fun (x : PinType) => x.Group) ⟨_, rfl, cb hg13⟩ rfl hw rfl rfl fa82_2 fd_PinType_2 fun v14 hw => ?_
  refine RL.load_pts (i := 0) (y := p1.Group) ⟨_, rfl, cb hg13⟩ rfl hw rfl rfl ty3 ?_
  refine RL.icmp (a := p0.Group) (b := p1.Group) ⟨_, rfl, cb hg13⟩ rfl rfl rfl rfl ?_
  refine RL.pick (b := (decide (p1.Group > 0))) (v := (vb (p0.Group == p1.Group))) trivial rfl rfl (by rw [hg13]; rfl) ?_
  refine mv (vb (p0.Group == p1.Group)) rfl rfl ?_
  rcases Bool.eq_false_or_eq_true (p0.Group == p1.Group) with hg15 | hg15
  ·replace hj := cT hg15 hj
   refine RL.fa_b ⟨_, rfl, cb hg15⟩ rfl rfl fa82_1 ?_
   refine RL.load_bfs (i := 2) (f := (fun x => x.Kind)) ⟨_, rfl, cb hg15⟩ rfl hw rfl rfl fd_PinType_1 ty3 ?_
   refine RL.fa_pt (i := 3) (f := fun (x : PinType) => x.Kind) ⟨_, rfl, cb hg15⟩ rfl hw rfl rfl fa82_1 fd_PinType_1 fun v16 hw => ?_
   refine RL.load_pts (i := 0) (y := p1.Kind) ⟨_, rfl, cb hg15⟩ rfl hw rfl rfl ty3 ?_
   refine RL.icmp (a := p0.Kind) (b := p1.Kind) ⟨_, rfl, cb hg15⟩ rfl rfl rfl rfl ?_
   refine RL.pick (b := (p0.Group == p1.Group)) (v := (vb (p0.Kind != p1.Kind))) trivial rfl rfl (by rw [hg15]; rfl) ?_
   refine as_ (vb (p0.Kind != p1.Kind)) rfl rfl ?_
   refine RL.nil ?_
   obtain rfl := oi hj
   exact ⟨rfl, ⟨rfl, trivial⟩, hw.pick 6 [] (new := []) rfl rfl (by decide) (by decide)⟩
  replace hj := cF hg15 hj
  refine sk rfl (.inl (cb hg15)) rfl ?_
  refine sk rfl (.inl (cb hg15)) rfl ?_
  refine sk rfl (.inl (cb hg15)) rfl ?_
  refine sk rfl (.inl (cb hg15)) rfl ?_
  refine sk rfl (.inl (cb hg15)) rfl ?_
  refine RL.pick (b := (p0.Group == p1.Group)) (v := (vb false)) trivial rfl rfl (by rw [hg15]; rfl) ?_
  refine as_ (vb false) rfl rfl ?_
  refine RL.nil ?_
  obtain rfl := oi hj
  exact ⟨rfl, ⟨rfl, trivial⟩, hw.pick 5 [] (new := []) rfl rfl (by decide) (by decide)⟩
 rintro σ w ⟨ha, hw⟩
 obtain ⟨τ, rfl⟩ := ha.ups
 refine thenQ_n ?_
 refine RC.ret ?_
 obtain rfl := oi hb
 exact fin1 rfl rfl ⟨rfl, hw.drop 0 rfl⟩
def slices_IndexFunc_PinType_R (E : World) (Γ : List HP) (res : Int) (v : Value) (w : World) : Prop := v = (vi res) ∧ Holds E w Γ
def slices_IndexFunc_PinType_K (E : World) (Γ : List HP) (r : Int) (σ : Nat → Value) (w : World) : Prop := finQ Tryd.prog 19 Tryd.f148 (slices_IndexFunc_PinType_R E Γ r) .ret σ w
theorem slices_IndexFunc_PinType_ok (N : Nat) {E w : World} {Γ : List HP} {i0 : Nat} {v0 : Value} {p0 : (List PinType)} {v1 : Value} {p1 : PinType → Option Bool} {res : Int} (hw : Holds E w Γ) (h0 : Γ[i0]? = some (rd v0 p0)) (h1 : Fn1 Tryd.prog E Γ v1 p1 (fun (r : Bool) => Value.bool r)) (hb : slices_IndexFunc_PinType N p0 p1 = some res) :
    Calls Tryd.prog 148 [v0, v1].toArray w (Ret (slices_IndexFunc_PinType_R E Γ res)) := by
 unfold slices_IndexFunc_PinType at hb
 refine enter Tryd.func148 rfl rfl (Nat.le_of_ble_eq_true rfl) ?_
 have hw := hw.dup (i := i0 + 0) h0
 refine RC.sr ?_
 refine as_ (vi 0) rfl rfl ?_
 refine RL.nq ?_
 refine RC.sr ?_
 refine mv v0 rfl rfl ?_
 refine RL.len_rd (i := 0) (l := p0) trivial rfl hw rfl rfl un83 ?_
 refine mv (vi 0) rfl rfl ?_
 refine RL.nt ?_
 obtain ⟨o11, hN, hb⟩ := bd hb
 refine RC.range (fun (k1 : Nat) (s2 : Unit) (σ : Nat → Value) (w : World) => agree σ [(0, v0), (1, v1), (7, (vi (p0.length : Int))), (8, (vi (k1 : Int)))] ∧ Holds E w ([rd v0 p0] ++ Γ)) (fun (s2 : Unit) (σ : Nat → Value) (w : World) => agree σ [] ∧ Holds E w ([rd v0 p0] ++ Γ)) (slices_IndexFunc_PinType_K E Γ) hN ?_ ?_ ?_ ?_ ?_ 
 ·exact ⟨⟨rfl, rfl, rfl, rfl, trivial⟩, hw.pick 1 [0] (new := [rd v0 p0]) rfl rfl (by decide) (by decide)⟩
 ·intro hm s2 σ w hI
  obtain ⟨ha, hw⟩ := hI
  obtain ⟨τ, rfl⟩ := ha.ups
  refine RC.sr ?_
  refine ic ((p0.length : Int)) ((p0.length : Int)) rfl rfl rfl rfl ?_
  refine RL.nq ?_
  refine RC.cond_f dge ?_
  refine RC.ex ?_
  exact ⟨rfl, trivial, hw.pick 1 [0] (new := [rd v0 p0]) rfl rfl (by decide) (by decide)⟩
 ·intro hm k1 s2 fl σ w hk hI hb
  obtain ⟨ha, hw⟩ := hI
  obtain ⟨τ, rfl⟩ := ha.ups
  refine RC.sr ?_
  refine ic ((k1 : Int)) ((p0.length : Int)) rfl rfl rfl rfl ?_
  refine RL.nq ?_
  refine RC.cond_t (dlt hk) ?_
  refine RC.ss ?_
  refine RC.bs ?_
  refine mv (vi (k1 : Int)) rfl rfl ?_
  refine as_ (vi (k1 : Int)) rfl rfl ?_
  refine RL.ns ?_
  refine mv v1 rfl rfl ?_
  refine mv v0 rfl rfl ?_
  refine mv (vi (k1 : Int)) rfl rfl ?_
  obtain ⟨x7, hx7, hb⟩ := bd hb
  refine RL.ia_rd (i := 0) trivial rfl hw rfl rfl rfl sl83 hx7 fun v8 hw => ?_
  refine RL.load_pt (i := 0) (x := x7) trivial rfl hw rfl rfl ty82 fun v9 hw => ?_
  obtain ⟨x10, hx10, hb⟩ := bd hb
  refine RL.callF1 (i := 0) trivial rfl hw rfl h1 3 rfl rfl rfl hx10 fun w hw => ?_
  refine RL.nt ?_
  refine RC.cond (b := x10) rfl (fun hc => ?_) (fun hc => ?_)
  rotate_left
  ·replace hb := cF hc hb
   refine RC.skip ?_
   refine blkQ_n ?_
   refine thenQ_n ?_
   refine RC.region ?_
   refine RL.inc trivial rfl hk hm rfl rfl ?_
   refine mv (vi ((k1 + 1 : Nat) : Int)) rfl rfl ?_
   refine RL.nil ?_
   obtain rfl := oi hb
   exact ⟨rfl, ⟨rfl, rfl, rfl, rfl, trivial⟩, hw.pick 3 [2] (new := [rd v0 p0]) rfl rfl (by decide) (by decide)⟩
  replace hb := cT hc hb
  refine RC.sr ?_
  refine mv (vi (k1 : Int)) rfl rfl ?_
  refine as_ (vi (k1 : Int)) rfl rfl ?_
  refine RL.nt ?_
  refine RC.rb ?_
  refine thenQ_r ?_
  obtain rfl := oi hb
  exact ⟨rfl, fin1 rfl rfl ⟨rfl, hw.drop 3 rfl⟩⟩
 ·intro r σ w e hK
  subst e
  refine thenQ_r ?_
  obtain rfl := oi hb
  exact hK
 intro s2 σ w e hJ
 subst e
 rw [Fo.cs_go] at hb
 obtain ⟨ha, hw⟩ := hJ
 obtain ⟨τ, rfl⟩ := ha.ups
 refine thenQ_n ?_
 refine RC.sr ?_
 refine as_ (vi (-1)) rfl rfl ?_
 refine RL.nt ?_
 refine RC.ret ?_
 obtain rfl := oi hb
 exact fin1 rfl rfl ⟨rfl, hw.drop 1 rfl⟩
def slices_ContainsFunc_PinType_R (E : World) (Γ : List HP) (res : Bool) (v : Value) (w : World) : Prop := v = (vb res) ∧ Holds E w Γ
def slices_ContainsFunc_PinType_K (E : World) (Γ : List HP) (r : Bool) (σ : Nat → Value) (w : World) : Prop := finQ Tryd.prog 9 Tryd.f132 (slices_ContainsFunc_PinType_R E Γ r) .ret σ w
theorem slices_ContainsFunc_PinType_ok (N : Nat) {E w : World} {Γ : List HP} {i0 : Nat} {v0 : Value} {p0 : (List PinType)} {v1 : Value} {p1 : PinType → Option Bool} {res : Bool} (hw : Holds E w Γ) (h0 : Γ[i0]? = some (rd v0 p0)) (h1 : Fn1 Tryd.prog E Γ v1 p1 (fun (r : Bool) => Value.bool r)) (hb : slices_ContainsFunc_PinType N p0 p1 = some res) :
    Calls Tryd.prog 132 [v0, v1].toArray w (Ret (slices_ContainsFunc_PinType_R E Γ res)) := by
 unfold slices_ContainsFunc_PinType at hb
 refine enter Tryd.func132 rfl rfl (Nat.le_of_ble_eq_true rfl) ?_
 have hw := hw.dup (i := i0 + 0) h0
 refine RC.sr ?_
 refine as_ (vb false) rfl rfl ?_
 refine RL.ns ?_
 refine mv v0 rfl rfl ?_
 refine mv v1 rfl rfl ?_
 obtain ⟨x1, hx1, hb⟩ := bd hb
 refine RL.call trivial rfl fn148 [v0, v1] rfl (Calls_ret (slices_IndexFunc_PinType_ok N  (i0 := 0) hw rfl (h1.lift 1 rfl) hx1) ?_)
 rintro _ w ⟨rfl, hw⟩
 refine ic x1 0 rfl rfl rfl rfl ?_
 refine as_ (vb (decide (x1 ≥ 0))) rfl rfl ?_
 refine RL.nt ?_
 refine RC.ret ?_
 obtain rfl := oi hb
 exact fin1 rfl rfl ⟨rfl, hw.drop 1 rfl⟩
def netlist_checkPins_R (E : World) (Γ : List HP) (res : Int) (v : Value) (w : World) : Prop := v = (vi res) ∧ Holds E w Γ
def netlist_checkPins_K (E : World) (Γ : List HP) (r : Int) (σ : Nat → Value) (w : World) : Prop := finQ Tryd.prog 71 Tryd.f97 (netlist_checkPins_R E Γ r) .ret σ w
theorem netlist_checkPins_ok (N : Nat) {E w : World} {Γ : List HP} {i0 : Nat} {v0 : Value} {p0 : (List PinType)} {res : Int} (hw : Holds E w Γ) (h0 : Γ[i0]? = some (rd v0 p0)) (hb : netlist_checkPins N p0 = some res) :
    Calls Tryd.prog 97 [v0].toArray w (Ret (netlist_checkPins_R E Γ res)) := by
 unfold netlist_checkPins at hb
 refine enter Tryd.func97 rfl rfl (Nat.le_of_ble_eq_true rfl) ?_
 have hw := hw.dup (i := i0 + 0) h0
 refine RC.sr ?_
 refine as_ (vi 0) rfl rfl ?_
 refine RL.nq ?_
 refine RC.sr ?_
 refine mv v0 rfl rfl ?_
 refine RL.len_rd (i := 0) (l := p0) trivial rfl hw rfl rfl un83 ?_
 refine ic ((p0.length : Int)) 0 rfl rfl rfl rfl ?_
 refine RL.nt ?_
 refine RC.cond (b := ((p0.length : Int) == 0)) rfl (fun hc => ?_) (fun hc => ?_)
 ·replace hb := cT hc hb
  refine RC.sr ?_
  refine as_ (vi 9) rfl rfl ?_
  refine RL.nt ?_
  refine RC.rt ?_
  obtain rfl := oi hb
  exact fin1 rfl rfl ⟨rfl, hw.drop 1 rfl⟩
 replace hb := cF hc hb
 refine RC.ss ?_
 refine RC.sr ?_
 refine mv v0 rfl rfl ?_
 refine RL.len_rd (i := 0) (l := p0) trivial rfl hw rfl rfl un83 ?_
 refine ic ((p0.length : Int)) 200 rfl rfl rfl rfl ?_
 refine RL.nt ?_
 refine RC.cond (b := (decide ((p0.length : Int) > 200))) rfl (fun hc => ?_) (fun hc => ?_)
 ·replace hb := cT hc hb
  refine RC.sr ?_
  refine as_ (vi 2) rfl rfl ?_
  refine RL.nt ?_
  refine RC.rt ?_
  obtain rfl := oi hb
  exact fin1 rfl rfl ⟨rfl, hw.drop 1 rfl⟩
 replace hb := cF hc hb
 refine RC.ss ?_
 refine RC.sr ?_
 refine mv v0 rfl rfl ?_
 refine RL.len_rd (i := 0) (l := p0) trivial rfl hw rfl rfl un83 ?_
 refine mv (vi 0) rfl rfl ?_
 refine RL.nt ?_
 obtain ⟨o238, hN, hb⟩ := bd hb
 refine RC.range (fun (k1 : Nat) (s2 : Unit) (σ : Nat → Value) (w : World) => agree σ [(0, v0), (13, v0), (14, (vi (p0.length : Int))), (15, (vi (k1 : Int)))] ∧ Holds E w ([rd v0 p0] ++ Γ)) (fun (s2 : Unit) (σ : Nat → Value) (w : World) => agree σ [(0, v0)] ∧ Holds E w ([rd v0 p0] ++ Γ)) (netlist_checkPins_K E Γ) hN ?_ ?_ ?_ ?_ ?_ 
 ·exact ⟨⟨rfl, rfl, rfl, rfl, trivial⟩, hw.pick 1 [0] (new := [rd v0 p0]) rfl rfl (by decide) (by decide)⟩
 ·intro hm s2 σ w hI
  obtain ⟨ha, hw⟩ := hI
  obtain ⟨τ, rfl⟩ := ha.ups
  refine RC.sr ?_
  refine ic ((p0.length : Int)) ((p0.length : Int)) rfl rfl rfl rfl ?_
  refine RL.nq ?_
  refine RC.cond_f dge ?_
  refine RC.ex ?_
  exact ⟨rfl, ⟨rfl, trivial⟩, hw.pick 1 [0] (new := [rd v0 p0]) rfl rfl (by decide) (by decide)⟩
 ·intro hm k1 s2 fl σ w hk hI hb
  obtain ⟨ha, hw⟩ := hI
  obtain ⟨τ, rfl⟩ := ha.ups
  refine RC.sr ?_
  refine ic ((k1 : Int)) ((p0.length : Int)) rfl rfl rfl rfl ?_
  refine RL.nq ?_
  refine RC.cond_t (dlt hk) ?_
  refine RC.ss ?_
  refine RC.bs ?_
  refine mv (vi (k1 : Int)) rfl rfl ?_
  obtain ⟨x112, hx112, hb⟩ := bd hb
  refine RL.ia_rd (i := 0) trivial rfl hw rfl rfl rfl sl83 hx112 fun v113 hw => ?_
  refine RL.load_pt (i := 0) (x := x112) trivial rfl hw rfl rfl ty82 fun v114 hw => ?_
  refine RL.alloc trivial rfl hw ze82.z fun b115 w hw => ?_
  refine as_ (vi (k1 : Int)) rfl rfl ?_
  refine RL.store_raw (i := 0) (j := 1) trivial hw rfl rfl rfl rfl ty82 rfl fun w hw => ?_
  refine RL.nt ?_
  refine RC.bs ?_
  refine RL.fa_b trivial rfl rfl fa82_0 ?_
  refine RL.load_bfs (i := 0) (f := (fun x => x.Name)) trivial rfl hw rfl rfl fd_PinType_0 ty9 ?_
  obtain ⟨x116, hx116, hb⟩ := bd hb
  refine RL.call trivial rfl fn96 [(str x112.Name)] rfl (Calls_ret (netlist_IsWord_ok N (p0 := x112.Name)  hw  hx116) ?_)
  rintro _ w ⟨rfl, hw⟩
  refine RL.not (b := x116) trivial rfl rfl ?_
  refine as_ (vb (!x116)) rfl rfl ?_
  refine RL.nt ?_
  refine RC.cond (b := (!x116)) rfl (fun hc => ?_) (fun hc => ?_)
  ·replace hb := cT hc hb
   refine RC.sr ?_
   refine as_ (vi 5) rfl rfl ?_
   refine RL.nt ?_
   refine RC.rb ?_
   refine blkQ_r ?_
   refine thenQ_r ?_
   obtain rfl := oi hb
   exact ⟨rfl, fin1 rfl rfl ⟨rfl, hw.drop 4 rfl⟩⟩
  replace hb := cF hc hb
  refine RC.sr ?_
  refine RL.fa_b trivial rfl rfl fa82_1 ?_
  refine RL.load_bfs (i := 0) (f := (fun x => x.Kind)) trivial rfl hw rfl rfl fd_PinType_1 ty3 ?_
  refine ic (x112.Kind) 1 rfl rfl rfl rfl ?_
  refine mv (vb (decide (x112.Kind < 1))) rfl rfl ?_
  refine RL.gs (c := true) (b := (decide (x112.Kind < 1))) (v := (vp b115 1)) rfl rfl rfl (gs_fa_b rfl (fun _ => rfl) fa82_1) ?_
  refine RL.gs (c := true) (b := (decide (x112.Kind < 1))) (v := (vi x112.Kind)) rfl rfl rfl (gs_load_bfs (i := 0) (f := (fun x => x.Kind)) rfl hw (fun h => by exact (cv_t h : cv (true && ((decide (x112.Kind < 1)) == false)) (vp b115 1) = (vp b115 1))) rfl fd_PinType_1 ty3) ?_
  refine RL.gs (c := true) (b := (decide (x112.Kind < 1))) (v := (vb (decide (x112.Kind > 7)))) rfl rfl rfl (gs_icmp (bop := .gtr) (K := .i64) (a := x112.Kind) (b := 7) rfl (fun h => by exact (cv_t h : cv (true && ((decide (x112.Kind < 1)) == false)) (vi x112.Kind) = (vi x112.Kind))) (fun _ => rfl) rfl) ?_
  refine RL.pick (b := (decide (x112.Kind < 1))) (v := (vb ((decide (x112.Kind < 1)) || (decide (x112.Kind > 7))))) trivial rfl rfl (pk_or (c := true) rfl) ?_
  refine as_ (vb ((decide (x112.Kind < 1)) || (decide (x112.Kind > 7)))) rfl rfl ?_
  refine RL.nt ?_
  refine RC.cond (b := ((decide (x112.Kind < 1)) || (decide (x112.Kind > 7)))) rfl (fun hc => ?_) (fun hc => ?_)
  ·replace hb := cT hc hb
   refine RC.sr ?_
   refine as_ (vi 4) rfl rfl ?_
   refine RL.nt ?_
   refine RC.rb ?_
   refine blkQ_r ?_
   refine thenQ_r ?_
   obtain rfl := oi hb
   exact ⟨rfl, fin1 rfl rfl ⟨rfl, hw.drop 4 rfl⟩⟩
  replace hb := cF hc hb
  refine RC.sr ?_
  refine RL.fa_b trivial rfl rfl fa82_2 ?_
  refine RL.load_bfs (i := 0) (f := (fun x => x.Group)) trivial rfl hw rfl rfl fd_PinType_2 ty3 ?_
  refine ic (x112.Group) 0 rfl rfl rfl rfl ?_
  refine mv (vb (decide (x112.Group < 0))) rfl rfl ?_
  refine RL.gs (c := true) (b := (decide (x112.Group < 0))) (v := (vp b115 2)) rfl rfl rfl (gs_fa_b rfl (fun _ => rfl) fa82_2) ?_
  refine RL.gs (c := true) (b := (decide (x112.Group < 0))) (v := (vi x112.Group)) rfl rfl rfl (gs_load_bfs (i := 0) (f := (fun x => x.Group)) rfl hw (fun h => by exact (cv_t h : cv (true && ((decide (x112.Group < 0)) == false)) (vp b115 2) = (vp b115 2))) rfl fd_PinType_2 ty3) ?_
  refine RL.gs (c := true) (b := (decide (x112.Group < 0))) (v := (vb (decide (x112.Group > 200)))) rfl rfl rfl (gs_icmp (bop := .gtr) (K := .i64) (a := x112.Group) (b := 200) rfl (fun h => by exact (cv_t h : cv (true && ((decide (x112.Group < 0)) == false)) (vi x112.Group) = (vi x112.Group))) (fun _ => rfl) rfl) ?_
  refine RL.pick (b := (decide (x112.Group < 0))) (v := (vb ((decide (x112.Group < 0)) || (decide (x112.Group > 200))))) trivial rfl rfl (pk_or (c := true) rfl) ?_
  refine as_ (vb ((decide (x112.Group < 0)) || (decide (x112.Group > 200)))) rfl rfl ?_
  refine RL.nt ?_
  refine RC.cond (b := ((decide (x112.Group < 0)) || (decide (x112.Group > 200)))) rfl (fun hc => ?_) (fun hc => ?_)
  ·replace hb := cT hc hb
   refine RC.sr ?_
   refine as_ (vi 1) rfl rfl ?_
   refine RL.nt ?_
   refine RC.rb ?_
   refine blkQ_r ?_
   refine thenQ_r ?_
   obtain rfl := oi hb
   exact ⟨rfl, fin1 rfl rfl ⟨rfl, hw.drop 4 rfl⟩⟩
  replace hb := cF hc hb
  refine RC.seq ?_
  obtain ⟨s214, hj, hb⟩ := bd hb
  refine RC.jn (fun (s214 : Bool) (σ : Nat → Value) (w : World) => agree σ [(0, v0), (13, v0), (14, (vi (p0.length : Int))), (15, (vi (k1 : Int))), (43, (vb s214))] ∧ Holds E w ([rd v0 p0] ++ Γ)) s214 ?_ ?_
  ·rcases Bool.eq_false_or_eq_true (decide ((k1 : Int) > 0)) with hg215 | hg215
   rotate_left
   ·replace hj := cF hg215 hj
    refine RC.drw mixed rfl (fun (D : Nat → Bool) (σ : Nat → Value) (w : World) => doneV D σ [(0, 44, (vi (k1 : Int))), (1, 45, (vb (decide ((k1 : Int) > 0)))), (2, 46, (vb (decide ((k1 : Int) > 0)))), (3, 47, undef), (4, 48, undef), (5, 49, undef), (6, 50, undef), (7, 51, undef), (8, 52, undef), (9, 53, undef), (10, 54, undef), (11, 55, undef), (12, 56, (vb false)), (13, 43, (vb false))] ∧ agree σ [(0, v0), (3, (vi (k1 : Int))), (4, (vp b115 0)), (13, v0), (14, (vi (p0.length : Int))), (15, (vi (k1 : Int)))] ∧ Holds E w ([bx 82 b115 x112, rd v114 x112, pt v113 x112, rd v0 p0] ++ Γ)) ?_ ⟨?_, ?_, ?_, ?_, ?_, ?_, ?_, ?_, ?_, ?_, ?_, ?_, ?_, ?_, trivial⟩ ?_
    ·have hw := hw.drew
     exact ⟨doneV.none, ⟨rfl, rfl, rfl, rfl, rfl, rfl, trivial⟩, hw⟩
    ·rintro D σ w hD hdep hcl ⟨hv, ha, hw⟩
     obtain ⟨τ, rfl⟩ := (ac (ha.at 1 rfl) az).ups
     refine mv (vi (k1 : Int)) rfl rfl ?_
     refine RL.nil ?_
     exact ⟨rfl, hv.put 0 rfl rfl, ha.up rfl, hw⟩
    ·rintro D σ w hD hdep hcl ⟨hv, ha, hw⟩
     obtain ⟨τ, rfl⟩ := (ac (hv.at 0 rfl (hdep.1 rfl)) az).ups
     refine ic ((k1 : Int)) 0 rfl rfl rfl rfl ?_
     refine RL.nil ?_
     exact ⟨rfl, hv.put 1 rfl rfl, ha.up rfl, hw⟩
    ·rintro D σ w hD hdep hcl ⟨hv, ha, hw⟩
     obtain ⟨τ, rfl⟩ := (ac (hv.at 1 rfl (hdep.1 rfl)) az).ups
     refine mv (vb (decide ((k1 : Int) > 0))) rfl rfl ?_
     refine RL.nil ?_
     exact ⟨rfl, hv.put 2 rfl rfl, ha.up rfl, hw⟩
    ·rintro D σ w hD hdep hcl ⟨hv, ha, hw⟩
     obtain ⟨τ, rfl⟩ := (ac (hv.at 2 rfl (hdep.1 rfl)) (ac (ha.at 2 rfl) az)).ups
     refine sk rfl (.inl (cb hg215)) rfl ?_
     refine RL.nil ?_
     exact ⟨rfl, hv.put 3 rfl rfl, ha.up rfl, hw⟩
    ·rintro D σ w hD hdep hcl ⟨hv, ha, hw⟩
     obtain ⟨τ, rfl⟩ := (ac (hv.at 2 rfl (hdep.2.1 rfl)) (ac (hv.at 3 rfl (hdep.1 rfl)) az)).ups
     refine sk rfl (.inl (cb hg215)) rfl ?_
     refine RL.nil ?_
     exact ⟨rfl, hv.put 4 rfl rfl, ha.up rfl, hw⟩
    ·rintro D σ w hD hdep hcl ⟨hv, ha, hw⟩
     obtain ⟨τ, rfl⟩ := (ac (hv.at 2 rfl (hdep.1 rfl)) (ac (ha.at 0 rfl) az)).ups
     refine sk rfl (.inl (cb hg215)) rfl ?_
     refine RL.nil ?_
     exact ⟨rfl, hv.put 5 rfl rfl, ha.up rfl, hw⟩
    ·rintro D σ w hD hdep hcl ⟨hv, ha, hw⟩
     obtain ⟨τ, rfl⟩ := (ac (hv.at 2 rfl (hdep.1 rfl)) (ac (ha.at 1 rfl) az)).ups
     refine sk rfl (.inl (cb hg215)) rfl ?_
     refine RL.nil ?_
     exact ⟨rfl, hv.put 6 rfl rfl, ha.up rfl, hw⟩
    ·rintro D σ w hD hdep hcl ⟨hv, ha, hw⟩
     obtain ⟨τ, rfl⟩ := (ac (hv.at 2 rfl (hdep.2.1 rfl)) (ac (hv.at 6 rfl (hdep.1 rfl)) az)).ups
     refine sk rfl (.inl (cb hg215)) rfl ?_
     refine RL.nil ?_
     exact ⟨rfl, hv.put 7 rfl rfl, ha.up rfl, hw⟩
    ·rintro D σ w hD hdep hcl ⟨hv, ha, hw⟩
     obtain ⟨τ, rfl⟩ := (ac (hv.at 2 rfl (hdep.2.2.1 rfl)) (ac (hv.at 5 rfl (hdep.1 rfl)) (ac (hv.at 7 rfl (hdep.2.1 rfl)) az))).ups
     refine sk rfl (.inl (cb hg215)) rfl ?_
     refine RL.nil ?_
     exact ⟨rfl, hv.put 8 rfl rfl, ha.up rfl, hw⟩
    ·rintro D σ w hD hdep hcl ⟨hv, ha, hw⟩
     obtain ⟨τ, rfl⟩ := (ac (hv.at 2 rfl (hdep.2.1 rfl)) (ac (hv.at 8 rfl (hdep.1 rfl)) az)).ups
     refine sk rfl (.inl (cb hg215)) rfl ?_
     refine RL.nil ?_
     exact ⟨rfl, hv.put 9 rfl rfl, ha.up rfl, hw⟩
    ·rintro D σ w hD hdep hcl ⟨hv, ha, hw⟩
     obtain ⟨τ, rfl⟩ := (ac (hv.at 2 rfl (hdep.2.1 rfl)) (ac (hv.at 9 rfl (hdep.1 rfl)) az)).ups
     refine sk rfl (.inl (cb hg215)) rfl ?_
     refine RL.nil ?_
     exact ⟨rfl, hv.put 10 rfl rfl, ha.up rfl, hw⟩
    ·rintro D σ w hD hdep hcl ⟨hv, ha, hw⟩
     obtain ⟨τ, rfl⟩ := (ac (hv.at 2 rfl (hdep.2.2.1 rfl)) (ac (hv.at 4 rfl (hdep.1 rfl)) (ac (hv.at 10 rfl (hdep.2.1 rfl)) az))).ups
     refine sk rfl (.inl (cb hg215)) rfl ?_
     refine RL.nil ?_
     exact ⟨rfl, hv.put 11 rfl rfl, ha.up rfl, hw⟩
    ·rintro D σ w hD hdep hcl ⟨hv, ha, hw⟩
     obtain ⟨τ, rfl⟩ := (ac (hv.at 2 rfl (hdep.1 rfl)) (ac (hv.at 11 rfl (hdep.2.1 rfl)) az)).ups
     refine RL.pick (b := (decide ((k1 : Int) > 0))) (v := (vb false)) trivial rfl rfl (by rw [hg215]; rfl) ?_
     refine RL.nil ?_
     exact ⟨rfl, hv.put 12 rfl rfl, ha.up rfl, hw⟩
    ·rintro D σ w hD hdep hcl ⟨hv, ha, hw⟩
     obtain ⟨τ, rfl⟩ := (ac (hv.at 12 rfl (hdep.1 rfl)) az).ups
     refine as_ (vb false) rfl rfl ?_
     refine RL.nil ?_
     exact ⟨rfl, hv.put 13 rfl rfl, ha.up rfl, hw⟩
    rintro D σ w hall ⟨hv, ha, hw⟩
    obtain ⟨τ, rfl⟩ := (ac (hv.at 13 rfl (hall 13 (by decide))) (ac (ha.at 0 rfl) (ac (ha.at 1 rfl) (ac (ha.at 2 rfl) (ac (ha.at 3 rfl) (ac (ha.at 4 rfl) (ac (ha.at 5 rfl) az))))))).ups
    obtain rfl := oi hj
    exact ⟨rfl, ⟨rfl, rfl, rfl, rfl, rfl, trivial⟩, hw.pick 4 [3] (new := [rd v0 p0]) rfl rfl (by decide) (by decide)⟩
   replace hj := cT hg215 hj
   obtain ⟨x216, hx216, hj⟩ := bd hj
   refine RC.drw mixed rfl (fun (D : Nat → Bool) (σ : Nat → Value) (w : World) => ∃ (v217 : Value) (v218 : Value), doneV D σ [(0, 44, (vi (k1 : Int))), (1, 45, (vb (decide ((k1 : Int) > 0)))), (2, 46, (vb (decide ((k1 : Int) > 0)))), (3, 47, (vp b115 0)), (4, 48, (str x112.Name)), (5, 49, v0), (6, 50, (vi (k1 : Int))), (7, 51, (vi (IntKind.wrap .i64 ((k1 : Int) - 1)))), (8, 52, v217), (9, 53, v218), (10, 54, (str x216.Name)), (11, 55, (vb (x112.Name.ltb x216.Name || x112.Name.eqb x216.Name))), (12, 56, (vb (x112.Name.ltb x216.Name || x112.Name.eqb x216.Name))), (13, 43, (vb (x112.Name.ltb x216.Name || x112.Name.eqb x216.Name)))] ∧ agree σ [(0, v0), (3, (vi (k1 : Int))), (4, (vp b115 0)), (13, v0), (14, (vi (p0.length : Int))), (15, (vi (k1 : Int)))] ∧ Holds E w ([bif D 8 then (pt v217 x216) else junk, bif D 9 then (pt v218 x216.Name) else junk, bx 82 b115 x112, rd v114 x112, pt v113 x112, rd v0 p0] ++ Γ)) ?_ ⟨?_, ?_, ?_, ?_, ?_, ?_, ?_, ?_, ?_, ?_, ?_, ?_, ?_, ?_, trivial⟩ ?_
   ·have hw := hw.drew
    have hw := hw.junk
    have hw := hw.junk
    exact ⟨undef, undef, doneV.none, ⟨rfl, rfl, rfl, rfl, rfl, rfl, trivial⟩, hw⟩
   ·rintro D σ w hD hdep hcl ⟨v217, v218, hv, ha, hw⟩
    obtain ⟨τ, rfl⟩ := (ac (ha.at 1 rfl) az).ups
    refine mv (vi (k1 : Int)) rfl rfl ?_
    refine RL.nil ?_
    exact ⟨rfl, v217, v218, hv.put 0 rfl rfl, ha.up rfl, hw⟩
   ·rintro D σ w hD hdep hcl ⟨v217, v218, hv, ha, hw⟩
    obtain ⟨τ, rfl⟩ := (ac (hv.at 0 rfl (hdep.1 rfl)) az).ups
    refine ic ((k1 : Int)) 0 rfl rfl rfl rfl ?_
    refine RL.nil ?_
    exact ⟨rfl, v217, v218, hv.put 1 rfl rfl, ha.up rfl, hw⟩
   ·rintro D σ w hD hdep hcl ⟨v217, v218, hv, ha, hw⟩
    obtain ⟨τ, rfl⟩ := (ac (hv.at 1 rfl (hdep.1 rfl)) az).ups
    refine mv (vb (decide ((k1 : Int) > 0))) rfl rfl ?_
    refine RL.nil ?_
    exact ⟨rfl, v217, v218, hv.put 2 rfl rfl, ha.up rfl, hw⟩
   ·rintro D σ w hD hdep hcl ⟨v217, v218, hv, ha, hw⟩
    obtain ⟨τ, rfl⟩ := (ac (hv.at 2 rfl (hdep.1 rfl)) (ac (ha.at 2 rfl) az)).ups
    refine RL.fa_b ⟨_, rfl, cb hg215⟩ rfl rfl fa82_0 ?_
    refine RL.nil ?_
    exact ⟨rfl, v217, v218, hv.put 3 rfl rfl, ha.up rfl, hw⟩
   ·rintro D σ w hD hdep hcl ⟨v217, v218, hv, ha, hw⟩
    obtain ⟨τ, rfl⟩ := (ac (hv.at 2 rfl (hdep.2.1 rfl)) (ac (hv.at 3 rfl (hdep.1 rfl)) az)).ups
    refine RL.load_bfs (i := 2) (f := (fun x => x.Name)) ⟨_, rfl, cb hg215⟩ rfl hw rfl rfl fd_PinType_0 ty9 ?_
    refine RL.nil ?_
    exact ⟨rfl, v217, v218, hv.put 4 rfl rfl, ha.up rfl, hw⟩
   ·rintro D σ w hD hdep hcl ⟨v217, v218, hv, ha, hw⟩
    obtain ⟨τ, rfl⟩ := (ac (hv.at 2 rfl (hdep.1 rfl)) (ac (ha.at 0 rfl) az)).ups
    refine RL.move (v := v0) ⟨_, rfl, cb hg215⟩ rfl rfl ?_
    refine RL.nil ?_
    exact ⟨rfl, v217, v218, hv.put 5 rfl rfl, ha.up rfl, hw⟩
   ·rintro D σ w hD hdep hcl ⟨v217, v218, hv, ha, hw⟩
    obtain ⟨τ, rfl⟩ := (ac (hv.at 2 rfl (hdep.1 rfl)) (ac (ha.at 1 rfl) az)).ups
    refine RL.move (v := (vi (k1 : Int))) ⟨_, rfl, cb hg215⟩ rfl rfl ?_
    refine RL.nil ?_
    exact ⟨rfl, v217, v218, hv.put 6 rfl rfl, ha.up rfl, hw⟩
   ·rintro D σ w hD hdep hcl ⟨v217, v218, hv, ha, hw⟩
    obtain ⟨τ, rfl⟩ := (ac (hv.at 2 rfl (hdep.2.1 rfl)) (ac (hv.at 6 rfl (hdep.1 rfl)) az)).ups
    refine RL.iar (a := (k1 : Int)) (b := 1) ⟨_, rfl, cb hg215⟩ rfl rfl rfl rfl ?_
    refine RL.nil ?_
    exact ⟨rfl, v217, v218, hv.put 7 rfl rfl, ha.up rfl, hw⟩
   ·rintro D σ w hD hdep hcl ⟨v217, v218, hv, ha, hw⟩
    obtain ⟨τ, rfl⟩ := (ac (hv.at 2 rfl (hdep.2.2.1 rfl)) (ac (hv.at 5 rfl (hdep.1 rfl)) (ac (hv.at 7 rfl (hdep.2.1 rfl)) az))).ups
    have hw := hw.selF (i := 0) rfl hD
    refine RL.ia_rd (i := 5) ⟨_, rfl, cb hg215⟩ rfl hw rfl rfl rfl sl83 hx216 fun v219 hw => ?_
    have hw := hw.pick 7 [0, 2, 3, 4, 5, 6] (new := [pt v219 x216, bif D 9 then (pt v218 x216.Name) else junk, bx 82 b115 x112, rd v114 x112, pt v113 x112, rd v0 p0]) rfl rfl (by decide) (by decide)
    have hw := hw.altT (i := 0) (b := true) rfl rfl (junk)
    refine RL.nil ?_
    exact ⟨rfl, v219, v218, hv.put 8 rfl rfl, ha.up rfl, hw⟩
   ·rintro D σ w hD hdep hcl ⟨v217, v218, hv, ha, hw⟩
    obtain ⟨τ, rfl⟩ := (ac (hv.at 2 rfl (hdep.2.1 rfl)) (ac (hv.at 8 rfl (hdep.1 rfl)) az)).ups
    have hw := hw.selT (i := 0) rfl (hdep.1 rfl)
    have hw := hw.selF (i := 1) rfl hD
    refine RL.fa_pt (i := 0) (f := fun (x : PinType) => x.Name) ⟨_, rfl, cb hg215⟩ rfl hw rfl rfl fa82_0 fd_PinType_0 fun v220 hw => ?_
    have hw := hw.pick 7 [1, 0, 3, 4, 5, 6] (new := [pt v217 x216, pt v220 x216.Name, bx 82 b115 x112, rd v114 x112, pt v113 x112, rd v0 p0]) rfl rfl (by decide) (by decide)
    have hw := hw.altT (i := 0) (b := D 8) rfl (hdep.1 rfl) (junk)
    have hw := hw.altT (i := 1) (b := true) rfl rfl (junk)
    refine RL.nil ?_
    exact ⟨rfl, v217, v220, hv.put 9 rfl rfl, ha.up rfl, hw⟩
   ·rintro D σ w hD hdep hcl ⟨v217, v218, hv, ha, hw⟩
    obtain ⟨τ, rfl⟩ := (ac (hv.at 2 rfl (hdep.2.1 rfl)) (ac (hv.at 9 rfl (hdep.1 rfl)) az)).ups
    have hw := hw.selT (i := 1) rfl (hdep.1 rfl)
    refine RL.load_pts (i := 1) (y := x216.Name) ⟨_, rfl, cb hg215⟩ rfl hw rfl rfl ty9 ?_
    have hw := hw.altT (i := 1) (b := D 9) rfl (hdep.1 rfl) (junk)
    refine RL.nil ?_
    exact ⟨rfl, v217, v218, hv.put 10 rfl rfl, ha.up rfl, hw⟩
   ·rintro D σ w hD hdep hcl ⟨v217, v218, hv, ha, hw⟩
    obtain ⟨τ, rfl⟩ := (ac (hv.at 2 rfl (hdep.2.2.1 rfl)) (ac (hv.at 4 rfl (hdep.1 rfl)) (ac (hv.at 10 rfl (hdep.2.1 rfl)) az))).ups
    refine RL.scmp (a := x112.Name) (b := x216.Name) ⟨_, rfl, cb hg215⟩ rfl rfl rfl rfl ?_
    refine RL.nil ?_
    exact ⟨rfl, v217, v218, hv.put 11 rfl rfl, ha.up rfl, hw⟩
   ·rintro D σ w hD hdep hcl ⟨v217, v218, hv, ha, hw⟩
    obtain ⟨τ, rfl⟩ := (ac (hv.at 2 rfl (hdep.1 rfl)) (ac (hv.at 11 rfl (hdep.2.1 rfl)) az)).ups
    refine RL.pick (b := (decide ((k1 : Int) > 0))) (v := (vb (x112.Name.ltb x216.Name || x112.Name.eqb x216.Name))) trivial rfl rfl (by rw [hg215]; rfl) ?_
    refine RL.nil ?_
    exact ⟨rfl, v217, v218, hv.put 12 rfl rfl, ha.up rfl, hw⟩
   ·rintro D σ w hD hdep hcl ⟨v217, v218, hv, ha, hw⟩
    obtain ⟨τ, rfl⟩ := (ac (hv.at 12 rfl (hdep.1 rfl)) az).ups
    refine as_ (vb (x112.Name.ltb x216.Name || x112.Name.eqb x216.Name)) rfl rfl ?_
    refine RL.nil ?_
    exact ⟨rfl, v217, v218, hv.put 13 rfl rfl, ha.up rfl, hw⟩
   rintro D σ w hall ⟨v217, v218, hv, ha, hw⟩
   rw [hall 8 (by decide), hall 9 (by decide)] at hw
   obtain ⟨τ, rfl⟩ := (ac (hv.at 13 rfl (hall 13 (by decide))) (ac (ha.at 0 rfl) (ac (ha.at 1 rfl) (ac (ha.at 2 rfl) (ac (ha.at 3 rfl) (ac (ha.at 4 rfl) (ac (ha.at 5 rfl) az))))))).ups
   obtain rfl := oi hj
   exact ⟨rfl, ⟨rfl, rfl, rfl, rfl, rfl, trivial⟩, hw.pick 6 [5] (new := [rd v0 p0]) rfl rfl (by decide) (by decide)⟩
  rintro σ w ⟨ha, hw⟩
  obtain ⟨τ, rfl⟩ := ha.ups
  refine thenQ_n ?_
  refine RC.cond (b := s214) rfl (fun hc => ?_) (fun hc => ?_)
  rotate_left
  ·replace hb := cF hc hb
   refine RC.skip ?_
   refine blkQ_n ?_
   refine blkQ_n ?_
   refine thenQ_n ?_
   refine RC.region ?_
   refine RL.inc trivial rfl hk hm rfl rfl ?_
   refine mv (vi ((k1 + 1 : Nat) : Int)) rfl rfl ?_
   refine RL.nil ?_
   obtain rfl := oi hb
   exact ⟨rfl, ⟨rfl, rfl, rfl, rfl, trivial⟩, hw.pick 1 [0] (new := [rd v0 p0]) rfl rfl (by decide) (by decide)⟩
  replace hb := cT hc hb
  refine RC.sr ?_
  refine as_ (vi 8) rfl rfl ?_
  refine RL.nt ?_
  refine RC.rb ?_
  refine blkQ_r ?_
  refine thenQ_r ?_
  obtain rfl := oi hb
  exact ⟨rfl, fin1 rfl rfl ⟨rfl, hw.drop 1 rfl⟩⟩
 ·intro r σ w e hK
  subst e
  refine thenQ_r ?_
  obtain rfl := oi hb
  exact hK
 intro s2 σ w e hJ
 subst e
 rw [Fo.cs_go] at hb
 obtain ⟨ha, hw⟩ := hJ
 obtain ⟨τ, rfl⟩ := ha.ups
 refine thenQ_n ?_
 refine RC.seq ?_
 refine RC.sr ?_
 refine mv v0 rfl rfl ?_
 refine RL.len_rd (i := 0) (l := p0) trivial rfl hw rfl rfl un83 ?_
 refine mv (vi 0) rfl rfl ?_
 refine RL.nt ?_
 obtain ⟨o237, hN, hb⟩ := bd hb
 refine RC.range (fun (k221 : Nat) (s222 : Unit) (σ : Nat → Value) (w : World) => agree σ [(0, v0), (58, v0), (59, (vi (p0.length : Int))), (60, (vi (k221 : Int)))] ∧ Holds E w ([rd v0 p0] ++ Γ)) (fun (s222 : Unit) (σ : Nat → Value) (w : World) => agree σ [] ∧ Holds E w ([rd v0 p0] ++ Γ)) (netlist_checkPins_K E Γ) hN ?_ ?_ ?_ ?_ ?_ 
 ·exact ⟨⟨rfl, rfl, rfl, rfl, trivial⟩, hw.pick 1 [0] (new := [rd v0 p0]) rfl rfl (by decide) (by decide)⟩
 ·intro hm s222 σ w hI
  obtain ⟨ha, hw⟩ := hI
  obtain ⟨τ, rfl⟩ := ha.ups
  refine RC.sr ?_
  refine ic ((p0.length : Int)) ((p0.length : Int)) rfl rfl rfl rfl ?_
  refine RL.nq ?_
  refine RC.cond_f dge ?_
  refine RC.ex ?_
  exact ⟨rfl, trivial, hw.pick 1 [0] (new := [rd v0 p0]) rfl rfl (by decide) (by decide)⟩
 ·intro hm k221 s222 fl σ w hk hI hb
  obtain ⟨ha, hw⟩ := hI
  obtain ⟨τ, rfl⟩ := ha.ups
  refine RC.sr ?_
  refine ic ((k221 : Int)) ((p0.length : Int)) rfl rfl rfl rfl ?_
  refine RL.nq ?_
  refine RC.cond_t (dlt hk) ?_
  refine RC.ss ?_
  refine RC.bs ?_
  refine mv (vi (k221 : Int)) rfl rfl ?_
  obtain ⟨x230, hx230, hb⟩ := bd hb
  refine RL.ia_rd (i := 0) trivial rfl hw rfl rfl rfl sl83 hx230 fun v231 hw => ?_
  refine RL.load_pt (i := 0) (x := x230) trivial rfl hw rfl rfl ty82 fun v232 hw => ?_
  refine RL.alloc trivial rfl hw ze82.z fun b233 w hw => ?_
  refine as_ (vi (k221 : Int)) rfl rfl ?_
  refine RL.store_raw (i := 0) (j := 1) trivial hw rfl rfl rfl rfl ty82 rfl fun w hw => ?_
  refine RL.ns ?_
  refine mv v0 rfl rfl ?_
  refine mv (vi (k221 : Int)) rfl rfl ?_
  obtain ⟨x234, hx234, hb⟩ := bd hb
  refine RL.cut (i := 3) trivial rfl hw rfl rfl sl83 (.inr ⟨rfl, rfl⟩) (.inl rfl) hx234 fun v235 hw => ?_
  have hw := hw.freeze_bx (i := 1) rfl
  refine RL.makeFunc trivial rfl [(vp b233 0)] rfl ?_
  obtain ⟨x236, hx236, hb⟩ := bd hb
  refine RL.call trivial rfl fn132 [v235, (.func (.func 133) #[] #[(vp b233 0)])] rfl (Calls_ret (slices_ContainsFunc_PinType_ok N  (i0 := 0) hw rfl ⟨133, [(vp b233 0)], rfl, fn133, fun w Γl v y0 r i hw hi hr => by exact Calls_ret (netlist_checkPins_c1_ok N (i0 := i) (i1 := Γl.length + 1) hw hi (up_get rfl) hr) fun _ _ h => h⟩ hx236) ?_)
  rintro _ w ⟨rfl, hw⟩
  refine RL.nt ?_
  refine RC.cond (b := x236) rfl (fun hc => ?_) (fun hc => ?_)
  rotate_left
  ·replace hb := cF hc hb
   refine RC.skip ?_
   refine blkQ_n ?_
   refine thenQ_n ?_
   refine RC.region ?_
   refine RL.inc trivial rfl hk hm rfl rfl ?_
   refine mv (vi ((k221 + 1 : Nat) : Int)) rfl rfl ?_
   refine RL.nil ?_
   obtain rfl := oi hb
   exact ⟨rfl, ⟨rfl, rfl, rfl, rfl, trivial⟩, hw.pick 5 [4] (new := [rd v0 p0]) rfl rfl (by decide) (by decide)⟩
  replace hb := cT hc hb
  refine RC.sr ?_
  refine as_ (vi 12) rfl rfl ?_
  refine RL.nt ?_
  refine RC.rb ?_
  refine thenQ_r ?_
  obtain rfl := oi hb
  exact ⟨rfl, fin1 rfl rfl ⟨rfl, hw.drop 5 rfl⟩⟩
 ·intro r σ w e hK
  subst e
  refine thenQ_r ?_
  obtain rfl := oi hb
  exact hK
 intro s222 σ w e hJ
 subst e
 rw [Fo.cs_go] at hb
 obtain ⟨ha, hw⟩ := hJ
 obtain ⟨τ, rfl⟩ := ha.ups
 refine thenQ_n ?_
 refine RC.sr ?_
 refine as_ (vi 0) rfl rfl ?_
 refine RL.nt ?_
 refine RC.ret ?_
 obtain rfl := oi hb
 exact fin1 rfl rfl ⟨rfl, hw.drop 1 rfl⟩
def netlist_CheckTypes_R (E : World) (Γ : List HP) (res : Int) (v : Value) (w : World) : Prop := v = (vi res) ∧ Holds E w Γ
def netlist_CheckTypes_K (E : World) (Γ : List HP) (r : Int) (σ : Nat → Value) (w : World) : Prop := finQ Tryd.prog 40 Tryd.f40 (netlist_CheckTypes_R E Γ r) .ret σ w
theorem netlist_CheckTypes_ok (N : Nat) {E w : World} {Γ : List HP} {i0 : Nat} {v0 : Value} {p0 : (List PartType)} {res : Int} (hw : Holds E w Γ) (h0 : Γ[i0]? = some (rd v0 p0)) (hb : netlist_CheckTypes N p0 = some res) :
    Calls Tryd.prog 40 [v0].toArray w (Ret (netlist_CheckTypes_R E Γ res)) := by
 unfold netlist_CheckTypes at hb
 refine enter Tryd.func40 rfl rfl (Nat.le_of_ble_eq_true rfl) ?_
 have hw := hw.dup (i := i0 + 0) h0
 refine RC.sr ?_
 refine as_ (vi 0) rfl rfl ?_
 refine RL.nq ?_
 refine RC.sr ?_
 refine mv v0 rfl rfl ?_
 refine RL.len_rd (i := 0) (l := p0) trivial rfl hw rfl rfl un22 ?_
 refine ic ((p0.length : Int)) 200 rfl rfl rfl rfl ?_
 refine RL.nt ?_
 refine RC.cond (b := (decide ((p0.length : Int) > 200))) rfl (fun hc => ?_) (fun hc => ?_)
 ·replace hb := cT hc hb
  refine RC.sr ?_
  refine as_ (vi 2) rfl rfl ?_
  refine RL.nt ?_
  refine RC.rt ?_
  obtain rfl := oi hb
  exact fin1 rfl rfl ⟨rfl, hw.drop 1 rfl⟩
 replace hb := cF hc hb
 refine RC.ss ?_
 refine RC.sr ?_
 refine mv v0 rfl rfl ?_
 refine RL.len_rd (i := 0) (l := p0) trivial rfl hw rfl rfl un22 ?_
 refine mv (vi 0) rfl rfl ?_
 refine RL.nt ?_
 obtain ⟨o43, hN, hb⟩ := bd hb
 refine RC.range (fun (k1 : Nat) (s2 : Unit) (σ : Nat → Value) (w : World) => agree σ [(0, v0), (9, v0), (10, (vi (p0.length : Int))), (11, (vi (k1 : Int)))] ∧ Holds E w ([rd v0 p0] ++ Γ)) (fun (s2 : Unit) (σ : Nat → Value) (w : World) => agree σ [] ∧ Holds E w ([rd v0 p0] ++ Γ)) (netlist_CheckTypes_K E Γ) hN ?_ ?_ ?_ ?_ ?_ 
 ·exact ⟨⟨rfl, rfl, rfl, rfl, trivial⟩, hw.pick 1 [0] (new := [rd v0 p0]) rfl rfl (by decide) (by decide)⟩
 ·intro hm s2 σ w hI
  obtain ⟨ha, hw⟩ := hI
  obtain ⟨τ, rfl⟩ := ha.ups
  refine RC.sr ?_
  refine ic ((p0.length : Int)) ((p0.length : Int)) rfl rfl rfl rfl ?_
  refine RL.nq ?_
  refine RC.cond_f dge ?_
  refine RC.ex ?_
  exact ⟨rfl, trivial, hw.pick 1 [0] (new := [rd v0 p0]) rfl rfl (by decide) (by decide)⟩
 ·intro hm k1 s2 fl σ w hk hI hb
  obtain ⟨ha, hw⟩ := hI
  obtain ⟨τ, rfl⟩ := ha.ups
  refine RC.sr ?_
  refine ic ((k1 : Int)) ((p0.length : Int)) rfl rfl rfl rfl ?_
  refine RL.nq ?_
  refine RC.cond_t (dlt hk) ?_
  refine RC.ss ?_
  refine RC.bs ?_
  refine mv (vi (k1 : Int)) rfl rfl ?_
  obtain ⟨x23, hx23, hb⟩ := bd hb
  refine RL.ia_rd (i := 0) trivial rfl hw rfl rfl rfl sl22 hx23 fun v24 hw => ?_
  refine RL.load_pt (i := 0) (x := x23) trivial rfl hw rfl rfl ty85 fun v25 hw => ?_
  refine RL.alloc trivial rfl hw ze85.z fun b26 w hw => ?_
  refine as_ (vi (k1 : Int)) rfl rfl ?_
  refine RL.store_raw (i := 0) (j := 1) trivial hw rfl rfl rfl rfl ty85 rfl fun w hw => ?_
  refine RL.nq ?_
  refine RC.sr ?_
  refine RL.fa_b trivial rfl rfl fa85_0 ?_
  refine RL.load_bfs (i := 0) (f := (fun x => x.Name)) trivial rfl hw rfl rfl fd_PartType_0 ty9 ?_
  obtain ⟨x27, hx27, hb⟩ := bd hb
  refine RL.call trivial rfl fn96 [(str x23.Name)] rfl (Calls_ret (netlist_IsWord_ok N (p0 := x23.Name)  hw  hx27) ?_)
  rintro _ w ⟨rfl, hw⟩
  refine RL.not (b := x27) trivial rfl rfl ?_
  refine RL.nt ?_
  refine RC.cond (b := (!x27)) rfl (fun hc => ?_) (fun hc => ?_)
  ·replace hb := cT hc hb
   refine RC.sr ?_
   refine as_ (vi 5) rfl rfl ?_
   refine RL.nt ?_
   refine RC.rt ?_
   refine blkQ_r ?_
   refine thenQ_r ?_
   obtain rfl := oi hb
   exact ⟨rfl, fin1 rfl rfl ⟨rfl, hw.drop 4 rfl⟩⟩
  replace hb := cF hc hb
  refine RC.ss ?_
  refine RC.sr ?_
  refine RL.fa_b trivial rfl rfl fa85_1 ?_
  refine RL.load_bf (i := 0) (f := (fun x => x.Pins)) trivial rfl hw rfl rfl fd_PartType_1 ty83 fun v28 hw => ?_
  obtain ⟨x29, hx29, hb⟩ := bd hb
  refine RL.call trivial rfl fn97 [v28] rfl (Calls_ret (netlist_checkPins_ok N  (i0 := 0) hw rfl hx29) ?_)
  rintro _ w ⟨rfl, hw⟩
  refine as_ (vi x29) rfl rfl ?_
  refine RL.ns ?_
  refine mv (vi x29) rfl rfl ?_
  refine ic x29 0 rfl rfl rfl rfl ?_
  refine RL.nt ?_
  refine RC.cond (b := (x29 != 0)) rfl (fun hc => ?_) (fun hc => ?_)
  ·replace hb := cT hc hb
   refine RC.sr ?_
   refine mv (vi x29) rfl rfl ?_
   refine as_ (vi x29) rfl rfl ?_
   refine RL.nt ?_
   refine RC.rt ?_
   refine blkQ_r ?_
   refine thenQ_r ?_
   obtain rfl := oi hb
   exact ⟨rfl, fin1 rfl rfl ⟨rfl, hw.drop 5 rfl⟩⟩
  replace hb := cF hc hb
  refine RC.ss ?_
  obtain ⟨s36, hj, hb⟩ := bd hb
  refine RC.jn (fun (s36 : Bool) (σ : Nat → Value) (w : World) => agree σ [(0, v0), (9, v0), (10, (vi (p0.length : Int))), (11, (vi (k1 : Int))), (38, (vb s36))] ∧ Holds E w ([rd v0 p0] ++ Γ)) s36 ?_ ?_
  ·rcases Bool.eq_false_or_eq_true (decide ((k1 : Int) > 0)) with hg37 | hg37
   rotate_left
   ·replace hj := cF hg37 hj
    refine RC.drw mixed rfl (fun (D : Nat → Bool) (σ : Nat → Value) (w : World) => doneV D σ [(0, 26, (vi (k1 : Int))), (1, 27, (vb (decide ((k1 : Int) > 0)))), (2, 28, (vb (decide ((k1 : Int) > 0)))), (3, 29, undef), (4, 30, undef), (5, 31, undef), (6, 32, undef), (7, 33, undef), (8, 34, undef), (9, 35, undef), (10, 36, undef), (11, 37, undef), (12, 38, (vb false))] ∧ agree σ [(0, v0), (3, (vi (k1 : Int))), (4, (vp b26 0)), (9, v0), (10, (vi (p0.length : Int))), (11, (vi (k1 : Int)))] ∧ Holds E w ([rd v28 x23.Pins, bx 85 b26 x23, rd v25 x23, pt v24 x23, rd v0 p0] ++ Γ)) ?_ ⟨?_, ?_, ?_, ?_, ?_, ?_, ?_, ?_, ?_, ?_, ?_, ?_, ?_, trivial⟩ ?_
    ·have hw := hw.drew
     exact ⟨doneV.none, ⟨rfl, rfl, rfl, rfl, rfl, rfl, trivial⟩, hw⟩
    ·rintro D σ w hD hdep hcl ⟨hv, ha, hw⟩
     obtain ⟨τ, rfl⟩ := (ac (ha.at 1 rfl) az).ups
     refine mv (vi (k1 : Int)) rfl rfl ?_
     refine RL.nil ?_
     exact ⟨rfl, hv.put 0 rfl rfl, ha.up rfl, hw⟩
    ·rintro D σ w hD hdep hcl ⟨hv, ha, hw⟩
     obtain ⟨τ, rfl⟩ := (ac (hv.at 0 rfl (hdep.1 rfl)) az).ups
     refine ic ((k1 : Int)) 0 rfl rfl rfl rfl ?_
     refine RL.nil ?_
     exact ⟨rfl, hv.put 1 rfl rfl, ha.up rfl, hw⟩
    ·rintro D σ w hD hdep hcl ⟨hv, ha, hw⟩
     obtain ⟨τ, rfl⟩ := (ac (hv.at 1 rfl (hdep.1 rfl)) az).ups
     refine mv (vb (decide ((k1 : Int) > 0))) rfl rfl ?_
     refine RL.nil ?_
     exact ⟨rfl, hv.put 2 rfl rfl, ha.up rfl, hw⟩
    ·rintro D σ w hD hdep hcl ⟨hv, ha, hw⟩
     obtain ⟨τ, rfl⟩ := (ac (hv.at 2 rfl (hdep.1 rfl)) (ac (ha.at 2 rfl) az)).ups
     refine sk rfl (.inl (cb hg37)) rfl ?_
     refine RL.nil ?_
     exact ⟨rfl, hv.put 3 rfl rfl, ha.up rfl, hw⟩
    ·rintro D σ w hD hdep hcl ⟨hv, ha, hw⟩
     obtain ⟨τ, rfl⟩ := (ac (hv.at 2 rfl (hdep.2.1 rfl)) (ac (hv.at 3 rfl (hdep.1 rfl)) az)).ups
     refine sk rfl (.inl (cb hg37)) rfl ?_
     refine RL.nil ?_
     exact ⟨rfl, hv.put 4 rfl rfl, ha.up rfl, hw⟩
    ·rintro D σ w hD hdep hcl ⟨hv, ha, hw⟩
     obtain ⟨τ, rfl⟩ := (ac (hv.at 2 rfl (hdep.1 rfl)) (ac (ha.at 0 rfl) az)).ups
     refine sk rfl (.inl (cb hg37)) rfl ?_
     refine RL.nil ?_
     exact ⟨rfl, hv.put 5 rfl rfl, ha.up rfl, hw⟩
    ·rintro D σ w hD hdep hcl ⟨hv, ha, hw⟩
     obtain ⟨τ, rfl⟩ := (ac (hv.at 2 rfl (hdep.1 rfl)) (ac (ha.at 1 rfl) az)).ups
     refine sk rfl (.inl (cb hg37)) rfl ?_
     refine RL.nil ?_
     exact ⟨rfl, hv.put 6 rfl rfl, ha.up rfl, hw⟩
    ·rintro D σ w hD hdep hcl ⟨hv, ha, hw⟩
     obtain ⟨τ, rfl⟩ := (ac (hv.at 2 rfl (hdep.2.1 rfl)) (ac (hv.at 6 rfl (hdep.1 rfl)) az)).ups
     refine sk rfl (.inl (cb hg37)) rfl ?_
     refine RL.nil ?_
     exact ⟨rfl, hv.put 7 rfl rfl, ha.up rfl, hw⟩
    ·rintro D σ w hD hdep hcl ⟨hv, ha, hw⟩
     obtain ⟨τ, rfl⟩ := (ac (hv.at 2 rfl (hdep.2.2.1 rfl)) (ac (hv.at 5 rfl (hdep.1 rfl)) (ac (hv.at 7 rfl (hdep.2.1 rfl)) az))).ups
     refine sk rfl (.inl (cb hg37)) rfl ?_
     refine RL.nil ?_
     exact ⟨rfl, hv.put 8 rfl rfl, ha.up rfl, hw⟩
    ·rintro D σ w hD hdep hcl ⟨hv, ha, hw⟩
     obtain ⟨τ, rfl⟩ := (ac (hv.at 2 rfl (hdep.2.1 rfl)) (ac (hv.at 8 rfl (hdep.1 rfl)) az)).ups
     refine sk rfl (.inl (cb hg37)) rfl ?_
     refine RL.nil ?_
     exact ⟨rfl, hv.put 9 rfl rfl, ha.up rfl, hw⟩
    ·rintro D σ w hD hdep hcl ⟨hv, ha, hw⟩
     obtain ⟨τ, rfl⟩ := (ac (hv.at 2 rfl (hdep.2.1 rfl)) (ac (hv.at 9 rfl (hdep.1 rfl)) az)).ups
     refine sk rfl (.inl (cb hg37)) rfl ?_
     refine RL.nil ?_
     exact ⟨rfl, hv.put 10 rfl rfl, ha.up rfl, hw⟩
    ·rintro D σ w hD hdep hcl ⟨hv, ha, hw⟩
     obtain ⟨τ, rfl⟩ := (ac (hv.at 2 rfl (hdep.2.2.1 rfl)) (ac (hv.at 4 rfl (hdep.1 rfl)) (ac (hv.at 10 rfl (hdep.2.1 rfl)) az))).ups
     refine sk rfl (.inl (cb hg37)) rfl ?_
     refine RL.nil ?_
     exact ⟨rfl, hv.put 11 rfl rfl, ha.up rfl, hw⟩
    ·rintro D σ w hD hdep hcl ⟨hv, ha, hw⟩
     obtain ⟨τ, rfl⟩ := (ac (hv.at 2 rfl (hdep.1 rfl)) (ac (hv.at 11 rfl (hdep.2.1 rfl)) az)).ups
     refine RL.pick (b := (decide ((k1 : Int) > 0))) (v := (vb false)) trivial rfl rfl (by rw [hg37]; rfl) ?_
     refine RL.nil ?_
     exact ⟨rfl, hv.put 12 rfl rfl, ha.up rfl, hw⟩
    rintro D σ w hall ⟨hv, ha, hw⟩
    obtain ⟨τ, rfl⟩ := (ac (hv.at 12 rfl (hall 12 (by decide))) (ac (ha.at 0 rfl) (ac (ha.at 1 rfl) (ac (ha.at 2 rfl) (ac (ha.at 3 rfl) (ac (ha.at 4 rfl) (ac (ha.at 5 rfl) az))))))).ups
    obtain rfl := oi hj
    exact ⟨rfl, ⟨rfl, rfl, rfl, rfl, rfl, trivial⟩, hw.pick 5 [4] (new := [rd v0 p0]) rfl rfl (by decide) (by decide)⟩
   replace hj := cT hg37 hj
   obtain ⟨x38, hx38, hj⟩ := bd hj
   refine RC.drw mixed rfl (fun (D : Nat → Bool) (σ : Nat → Value) (w : World) => ∃ (v39 : Value) (v40 : Value), doneV D σ [(0, 26, (vi (k1 : Int))), (1, 27, (vb (decide ((k1 : Int) > 0)))), (2, 28, (vb (decide ((k1 : Int) > 0)))), (3, 29, (vp b26 0)), (4, 30, (str x23.Name)), (5, 31, v0), (6, 32, (vi (k1 : Int))), (7, 33, (vi (IntKind.wrap .i64 ((k1 : Int) - 1)))), (8, 34, v39), (9, 35, v40), (10, 36, (str x38.Name)), (11, 37, (vb (x23.Name.ltb x38.Name || x23.Name.eqb x38.Name))), (12, 38, (vb (x23.Name.ltb x38.Name || x23.Name.eqb x38.Name)))] ∧ agree σ [(0, v0), (3, (vi (k1 : Int))), (4, (vp b26 0)), (9, v0), (10, (vi (p0.length : Int))), (11, (vi (k1 : Int)))] ∧ Holds E w ([bif D 8 then (pt v39 x38) else junk, bif D 9 then (pt v40 x38.Name) else junk, rd v28 x23.Pins, bx 85 b26 x23, rd v25 x23, pt v24 x23, rd v0 p0] ++ Γ)) ?_ ⟨?_, ?_, ?_, ?_, ?_, ?_, ?_, ?_, ?_, ?_, ?_, ?_, ?_, trivial⟩ ?_
   ·have hw := hw.drew
    have hw := hw.junk
    have hw := hw.junk
    exact ⟨undef, undef, doneV.none, ⟨rfl, rfl, rfl, rfl, rfl, rfl, trivial⟩, hw⟩
   ·rintro D σ w hD hdep hcl ⟨v39, v40, hv, ha, hw⟩
    obtain ⟨τ, rfl⟩ := (ac (ha.at 1 rfl) az).ups
    refine mv (vi (k1 : Int)) rfl rfl ?_
    refine RL.nil ?_
    exact ⟨rfl, v39, v40, hv.put 0 rfl rfl, ha.up rfl, hw⟩
   ·rintro D σ w hD hdep hcl ⟨v39, v40, hv, ha, hw⟩
    obtain ⟨τ, rfl⟩ := (ac (hv.at 0 rfl (hdep.1 rfl)) az).ups
    refine ic ((k1 : Int)) 0 rfl rfl rfl rfl ?_
    refine RL.nil ?_
    exact ⟨rfl, v39, v40, hv.put 1 rfl rfl, ha.up rfl, hw⟩
   ·rintro D σ w hD hdep hcl ⟨v39, v40, hv, ha, hw⟩
    obtain ⟨τ, rfl⟩ := (ac (hv.at 1 rfl (hdep.1 rfl)) az).ups
    refine mv (vb (decide ((k1 : Int) > 0))) rfl rfl ?_
    refine RL.nil ?_
    exact ⟨rfl, v39, v40, hv.put 2 rfl rfl, ha.up rfl, hw⟩
   ·rintro D σ w hD hdep hcl ⟨v39, v40, hv, ha, hw⟩
    obtain ⟨τ, rfl⟩ := (ac (hv.at 2 rfl (hdep.1 rfl)) (ac (ha.at 2 rfl) az)).ups
    refine RL.fa_b ⟨_, rfl, cb hg37⟩ rfl rfl fa85_0 ?_
    refine RL.nil ?_
    exact ⟨rfl, v39, v40, hv.put 3 rfl rfl, ha.up rfl, hw⟩
   ·rintro D σ w hD hdep hcl ⟨v39, v40, hv, ha, hw⟩
    obtain ⟨τ, rfl⟩ := (ac (hv.at 2 rfl (hdep.2.1 rfl)) (ac (hv.at 3 rfl (hdep.1 rfl)) az)).ups
    refine RL.load_bfs (i := 3) (f := (fun x => x.Name)) ⟨_, rfl, cb hg37⟩ rfl hw rfl rfl fd_PartType_0 ty9 ?_
    refine RL.nil ?_
    exact ⟨rfl, v39, v40, hv.put 4 rfl rfl, ha.up rfl, hw⟩
   ·rintro D σ w hD hdep hcl ⟨v39, v40, hv, ha, hw⟩
    obtain ⟨τ, rfl⟩ := (ac (hv.at 2 rfl (hdep.1 rfl)) (ac (ha.at 0 rfl) az)).ups
    refine RL.move (v := v0) ⟨_, rfl, cb hg37⟩ rfl rfl ?_
    refine RL.nil ?_
    exact ⟨rfl, v39, v40, hv.put 5 rfl rfl, ha.up rfl, hw⟩
   ·rintro D σ w hD hdep hcl ⟨v39, v40, hv, ha, hw⟩
    obtain ⟨τ, rfl⟩ := (ac (hv.at 2 rfl (hdep.1 rfl)) (ac (ha.at 1 rfl) az)).ups
    refine RL.move (v := (vi (k1 : Int))) ⟨_, rfl, cb hg37⟩ rfl rfl ?_
    refine RL.nil ?_
    exact ⟨rfl, v39, v40, hv.put 6 rfl rfl, ha.up rfl, hw⟩
   ·rintro D σ w hD hdep hcl ⟨v39, v40, hv, ha, hw⟩
    obtain ⟨τ, rfl⟩ := (ac (hv.at 2 rfl (hdep.2.1 rfl)) (ac (hv.at 6 rfl (hdep.1 rfl)) az)).ups
    refine RL.iar (a := (k1 : Int)) (b := 1) ⟨_, rfl, cb hg37⟩ rfl rfl rfl rfl ?_
    refine RL.nil ?_
    exact ⟨rfl, v39, v40, hv.put 7 rfl rfl, ha.up rfl, hw⟩
   ·rintro D σ w hD hdep hcl ⟨v39, v40, hv, ha, hw⟩
    obtain ⟨τ, rfl⟩ := (ac (hv.at 2 rfl (hdep.2.2.1 rfl)) (ac (hv.at 5 rfl (hdep.1 rfl)) (ac (hv.at 7 rfl (hdep.2.1 rfl)) az))).ups
    have hw := hw.selF (i := 0) rfl hD
    refine RL.ia_rd (i := 6) ⟨_, rfl, cb hg37⟩ rfl hw rfl rfl rfl sl22 hx38 fun v41 hw => ?_
    have hw := hw.pick 8 [0, 2, 3, 4, 5, 6, 7] (new := [pt v41 x38, bif D 9 then (pt v40 x38.Name) else junk, rd v28 x23.Pins, bx 85 b26 x23, rd v25 x23, pt v24 x23, rd v0 p0]) rfl rfl (by decide) (by decide)
    have hw := hw.altT (i := 0) (b := true) rfl rfl (junk)
    refine RL.nil ?_
    exact ⟨rfl, v41, v40, hv.put 8 rfl rfl, ha.up rfl, hw⟩
   ·rintro D σ w hD hdep hcl ⟨v39, v40, hv, ha, hw⟩
    obtain ⟨τ, rfl⟩ := (ac (hv.at 2 rfl (hdep.2.1 rfl)) (ac (hv.at 8 rfl (hdep.1 rfl)) az)).ups
    have hw := hw.selT (i := 0) rfl (hdep.1 rfl)
    have hw := hw.selF (i := 1) rfl hD
    refine RL.fa_pt (i := 0) (f := fun (x : PartType) => x.Name) ⟨_, rfl, cb hg37⟩ rfl hw rfl rfl fa85_0 fd_PartType_0 fun v42 hw => ?_
    have hw := hw.pick 8 [1, 0, 3, 4, 5, 6, 7] (new := [pt v39 x38, pt v42 x38.Name, rd v28 x23.Pins, bx 85 b26 x23, rd v25 x23, pt v24 x23, rd v0 p0]) rfl rfl (by decide) (by decide)
    have hw := hw.altT (i := 0) (b := D 8) rfl (hdep.1 rfl) (junk)
    have hw := hw.altT (i := 1) (b := true) rfl rfl (junk)
    refine RL.nil ?_
    exact ⟨rfl, v39, v42, hv.put 9 rfl rfl, ha.up rfl, hw⟩
   ·rintro D σ w hD hdep hcl ⟨v39, v40, hv, ha, hw⟩
    obtain ⟨τ, rfl⟩ := (ac (hv.at 2 rfl (hdep.2.1 rfl)) (ac (hv.at 9 rfl (hdep.1 rfl)) az)).ups
    have hw := hw.selT (i := 1) rfl (hdep.1 rfl)
    refine RL.load_pts (i := 1) (y := x38.Name) ⟨_, rfl, cb hg37⟩ rfl hw rfl rfl ty9 ?_
    have hw := hw.altT (i := 1) (b := D 9) rfl (hdep.1 rfl) (junk)
    refine RL.nil ?_
    exact ⟨rfl, v39, v40, hv.put 10 rfl rfl, ha.up rfl, hw⟩
   ·rintro D σ w hD hdep hcl ⟨v39, v40, hv, ha, hw⟩
    obtain ⟨τ, rfl⟩ := (ac (hv.at 2 rfl (hdep.2.2.1 rfl)) (ac (hv.at 4 rfl (hdep.1 rfl)) (ac (hv.at 10 rfl (hdep.2.1 rfl)) az))).ups
    refine RL.scmp (a := x23.Name) (b := x38.Name) ⟨_, rfl, cb hg37⟩ rfl rfl rfl rfl ?_
    refine RL.nil ?_
    exact ⟨rfl, v39, v40, hv.put 11 rfl rfl, ha.up rfl, hw⟩
   ·rintro D σ w hD hdep hcl ⟨v39, v40, hv, ha, hw⟩
    obtain ⟨τ, rfl⟩ := (ac (hv.at 2 rfl (hdep.1 rfl)) (ac (hv.at 11 rfl (hdep.2.1 rfl)) az)).ups
    refine RL.pick (b := (decide ((k1 : Int) > 0))) (v := (vb (x23.Name.ltb x38.Name || x23.Name.eqb x38.Name))) trivial rfl rfl (by rw [hg37]; rfl) ?_
    refine RL.nil ?_
    exact ⟨rfl, v39, v40, hv.put 12 rfl rfl, ha.up rfl, hw⟩
   rintro D σ w hall ⟨v39, v40, hv, ha, hw⟩
   rw [hall 8 (by decide), hall 9 (by decide)] at hw
   obtain ⟨τ, rfl⟩ := (ac (hv.at 12 rfl (hall 12 (by decide))) (ac (ha.at 0 rfl) (ac (ha.at 1 rfl) (ac (ha.at 2 rfl) (ac (ha.at 3 rfl) (ac (ha.at 4 rfl) (ac (ha.at 5 rfl) az))))))).ups
   obtain rfl := oi hj
   exact ⟨rfl, ⟨rfl, rfl, rfl, rfl, rfl, trivial⟩, hw.pick 7 [6] (new := [rd v0 p0]) rfl rfl (by decide) (by decide)⟩
  rintro σ w ⟨ha, hw⟩
  obtain ⟨τ, rfl⟩ := ha.ups
  refine thenQ_n ?_
  refine RC.cond (b := s36) rfl (fun hc => ?_) (fun hc => ?_)
  rotate_left
  ·replace hb := cF hc hb
   refine RC.skip ?_
   refine blkQ_n ?_
   refine thenQ_n ?_
   refine RC.region ?_
   refine RL.inc trivial rfl hk hm rfl rfl ?_
   refine mv (vi ((k1 + 1 : Nat) : Int)) rfl rfl ?_
   refine RL.nil ?_
   obtain rfl := oi hb
   exact ⟨rfl, ⟨rfl, rfl, rfl, rfl, trivial⟩, hw.pick 1 [0] (new := [rd v0 p0]) rfl rfl (by decide) (by decide)⟩
  replace hb := cT hc hb
  refine RC.sr ?_
  refine as_ (vi 8) rfl rfl ?_
  refine RL.nt ?_
  refine RC.rb ?_
  refine thenQ_r ?_
  obtain rfl := oi hb
  exact ⟨rfl, fin1 rfl rfl ⟨rfl, hw.drop 1 rfl⟩⟩
 ·intro r σ w e hK
  subst e
  refine thenQ_r ?_
  obtain rfl := oi hb
  exact hK
 intro s2 σ w e hJ
 subst e
 rw [Fo.cs_go] at hb
 obtain ⟨ha, hw⟩ := hJ
 obtain ⟨τ, rfl⟩ := ha.ups
 refine thenQ_n ?_
 refine RC.sr ?_
 refine as_ (vi 0) rfl rfl ?_
 refine RL.nt ?_
 refine RC.ret ?_
 obtain rfl := oi hb
 exact fin1 rfl rfl ⟨rfl, hw.drop 1 rfl⟩
def slices_BinarySearchFunc_PartType_string_R (E : World) (Γ : List HP) (res : Int × Bool) (v : Value) (w : World) : Prop := v = .tuple #[(vi res.1), (vb res.2)] ∧ Holds E w Γ
def slices_BinarySearchFunc_PartType_string_K (E : World) (Γ : List HP) (r : Int × Bool) (σ : Nat → Value) (w : World) : Prop := finQ Tryd.prog 49 Tryd.f105 (slices_BinarySearchFunc_PartType_string_R E Γ r) .ret σ w
theorem slices_BinarySearchFunc_PartType_string_ok (N : Nat) {E w : World} {Γ : List HP} {i0 : Nat} {v0 : Value} {p0 : (List PartType)} {p1 : Str} {v2 : Value} {p2 : PartType → Str → Option Int} {res : Int × Bool} (hw : Holds E w Γ) (h0 : Γ[i0]? = some (rd v0 p0)) (h2 : Fn2 Tryd.prog E Γ v2 p2 (fun (r : Int) => Value.int .i64 r)) (hb : slices_BinarySearchFunc_PartType_string N p0 p1 p2 = some res) :
    Calls Tryd.prog 105 [v0, (str p1), v2].toArray w (Ret (slices_BinarySearchFunc_PartType_string_R E Γ res)) := by
 unfold slices_BinarySearchFunc_PartType_string at hb
 refine enter Tryd.func105 rfl rfl (Nat.le_of_ble_eq_true rfl) ?_
 have hw := hw.dup (i := i0 + 0) h0
 refine RC.sr ?_
 refine as_ (vi 0) rfl rfl ?_
 refine as_ (vb false) rfl rfl ?_
 refine RL.ns ?_
 refine mv v0 rfl rfl ?_
 refine RL.len_rd (i := 0) (l := p0) trivial rfl hw rfl rfl un22 ?_
 refine as_ (vi (p0.length : Int)) rfl rfl ?_
 refine RL.ns ?_
 refine mv (vi (p0.length : Int)) rfl rfl ?_
 refine as_ (vi 0) rfl rfl ?_
 refine as_ (vi (p0.length : Int)) rfl rfl ?_
 refine RL.nq ?_
 obtain ⟨o29, hN, hb⟩ := bd hb
 refine RC.iter (fun (s2 : Int × Int) (σ : Nat → Value) (w : World) => agree σ [(0, v0), (1, (str p1)), (2, v2), (8, (vi (p0.length : Int))), (9, (vi s2.1)), (10, (vi s2.2))] ∧ Holds E w ([rd v0 p0] ++ Γ)) (fun (s2 : Int × Int) (σ : Nat → Value) (w : World) => agree σ [(0, v0), (1, (str p1)), (2, v2), (8, (vi (p0.length : Int))), (9, (vi s2.1))] ∧ Holds E w ([rd v0 p0] ++ Γ)) (fun (r : Empty) (_ : Nat → Value) (_ : World) => r.elim) hN ?_ ?_ ?_ ?_ 
 ·exact ⟨⟨rfl, rfl, rfl, rfl, rfl, rfl, trivial⟩, hw.pick 1 [0] (new := [rd v0 p0]) rfl rfl (by decide) (by decide)⟩
 ·intro s2 fl σ w hI hb
  obtain ⟨ha, hw⟩ := hI
  obtain ⟨τ, rfl⟩ := ha.ups
  refine RC.seq ?_
  refine RC.sr ?_
  refine mv (vi s2.1) rfl rfl ?_
  refine mv (vi s2.2) rfl rfl ?_
  refine ic (s2.1) (s2.2) rfl rfl rfl rfl ?_
  refine RL.nt ?_
  refine RC.cond (b := (decide (s2.1 < s2.2))) rfl (fun hc => ?_) (fun hc => ?_)
  rotate_left
  ·replace hb := cF hc hb
   refine RC.ex ?_
   obtain rfl := oi hb
   exact ⟨rfl, ⟨rfl, rfl, rfl, rfl, rfl, trivial⟩, hw.pick 1 [0] (new := [rd v0 p0]) rfl rfl (by decide) (by decide)⟩
  replace hb := cT hc hb
  refine RC.sn ?_
  refine RC.bs ?_
  refine mv (vi s2.1) rfl rfl ?_
  refine mv (vi s2.2) rfl rfl ?_
  refine RL.iar (a := s2.1) (b := s2.2) trivial rfl rfl rfl rfl ?_
  refine RL.conv (a := (IntKind.wrap .i64 (s2.1 + s2.2))) trivial rfl rfl ⟨_, un3⟩ un180 ?_
  refine RL.bin (v := (.int .u64 (IntKind.wrap .u64 (IntKind.wrap .i64 (s2.1 + s2.2))))) (v' := (.int .u64 1)) (u := (.int .u64 (Int.fdiv (IntKind.wrap .u64 (IntKind.wrap .i64 (s2.1 + s2.2))) 2))) trivial rfl rfl rfl (fun _ => rfl) (fun _ => rfl) ?_
  refine RL.conv (a := (Int.fdiv (IntKind.wrap .u64 (IntKind.wrap .i64 (s2.1 + s2.2))) 2)) trivial rfl rfl ⟨_, un180⟩ un3 ?_
  refine as_ (vi (IntKind.wrap .i64 (Int.fdiv (IntKind.wrap .u64 (IntKind.wrap .i64 (s2.1 + s2.2))) 2))) rfl rfl ?_
  refine RL.ns ?_
  refine mv v2 rfl rfl ?_
  refine mv v0 rfl rfl ?_
  refine mv (vi (IntKind.wrap .i64 (Int.fdiv (IntKind.wrap .u64 (IntKind.wrap .i64 (s2.1 + s2.2))) 2))) rfl rfl ?_
  obtain ⟨x13, hx13, hb⟩ := bd hb
  refine RL.ia_rd (i := 0) trivial rfl hw rfl rfl rfl sl22 hx13 fun v14 hw => ?_
  refine RL.load_pt (i := 0) (x := x13) trivial rfl hw rfl rfl ty85 fun v15 hw => ?_
  refine mv (str p1) rfl rfl ?_
  have hw := hw.sc (γ := Str) p1
  obtain ⟨x16, hx16, hb⟩ := bd hb
  refine RL.callF2 (i := 1) (j := 0) trivial rfl hw rfl h2 4 rfl rfl rfl rfl rfl hx16 fun w hw => ?_
  refine ic x16 0 rfl rfl rfl rfl ?_
  refine RL.nt ?_
  obtain ⟨s17, hj, hb⟩ := bd hb
  refine RC.jn (fun (s17 : Int × Int) (σ : Nat → Value) (w : World) => agree σ [(0, v0), (1, (str p1)), (2, v2), (8, (vi (p0.length : Int))), (9, (vi s17.1)), (10, (vi s17.2))] ∧ Holds E w ([rd v0 p0] ++ Γ)) s17 ?_ ?_
  ·refine RC.cond (b := (decide (x16 < 0))) rfl (fun hc => ?_) (fun hc => ?_)
   rotate_left
   ·replace hj := cF hc hj
    refine RC.region ?_
    refine mv (vi (IntKind.wrap .i64 (Int.fdiv (IntKind.wrap .u64 (IntKind.wrap .i64 (s2.1 + s2.2))) 2))) rfl rfl ?_
    refine as_ (vi (IntKind.wrap .i64 (Int.fdiv (IntKind.wrap .u64 (IntKind.wrap .i64 (s2.1 + s2.2))) 2))) rfl rfl ?_
    refine RL.nil ?_
    obtain rfl := oi hj
    exact ⟨rfl, ⟨rfl, rfl, rfl, rfl, rfl, rfl, trivial⟩, hw.pick 4 [3] (new := [rd v0 p0]) rfl rfl (by decide) (by decide)⟩
   replace hj := cT hc hj
   refine RC.region ?_
   refine mv (vi (IntKind.wrap .i64 (Int.fdiv (IntKind.wrap .u64 (IntKind.wrap .i64 (s2.1 + s2.2))) 2))) rfl rfl ?_
   refine RL.iar (a := (IntKind.wrap .i64 (Int.fdiv (IntKind.wrap .u64 (IntKind.wrap .i64 (s2.1 + s2.2))) 2))) (b := 1) trivial rfl rfl rfl rfl ?_
   refine as_ (vi (IntKind.wrap .i64 ((IntKind.wrap .i64 (Int.fdiv (IntKind.wrap .u64 (IntKind.wrap .i64 (s2.1 + s2.2))) 2)) + 1))) rfl rfl ?_
   refine RL.nil ?_
   obtain rfl := oi hj
   exact ⟨rfl, ⟨rfl, rfl, rfl, rfl, rfl, rfl, trivial⟩, hw.pick 4 [3] (new := [rd v0 p0]) rfl rfl (by decide) (by decide)⟩
  rintro σ w ⟨ha, hw⟩
  obtain ⟨τ, rfl⟩ := ha.ups
  refine blkQ_n ?_
  obtain rfl := oi hb
  exact ⟨rfl, ⟨rfl, rfl, rfl, rfl, rfl, rfl, trivial⟩, hw.pick 1 [0] (new := [rd v0 p0]) rfl rfl (by decide) (by decide)⟩
 ·intro r _ _ _ _
  exact r.elim
 intro s2 σ w e hJ
 subst e
 rw [Fo.cs_go] at hb
 obtain ⟨ha, hw⟩ := hJ
 obtain ⟨τ, rfl⟩ := ha.ups
 refine thenQ_n ?_
 refine RC.seq ?_
 obtain ⟨s23, hj, hb⟩ := bd hb
 refine RC.jn (fun (s23 : Bool) (σ : Nat → Value) (w : World) => agree σ [(6, (vi s2.1)), (7, (vb s23))] ∧ Holds E w ([] ++ Γ)) s23 ?_ ?_
 ·refine RC.region ?_
  refine mv (vi s2.1) rfl rfl ?_
  refine mv (vi s2.1) rfl rfl ?_
  refine mv (vi (p0.length : Int)) rfl rfl ?_
  refine ic (s2.1) ((p0.length : Int)) rfl rfl rfl rfl ?_
  refine mv (vb (decide (s2.1 < (p0.length : Int)))) rfl rfl ?_
  rcases Bool.eq_false_or_eq_true (decide (s2.1 < (p0.length : Int))) with hg24 | hg24
  rotate_left
  ·replace hj := cF hg24 hj
   refine sk rfl (.inl (cb hg24)) rfl ?_
   refine sk rfl (.inl (cb hg24)) rfl ?_
   refine sk rfl (.inl (cb hg24)) rfl ?_
   refine sk rfl (.inl (cb hg24)) rfl ?_
   refine sk rfl (.inl (cb hg24)) rfl ?_
   refine sk rfl (.inl (cb hg24)) rfl ?_
   refine sk rfl (.inl (cb hg24)) rfl ?_
   refine sk rfl (.inl (cb hg24)) rfl ?_
   refine RL.pick (b := (decide (s2.1 < (p0.length : Int)))) (v := (vb false)) trivial rfl rfl (by rw [hg24]; rfl) ?_
   refine as_ (vi s2.1) rfl rfl ?_
   refine as_ (vb false) rfl rfl ?_
   refine RL.nil ?_
   obtain rfl := oi hj
   exact ⟨rfl, ⟨rfl, rfl, trivial⟩, hw.pick 1 [] (new := []) rfl rfl (by decide) (by decide)⟩
  replace hj := cT hg24 hj
  refine RL.move (v := v2) ⟨_, rfl, cb hg24⟩ rfl rfl ?_
  refine RL.move (v := v0) ⟨_, rfl, cb hg24⟩ rfl rfl ?_
  refine RL.move (v := (vi s2.1)) ⟨_, rfl, cb hg24⟩ rfl rfl ?_
  obtain ⟨x25, hx25, hj⟩ := bd hj
  refine RL.ia_rd (i := 0) ⟨_, rfl, cb hg24⟩ rfl hw rfl rfl rfl sl22 hx25 fun v26 hw => ?_
  refine RL.load_pt (i := 0) (x := x25) ⟨_, rfl, cb hg24⟩ rfl hw rfl rfl ty85 fun v27 hw => ?_
  refine RL.move (v := (str p1)) ⟨_, rfl, cb hg24⟩ rfl rfl ?_
  have hw := hw.sc (γ := Str) p1
  obtain ⟨x28, hx28, hj⟩ := bd hj
  refine RL.callF2 (i := 1) (j := 0) ⟨_, rfl, cb hg24⟩ rfl hw rfl h2 4 rfl rfl rfl rfl rfl hx28 fun w hw => ?_
  refine RL.icmp (a := x28) (b := 0) ⟨_, rfl, cb hg24⟩ rfl rfl rfl rfl ?_
  refine RL.pick (b := (decide (s2.1 < (p0.length : Int)))) (v := (vb (x28 == 0))) trivial rfl rfl (by rw [hg24]; rfl) ?_
  refine as_ (vi s2.1) rfl rfl ?_
  refine as_ (vb (x28 == 0)) rfl rfl ?_
  refine RL.nil ?_
  obtain rfl := oi hj
  exact ⟨rfl, ⟨rfl, rfl, trivial⟩, hw.pick 4 [] (new := []) rfl rfl (by decide) (by decide)⟩
 rintro σ w ⟨ha, hw⟩
 obtain ⟨τ, rfl⟩ := ha.ups
 refine thenQ_n ?_
 refine RC.ret ?_
 obtain rfl := oi hb
 exact fin2 rfl rfl rfl ⟨rfl, hw.drop 0 rfl⟩
def bytealg_CompareString_R (E : World) (Γ : List HP) (res : Int) (v : Value) (w : World) : Prop := v = (vi res) ∧ Holds E w Γ
def bytealg_CompareString_K (E : World) (Γ : List HP) (r : Int) (σ : Nat → Value) (w : World) : Prop := finQ Tryd.prog 8 Tryd.f137 (bytealg_CompareString_R E Γ r) .ret σ w
theorem bytealg_CompareString_ok (N : Nat) {E w : World} {Γ : List HP} {p0 : Str} {p1 : Str} {res : Int} (hw : Holds E w Γ)  (hb : bytealg_CompareString N p0 p1 = some res) :
    Calls Tryd.prog 137 [(str p0), (str p1)].toArray w (Ret (bytealg_CompareString_R E Γ res)) := by
 unfold bytealg_CompareString at hb
 refine enter Tryd.func137 rfl rfl (Nat.le_of_ble_eq_true rfl) ?_
 refine RC.sr ?_
 refine as_ (vi 0) rfl rfl ?_
 refine RL.ns ?_
 refine mv (str p0) rfl rfl ?_
 refine mv (str p1) rfl rfl ?_
 refine RL.xcall (v := (vi (Lib.compareBytes p0.toL p1.toL))) trivial rfl [(str p0), (str p1)] rfl (x149 p0 p1 w) ?_
 refine as_ (vi (Lib.compareBytes p0.toL p1.toL)) rfl rfl ?_
 refine RL.nt ?_
 refine RC.ret ?_
 obtain rfl := oi hb
 exact fin1 rfl rfl ⟨rfl, hw.drop 0 rfl⟩
def strings_Compare_R (E : World) (Γ : List HP) (res : Int) (v : Value) (w : World) : Prop := v = (vi res) ∧ Holds E w Γ
def strings_Compare_K (E : World) (Γ : List HP) (r : Int) (σ : Nat → Value) (w : World) : Prop := finQ Tryd.prog 8 Tryd.f107 (strings_Compare_R E Γ r) .ret σ w
theorem strings_Compare_ok (N : Nat) {E w : World} {Γ : List HP} {p0 : Str} {p1 : Str} {res : Int} (hw : Holds E w Γ)  (hb : strings_Compare N p0 p1 = some res) :
    Calls Tryd.prog 107 [(str p0), (str p1)].toArray w (Ret (strings_Compare_R E Γ res)) := by
 unfold strings_Compare at hb
 refine enter Tryd.func107 rfl rfl (Nat.le_of_ble_eq_true rfl) ?_
 refine RC.sr ?_
 refine as_ (vi 0) rfl rfl ?_
 refine RL.ns ?_
 refine mv (str p0) rfl rfl ?_
 refine mv (str p1) rfl rfl ?_
 obtain ⟨x1, hx1, hb⟩ := bd hb
 refine RL.call trivial rfl fn137 [(str p0), (str p1)] rfl (Calls_ret (bytealg_CompareString_ok N (p0 := p0) (p1 := p1)  hw  hx1) ?_)
 rintro _ w ⟨rfl, hw⟩
 refine as_ (vi x1) rfl rfl ?_
 refine RL.nt ?_
 refine RC.ret ?_
 obtain rfl := oi hb
 exact fin1 rfl rfl ⟨rfl, hw.drop 0 rfl⟩
def netlist_TypeAt_c1_R (E : World) (Γ : List HP) (res : Int) (v : Value) (w : World) : Prop := v = (vi res) ∧ Holds E w Γ
def netlist_TypeAt_c1_K (E : World) (Γ : List HP) (r : Int) (σ : Nat → Value) (w : World) : Prop := finQ Tryd.prog 9 Tryd.f106 (netlist_TypeAt_c1_R E Γ r) .ret σ w
theorem netlist_TypeAt_c1_ok (N : Nat) {E w : World} {Γ : List HP} {i0 : Nat} {v0 : Value} {p0 : PartType} {p1 : Str} {res : Int} (hw : Holds E w Γ) (h0 : Γ[i0]? = some (rd v0 p0)) (hb : netlist_TypeAt_c1 N p0 p1 = some res) :
    Calls Tryd.prog 106 [v0, (str p1)].toArray w (Ret (netlist_TypeAt_c1_R E Γ res)) := by
 unfold netlist_TypeAt_c1 at hb
 refine enter Tryd.func106 rfl rfl (Nat.le_of_ble_eq_true rfl) ?_
 have hw := hw.dup (i := i0 + 0) h0
 refine RC.sr ?_
 refine RL.box_rd (i := 0) (v := v0) trivial rfl hw rfl rfl fun b1 w hw => ?_
 refine as_ (vi 0) rfl rfl ?_
 refine RL.ns ?_
 refine RL.fa_b trivial rfl rfl fa85_0 ?_
 refine RL.load_bfs (i := 0) (f := (fun x => x.Name)) trivial rfl hw rfl rfl fd_PartType_0 ty9 ?_
 refine mv (str p1) rfl rfl ?_
 obtain ⟨x2, hx2, hb⟩ := bd hb
 refine RL.call trivial rfl fn107 [(str p0.Name), (str p1)] rfl (Calls_ret (strings_Compare_ok N (p0 := p0.Name) (p1 := p1)  hw  hx2) ?_)
 rintro _ w ⟨rfl, hw⟩
 refine as_ (vi x2) rfl rfl ?_
 refine RL.nt ?_
 refine RC.ret ?_
 obtain rfl := oi hb
 exact fin1 rfl rfl ⟨rfl, hw.drop 2 rfl⟩
def netlist_TypeAt_R (E : World) (Γ : List HP) (res : Int) (v : Value) (w : World) : Prop := v = (vi res) ∧ Holds E w Γ
def netlist_TypeAt_K (E : World) (Γ : List HP) (r : Int) (σ : Nat → Value) (w : World) : Prop := finQ Tryd.prog 16 Tryd.f50 (netlist_TypeAt_R E Γ r) .ret σ w
theorem netlist_TypeAt_ok (N : Nat) {E w : World} {Γ : List HP} {i0 : Nat} {v0 : Value} {p0 : (List PartType)} {p1 : Str} {res : Int} (hw : Holds E w Γ) (h0 : Γ[i0]? = some (rd v0 p0)) (hb : netlist_TypeAt N p0 p1 = some res) :
    Calls Tryd.prog 50 [v0, (str p1)].toArray w (Ret (netlist_TypeAt_R E Γ res)) := by
 unfold netlist_TypeAt at hb
 refine enter Tryd.func50 rfl rfl (Nat.le_of_ble_eq_true rfl) ?_
 have hw := hw.dup (i := i0 + 0) h0
 refine RC.sr ?_
 refine as_ (vi 0) rfl rfl ?_
 refine RL.ns ?_
 refine mv v0 rfl rfl ?_
 refine mv (str p1) rfl rfl ?_
 obtain ⟨x1, hx1, hb⟩ := bd hb
 refine RL.call trivial rfl fn105 [v0, (str p1), (.func (.func 106) #[] #[])] rfl (Calls_ret (slices_BinarySearchFunc_PartType_string_ok N (p1 := p1) (i0 := 0) hw rfl ⟨106, [], rfl, fn106, fun w Γl v v' y0 y1 r i j hw hi hj hr => by obtain rfl := hw.ofSc (γ := Str) hj; exact Calls_ret (netlist_TypeAt_c1_ok N (p1 := y1) (i0 := i) hw hi hr) fun _ _ h => h⟩ hx1) ?_)
 rintro _ w ⟨rfl, hw⟩
 refine mv (.tuple #[(vi x1.1), (vb x1.2)]) rfl rfl ?_
 refine RL.extract (v := (vi x1.1)) trivial rfl rfl rfl ?_
 refine RL.extract (v := (vb x1.2)) trivial rfl rfl rfl ?_
 refine as_ (vi x1.1) rfl rfl ?_
 refine as_ (vb x1.2) rfl rfl ?_
 refine RL.nq ?_
 refine RC.sr ?_
 refine mv (vb x1.2) rfl rfl ?_
 refine RL.not (b := x1.2) trivial rfl rfl ?_
 refine RL.nt ?_
 refine RC.cond (b := (!x1.2)) rfl (fun hc => ?_) (fun hc => ?_)
 ·replace hb := cT hc hb
  refine RC.sr ?_
  refine as_ (vi (-1)) rfl rfl ?_
  refine RL.nt ?_
  refine RC.rt ?_
  obtain rfl := oi hb
  exact fin1 rfl rfl ⟨rfl, hw.drop 1 rfl⟩
 replace hb := cF hc hb
 refine RC.sx ?_
 refine mv (vi x1.1) rfl rfl ?_
 refine as_ (vi x1.1) rfl rfl ?_
 refine RL.nt ?_
 refine RC.ret ?_
 obtain rfl := oi hb
 exact fin1 rfl rfl ⟨rfl, hw.drop 1 rfl⟩
def netlist_checkParts_R (E : World) (Γ : List HP) (res : Int) (v : Value) (w : World) : Prop := v = (vi res) ∧ Holds E w Γ
def netlist_checkParts_K (E : World) (Γ : List HP) (r : Int) (σ : Nat → Value) (w : World) : Prop := finQ Tryd.prog 46 Tryd.f41 (netlist_checkParts_R E Γ r) .ret σ w
theorem netlist_checkParts_ok (N : Nat) {E w : World} {Γ : List HP} {i0 : Nat} {v0 : Value} {p0 : (List PartType)} {i1 : Nat} {v1 : Value} {p1 : (List Part)} {v2 : Value} {p2 : Str → Option Bool} {res : Int} (hw : Holds E w Γ) (h0 : Γ[i0]? = some (rd v0 p0)) (h1 : Γ[i1]? = some (rd v1 p1)) (h2 : Fn1 Tryd.prog E Γ v2 p2 (fun (r : Bool) => Value.bool r)) (hb : netlist_checkParts N p0 p1 p2 = some res) :
    Calls Tryd.prog 41 [v0, v1, v2].toArray w (Ret (netlist_checkParts_R E Γ res)) := by
 unfold netlist_checkParts at hb
 refine enter Tryd.func41 rfl rfl (Nat.le_of_ble_eq_true rfl) ?_
 have hw := hw.dup (i := i0 + 0) h0
 have hw := hw.dup (i := i1 + 1) h1
 refine RC.sr ?_
 refine as_ (vi 0) rfl rfl ?_
 refine RL.nq ?_
 refine RC.sr ?_
 refine mv v1 rfl rfl ?_
 refine RL.len_rd (i := 0) (l := p1) trivial rfl hw rfl rfl un23 ?_
 refine ic ((p1.length : Int)) 1000 rfl rfl rfl rfl ?_
 refine RL.nt ?_
 refine RC.cond (b := (decide ((p1.length : Int) > 1000))) rfl (fun hc => ?_) (fun hc => ?_)
 ·replace hb := cT hc hb
  refine RC.sr ?_
  refine as_ (vi 2) rfl rfl ?_
  refine RL.nt ?_
  refine RC.rt ?_
  obtain rfl := oi hb
  exact fin1 rfl rfl ⟨rfl, hw.drop 2 rfl⟩
 replace hb := cF hc hb
 refine RC.ss ?_
 refine RC.sr ?_
 refine mv v1 rfl rfl ?_
 refine RL.len_rd (i := 0) (l := p1) trivial rfl hw rfl rfl un23 ?_
 refine mv (vi 0) rfl rfl ?_
 refine RL.nt ?_
 obtain ⟨o121, hN, hb⟩ := bd hb
 refine RC.range (fun (k1 : Nat) (s2 : Unit) (σ : Nat → Value) (w : World) => agree σ [(0, v0), (1, v1), (2, v2), (12, v1), (13, (vi (p1.length : Int))), (14, (vi (k1 : Int)))] ∧ Holds E w ([rd v0 p0, rd v1 p1] ++ Γ)) (fun (s2 : Unit) (σ : Nat → Value) (w : World) => agree σ [] ∧ Holds E w ([rd v0 p0, rd v1 p1] ++ Γ)) (netlist_checkParts_K E Γ) hN ?_ ?_ ?_ ?_ ?_ 
 ·exact ⟨⟨rfl, rfl, rfl, rfl, rfl, rfl, trivial⟩, hw.pick 2 [1, 0] (new := [rd v0 p0, rd v1 p1]) rfl rfl (by decide) (by decide)⟩
 ·intro hm s2 σ w hI
  obtain ⟨ha, hw⟩ := hI
  obtain ⟨τ, rfl⟩ := ha.ups
  refine RC.sr ?_
  refine ic ((p1.length : Int)) ((p1.length : Int)) rfl rfl rfl rfl ?_
  refine RL.nq ?_
  refine RC.cond_f dge ?_
  refine RC.ex ?_
  exact ⟨rfl, trivial, hw.pick 2 [0, 1] (new := [rd v0 p0, rd v1 p1]) rfl rfl (by decide) (by decide)⟩
 ·intro hm k1 s2 fl σ w hk hI hb
  obtain ⟨ha, hw⟩ := hI
  obtain ⟨τ, rfl⟩ := ha.ups
  refine RC.sr ?_
  refine ic ((k1 : Int)) ((p1.length : Int)) rfl rfl rfl rfl ?_
  refine RL.nq ?_
  refine RC.cond_t (dlt hk) ?_
  refine RC.ss ?_
  refine RC.bs ?_
  refine mv (vi (k1 : Int)) rfl rfl ?_
  obtain ⟨x62, hx62, hb⟩ := bd hb
  refine RL.ia_rd (i := 1) trivial rfl hw rfl rfl rfl sl23 hx62 fun v63 hw => ?_
  refine RL.load_pt (i := 0) (x := x62) trivial rfl hw rfl rfl ty87 fun v64 hw => ?_
  refine RL.alloc trivial rfl hw ze87.z fun b65 w hw => ?_
  refine as_ (vi (k1 : Int)) rfl rfl ?_
  refine RL.store_raw (i := 0) (j := 1) trivial hw rfl rfl rfl rfl ty87 rfl fun w hw => ?_
  refine RL.nt ?_
  refine RC.bs ?_
  refine mv v2 rfl rfl ?_
  refine RL.fa_b trivial rfl rfl fa87_0 ?_
  refine RL.load_bfs (i := 0) (f := (fun x => x.Name)) trivial rfl hw rfl rfl fd_Part_0 ty9 ?_
  have hw := hw.sc (γ := Str) x62.Name
  obtain ⟨x66, hx66, hb⟩ := bd hb
  refine RL.callF1 (i := 0) trivial rfl hw rfl h2 6 rfl rfl rfl hx66 fun w hw => ?_
  refine RL.not (b := x66) trivial rfl rfl ?_
  refine as_ (vb (!x66)) rfl rfl ?_
  refine RL.nt ?_
  refine RC.cond (b := (!x66)) rfl (fun hc => ?_) (fun hc => ?_)
  ·replace hb := cT hc hb
   refine RC.sr ?_
   refine as_ (vi 5) rfl rfl ?_
   refine RL.nt ?_
   refine RC.rb ?_
   refine blkQ_r ?_
   refine thenQ_r ?_
   obtain rfl := oi hb
   exact ⟨rfl, fin1 rfl rfl ⟨rfl, hw.drop 6 rfl⟩⟩
  replace hb := cF hc hb
  refine RC.sr ?_
  refine mv v0 rfl rfl ?_
  refine RL.fa_b trivial rfl rfl fa87_1 ?_
  refine RL.load_bfs (i := 1) (f := (fun x => x.Type_)) trivial rfl hw rfl rfl fd_Part_1 ty9 ?_
  obtain ⟨x94, hx94, hb⟩ := bd hb
  refine RL.call trivial rfl fn50 [v0, (str x62.Type_)] rfl (Calls_ret (netlist_TypeAt_ok N (p1 := x62.Type_) (i0 := 4) hw rfl hx94) ?_)
  rintro _ w ⟨rfl, hw⟩
  refine ic x94 0 rfl rfl rfl rfl ?_
  refine as_ (vb (decide (x94 < 0))) rfl rfl ?_
  refine RL.nt ?_
  refine RC.cond (b := (decide (x94 < 0))) rfl (fun hc => ?_) (fun hc => ?_)
  ·replace hb := cT hc hb
   refine RC.sr ?_
   refine as_ (vi 9) rfl rfl ?_
   refine RL.nt ?_
   refine RC.rb ?_
   refine blkQ_r ?_
   refine thenQ_r ?_
   obtain rfl := oi hb
   exact ⟨rfl, fin1 rfl rfl ⟨rfl, hw.drop 6 rfl⟩⟩
  replace hb := cF hc hb
  refine RC.seq ?_
  obtain ⟨s114, hj, hb⟩ := bd hb
  refine RC.jn (fun (s114 : Bool) (σ : Nat → Value) (w : World) => agree σ [(0, v0), (1, v1), (2, v2), (12, v1), (13, (vi (p1.length : Int))), (14, (vi (k1 : Int))), (31, (vb s114))] ∧ Holds E w ([rd v0 p0, rd v1 p1] ++ Γ)) s114 ?_ ?_
  ·rcases Bool.eq_false_or_eq_true (decide ((k1 : Int) > 0)) with hg115 | hg115
   rotate_left
   ·replace hj := cF hg115 hj
    refine RC.drw mixed rfl (fun (D : Nat → Bool) (σ : Nat → Value) (w : World) => doneV D σ [(0, 32, (vi (k1 : Int))), (1, 33, (vb (decide ((k1 : Int) > 0)))), (2, 34, (vb (decide ((k1 : Int) > 0)))), (3, 35, undef), (4, 36, undef), (5, 37, undef), (6, 38, undef), (7, 39, undef), (8, 40, undef), (9, 41, undef), (10, 42, undef), (11, 43, undef), (12, 44, (vb false)), (13, 31, (vb false))] ∧ agree σ [(0, v0), (1, v1), (2, v2), (7, (vi (k1 : Int))), (8, (vp b65 0)), (12, v1), (13, (vi (p1.length : Int))), (14, (vi (k1 : Int)))] ∧ Holds E w ([rd (str x62.Name) x62.Name, bx 87 b65 x62, rd v64 x62, pt v63 x62, rd v0 p0, rd v1 p1] ++ Γ)) ?_ ⟨?_, ?_, ?_, ?_, ?_, ?_, ?_, ?_, ?_, ?_, ?_, ?_, ?_, ?_, trivial⟩ ?_
    ·have hw := hw.drew
     exact ⟨doneV.none, ⟨rfl, rfl, rfl, rfl, rfl, rfl, rfl, rfl, trivial⟩, hw⟩
    ·rintro D σ w hD hdep hcl ⟨hv, ha, hw⟩
     obtain ⟨τ, rfl⟩ := (ac (ha.at 3 rfl) az).ups
     refine mv (vi (k1 : Int)) rfl rfl ?_
     refine RL.nil ?_
     exact ⟨rfl, hv.put 0 rfl rfl, ha.up rfl, hw⟩
    ·rintro D σ w hD hdep hcl ⟨hv, ha, hw⟩
     obtain ⟨τ, rfl⟩ := (ac (hv.at 0 rfl (hdep.1 rfl)) az).ups
     refine ic ((k1 : Int)) 0 rfl rfl rfl rfl ?_
     refine RL.nil ?_
     exact ⟨rfl, hv.put 1 rfl rfl, ha.up rfl, hw⟩
    ·rintro D σ w hD hdep hcl ⟨hv, ha, hw⟩
     obtain ⟨τ, rfl⟩ := (ac (hv.at 1 rfl (hdep.1 rfl)) az).ups
     refine mv (vb (decide ((k1 : Int) > 0))) rfl rfl ?_
     refine RL.nil ?_
     exact ⟨rfl, hv.put 2 rfl rfl, ha.up rfl, hw⟩
    ·rintro D σ w hD hdep hcl ⟨hv, ha, hw⟩
     obtain ⟨τ, rfl⟩ := (ac (hv.at 2 rfl (hdep.1 rfl)) (ac (ha.at 4 rfl) az)).ups
     refine sk rfl (.inl (cb hg115)) rfl ?_
     refine RL.nil ?_
     exact ⟨rfl, hv.put 3 rfl rfl, ha.up rfl, hw⟩
    ·rintro D σ w hD hdep hcl ⟨hv, ha, hw⟩
     obtain ⟨τ, rfl⟩ := (ac (hv.at 2 rfl (hdep.2.1 rfl)) (ac (hv.at 3 rfl (hdep.1 rfl)) az)).ups
     refine sk rfl (.inl (cb hg115)) rfl ?_
     refine RL.nil ?_
     exact ⟨rfl, hv.put 4 rfl rfl, ha.up rfl, hw⟩
    ·rintro D σ w hD hdep hcl ⟨hv, ha, hw⟩
     obtain ⟨τ, rfl⟩ := (ac (hv.at 2 rfl (hdep.1 rfl)) (ac (ha.at 1 rfl) az)).ups
     refine sk rfl (.inl (cb hg115)) rfl ?_
     refine RL.nil ?_
     exact ⟨rfl, hv.put 5 rfl rfl, ha.up rfl, hw⟩
    ·rintro D σ w hD hdep hcl ⟨hv, ha, hw⟩
     obtain ⟨τ, rfl⟩ := (ac (hv.at 2 rfl (hdep.1 rfl)) (ac (ha.at 3 rfl) az)).ups
     refine sk rfl (.inl (cb hg115)) rfl ?_
     refine RL.nil ?_
     exact ⟨rfl, hv.put 6 rfl rfl, ha.up rfl, hw⟩
    ·rintro D σ w hD hdep hcl ⟨hv, ha, hw⟩
     obtain ⟨τ, rfl⟩ := (ac (hv.at 2 rfl (hdep.2.1 rfl)) (ac (hv.at 6 rfl (hdep.1 rfl)) az)).ups
     refine sk rfl (.inl (cb hg115)) rfl ?_
     refine RL.nil ?_
     exact ⟨rfl, hv.put 7 rfl rfl, ha.up rfl, hw⟩
    ·rintro D σ w hD hdep hcl ⟨hv, ha, hw⟩
     obtain ⟨τ, rfl⟩ := (ac (hv.at 2 rfl (hdep.2.2.1 rfl)) (ac (hv.at 5 rfl (hdep.1 rfl)) (ac (hv.at 7 rfl (hdep.2.1 rfl)) az))).ups
     refine sk rfl (.inl (cb hg115)) rfl ?_
     refine RL.nil ?_
     exact ⟨rfl, hv.put 8 rfl rfl, ha.up rfl, hw⟩
    ·rintro D σ w hD hdep hcl ⟨hv, ha, hw⟩
     obtain ⟨τ, rfl⟩ := (ac (hv.at 2 rfl (hdep.2.1 rfl)) (ac (hv.at 8 rfl (hdep.1 rfl)) az)).ups
     refine sk rfl (.inl (cb hg115)) rfl ?_
     refine RL.nil ?_
     exact ⟨rfl, hv.put 9 rfl rfl, ha.up rfl, hw⟩
    ·rintro D σ w hD hdep hcl ⟨hv, ha, hw⟩
     obtain ⟨τ, rfl⟩ := (ac (hv.at 2 rfl (hdep.2.1 rfl)) (ac (hv.at 9 rfl (hdep.1 rfl)) az)).ups
     refine sk rfl (.inl (cb hg115)) rfl ?_
     refine RL.nil ?_
     exact ⟨rfl, hv.put 10 rfl rfl, ha.up rfl, hw⟩
    ·rintro D σ w hD hdep hcl ⟨hv, ha, hw⟩
     obtain ⟨τ, rfl⟩ := (ac (hv.at 2 rfl (hdep.2.2.1 rfl)) (ac (hv.at 4 rfl (hdep.1 rfl)) (ac (hv.at 10 rfl (hdep.2.1 rfl)) az))).ups
     refine sk rfl (.inl (cb hg115)) rfl ?_
     refine RL.nil ?_
     exact ⟨rfl, hv.put 11 rfl rfl, ha.up rfl, hw⟩
    ·rintro D σ w hD hdep hcl ⟨hv, ha, hw⟩
     obtain ⟨τ, rfl⟩ := (ac (hv.at 2 rfl (hdep.1 rfl)) (ac (hv.at 11 rfl (hdep.2.1 rfl)) az)).ups
     refine RL.pick (b := (decide ((k1 : Int) > 0))) (v := (vb false)) trivial rfl rfl (by rw [hg115]; rfl) ?_
     refine RL.nil ?_
     exact ⟨rfl, hv.put 12 rfl rfl, ha.up rfl, hw⟩
    ·rintro D σ w hD hdep hcl ⟨hv, ha, hw⟩
     obtain ⟨τ, rfl⟩ := (ac (hv.at 12 rfl (hdep.1 rfl)) az).ups
     refine as_ (vb false) rfl rfl ?_
     refine RL.nil ?_
     exact ⟨rfl, hv.put 13 rfl rfl, ha.up rfl, hw⟩
    rintro D σ w hall ⟨hv, ha, hw⟩
    obtain ⟨τ, rfl⟩ := (ac (hv.at 13 rfl (hall 13 (by decide))) (ac (ha.at 0 rfl) (ac (ha.at 1 rfl) (ac (ha.at 2 rfl) (ac (ha.at 3 rfl) (ac (ha.at 4 rfl) (ac (ha.at 5 rfl) (ac (ha.at 6 rfl) (ac (ha.at 7 rfl) az))))))))).ups
    obtain rfl := oi hj
    exact ⟨rfl, ⟨rfl, rfl, rfl, rfl, rfl, rfl, rfl, trivial⟩, hw.pick 6 [4, 5] (new := [rd v0 p0, rd v1 p1]) rfl rfl (by decide) (by decide)⟩
   replace hj := cT hg115 hj
   obtain ⟨x116, hx116, hj⟩ := bd hj
   refine RC.drw mixed rfl (fun (D : Nat → Bool) (σ : Nat → Value) (w : World) => ∃ (v117 : Value) (v118 : Value), doneV D σ [(0, 32, (vi (k1 : Int))), (1, 33, (vb (decide ((k1 : Int) > 0)))), (2, 34, (vb (decide ((k1 : Int) > 0)))), (3, 35, (vp b65 0)), (4, 36, (str x62.Name)), (5, 37, v1), (6, 38, (vi (k1 : Int))), (7, 39, (vi (IntKind.wrap .i64 ((k1 : Int) - 1)))), (8, 40, v117), (9, 41, v118), (10, 42, (str x116.Name)), (11, 43, (vb (x62.Name.ltb x116.Name || x62.Name.eqb x116.Name))), (12, 44, (vb (x62.Name.ltb x116.Name || x62.Name.eqb x116.Name))), (13, 31, (vb (x62.Name.ltb x116.Name || x62.Name.eqb x116.Name)))] ∧ agree σ [(0, v0), (1, v1), (2, v2), (7, (vi (k1 : Int))), (8, (vp b65 0)), (12, v1), (13, (vi (p1.length : Int))), (14, (vi (k1 : Int)))] ∧ Holds E w ([bif D 8 then (pt v117 x116) else junk, bif D 9 then (pt v118 x116.Name) else junk, rd (str x62.Name) x62.Name, bx 87 b65 x62, rd v64 x62, pt v63 x62, rd v0 p0, rd v1 p1] ++ Γ)) ?_ ⟨?_, ?_, ?_, ?_, ?_, ?_, ?_, ?_, ?_, ?_, ?_, ?_, ?_, ?_, trivial⟩ ?_
   ·have hw := hw.drew
    have hw := hw.junk
    have hw := hw.junk
    exact ⟨undef, undef, doneV.none, ⟨rfl, rfl, rfl, rfl, rfl, rfl, rfl, rfl, trivial⟩, hw⟩
   ·rintro D σ w hD hdep hcl ⟨v117, v118, hv, ha, hw⟩
    obtain ⟨τ, rfl⟩ := (ac (ha.at 3 rfl) az).ups
    refine mv (vi (k1 : Int)) rfl rfl ?_
    refine RL.nil ?_
    exact ⟨rfl, v117, v118, hv.put 0 rfl rfl, ha.up rfl, hw⟩
   ·rintro D σ w hD hdep hcl ⟨v117, v118, hv, ha, hw⟩
    obtain ⟨τ, rfl⟩ := (ac (hv.at 0 rfl (hdep.1 rfl)) az).ups
    refine ic ((k1 : Int)) 0 rfl rfl rfl rfl ?_
    refine RL.nil ?_
    exact ⟨rfl, v117, v118, hv.put 1 rfl rfl, ha.up rfl, hw⟩
   ·rintro D σ w hD hdep hcl ⟨v117, v118, hv, ha, hw⟩
    obtain ⟨τ, rfl⟩ := (ac (hv.at 1 rfl (hdep.1 rfl)) az).ups
    refine mv (vb (decide ((k1 : Int) > 0))) rfl rfl ?_
    refine RL.nil ?_
    exact ⟨rfl, v117, v118, hv.put 2 rfl rfl, ha.up rfl, hw⟩
   ·rintro D σ w hD hdep hcl ⟨v117, v118, hv, ha, hw⟩
    obtain ⟨τ, rfl⟩ := (ac (hv.at 2 rfl (hdep.1 rfl)) (ac (ha.at 4 rfl) az)).ups
    refine RL.fa_b ⟨_, rfl, cb hg115⟩ rfl rfl fa87_0 ?_
    refine RL.nil ?_
    exact ⟨rfl, v117, v118, hv.put 3 rfl rfl, ha.up rfl, hw⟩
   ·rintro D σ w hD hdep hcl ⟨v117, v118, hv, ha, hw⟩
    obtain ⟨τ, rfl⟩ := (ac (hv.at 2 rfl (hdep.2.1 rfl)) (ac (hv.at 3 rfl (hdep.1 rfl)) az)).ups
    refine RL.load_bfs (i := 3) (f := (fun x => x.Name)) ⟨_, rfl, cb hg115⟩ rfl hw rfl rfl fd_Part_0 ty9 ?_
    refine RL.nil ?_
    exact ⟨rfl, v117, v118, hv.put 4 rfl rfl, ha.up rfl, hw⟩
   ·rintro D σ w hD hdep hcl ⟨v117, v118, hv, ha, hw⟩
    obtain ⟨τ, rfl⟩ := (ac (hv.at 2 rfl (hdep.1 rfl)) (ac (ha.at 1 rfl) az)).ups
    refine RL.move (v := v1) ⟨_, rfl, cb hg115⟩ rfl rfl ?_
    refine RL.nil ?_
    exact ⟨rfl, v117, v118, hv.put 5 rfl rfl, ha.up rfl, hw⟩
   ·rintro D σ w hD hdep hcl ⟨v117, v118, hv, ha, hw⟩
    obtain ⟨τ, rfl⟩ := (ac (hv.at 2 rfl (hdep.1 rfl)) (ac (ha.at 3 rfl) az)).ups
    refine RL.move (v := (vi (k1 : Int))) ⟨_, rfl, cb hg115⟩ rfl rfl ?_
    refine RL.nil ?_
    exact ⟨rfl, v117, v118, hv.put 6 rfl rfl, ha.up rfl, hw⟩
   ·rintro D σ w hD hdep hcl ⟨v117, v118, hv, ha, hw⟩
    obtain ⟨τ, rfl⟩ := (ac (hv.at 2 rfl (hdep.2.1 rfl)) (ac (hv.at 6 rfl (hdep.1 rfl)) az)).ups
    refine RL.iar (a := (k1 : Int)) (b := 1) ⟨_, rfl, cb hg115⟩ rfl rfl rfl rfl ?_
    refine RL.nil ?_
    exact ⟨rfl, v117, v118, hv.put 7 rfl rfl, ha.up rfl, hw⟩
   ·rintro D σ w hD hdep hcl ⟨v117, v118, hv, ha, hw⟩
    obtain ⟨τ, rfl⟩ := (ac (hv.at 2 rfl (hdep.2.2.1 rfl)) (ac (hv.at 5 rfl (hdep.1 rfl)) (ac (hv.at 7 rfl (hdep.2.1 rfl)) az))).ups
    have hw := hw.selF (i := 0) rfl hD
    refine RL.ia_rd (i := 7) ⟨_, rfl, cb hg115⟩ rfl hw rfl rfl rfl sl23 hx116 fun v119 hw => ?_
    have hw := hw.pick 9 [0, 2, 3, 4, 5, 6, 7, 8] (new := [pt v119 x116, bif D 9 then (pt v118 x116.Name) else junk, rd (str x62.Name) x62.Name, bx 87 b65 x62, rd v64 x62, pt v63 x62, rd v0 p0, rd v1 p1]) rfl rfl (by decide) (by decide)
    have hw := hw.altT (i := 0) (b := true) rfl rfl (junk)
    refine RL.nil ?_
    exact ⟨rfl, v119, v118, hv.put 8 rfl rfl, ha.up rfl, hw⟩
   ·rintro D σ w hD hdep hcl ⟨v117, v118, hv, ha, hw⟩
    obtain ⟨τ, rfl⟩ := (ac (hv.at 2 rfl (hdep.2.1 rfl)) (ac (hv.at 8 rfl (hdep.1 rfl)) az)).ups
    have hw := hw.selT (i := 0) rfl (hdep.1 rfl)
    have hw := hw.selF (i := 1) rfl hD
    refine RL.fa_pt (i := 0) (f := fun (x : Part) => x.Name) ⟨_, rfl, cb hg115⟩ rfl hw rfl rfl fa87_0 fd_Part_0 fun v120 hw => ?_
    have hw := hw.pick 9 [1, 0, 3, 4, 5, 6, 7, 8] (new := [pt v117 x116, pt v120 x116.Name, rd (str x62.Name) x62.Name, bx 87 b65 x62, rd v64 x62, pt v63 x62, rd v0 p0, rd v1 p1]) rfl rfl (by decide) (by decide)
    have hw := hw.altT (i := 0) (b := D 8) rfl (hdep.1 rfl) (junk)
    have hw := hw.altT (i := 1) (b := true) rfl rfl (junk)
    refine RL.nil ?_
    exact ⟨rfl, v117, v120, hv.put 9 rfl rfl, ha.up rfl, hw⟩
   ·rintro D σ w hD hdep hcl ⟨v117, v118, hv, ha, hw⟩
    obtain ⟨τ, rfl⟩ := (ac (hv.at 2 rfl (hdep.2.1 rfl)) (ac (hv.at 9 rfl (hdep.1 rfl)) az)).ups
    have hw := hw.selT (i := 1) rfl (hdep.1 rfl)
    refine RL.load_pts (i := 1) (y := x116.Name) ⟨_, rfl, cb hg115⟩ rfl hw rfl rfl ty9 ?_
    have hw := hw.altT (i := 1) (b := D 9) rfl (hdep.1 rfl) (junk)
    refine RL.nil ?_
    exact ⟨rfl, v117, v118, hv.put 10 rfl rfl, ha.up rfl, hw⟩
   ·rintro D σ w hD hdep hcl ⟨v117, v118, hv, ha, hw⟩
    obtain ⟨τ, rfl⟩ := (ac (hv.at 2 rfl (hdep.2.2.1 rfl)) (ac (hv.at 4 rfl (hdep.1 rfl)) (ac (hv.at 10 rfl (hdep.2.1 rfl)) az))).ups
    refine RL.scmp (a := x62.Name) (b := x116.Name) ⟨_, rfl, cb hg115⟩ rfl rfl rfl rfl ?_
    refine RL.nil ?_
    exact ⟨rfl, v117, v118, hv.put 11 rfl rfl, ha.up rfl, hw⟩
   ·rintro D σ w hD hdep hcl ⟨v117, v118, hv, ha, hw⟩
    obtain ⟨τ, rfl⟩ := (ac (hv.at 2 rfl (hdep.1 rfl)) (ac (hv.at 11 rfl (hdep.2.1 rfl)) az)).ups
    refine RL.pick (b := (decide ((k1 : Int) > 0))) (v := (vb (x62.Name.ltb x116.Name || x62.Name.eqb x116.Name))) trivial rfl rfl (by rw [hg115]; rfl) ?_
    refine RL.nil ?_
    exact ⟨rfl, v117, v118, hv.put 12 rfl rfl, ha.up rfl, hw⟩
   ·rintro D σ w hD hdep hcl ⟨v117, v118, hv, ha, hw⟩
    obtain ⟨τ, rfl⟩ := (ac (hv.at 12 rfl (hdep.1 rfl)) az).ups
    refine as_ (vb (x62.Name.ltb x116.Name || x62.Name.eqb x116.Name)) rfl rfl ?_
    refine RL.nil ?_
    exact ⟨rfl, v117, v118, hv.put 13 rfl rfl, ha.up rfl, hw⟩
   rintro D σ w hall ⟨v117, v118, hv, ha, hw⟩
   rw [hall 8 (by decide), hall 9 (by decide)] at hw
   obtain ⟨τ, rfl⟩ := (ac (hv.at 13 rfl (hall 13 (by decide))) (ac (ha.at 0 rfl) (ac (ha.at 1 rfl) (ac (ha.at 2 rfl) (ac (ha.at 3 rfl) (ac (ha.at 4 rfl) (ac (ha.at 5 rfl) (ac (ha.at 6 rfl) (ac (ha.at 7 rfl) az))))))))).ups
   obtain rfl := oi hj
   exact ⟨rfl, ⟨rfl, rfl, rfl, rfl, rfl, rfl, rfl, trivial⟩, hw.pick 8 [6, 7] (new := [rd v0 p0, rd v1 p1]) rfl rfl (by decide) (by decide)⟩
  rintro σ w ⟨ha, hw⟩
  obtain ⟨τ, rfl⟩ := ha.ups
  refine thenQ_n ?_
  refine RC.cond (b := s114) rfl (fun hc => ?_) (fun hc => ?_)
  rotate_left
  ·replace hb := cF hc hb
   refine RC.skip ?_
   refine blkQ_n ?_
   refine blkQ_n ?_
   refine thenQ_n ?_
   refine RC.region ?_
   refine RL.inc trivial rfl hk hm rfl rfl ?_
   refine mv (vi ((k1 + 1 : Nat) : Int)) rfl rfl ?_
   refine RL.nil ?_
   obtain rfl := oi hb
   exact ⟨rfl, ⟨rfl, rfl, rfl, rfl, rfl, rfl, trivial⟩, hw.pick 2 [0, 1] (new := [rd v0 p0, rd v1 p1]) rfl rfl (by decide) (by decide)⟩
  replace hb := cT hc hb
  refine RC.sr ?_
  refine as_ (vi 8) rfl rfl ?_
  refine RL.nt ?_
  refine RC.rb ?_
  refine blkQ_r ?_
  refine thenQ_r ?_
  obtain rfl := oi hb
  exact ⟨rfl, fin1 rfl rfl ⟨rfl, hw.drop 2 rfl⟩⟩
 ·intro r σ w e hK
  subst e
  refine thenQ_r ?_
  obtain rfl := oi hb
  exact hK
 intro s2 σ w e hJ
 subst e
 rw [Fo.cs_go] at hb
 obtain ⟨ha, hw⟩ := hJ
 obtain ⟨τ, rfl⟩ := ha.ups
 refine thenQ_n ?_
 refine RC.sr ?_
 refine as_ (vi 0) rfl rfl ?_
 refine RL.nt ?_
 refine RC.ret ?_
 obtain rfl := oi hb
 exact fin1 rfl rfl ⟨rfl, hw.drop 2 rfl⟩
def stringslite_Index_R (E : World) (Γ : List HP) (res : Int) (v : Value) (w : World) : Prop := v = (vi res) ∧ Holds E w Γ
def stringslite_Index_K (E : World) (Γ : List HP) (r : Int) (σ : Nat → Value) (w : World) : Prop := finQ Tryd.prog 143 Tryd.f139 (stringslite_Index_R E Γ r) .ret σ w
theorem stringslite_Index_ok (N : Nat) {E w : World} {Γ : List HP} {p0 : Str} {p1 : Str} {res : Int} (hw : Holds E w Γ)  (hb : stringslite_Index N p0 p1 = some res) :
    Calls Tryd.prog 139 [(str p0), (str p1)].toArray w (Ret (stringslite_Index_R E Γ res)) := by
 unfold stringslite_Index at hb
 refine enter Tryd.func139 rfl rfl (Nat.le_of_ble_eq_true rfl) ?_
 refine RC.sr ?_
 refine as_ (vi 0) rfl rfl ?_
 refine RL.ns ?_
 refine mv (str p1) rfl rfl ?_
 refine RL.lens (s := p1) trivial rfl rfl un9 ?_
 refine as_ (vi (p1.toL.length : Int)) rfl rfl ?_
 refine RL.nq ?_
 refine RC.bs ?_
 refine mv (vi (p1.toL.length : Int)) rfl rfl ?_
 refine ic ((p1.toL.length : Int)) 0 rfl rfl rfl rfl ?_
 refine mv (vb ((p1.toL.length : Int) == 0)) rfl rfl ?_
 refine RL.gs (c := true) (b := ((p1.toL.length : Int) == 0)) (v := (str p1)) rfl rfl rfl (gs_move rfl (fun _ => rfl)) ?_
 refine RL.gs (c := true) (b := ((p1.toL.length : Int) == 0)) (v := (str p0)) rfl rfl rfl (gs_move rfl (fun _ => rfl)) ?_
 refine RL.gs (c := true) (b := ((p1.toL.length : Int) == 0)) (v := (vb (p1.eqb p0))) rfl rfl rfl (gs_scmp (bop := .eql) (a := p1) (b := p0) rfl (fun h => by exact (cv_t h : cv (true && (((p1.toL.length : Int) == 0) == false)) (str p1) = (str p1))) (fun h => by exact (cv_t h : cv (true && (((p1.toL.length : Int) == 0) == false)) (str p0) = (str p0))) rfl) ?_
 refine RL.pick (b := ((p1.toL.length : Int) == 0)) (v := (vb (((p1.toL.length : Int) == 0) || (p1.eqb p0)))) trivial rfl rfl (pk_or (c := true) rfl) ?_
 refine as_ (vb (((p1.toL.length : Int) == 0) || (p1.eqb p0))) rfl rfl ?_
 refine RL.nt ?_
 refine RC.cond (b := (((p1.toL.length : Int) == 0) || (p1.eqb p0))) rfl (fun hc => ?_) (fun hc => ?_)
 ·replace hb := cT hc hb
  refine RC.sr ?_
  refine as_ (vi 0) rfl rfl ?_
  refine RL.nt ?_
  refine RC.rb ?_
  refine thenQ_r ?_
  obtain rfl := oi hb
  exact fin1 rfl rfl ⟨rfl, hw.drop 0 rfl⟩
 replace hb := cF hc hb
 refine RC.sr ?_
 refine mv (vi (p1.toL.length : Int)) rfl rfl ?_
 refine ic ((p1.toL.length : Int)) 1 rfl rfl rfl rfl ?_
 refine as_ (vb ((p1.toL.length : Int) == 1)) rfl rfl ?_
 refine RL.nt ?_
 refine RC.cond (b := ((p1.toL.length : Int) == 1)) rfl (fun hc => ?_) (fun hc => ?_)
 ·replace hb := cT hc hb
  refine RC.sr ?_
  refine mv (str p0) rfl rfl ?_
  refine mv (str p1) rfl rfl ?_
  obtain ⟨x7, hx7, hb⟩ := bd hb
  refine RL.idxs (s := p1) (i := 0) (c := x7) trivial rfl rfl rfl un9 hx7 ?_
  obtain ⟨x8, hx8, hb⟩ := bd hb
  refine RL.call trivial rfl fn147 [(str p0), (.int .u8 (x7.toNat : Int))] rfl (Calls_ret (stringslite_IndexByte_ok N (p0 := p0) (p1 := (x7.toNat : Int))  hw  hx8) ?_)
  rintro _ w ⟨rfl, hw⟩
  refine as_ (vi x8) rfl rfl ?_
  refine RL.nt ?_
  refine RC.rb ?_
  refine thenQ_r ?_
  obtain rfl := oi hb
  exact fin1 rfl rfl ⟨rfl, hw.drop 0 rfl⟩
 replace hb := cF hc hb
 refine RC.sr ?_
 refine mv (vi (p1.toL.length : Int)) rfl rfl ?_
 refine mv (str p0) rfl rfl ?_
 refine RL.lens (s := p0) trivial rfl rfl un9 ?_
 refine ic ((p1.toL.length : Int)) ((p0.toL.length : Int)) rfl rfl rfl rfl ?_
 refine as_ (vb (decide ((p1.toL.length : Int) ≥ (p0.toL.length : Int)))) rfl rfl ?_
 refine RL.nt ?_
 refine RC.cond (b := (decide ((p1.toL.length : Int) ≥ (p0.toL.length : Int)))) rfl (fun hc => ?_) (fun hc => ?_)
 rotate_left
 ·replace hb := cF hc hb
  cases hb
 replace hb := cT hc hb
 refine RC.sr ?_
 refine as_ (vi (-1)) rfl rfl ?_
 refine RL.nt ?_
 refine RC.rb ?_
 refine thenQ_r ?_
 obtain rfl := oi hb
 exact fin1 rfl rfl ⟨rfl, hw.drop 0 rfl⟩
def strings_Index_R (E : World) (Γ : List HP) (res : Int) (v : Value) (w : World) : Prop := v = (vi res) ∧ Holds E w Γ
def strings_Index_K (E : World) (Γ : List HP) (r : Int) (σ : Nat → Value) (w : World) : Prop := finQ Tryd.prog 8 Tryd.f142 (strings_Index_R E Γ r) .ret σ w
theorem strings_Index_ok (N : Nat) {E w : World} {Γ : List HP} {p0 : Str} {p1 : Str} {res : Int} (hw : Holds E w Γ)  (hb : strings_Index N p0 p1 = some res) :
    Calls Tryd.prog 142 [(str p0), (str p1)].toArray w (Ret (strings_Index_R E Γ res)) := by
 unfold strings_Index at hb
 refine enter Tryd.func142 rfl rfl (Nat.le_of_ble_eq_true rfl) ?_
 refine RC.sr ?_
 refine as_ (vi 0) rfl rfl ?_
 refine RL.ns ?_
 refine mv (str p0) rfl rfl ?_
 refine mv (str p1) rfl rfl ?_
 obtain ⟨x1, hx1, hb⟩ := bd hb
 refine RL.call trivial rfl fn139 [(str p0), (str p1)] rfl (Calls_ret (stringslite_Index_ok N (p0 := p0) (p1 := p1)  hw  hx1) ?_)
 rintro _ w ⟨rfl, hw⟩
 refine as_ (vi x1) rfl rfl ?_
 refine RL.nt ?_
 refine RC.ret ?_
 obtain rfl := oi hb
 exact fin1 rfl rfl ⟨rfl, hw.drop 0 rfl⟩
def strings_Count_R (E : World) (Γ : List HP) (res : Int) (v : Value) (w : World) : Prop := v = (vi res) ∧ Holds E w Γ
def strings_Count_K (E : World) (Γ : List HP) (r : Int) (σ : Nat → Value) (w : World) : Prop := finQ Tryd.prog 34 Tryd.f141 (strings_Count_R E Γ r) .ret σ w
theorem strings_Count_ok (N : Nat) {E w : World} {Γ : List HP} {p0 : Str} {p1 : Str} {res : Int} (hw : Holds E w Γ)  (hb : strings_Count N p0 p1 = some res) :
    Calls Tryd.prog 141 [(str p0), (str p1)].toArray w (Ret (strings_Count_R E Γ res)) := by
 unfold strings_Count at hb
 refine enter Tryd.func141 rfl rfl (Nat.le_of_ble_eq_true rfl) ?_
 refine RC.sr ?_
 refine as_ (vi 0) rfl rfl ?_
 refine RL.nq ?_
 refine RC.sr ?_
 refine mv (str p1) rfl rfl ?_
 refine RL.lens (s := p1) trivial rfl rfl un9 ?_
 refine ic ((p1.toL.length : Int)) 0 rfl rfl rfl rfl ?_
 refine RL.nt ?_
 refine RC.cond (b := ((p1.toL.length : Int) == 0)) rfl (fun hc => ?_) (fun hc => ?_)
 ·replace hb := cT hc hb
  cases hb
 replace hb := cF hc hb
 refine RC.ss ?_
 refine RC.sr ?_
 refine mv (str p1) rfl rfl ?_
 refine RL.lens (s := p1) trivial rfl rfl un9 ?_
 refine ic ((p1.toL.length : Int)) 1 rfl rfl rfl rfl ?_
 refine RL.nt ?_
 refine RC.cond (b := ((p1.toL.length : Int) == 1)) rfl (fun hc => ?_) (fun hc => ?_)
 ·replace hb := cT hc hb
  refine RC.sr ?_
  refine mv (str p0) rfl rfl ?_
  refine mv (str p1) rfl rfl ?_
  obtain ⟨x2, hx2, hb⟩ := bd hb
  refine RL.idxs (s := p1) (i := 0) (c := x2) trivial rfl rfl rfl un9 hx2 ?_
  refine RL.xcall (v := (vi ((Lib.countByte p0.toL (Int.toNat (x2.toNat : Int)).toUInt8 : Nat) : Int))) trivial rfl [(str p0), (.int .u8 (x2.toNat : Int))] rfl (x156 p0 (x2.toNat : Int) w) ?_
  refine as_ (vi ((Lib.countByte p0.toL (Int.toNat (x2.toNat : Int)).toUInt8 : Nat) : Int)) rfl rfl ?_
  refine RL.nt ?_
  refine RC.rt ?_
  obtain rfl := oi hb
  exact fin1 rfl rfl ⟨rfl, hw.drop 0 rfl⟩
 replace hb := cF hc hb
 refine RC.sx ?_
 refine as_ (vi 0) rfl rfl ?_
 refine RL.nt ?_
 obtain ⟨o11, hN, hb⟩ := bd hb
 refine RC.iter (fun (s4 : Str × Int) (σ : Nat → Value) (w : World) => agree σ [(0, (str s4.1)), (1, (str p1)), (4, (vi 0)), (5, (vi s4.2))] ∧ Holds E w ([] ++ Γ)) (fun (s4 : Str × Int) (σ : Nat → Value) (w : World) => agree σ [(4, (vi 0))] ∧ Holds E w ([] ++ Γ)) (strings_Count_K E Γ) hN ?_ ?_ ?_ ?_ 
 ·exact ⟨⟨rfl, rfl, rfl, rfl, trivial⟩, hw.pick 0 [] (new := []) rfl rfl (by decide) (by decide)⟩
 ·intro s4 fl σ w hI hb
  obtain ⟨ha, hw⟩ := hI
  obtain ⟨τ, rfl⟩ := ha.ups
  refine RC.bs ?_
  refine mv (str s4.1) rfl rfl ?_
  refine mv (str p1) rfl rfl ?_
  obtain ⟨x9, hx9, hb⟩ := bd hb
  refine RL.call trivial rfl fn142 [(str s4.1), (str p1)] rfl (Calls_ret (strings_Index_ok N (p0 := s4.1) (p1 := p1)  hw  hx9) ?_)
  rintro _ w ⟨rfl, hw⟩
  refine as_ (vi x9) rfl rfl ?_
  refine RL.nq ?_
  refine RC.sr ?_
  refine mv (vi x9) rfl rfl ?_
  refine ic x9 ((-1)) rfl rfl rfl rfl ?_
  refine RL.nt ?_
  refine RC.cond (b := (x9 == (-1))) rfl (fun hc => ?_) (fun hc => ?_)
  ·replace hb := cT hc hb
   refine RC.sr ?_
   refine mv (vi s4.2) rfl rfl ?_
   refine as_ (vi s4.2) rfl rfl ?_
   refine RL.nt ?_
   refine RC.rt ?_
   refine blkQ_r ?_
   obtain rfl := oi hb
   exact ⟨rfl, fin1 rfl rfl ⟨rfl, hw.drop 0 rfl⟩⟩
  replace hb := cF hc hb
  refine RC.sx ?_
  refine mv (vi s4.2) rfl rfl ?_
  refine RL.iar (a := s4.2) (b := 1) trivial rfl rfl rfl rfl ?_
  refine as_ (vi (IntKind.wrap .i64 (s4.2 + 1))) rfl rfl ?_
  refine RL.nt ?_
  refine RC.region ?_
  refine mv (str s4.1) rfl rfl ?_
  refine mv (vi x9) rfl rfl ?_
  refine mv (str p1) rfl rfl ?_
  refine RL.lens (s := p1) trivial rfl rfl un9 ?_
  refine RL.iar (a := x9) (b := (p1.toL.length : Int)) trivial rfl rfl rfl rfl ?_
  obtain ⟨x10, hx10, hb⟩ := bd hb
  refine RL.scut (s := s4.1) trivial rfl rfl un9 (.inl rfl) (.inr ⟨rfl, rfl⟩) hx10 ?_
  refine as_ (str x10) rfl rfl ?_
  refine RL.nil ?_
  refine blkQ_n ?_
  obtain rfl := oi hb
  exact ⟨rfl, ⟨rfl, rfl, rfl, rfl, trivial⟩, hw.pick 0 [] (new := []) rfl rfl (by decide) (by decide)⟩
 ·intro r σ w e hK
  subst e
  obtain rfl := oi hb
  exact hK
 intro s4 σ w e hJ
 subst e
 rw [Fo.cs_go] at hb
 obtain ⟨ha, hw⟩ := hJ
 obtain ⟨τ, rfl⟩ := ha.ups
 obtain rfl := oi hb
 refine fin_n ?_
 exact fin1 rfl rfl ⟨rfl, hw.drop 0 rfl⟩
def strings_genSplit_R (E : World) (Γ : List HP) (res : (List Str)) (v : Value) (w : World) : Prop := Holds E w (own 9 v res :: Γ)
def strings_genSplit_K (E : World) (Γ : List HP) (r : (List Str)) (σ : Nat → Value) (w : World) : Prop := finQ Tryd.prog 66 Tryd.f114 (strings_genSplit_R E Γ r) .ret σ w
theorem strings_genSplit_ok (N : Nat) {E w : World} {Γ : List HP} {p0 : Str} {p1 : Str} {p2 : Int} {p3 : Int} {res : (List Str)} (hw : Holds E w Γ)  (hb : strings_genSplit N p0 p1 p2 p3 = some res) :
    Calls Tryd.prog 114 [(str p0), (str p1), (vi p2), (vi p3)].toArray w (Ret (strings_genSplit_R E Γ res)) := by
 unfold strings_genSplit at hb
 refine enter Tryd.func114 rfl rfl (Nat.le_of_ble_eq_true rfl) ?_
 refine RC.sr ?_
 refine as_ (.slice none 0 0) rfl rfl ?_
 refine RL.nq ?_
 refine RC.sr ?_
 refine mv (vi p3) rfl rfl ?_
 refine ic p3 0 rfl rfl rfl rfl ?_
 refine RL.nt ?_
 refine RC.cond (b := (p3 == 0)) rfl (fun hc => ?_) (fun hc => ?_)
 ·replace hb := cT hc hb
  refine RC.sr ?_
  refine as_ (.slice none 0 0) rfl rfl ?_
  refine RL.nt ?_
  refine RC.rt ?_
  obtain rfl := oi hb
  have hw := hw.own_nil Str 9
  exact fin1 rfl rfl (hw.pick 1 [0] (new := [own 9 (.slice none 0 0) ([] : (List Str))]) rfl rfl (by decide) (by decide))
 replace hb := cF hc hb
 refine RC.ss ?_
 refine RC.sr ?_
 refine mv (str p1) rfl rfl ?_
 refine RL.scmp (a := p1) (b := ⟨[]⟩) trivial rfl rfl rfl rfl ?_
 refine RL.nt ?_
 refine RC.cond (b := (p1.eqb (⟨[]⟩))) rfl (fun hc => ?_) (fun hc => ?_)
 ·replace hb := cT hc hb
  cases hb
 replace hb := cF hc hb
 refine RC.ss ?_
 refine RC.sr ?_
 refine mv (vi p3) rfl rfl ?_
 refine ic p3 0 rfl rfl rfl rfl ?_
 refine RL.nt ?_
 obtain ⟨s2, hj, hb⟩ := bd hb
 refine RC.jn (fun (s2 : Int) (σ : Nat → Value) (w : World) => agree σ [(0, (str p0)), (1, (str p1)), (2, (vi p2)), (3, (vi s2))] ∧ Holds E w ([] ++ Γ)) s2 ?_ ?_
 ·refine RC.cond (b := (decide (p3 < 0))) rfl (fun hc => ?_) (fun hc => ?_)
  rotate_left
  ·replace hj := cF hc hj
   refine RC.skip ?_
   obtain rfl := oi hj
   exact ⟨rfl, ⟨rfl, rfl, rfl, rfl, trivial⟩, hw.pick 0 [] (new := []) rfl rfl (by decide) (by decide)⟩
  replace hj := cT hc hj
  refine RC.region ?_
  refine mv (str p0) rfl rfl ?_
  refine mv (str p1) rfl rfl ?_
  obtain ⟨x3, hx3, hj⟩ := bd hj
  refine RL.call trivial rfl fn141 [(str p0), (str p1)] rfl (Calls_ret (strings_Count_ok N (p0 := p0) (p1 := p1)  hw  hx3) ?_)
  rintro _ w ⟨rfl, hw⟩
  refine RL.iar (a := x3) (b := 1) trivial rfl rfl rfl rfl ?_
  refine as_ (vi (IntKind.wrap .i64 (x3 + 1))) rfl rfl ?_
  refine RL.nil ?_
  obtain rfl := oi hj
  exact ⟨rfl, ⟨rfl, rfl, rfl, rfl, trivial⟩, hw.pick 0 [] (new := []) rfl rfl (by decide) (by decide)⟩
 rintro σ w ⟨ha, hw⟩
 obtain ⟨τ, rfl⟩ := ha.ups
 refine thenQ_n ?_
 refine RC.sr ?_
 refine mv (vi s2) rfl rfl ?_
 refine mv (str p0) rfl rfl ?_
 refine RL.lens (s := p0) trivial rfl rfl un9 ?_
 refine RL.iar (a := (p0.toL.length : Int)) (b := 1) trivial rfl rfl rfl rfl ?_
 refine RL.min (a := s2) (b := (IntKind.wrap .i64 ((p0.toL.length : Int) + 1))) trivial rfl rfl rfl ?_
 refine as_ (vi (if (IntKind.wrap .i64 ((p0.toL.length : Int) + 1)) < s2 then (IntKind.wrap .i64 ((p0.toL.length : Int) + 1)) else s2)) rfl rfl ?_
 refine RL.ns ?_
 refine mv (vi (if (IntKind.wrap .i64 ((p0.toL.length : Int) + 1)) < s2 then (IntKind.wrap .i64 ((p0.toL.length : Int) + 1)) else s2)) rfl rfl ?_
 obtain ⟨x4, hx4, hb⟩ := bd hb
 refine RL.mk (k := (if (IntKind.wrap .i64 ((p0.toL.length : Int) + 1)) < s2 then (IntKind.wrap .i64 ((p0.toL.length : Int) + 1)) else s2)) trivial rfl hw rfl rfl el55 zd9 hx4 fun v5 w hw => ?_
 refine as_ v5 rfl rfl ?_
 refine RL.ns ?_
 refine mv (vi (if (IntKind.wrap .i64 ((p0.toL.length : Int) + 1)) < s2 then (IntKind.wrap .i64 ((p0.toL.length : Int) + 1)) else s2)) rfl rfl ?_
 refine RL.iar (a := (if (IntKind.wrap .i64 ((p0.toL.length : Int) + 1)) < s2 then (IntKind.wrap .i64 ((p0.toL.length : Int) + 1)) else s2)) (b := 1) trivial rfl rfl rfl rfl ?_
 refine as_ (vi (IntKind.wrap .i64 ((if (IntKind.wrap .i64 ((p0.toL.length : Int) + 1)) < s2 then (IntKind.wrap .i64 ((p0.toL.length : Int) + 1)) else s2) - 1))) rfl rfl ?_
 refine RL.ns ?_
 refine as_ (vi 0) rfl rfl ?_
 refine RL.nq ?_
 obtain ⟨o28, hN, hb⟩ := bd hb
 refine RC.iter (fun (s7 : Str × (List Str) × Int) (σ : Nat → Value) (w : World) => ∃ v18 : Value, agree σ [(0, (str s7.1)), (1, (str p1)), (2, (vi p2)), (3, (vi (IntKind.wrap .i64 ((if (IntKind.wrap .i64 ((p0.toL.length : Int) + 1)) < s2 then (IntKind.wrap .i64 ((p0.toL.length : Int) + 1)) else s2) - 1)))), (9, v18), (10, (vi s7.2.2))] ∧ Holds E w ([own 9 v18 s7.2.1] ++ Γ)) (fun (s7 : Str × (List Str) × Int) (σ : Nat → Value) (w : World) => ∃ v19 : Value, agree σ [(0, (str s7.1)), (9, v19), (10, (vi s7.2.2))] ∧ Holds E w ([own 9 v19 s7.2.1] ++ Γ)) (fun (r : Empty) (_ : Nat → Value) (_ : World) => r.elim) hN ?_ ?_ ?_ ?_ 
 ·exact ⟨v5, ⟨rfl, rfl, rfl, rfl, rfl, rfl, trivial⟩, hw.pick 1 [0] (new := [own 9 v5 x4]) rfl rfl (by decide) (by decide)⟩
 ·intro s7 fl σ w hI hb
  obtain ⟨v20, ha, hw⟩ := hI
  obtain ⟨τ, rfl⟩ := ha.ups
  refine RC.seq ?_
  refine RC.sr ?_
  refine mv (vi s7.2.2) rfl rfl ?_
  refine mv (vi (IntKind.wrap .i64 ((if (IntKind.wrap .i64 ((p0.toL.length : Int) + 1)) < s2 then (IntKind.wrap .i64 ((p0.toL.length : Int) + 1)) else s2) - 1))) rfl rfl ?_
  refine ic (s7.2.2) ((IntKind.wrap .i64 ((if (IntKind.wrap .i64 ((p0.toL.length : Int) + 1)) < s2 then (IntKind.wrap .i64 ((p0.toL.length : Int) + 1)) else s2) - 1))) rfl rfl rfl rfl ?_
  refine RL.nt ?_
  refine RC.cond (b := (decide (s7.2.2 < (IntKind.wrap .i64 ((if (IntKind.wrap .i64 ((p0.toL.length : Int) + 1)) < s2 then (IntKind.wrap .i64 ((p0.toL.length : Int) + 1)) else s2) - 1))))) rfl (fun hc => ?_) (fun hc => ?_)
  rotate_left
  ·replace hb := cF hc hb
   refine RC.ex ?_
   obtain rfl := oi hb
   exact ⟨rfl, v20, ⟨rfl, rfl, rfl, trivial⟩, hw.pick 1 [0] (new := [own 9 v20 s7.2.1]) rfl rfl (by decide) (by decide)⟩
  replace hb := cT hc hb
  refine RC.sn ?_
  refine RC.bs ?_
  refine mv (str s7.1) rfl rfl ?_
  refine mv (str p1) rfl rfl ?_
  obtain ⟨x21, hx21, hb⟩ := bd hb
  refine RL.call trivial rfl fn142 [(str s7.1), (str p1)] rfl (Calls_ret (strings_Index_ok N (p0 := s7.1) (p1 := p1)  hw  hx21) ?_)
  rintro _ w ⟨rfl, hw⟩
  refine as_ (vi x21) rfl rfl ?_
  refine RL.nq ?_
  refine RC.sr ?_
  refine mv (vi x21) rfl rfl ?_
  refine ic x21 0 rfl rfl rfl rfl ?_
  refine RL.nt ?_
  refine RC.cond (b := (decide (x21 < 0))) rfl (fun hc => ?_) (fun hc => ?_)
  ·replace hb := cT hc hb
   refine RC.ex ?_
   refine blkQ_x (by decide) ?_
   obtain rfl := oi hb
   exact ⟨rfl, v20, ⟨rfl, rfl, rfl, trivial⟩, hw.pick 1 [0] (new := [own 9 v20 s7.2.1]) rfl rfl (by decide) (by decide)⟩
  replace hb := cF hc hb
  refine RC.sx ?_
  refine mv v20 rfl rfl ?_
  refine mv (vi s7.2.2) rfl rfl ?_
  refine mv (str s7.1) rfl rfl ?_
  refine mv (vi x21) rfl rfl ?_
  refine mv (vi p2) rfl rfl ?_
  refine RL.iar (a := x21) (b := p2) trivial rfl rfl rfl rfl ?_
  obtain ⟨x22, hx22, hb⟩ := bd hb
  refine RL.scut (s := s7.1) trivial rfl rfl un9 (.inr ⟨rfl, rfl⟩) (.inl rfl) hx22 ?_
  obtain ⟨x23, hx23, hb⟩ := bd hb
  refine RL.ia_ownA (i := 0) trivial rfl hw rfl rfl rfl sl55 hx23 ?_
  have hw := hw.sc (γ := Str) x22
  refine RL.store_el (i := 1) (j := 0) (f := (fun _ y => y)) trivial hw rfl rfl (elp hw (i := 1) rfl hx23 0) rfl (idx_some hx23).2.1 rfl Fs.self (by decide) ty9 fun w hw => ?_
  refine RL.ns ?_
  refine mv (str s7.1) rfl rfl ?_
  refine mv (vi x21) rfl rfl ?_
  refine mv (str p1) rfl rfl ?_
  refine RL.lens (s := p1) trivial rfl rfl un9 ?_
  refine RL.iar (a := x21) (b := (p1.toL.length : Int)) trivial rfl rfl rfl rfl ?_
  obtain ⟨x24, hx24, hb⟩ := bd hb
  refine RL.scut (s := s7.1) trivial rfl rfl un9 (.inl rfl) (.inr ⟨rfl, rfl⟩) hx24 ?_
  refine as_ (str x24) rfl rfl ?_
  refine RL.nt ?_
  refine RC.region ?_
  refine mv (vi s7.2.2) rfl rfl ?_
  refine RL.iar (a := s7.2.2) (b := 1) trivial rfl rfl rfl rfl ?_
  refine as_ (vi (IntKind.wrap .i64 (s7.2.2 + 1))) rfl rfl ?_
  refine RL.nil ?_
  refine blkQ_n ?_
  obtain rfl := oi hb
  exact ⟨rfl, v20, ⟨rfl, rfl, rfl, rfl, rfl, rfl, trivial⟩, hw.pick 2 [1] (new := [own 9 v20 (s7.2.1.set (Int.toNat s7.2.2) x22)]) rfl rfl (by decide) (by decide)⟩
 ·intro r _ _ _ _
  exact r.elim
 intro s7 σ w e hJ
 subst e
 rw [Fo.cs_go] at hb
 obtain ⟨v19, ha, hw⟩ := hJ
 obtain ⟨τ, rfl⟩ := ha.ups
 refine thenQ_n ?_
 refine RC.sr ?_
 refine mv v19 rfl rfl ?_
 refine mv (vi s7.2.2) rfl rfl ?_
 refine mv (str s7.1) rfl rfl ?_
 obtain ⟨x25, hx25, hb⟩ := bd hb
 refine RL.ia_ownA (i := 0) trivial rfl hw rfl rfl rfl sl55 hx25 ?_
 have hw := hw.sc (γ := Str) s7.1
 refine RL.store_el (i := 1) (j := 0) (f := (fun _ y => y)) trivial hw rfl rfl (elp hw (i := 1) rfl hx25 0) rfl (idx_some hx25).2.1 rfl Fs.self (by decide) ty9 fun w hw => ?_
 refine RL.ns ?_
 refine mv v19 rfl rfl ?_
 refine mv (vi s7.2.2) rfl rfl ?_
 refine RL.iar (a := s7.2.2) (b := 1) trivial rfl rfl rfl rfl ?_
 obtain ⟨x26, hx26, hb⟩ := bd hb
 refine RL.cut_own (i := 1) trivial rfl hw rfl rfl sl55 (.inr ⟨rfl, rfl⟩) (.inl rfl) hx26 fun v27 hw => ?_
 refine as_ v27 rfl rfl ?_
 refine RL.nt ?_
 refine RC.ret ?_
 obtain rfl := oi hb
 exact fin1 rfl rfl (hw.pick 2 [1] (new := [own 9 v27 x26]) rfl rfl (by decide) (by decide))
def strings_Split_R (E : World) (Γ : List HP) (res : (List Str)) (v : Value) (w : World) : Prop := Holds E w (own 9 v res :: Γ)
def strings_Split_K (E : World) (Γ : List HP) (r : (List Str)) (σ : Nat → Value) (w : World) : Prop := finQ Tryd.prog 8 Tryd.f60 (strings_Split_R E Γ r) .ret σ w
theorem strings_Split_ok (N : Nat) {E w : World} {Γ : List HP} {p0 : Str} {p1 : Str} {res : (List Str)} (hw : Holds E w Γ)  (hb : strings_Split N p0 p1 = some res) :
    Calls Tryd.prog 60 [(str p0), (str p1)].toArray w (Ret (strings_Split_R E Γ res)) := by
 unfold strings_Split at hb
 refine enter Tryd.func60 rfl rfl (Nat.le_of_ble_eq_true rfl) ?_
 refine RC.sr ?_
 refine as_ (.slice none 0 0) rfl rfl ?_
 refine RL.ns ?_
 refine mv (str p0) rfl rfl ?_
 refine mv (str p1) rfl rfl ?_
 obtain ⟨x1, hx1, hb⟩ := bd hb
 refine RL.call trivial rfl fn114 [(str p0), (str p1), (vi 0), (vi (-1))] rfl (Calls_ret (strings_genSplit_ok N (p0 := p0) (p1 := p1) (p2 := 0) (p3 := (-1))  hw  hx1) ?_)
 rintro v2 w hw
 refine as_ v2 rfl rfl ?_
 refine RL.nt ?_
 refine RC.ret ?_
 obtain rfl := oi hb
 exact fin1 rfl rfl (hw.pick 1 [0] (new := [own 9 v2 x1]) rfl rfl (by decide) (by decide))
end Go.Gk
