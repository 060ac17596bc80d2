/-
  Printed by gen.py: Go functions as plain functions, and that they are.
-/
import Derived.Test.YtghiafpkpfipgaaGreatDoorT
import Derived.Test.YtghiafpkpfipgaaGreatDoorS
set_option linter.unusedVariables false
set_option linter.unusedSimpArgs false
set_option linter.unusedSectionVars false
set_option maxRecDepth 100000
set_option maxHeartbeats 4000000

namespace Go.Gk
open Go Go.Proofs
def stringslite_IndexByte_R (E : World) (Γ : List HP) (res : Int) (v : Value) (w : World) : Prop := v = (vi res) ∧ Holds E w Γ
theorem stringslite_IndexByte_ok (N : Nat) {E w : World} {Γ : List HP} {p0 : Str} {p1 : Int} {res : Int} (hw : Holds E w Γ)  (hb : stringslite_IndexByte N p0 p1 = some res) :
    Calls Tryz.prog 93 [(str p0), (.int .u8 p1)].toArray w (Ret (stringslite_IndexByte_R E Γ res)) := by
 unfold stringslite_IndexByte at hb
 refine enter Tryz.func93 rfl rfl (Nat.le_of_ble_eq_true rfl) ?_
 refine RC.sr ?_
 refine as_ (vi 0) rfl rfl ?_
 refine RL.ns ?_
 refine mv (str p0) rfl rfl ?_
 refine mv (.int .u8 p1) rfl rfl ?_
 refine RL.xcall (v := (vi (Lib.indexByte p0.toL (Int.toNat p1).toUInt8))) trivial rfl [(str p0), (.int .u8 p1)] rfl (x101 p0 p1 w) ?_
 refine as_ (vi (Lib.indexByte p0.toL (Int.toNat p1).toUInt8)) rfl rfl ?_
 refine RL.nt ?_
 refine RC.ret ?_
 obtain rfl := oi hb
 exact fin1 rfl rfl ⟨rfl, hw.drop 0 rfl⟩
def strings_IndexByte_R (E : World) (Γ : List HP) (res : Int) (v : Value) (w : World) : Prop := v = (vi res) ∧ Holds E w Γ
theorem strings_IndexByte_ok (N : Nat) {E w : World} {Γ : List HP} {p0 : Str} {p1 : Int} {res : Int} (hw : Holds E w Γ)  (hb : strings_IndexByte N p0 p1 = some res) :
    Calls Tryz.prog 70 [(str p0), (.int .u8 p1)].toArray w (Ret (strings_IndexByte_R E Γ res)) := by
 unfold strings_IndexByte at hb
 refine enter Tryz.func70 rfl rfl (Nat.le_of_ble_eq_true rfl) ?_
 refine RC.sr ?_
 refine as_ (vi 0) rfl rfl ?_
 refine RL.ns ?_
 refine mv (str p0) rfl rfl ?_
 refine mv (.int .u8 p1) rfl rfl ?_
 obtain ⟨x31, hx31, hb⟩ := bd hb
 refine RL.call trivial rfl fn93 [(str p0), (.int .u8 p1)] rfl (Calls_ret (stringslite_IndexByte_ok N (p0 := p0) (p1 := p1)  hw  hx31) ?_)
 rintro _ w ⟨rfl, hw⟩
 refine as_ (vi x31) rfl rfl ?_
 refine RL.nt ?_
 refine RC.ret ?_
 obtain rfl := oi hb
 exact fin1 rfl rfl ⟨rfl, hw.drop 0 rfl⟩
def netlist_IsWord_R (E : World) (Γ : List HP) (res : Bool) (v : Value) (w : World) : Prop := v = (vb res) ∧ Holds E w Γ
def netlist_IsWord_K (E : World) (Γ : List HP) (r : Bool) (σ : Nat → Value) (w : World) : Prop := finQ Tryz.prog 49 Tryz.f42 (netlist_IsWord_R E Γ r) .ret σ w
theorem netlist_IsWord_ok (N : Nat) {E w : World} {Γ : List HP} {p0 : Str} {res : Bool} (hw : Holds E w Γ)  (hb : netlist_IsWord N p0 = some res) :
    Calls Tryz.prog 42 [(str p0)].toArray w (Ret (netlist_IsWord_R E Γ res)) := by
 unfold netlist_IsWord at hb
 refine enter Tryz.func42 rfl rfl (Nat.le_of_ble_eq_true rfl) ?_
 refine RC.sr ?_
 refine as_ (vb false) rfl rfl ?_
 refine RL.nq ?_
 refine RC.sr ?_
 refine mv (str p0) rfl rfl ?_
 refine RL.lens (s := p0) trivial rfl rfl un9 ?_
 refine mv (vi 0) rfl rfl ?_
 refine RL.nt ?_
 obtain ⟨o45, hN, hb⟩ := bd hb
 refine RC.range (fun (k31 : Nat) (s32 : Unit) (σ : Nat → Value) (w : World) => agree σ [(0, (str p0)), (6, (vi (p0.toL.length : Int))), (7, (vi (k31 : Int)))] ∧ Holds E w ([] ++ Γ)) (fun (s32 : Unit) (σ : Nat → Value) (w : World) => agree σ [(0, (str p0))] ∧ Holds E w ([] ++ Γ)) (netlist_IsWord_K E Γ) hN ?_ ?_ ?_ ?_ ?_ 
 ·exact ⟨⟨rfl, rfl, rfl, trivial⟩, hw.pick 0 [] (new := []) rfl rfl (by decide) (by decide)⟩
 ·intro hm s32 σ w hI
  obtain ⟨ha, hw⟩ := hI
  obtain ⟨τ, rfl⟩ := ha.ups
  refine RC.sr ?_
  refine ic ((p0.toL.length : Int)) ((p0.toL.length : Int)) rfl rfl rfl rfl ?_
  refine RL.nq ?_
  refine RC.cond_f dge ?_
  refine RC.ex ?_
  exact ⟨rfl, ⟨rfl, trivial⟩, hw.pick 0 [] (new := []) rfl rfl (by decide) (by decide)⟩
 ·intro hm k31 s32 fl σ w hk hI hb
  obtain ⟨ha, hw⟩ := hI
  obtain ⟨τ, rfl⟩ := ha.ups
  refine RC.sr ?_
  refine ic ((k31 : Int)) ((p0.toL.length : Int)) rfl rfl rfl rfl ?_
  refine RL.nq ?_
  refine RC.cond_t (dlt hk) ?_
  refine RC.ss ?_
  refine RC.bs ?_
  refine mv (vi (k31 : Int)) rfl rfl ?_
  refine as_ (vi (k31 : Int)) rfl rfl ?_
  refine RL.ns ?_
  refine mv (str p0) rfl rfl ?_
  refine mv (vi (k31 : Int)) rfl rfl ?_
  obtain ⟨x39, hx39, hb⟩ := bd hb
  refine RL.idxs (s := p0) (i := (k31 : Int)) (c := x39) trivial rfl rfl rfl un9 hx39 ?_
  refine as_ (.int .u8 (x39.toNat : Int)) rfl rfl ?_
  refine RL.nq ?_
  obtain ⟨s42, hj, hb⟩ := bd hb
  refine RC.jn (fun (s42 : Bool) (σ : Nat → Value) (w : World) => agree σ [(0, (str p0)), (6, (vi (p0.toL.length : Int))), (7, (vi (k31 : Int))), (39, (vb s42))] ∧ Holds E w ([] ++ Γ)) s42 ?_ ?_
  ·refine RC.region ?_
   refine mv (.int .u8 (x39.toNat : Int)) rfl rfl ?_
   refine ic ((x39.toNat : Int)) 65 rfl rfl rfl rfl ?_
   refine mv (vb (decide ((x39.toNat : Int) < 65))) rfl rfl ?_
   refine RL.gs (c := true) (b := (decide ((x39.toNat : Int) < 65))) (v := (.int .u8 (x39.toNat : Int))) rfl rfl rfl (gs_move rfl (fun _ => rfl)) ?_
   refine RL.gs (c := true) (b := (decide ((x39.toNat : Int) < 65))) (v := (vb (decide ((x39.toNat : Int) > 90)))) rfl rfl rfl (gs_icmp (bop := .gtr) (K := .u8) (a := (x39.toNat : Int)) (b := 90) rfl (fun h => by exact (cv_t h : cv (true && ((decide ((x39.toNat : Int) < 65)) == false)) (.int .u8 (x39.toNat : Int)) = (.int .u8 (x39.toNat : Int)))) (fun _ => rfl) rfl) ?_
   refine RL.pick (b := (decide ((x39.toNat : Int) < 65))) (v := (vb ((decide ((x39.toNat : Int) < 65)) || (decide ((x39.toNat : Int) > 90))))) trivial rfl rfl (pk_or (c := true) rfl) ?_
   refine mv (vb ((decide ((x39.toNat : Int) < 65)) || (decide ((x39.toNat : Int) > 90)))) rfl rfl ?_
   refine RL.gs (c := true) (b := ((decide ((x39.toNat : Int) < 65)) || (decide ((x39.toNat : Int) > 90)))) (v := (.int .u8 (x39.toNat : Int))) rfl rfl rfl (gs_move rfl (fun _ => rfl)) ?_
   refine RL.gs (c := true) (b := ((decide ((x39.toNat : Int) < 65)) || (decide ((x39.toNat : Int) > 90)))) (v := (vb (decide ((x39.toNat : Int) < 97)))) rfl rfl rfl (gs_icmp (bop := .lss) (K := .u8) (a := (x39.toNat : Int)) (b := 97) rfl (fun h => by exact (cv_t h : cv (true && (((decide ((x39.toNat : Int) < 65)) || (decide ((x39.toNat : Int) > 90))) == true)) (.int .u8 (x39.toNat : Int)) = (.int .u8 (x39.toNat : Int)))) (fun _ => rfl) rfl) ?_
   refine RL.gs (c := true) (b := ((decide ((x39.toNat : Int) < 65)) || (decide ((x39.toNat : Int) > 90)))) (v := (vb (decide ((x39.toNat : Int) < 97)))) rfl rfl rfl (gs_move rfl (fun h => by exact (cv_t h : cv (true && (((decide ((x39.toNat : Int) < 65)) || (decide ((x39.toNat : Int) > 90))) == true)) (vb (decide ((x39.toNat : Int) < 97))) = (vb (decide ((x39.toNat : Int) < 97)))))) ?_
   refine RL.gs (c := (true && (((decide ((x39.toNat : Int) < 65)) || (decide ((x39.toNat : Int) > 90))) == true))) (b := (decide ((x39.toNat : Int) < 97))) (v := (.int .u8 (x39.toNat : Int))) rfl rfl rfl (gs_move rfl (fun _ => rfl)) ?_
   refine RL.gs (c := (true && (((decide ((x39.toNat : Int) < 65)) || (decide ((x39.toNat : Int) > 90))) == true))) (b := (decide ((x39.toNat : Int) < 97))) (v := (vb (decide ((x39.toNat : Int) > 122)))) rfl rfl rfl (gs_icmp (bop := .gtr) (K := .u8) (a := (x39.toNat : Int)) (b := 122) rfl (fun h => by exact (cv_t h : cv ((true && (((decide ((x39.toNat : Int) < 65)) || (decide ((x39.toNat : Int) > 90))) == true)) && ((decide ((x39.toNat : Int) < 97)) == false)) (.int .u8 (x39.toNat : Int)) = (.int .u8 (x39.toNat : Int)))) (fun _ => rfl) rfl) ?_
   refine RL.gs (c := true) (b := ((decide ((x39.toNat : Int) < 65)) || (decide ((x39.toNat : Int) > 90)))) (v := (vb ((decide ((x39.toNat : Int) < 97)) || (decide ((x39.toNat : Int) > 122))))) rfl rfl rfl (gs_pick (b := (decide ((x39.toNat : Int) < 97))) rfl (fun h => by exact (cv_t h : cv (true && (((decide ((x39.toNat : Int) < 65)) || (decide ((x39.toNat : Int) > 90))) == true)) (vb (decide ((x39.toNat : Int) < 97))) = (vb (decide ((x39.toNat : Int) < 97))))) (fun h => by exact pk_or (c := (true && (((decide ((x39.toNat : Int) < 65)) || (decide ((x39.toNat : Int) > 90))) == true))) h)) ?_
   refine RL.pick (b := ((decide ((x39.toNat : Int) < 65)) || (decide ((x39.toNat : Int) > 90)))) (v := (vb (((decide ((x39.toNat : Int) < 65)) || (decide ((x39.toNat : Int) > 90))) && ((decide ((x39.toNat : Int) < 97)) || (decide ((x39.toNat : Int) > 122)))))) trivial rfl rfl (pk_and (c := true) rfl) ?_
   refine mv (vb (((decide ((x39.toNat : Int) < 65)) || (decide ((x39.toNat : Int) > 90))) && ((decide ((x39.toNat : Int) < 97)) || (decide ((x39.toNat : Int) > 122))))) rfl rfl ?_
   refine RL.gs (c := true) (b := (((decide ((x39.toNat : Int) < 65)) || (decide ((x39.toNat : Int) > 90))) && ((decide ((x39.toNat : Int) < 97)) || (decide ((x39.toNat : Int) > 122))))) (v := (.int .u8 (x39.toNat : Int))) rfl rfl rfl (gs_move rfl (fun _ => rfl)) ?_
   refine RL.gs (c := true) (b := (((decide ((x39.toNat : Int) < 65)) || (decide ((x39.toNat : Int) > 90))) && ((decide ((x39.toNat : Int) < 97)) || (decide ((x39.toNat : Int) > 122))))) (v := (vb (decide ((x39.toNat : Int) < 48)))) rfl rfl rfl (gs_icmp (bop := .lss) (K := .u8) (a := (x39.toNat : Int)) (b := 48) rfl (fun h => by exact (cv_t h : cv (true && ((((decide ((x39.toNat : Int) < 65)) || (decide ((x39.toNat : Int) > 90))) && ((decide ((x39.toNat : Int) < 97)) || (decide ((x39.toNat : Int) > 122)))) == true)) (.int .u8 (x39.toNat : Int)) = (.int .u8 (x39.toNat : Int)))) (fun _ => rfl) rfl) ?_
   refine RL.gs (c := true) (b := (((decide ((x39.toNat : Int) < 65)) || (decide ((x39.toNat : Int) > 90))) && ((decide ((x39.toNat : Int) < 97)) || (decide ((x39.toNat : Int) > 122))))) (v := (vb (decide ((x39.toNat : Int) < 48)))) rfl rfl rfl (gs_move rfl (fun h => by exact (cv_t h : cv (true && ((((decide ((x39.toNat : Int) < 65)) || (decide ((x39.toNat : Int) > 90))) && ((decide ((x39.toNat : Int) < 97)) || (decide ((x39.toNat : Int) > 122)))) == true)) (vb (decide ((x39.toNat : Int) < 48))) = (vb (decide ((x39.toNat : Int) < 48)))))) ?_
   refine RL.gs (c := (true && ((((decide ((x39.toNat : Int) < 65)) || (decide ((x39.toNat : Int) > 90))) && ((decide ((x39.toNat : Int) < 97)) || (decide ((x39.toNat : Int) > 122)))) == true))) (b := (decide ((x39.toNat : Int) < 48))) (v := (.int .u8 (x39.toNat : Int))) rfl rfl rfl (gs_move rfl (fun _ => rfl)) ?_
   refine RL.gs (c := (true && ((((decide ((x39.toNat : Int) < 65)) || (decide ((x39.toNat : Int) > 90))) && ((decide ((x39.toNat : Int) < 97)) || (decide ((x39.toNat : Int) > 122)))) == true))) (b := (decide ((x39.toNat : Int) < 48))) (v := (vb (decide ((x39.toNat : Int) > 57)))) rfl rfl rfl (gs_icmp (bop := .gtr) (K := .u8) (a := (x39.toNat : Int)) (b := 57) rfl (fun h => by exact (cv_t h : cv ((true && ((((decide ((x39.toNat : Int) < 65)) || (decide ((x39.toNat : Int) > 90))) && ((decide ((x39.toNat : Int) < 97)) || (decide ((x39.toNat : Int) > 122)))) == true)) && ((decide ((x39.toNat : Int) < 48)) == false)) (.int .u8 (x39.toNat : Int)) = (.int .u8 (x39.toNat : Int)))) (fun _ => rfl) rfl) ?_
   refine RL.gs (c := true) (b := (((decide ((x39.toNat : Int) < 65)) || (decide ((x39.toNat : Int) > 90))) && ((decide ((x39.toNat : Int) < 97)) || (decide ((x39.toNat : Int) > 122))))) (v := (vb ((decide ((x39.toNat : Int) < 48)) || (decide ((x39.toNat : Int) > 57))))) rfl rfl rfl (gs_pick (b := (decide ((x39.toNat : Int) < 48))) rfl (fun h => by exact (cv_t h : cv (true && ((((decide ((x39.toNat : Int) < 65)) || (decide ((x39.toNat : Int) > 90))) && ((decide ((x39.toNat : Int) < 97)) || (decide ((x39.toNat : Int) > 122)))) == true)) (vb (decide ((x39.toNat : Int) < 48))) = (vb (decide ((x39.toNat : Int) < 48))))) (fun h => by exact pk_or (c := (true && ((((decide ((x39.toNat : Int) < 65)) || (decide ((x39.toNat : Int) > 90))) && ((decide ((x39.toNat : Int) < 97)) || (decide ((x39.toNat : Int) > 122)))) == true))) h)) ?_
   refine RL.pick (b := (((decide ((x39.toNat : Int) < 65)) || (decide ((x39.toNat : Int) > 90))) && ((decide ((x39.toNat : Int) < 97)) || (decide ((x39.toNat : Int) > 122))))) (v := (vb ((((decide ((x39.toNat : Int) < 65)) || (decide ((x39.toNat : Int) > 90))) && ((decide ((x39.toNat : Int) < 97)) || (decide ((x39.toNat : Int) > 122)))) && ((decide ((x39.toNat : Int) < 48)) || (decide ((x39.toNat : Int) > 57)))))) trivial rfl rfl (pk_and (c := true) rfl) ?_
   refine mv (vb ((((decide ((x39.toNat : Int) < 65)) || (decide ((x39.toNat : Int) > 90))) && ((decide ((x39.toNat : Int) < 97)) || (decide ((x39.toNat : Int) > 122)))) && ((decide ((x39.toNat : Int) < 48)) || (decide ((x39.toNat : Int) > 57))))) rfl rfl ?_
   rcases Bool.eq_false_or_eq_true ((((decide ((x39.toNat : Int) < 65)) || (decide ((x39.toNat : Int) > 90))) && ((decide ((x39.toNat : Int) < 97)) || (decide ((x39.toNat : Int) > 122)))) && ((decide ((x39.toNat : Int) < 48)) || (decide ((x39.toNat : Int) > 57)))) with hg43 | hg43
   rotate_left
   ·replace hj := cF hg43 hj
    refine sk rfl (.inl (cb hg43)) rfl ?_
    refine sk rfl (.inl (cb hg43)) rfl ?_
    refine sk rfl (.inl (cb hg43)) rfl ?_
    refine RL.pick (b := ((((decide ((x39.toNat : Int) < 65)) || (decide ((x39.toNat : Int) > 90))) && ((decide ((x39.toNat : Int) < 97)) || (decide ((x39.toNat : Int) > 122)))) && ((decide ((x39.toNat : Int) < 48)) || (decide ((x39.toNat : Int) > 57))))) (v := (vb false)) trivial rfl rfl (by rw [hg43]; rfl) ?_
    refine RL.nil ?_
    obtain rfl := oi hj
    exact ⟨rfl, ⟨rfl, rfl, rfl, rfl, trivial⟩, hw.pick 0 [] (new := []) rfl rfl (by decide) (by decide)⟩
   replace hj := cT hg43 hj
   refine RL.move (v := (.int .u8 (x39.toNat : Int))) ⟨_, rfl, cb hg43⟩ rfl rfl ?_
   obtain ⟨x44, hx44, hj⟩ := bd hj
   refine RL.call ⟨_, rfl, cb hg43⟩ rfl fn70 [(str ⟨[95, 43, 45, 35]⟩), (.int .u8 (x39.toNat : Int))] rfl (Calls_ret (strings_IndexByte_ok N (p0 := ⟨[95, 43, 45, 35]⟩) (p1 := (x39.toNat : Int))  hw  hx44) ?_)
   rintro _ w ⟨rfl, hw⟩
   refine RL.icmp (a := x44) (b := 0) ⟨_, rfl, cb hg43⟩ rfl rfl rfl rfl ?_
   refine RL.pick (b := ((((decide ((x39.toNat : Int) < 65)) || (decide ((x39.toNat : Int) > 90))) && ((decide ((x39.toNat : Int) < 97)) || (decide ((x39.toNat : Int) > 122)))) && ((decide ((x39.toNat : Int) < 48)) || (decide ((x39.toNat : Int) > 57))))) (v := (vb (decide (x44 < 0)))) trivial rfl rfl (by rw [hg43]; rfl) ?_
   refine RL.nil ?_
   obtain rfl := oi hj
   exact ⟨rfl, ⟨rfl, rfl, rfl, rfl, trivial⟩, hw.pick 0 [] (new := []) rfl rfl (by decide) (by decide)⟩
  rintro σ w ⟨ha, hw⟩
  obtain ⟨τ, rfl⟩ := ha.ups
  refine thenQ_n ?_
  refine RC.cond (b := s42) rfl (fun hc => ?_) (fun hc => ?_)
  rotate_left
  ·replace hb := cF hc hb
   refine RC.skip ?_
   refine blkQ_n ?_
   refine thenQ_n ?_
   refine RC.region ?_
   refine RL.inc trivial rfl hk hm rfl rfl ?_
   refine mv (vi ((k31 + 1 : Nat) : Int)) rfl rfl ?_
   refine RL.nil ?_
   obtain rfl := oi hb
   exact ⟨rfl, ⟨rfl, rfl, rfl, trivial⟩, hw.pick 0 [] (new := []) rfl rfl (by decide) (by decide)⟩
  replace hb := cT hc hb
  refine RC.sr ?_
  refine as_ (vb false) rfl rfl ?_
  refine RL.nt ?_
  refine RC.rb ?_
  refine thenQ_r ?_
  obtain rfl := oi hb
  exact ⟨rfl, fin1 rfl rfl ⟨rfl, hw.drop 0 rfl⟩⟩
 ·intro r σ w e hK
  subst e
  refine thenQ_r ?_
  obtain rfl := oi hb
  exact hK
 intro s32 σ w e hJ
 subst e
 rw [Fo.cs_go] at hb
 obtain ⟨ha, hw⟩ := hJ
 obtain ⟨τ, rfl⟩ := ha.ups
 refine thenQ_n ?_
 refine RC.sr ?_
 refine mv (str p0) rfl rfl ?_
 refine RL.lens (s := p0) trivial rfl rfl un9 ?_
 refine ic ((p0.toL.length : Int)) 1 rfl rfl rfl rfl ?_
 refine mv (vb (decide ((p0.toL.length : Int) ≥ 1))) rfl rfl ?_
 refine RL.gs (c := true) (b := (decide ((p0.toL.length : Int) ≥ 1))) (v := (str p0)) rfl rfl rfl (gs_move rfl (fun _ => rfl)) ?_
 refine RL.gs (c := true) (b := (decide ((p0.toL.length : Int) ≥ 1))) (v := (vi (p0.toL.length : Int))) rfl rfl rfl (gs_lens (s := p0) rfl (fun h => by exact (cv_t h : cv (true && ((decide ((p0.toL.length : Int) ≥ 1)) == true)) (str p0) = (str p0))) un9) ?_
 refine RL.gs (c := true) (b := (decide ((p0.toL.length : Int) ≥ 1))) (v := (vb (decide ((p0.toL.length : Int) ≤ 40)))) rfl rfl rfl (gs_icmp (bop := .leq) (K := .i64) (a := (p0.toL.length : Int)) (b := 40) rfl (fun h => by exact (cv_t h : cv (true && ((decide ((p0.toL.length : Int) ≥ 1)) == true)) (vi (p0.toL.length : Int)) = (vi (p0.toL.length : Int)))) (fun _ => rfl) rfl) ?_
 refine RL.pick (b := (decide ((p0.toL.length : Int) ≥ 1))) (v := (vb ((decide ((p0.toL.length : Int) ≥ 1)) && (decide ((p0.toL.length : Int) ≤ 40))))) trivial rfl rfl (pk_and (c := true) rfl) ?_
 refine as_ (vb ((decide ((p0.toL.length : Int) ≥ 1)) && (decide ((p0.toL.length : Int) ≤ 40)))) rfl rfl ?_
 refine RL.nt ?_
 refine RC.ret ?_
 obtain rfl := oi hb
 exact fin1 rfl rfl ⟨rfl, hw.drop 0 rfl⟩
def netlist_checkPins_c1_R (E : World) (Γ : List HP) (res : Bool) (v : Value) (w : World) : Prop := v = (vb res) ∧ Holds E w Γ
theorem netlist_checkPins_c1_ok (N : Nat) {E w : World} {Γ : List HP} {i0 : Nat} {v0 : Value} {p0 : PinType} {i1 : Nat} {v1 : Value} {p1 : PinType} {res : Bool} (hw : Holds E w Γ) (h0 : Γ[i0]? = some (rd v0 p0)) (h1 : Γ[i1]? = some (pt v1 p1)) (hb : netlist_checkPins_c1 N p0 p1 = some res) :
    Calls Tryz.prog 72 [v0, v1].toArray w (Ret (netlist_checkPins_c1_R E Γ res)) := by
 unfold netlist_checkPins_c1 at hb
 refine enter Tryz.func72 rfl rfl (Nat.le_of_ble_eq_true rfl) ?_
 have hw := hw.dup (i := i0 + 0) h0
 have hw := hw.dup_pt (i := i1 + 1) h1
 refine RC.sr ?_
 refine RL.box_rd (i := 1) (v := v0) trivial rfl hw rfl rfl fun b31 w hw => ?_
 refine as_ (vb false) rfl rfl ?_
 refine RL.nq ?_
 obtain ⟨s41, hj, hb⟩ := bd hb
 refine RC.jn (fun (s41 : Bool) (σ : Nat → Value) (w : World) => agree σ [(3, (vb s41))] ∧ Holds E w ([] ++ Γ)) s41 ?_ ?_
 ·refine RC.region ?_
  refine RL.fa_pt (i := 1) (f := fun (x : PinType) => x.Group) trivial rfl hw rfl rfl fa55_2 fd_PinType_2 fun v42 hw => ?_
  refine RL.load_pts (i := 0) (y := p1.Group) trivial rfl hw rfl rfl ty3 ?_
  refine ic (p1.Group) 0 rfl rfl rfl rfl ?_
  refine mv (vb (decide (p1.Group > 0))) rfl rfl ?_
  rcases Bool.eq_false_or_eq_true (decide (p1.Group > 0)) with hg43 | hg43
  rotate_left
  ·replace hj := cF hg43 hj
   refine sk rfl (.inl (cb hg43)) rfl ?_
   refine sk rfl (.inl (cb hg43)) rfl ?_
   refine sk rfl (.inl (cb hg43)) rfl ?_
   refine sk rfl (.inl (cb hg43)) rfl ?_
   refine sk rfl (.inl (cb hg43)) rfl ?_
   refine RL.pick (b := (decide (p1.Group > 0))) (v := (vb false)) trivial rfl rfl (by rw [hg43]; rfl) ?_
   refine mv (vb false) rfl rfl ?_
   refine sk rfl (.inl rfl) rfl ?_
   refine sk rfl (.inl rfl) rfl ?_
   refine sk rfl (.inl rfl) rfl ?_
   refine sk rfl (.inl rfl) rfl ?_
   refine sk rfl (.inl rfl) rfl ?_
   refine RL.pick (b := false) (v := (vb false)) trivial rfl rfl rfl ?_
   refine as_ (vb false) rfl rfl ?_
   refine RL.nil ?_
   obtain rfl := oi hj
   exact ⟨rfl, ⟨rfl, trivial⟩, hw.pick 4 [] (new := []) rfl rfl (by decide) (by decide)⟩
  replace hj := cT hg43 hj
  refine RL.fa_b ⟨_, rfl, cb hg43⟩ rfl rfl fa55_2 ?_
  refine RL.load_bfs (i := 1) (f := (fun x => x.Group)) ⟨_, rfl, cb hg43⟩ rfl hw rfl rfl fd_PinType_2 ty3 ?_
  refine RL.fa_pt (i := 2) (f := fun (x : PinType) => x.Group) ⟨_, rfl, cb hg43⟩ rfl hw rfl rfl fa55_2 fd_PinType_2 fun v44 hw => ?_
  refine RL.load_pts (i := 0) (y := p1.Group) ⟨_, rfl, cb hg43⟩ rfl hw rfl rfl ty3 ?_
  refine RL.icmp (a := p0.Group) (b := p1.Group) ⟨_, rfl, cb hg43⟩ rfl rfl rfl rfl ?_
  refine RL.pick (b := (decide (p1.Group > 0))) (v := (vb (p0.Group == p1.Group))) trivial rfl rfl (by rw [hg43]; rfl) ?_
  refine mv (vb (p0.Group == p1.Group)) rfl rfl ?_
  rcases Bool.eq_false_or_eq_true (p0.Group == p1.Group) with hg45 | hg45
  ·replace hj := cT hg45 hj
   refine RL.fa_b ⟨_, rfl, cb hg45⟩ rfl rfl fa55_1 ?_
   refine RL.load_bfs (i := 2) (f := (fun x => x.Kind)) ⟨_, rfl, cb hg45⟩ rfl hw rfl rfl fd_PinType_1 ty3 ?_
   refine RL.fa_pt (i := 3) (f := fun (x : PinType) => x.Kind) ⟨_, rfl, cb hg45⟩ rfl hw rfl rfl fa55_1 fd_PinType_1 fun v46 hw => ?_
   refine RL.load_pts (i := 0) (y := p1.Kind) ⟨_, rfl, cb hg45⟩ rfl hw rfl rfl ty3 ?_
   refine RL.icmp (a := p0.Kind) (b := p1.Kind) ⟨_, rfl, cb hg45⟩ rfl rfl rfl rfl ?_
   refine RL.pick (b := (p0.Group == p1.Group)) (v := (vb (p0.Kind != p1.Kind))) trivial rfl rfl (by rw [hg45]; rfl) ?_
   refine as_ (vb (p0.Kind != p1.Kind)) rfl rfl ?_
   refine RL.nil ?_
   obtain rfl := oi hj
   exact ⟨rfl, ⟨rfl, trivial⟩, hw.pick 6 [] (new := []) rfl rfl (by decide) (by decide)⟩
  replace hj := cF hg45 hj
  refine sk rfl (.inl (cb hg45)) rfl ?_
  refine sk rfl (.inl (cb hg45)) rfl ?_
  refine sk rfl (.inl (cb hg45)) rfl ?_
  refine sk rfl (.inl (cb hg45)) rfl ?_
  refine sk rfl (.inl (cb hg45)) rfl ?_
  refine RL.pick (b := (p0.Group == p1.Group)) (v := (vb false)) trivial rfl rfl (by rw [hg45]; rfl) ?_
  refine as_ (vb false) rfl rfl ?_
  refine RL.nil ?_
  obtain rfl := oi hj
  exact ⟨rfl, ⟨rfl, trivial⟩, hw.pick 5 [] (new := []) rfl rfl (by decide) (by decide)⟩
 rintro σ w ⟨ha, hw⟩
 obtain ⟨τ, rfl⟩ := ha.ups
 refine thenQ_n ?_
 refine RC.ret ?_
 obtain rfl := oi hb
 exact fin1 rfl rfl ⟨rfl, hw.drop 0 rfl⟩
def slices_IndexFunc_PinType_R (E : World) (Γ : List HP) (res : Int) (v : Value) (w : World) : Prop := v = (vi res) ∧ Holds E w Γ
def slices_IndexFunc_PinType_K (E : World) (Γ : List HP) (r : Int) (σ : Nat → Value) (w : World) : Prop := finQ Tryz.prog 19 Tryz.f94 (slices_IndexFunc_PinType_R E Γ r) .ret σ w
theorem slices_IndexFunc_PinType_ok (N : Nat) {E w : World} {Γ : List HP} {i0 : Nat} {v0 : Value} {p0 : (List PinType)} {v1 : Value} {p1 : PinType → Option Bool} {res : Int} (hw : Holds E w Γ) (h0 : Γ[i0]? = some (rd v0 p0)) (h1 : Fn1 Tryz.prog E Γ v1 p1 (fun (r : Bool) => Value.bool r)) (hb : slices_IndexFunc_PinType N p0 p1 = some res) :
    Calls Tryz.prog 94 [v0, v1].toArray w (Ret (slices_IndexFunc_PinType_R E Γ res)) := by
 unfold slices_IndexFunc_PinType at hb
 refine enter Tryz.func94 rfl rfl (Nat.le_of_ble_eq_true rfl) ?_
 have hw := hw.dup (i := i0 + 0) h0
 refine RC.sr ?_
 refine as_ (vi 0) rfl rfl ?_
 refine RL.nq ?_
 refine RC.sr ?_
 refine mv v0 rfl rfl ?_
 refine RL.len_rd (i := 0) (l := p0) trivial rfl hw rfl rfl un56 ?_
 refine mv (vi 0) rfl rfl ?_
 refine RL.nt ?_
 obtain ⟨o41, hN, hb⟩ := bd hb
 refine RC.range (fun (k31 : Nat) (s32 : Unit) (σ : Nat → Value) (w : World) => agree σ [(0, v0), (1, v1), (7, (vi (p0.length : Int))), (8, (vi (k31 : Int)))] ∧ Holds E w ([rd v0 p0] ++ Γ)) (fun (s32 : Unit) (σ : Nat → Value) (w : World) => agree σ [] ∧ Holds E w ([rd v0 p0] ++ Γ)) (slices_IndexFunc_PinType_K E Γ) hN ?_ ?_ ?_ ?_ ?_ 
 ·exact ⟨⟨rfl, rfl, rfl, rfl, trivial⟩, hw.pick 1 [0] (new := [rd v0 p0]) rfl rfl (by decide) (by decide)⟩
 ·intro hm s32 σ w hI
  obtain ⟨ha, hw⟩ := hI
  obtain ⟨τ, rfl⟩ := ha.ups
  refine RC.sr ?_
  refine ic ((p0.length : Int)) ((p0.length : Int)) rfl rfl rfl rfl ?_
  refine RL.nq ?_
  refine RC.cond_f dge ?_
  refine RC.ex ?_
  exact ⟨rfl, trivial, hw.pick 1 [0] (new := [rd v0 p0]) rfl rfl (by decide) (by decide)⟩
 ·intro hm k31 s32 fl σ w hk hI hb
  obtain ⟨ha, hw⟩ := hI
  obtain ⟨τ, rfl⟩ := ha.ups
  refine RC.sr ?_
  refine ic ((k31 : Int)) ((p0.length : Int)) rfl rfl rfl rfl ?_
  refine RL.nq ?_
  refine RC.cond_t (dlt hk) ?_
  refine RC.ss ?_
  refine RC.bs ?_
  refine mv (vi (k31 : Int)) rfl rfl ?_
  refine as_ (vi (k31 : Int)) rfl rfl ?_
  refine RL.ns ?_
  refine mv v1 rfl rfl ?_
  refine mv v0 rfl rfl ?_
  refine mv (vi (k31 : Int)) rfl rfl ?_
  obtain ⟨x37, hx37, hb⟩ := bd hb
  refine RL.ia_rd (i := 0) trivial rfl hw rfl rfl rfl sl56 hx37 fun v38 hw => ?_
  refine RL.load_pt (i := 0) (x := x37) trivial rfl hw rfl rfl ty55 fun v39 hw => ?_
  obtain ⟨x40, hx40, hb⟩ := bd hb
  refine RL.callF1 (i := 0) trivial rfl hw rfl h1 3 rfl rfl rfl hx40 fun w hw => ?_
  refine RL.nt ?_
  refine RC.cond (b := x40) rfl (fun hc => ?_) (fun hc => ?_)
  rotate_left
  ·replace hb := cF hc hb
   refine RC.skip ?_
   refine blkQ_n ?_
   refine thenQ_n ?_
   refine RC.region ?_
   refine RL.inc trivial rfl hk hm rfl rfl ?_
   refine mv (vi ((k31 + 1 : Nat) : Int)) rfl rfl ?_
   refine RL.nil ?_
   obtain rfl := oi hb
   exact ⟨rfl, ⟨rfl, rfl, rfl, rfl, trivial⟩, hw.pick 3 [2] (new := [rd v0 p0]) rfl rfl (by decide) (by decide)⟩
  replace hb := cT hc hb
  refine RC.sr ?_
  refine mv (vi (k31 : Int)) rfl rfl ?_
  refine as_ (vi (k31 : Int)) rfl rfl ?_
  refine RL.nt ?_
  refine RC.rb ?_
  refine thenQ_r ?_
  obtain rfl := oi hb
  exact ⟨rfl, fin1 rfl rfl ⟨rfl, hw.drop 3 rfl⟩⟩
 ·intro r σ w e hK
  subst e
  refine thenQ_r ?_
  obtain rfl := oi hb
  exact hK
 intro s32 σ w e hJ
 subst e
 rw [Fo.cs_go] at hb
 obtain ⟨ha, hw⟩ := hJ
 obtain ⟨τ, rfl⟩ := ha.ups
 refine thenQ_n ?_
 refine RC.sr ?_
 refine as_ (vi (-1)) rfl rfl ?_
 refine RL.nt ?_
 refine RC.ret ?_
 obtain rfl := oi hb
 exact fin1 rfl rfl ⟨rfl, hw.drop 1 rfl⟩
def slices_ContainsFunc_PinType_R (E : World) (Γ : List HP) (res : Bool) (v : Value) (w : World) : Prop := v = (vb res) ∧ Holds E w Γ
theorem slices_ContainsFunc_PinType_ok (N : Nat) {E w : World} {Γ : List HP} {i0 : Nat} {v0 : Value} {p0 : (List PinType)} {v1 : Value} {p1 : PinType → Option Bool} {res : Bool} (hw : Holds E w Γ) (h0 : Γ[i0]? = some (rd v0 p0)) (h1 : Fn1 Tryz.prog E Γ v1 p1 (fun (r : Bool) => Value.bool r)) (hb : slices_ContainsFunc_PinType N p0 p1 = some res) :
    Calls Tryz.prog 71 [v0, v1].toArray w (Ret (slices_ContainsFunc_PinType_R E Γ res)) := by
 unfold slices_ContainsFunc_PinType at hb
 refine enter Tryz.func71 rfl rfl (Nat.le_of_ble_eq_true rfl) ?_
 have hw := hw.dup (i := i0 + 0) h0
 refine RC.sr ?_
 refine as_ (vb false) rfl rfl ?_
 refine RL.ns ?_
 refine mv v0 rfl rfl ?_
 refine mv v1 rfl rfl ?_
 obtain ⟨x31, hx31, hb⟩ := bd hb
 refine RL.call trivial rfl fn94 [v0, v1] rfl (Calls_ret (slices_IndexFunc_PinType_ok N  (i0 := 0) hw rfl (h1.lift 1 rfl) hx31) ?_)
 rintro _ w ⟨rfl, hw⟩
 refine ic x31 0 rfl rfl rfl rfl ?_
 refine as_ (vb (decide (x31 ≥ 0))) rfl rfl ?_
 refine RL.nt ?_
 refine RC.ret ?_
 obtain rfl := oi hb
 exact fin1 rfl rfl ⟨rfl, hw.drop 1 rfl⟩
def netlist_checkPins_R (E : World) (Γ : List HP) (res : Int) (v : Value) (w : World) : Prop := v = (vi res) ∧ Holds E w Γ
def netlist_checkPins_K (E : World) (Γ : List HP) (r : Int) (σ : Nat → Value) (w : World) : Prop := finQ Tryz.prog 71 Tryz.f43 (netlist_checkPins_R E Γ r) .ret σ w
theorem netlist_checkPins_ok (N : Nat) {E w : World} {Γ : List HP} {i0 : Nat} {v0 : Value} {p0 : (List PinType)} {res : Int} (hw : Holds E w Γ) (h0 : Γ[i0]? = some (rd v0 p0)) (hb : netlist_checkPins N p0 = some res) :
    Calls Tryz.prog 43 [v0].toArray w (Ret (netlist_checkPins_R E Γ res)) := by
 unfold netlist_checkPins at hb
 refine enter Tryz.func43 rfl rfl (Nat.le_of_ble_eq_true rfl) ?_
 have hw := hw.dup (i := i0 + 0) h0
 refine RC.sr ?_
 refine as_ (vi 0) rfl rfl ?_
 refine RL.nq ?_
 refine RC.sr ?_
 refine mv v0 rfl rfl ?_
 refine RL.len_rd (i := 0) (l := p0) trivial rfl hw rfl rfl un56 ?_
 refine ic ((p0.length : Int)) 0 rfl rfl rfl rfl ?_
 refine RL.nt ?_
 refine RC.cond (b := ((p0.length : Int) == 0)) rfl (fun hc => ?_) (fun hc => ?_)
 ·replace hb := cT hc hb
  refine RC.sr ?_
  refine as_ (vi 9) rfl rfl ?_
  refine RL.nt ?_
  refine RC.rt ?_
  obtain rfl := oi hb
  exact fin1 rfl rfl ⟨rfl, hw.drop 1 rfl⟩
 replace hb := cF hc hb
 refine RC.ss ?_
 refine RC.sr ?_
 refine mv v0 rfl rfl ?_
 refine RL.len_rd (i := 0) (l := p0) trivial rfl hw rfl rfl un56 ?_
 refine ic ((p0.length : Int)) 200 rfl rfl rfl rfl ?_
 refine RL.nt ?_
 refine RC.cond (b := (decide ((p0.length : Int) > 200))) rfl (fun hc => ?_) (fun hc => ?_)
 ·replace hb := cT hc hb
  refine RC.sr ?_
  refine as_ (vi 2) rfl rfl ?_
  refine RL.nt ?_
  refine RC.rt ?_
  obtain rfl := oi hb
  exact fin1 rfl rfl ⟨rfl, hw.drop 1 rfl⟩
 replace hb := cF hc hb
 refine RC.ss ?_
 refine RC.sr ?_
 refine mv v0 rfl rfl ?_
 refine RL.len_rd (i := 0) (l := p0) trivial rfl hw rfl rfl un56 ?_
 refine mv (vi 0) rfl rfl ?_
 refine RL.nt ?_
 obtain ⟨o268, hN, hb⟩ := bd hb
 refine RC.range (fun (k31 : Nat) (s32 : Unit) (σ : Nat → Value) (w : World) => agree σ [(0, v0), (13, v0), (14, (vi (p0.length : Int))), (15, (vi (k31 : Int)))] ∧ Holds E w ([rd v0 p0] ++ Γ)) (fun (s32 : Unit) (σ : Nat → Value) (w : World) => agree σ [(0, v0)] ∧ Holds E w ([rd v0 p0] ++ Γ)) (netlist_checkPins_K E Γ) hN ?_ ?_ ?_ ?_ ?_ 
 ·exact ⟨⟨rfl, rfl, rfl, rfl, trivial⟩, hw.pick 1 [0] (new := [rd v0 p0]) rfl rfl (by decide) (by decide)⟩
 ·intro hm s32 σ w hI
  obtain ⟨ha, hw⟩ := hI
  obtain ⟨τ, rfl⟩ := ha.ups
  refine RC.sr ?_
  refine ic ((p0.length : Int)) ((p0.length : Int)) rfl rfl rfl rfl ?_
  refine RL.nq ?_
  refine RC.cond_f dge ?_
  refine RC.ex ?_
  exact ⟨rfl, ⟨rfl, trivial⟩, hw.pick 1 [0] (new := [rd v0 p0]) rfl rfl (by decide) (by decide)⟩
 ·intro hm k31 s32 fl σ w hk hI hb
  obtain ⟨ha, hw⟩ := hI
  obtain ⟨τ, rfl⟩ := ha.ups
  refine RC.sr ?_
  refine ic ((k31 : Int)) ((p0.length : Int)) rfl rfl rfl rfl ?_
  refine RL.nq ?_
  refine RC.cond_t (dlt hk) ?_
  refine RC.ss ?_
  refine RC.bs ?_
  refine mv (vi (k31 : Int)) rfl rfl ?_
  obtain ⟨x142, hx142, hb⟩ := bd hb
  refine RL.ia_rd (i := 0) trivial rfl hw rfl rfl rfl sl56 hx142 fun v143 hw => ?_
  refine RL.load_pt (i := 0) (x := x142) trivial rfl hw rfl rfl ty55 fun v144 hw => ?_
  refine RL.alloc trivial rfl hw ze55.z fun b145 w hw => ?_
  refine as_ (vi (k31 : Int)) rfl rfl ?_
  refine RL.store_raw (i := 0) (j := 1) trivial hw rfl rfl rfl rfl ty55 rfl fun w hw => ?_
  refine RL.nt ?_
  refine RC.bs ?_
  refine RL.fa_b trivial rfl rfl fa55_0 ?_
  refine RL.load_bfs (i := 0) (f := (fun x => x.Name)) trivial rfl hw rfl rfl fd_PinType_0 ty9 ?_
  obtain ⟨x146, hx146, hb⟩ := bd hb
  refine RL.call trivial rfl fn42 [(str x142.Name)] rfl (Calls_ret (netlist_IsWord_ok N (p0 := x142.Name)  hw  hx146) ?_)
  rintro _ w ⟨rfl, hw⟩
  refine RL.not (b := x146) trivial rfl rfl ?_
  refine as_ (vb (!x146)) rfl rfl ?_
  refine RL.nt ?_
  refine RC.cond (b := (!x146)) rfl (fun hc => ?_) (fun hc => ?_)
  ·replace hb := cT hc hb
   refine RC.sr ?_
   refine as_ (vi 5) rfl rfl ?_
   refine RL.nt ?_
   refine RC.rb ?_
   refine blkQ_r ?_
   refine thenQ_r ?_
   obtain rfl := oi hb
   exact ⟨rfl, fin1 rfl rfl ⟨rfl, hw.drop 4 rfl⟩⟩
  replace hb := cF hc hb
  refine RC.sr ?_
  refine RL.fa_b trivial rfl rfl fa55_1 ?_
  refine RL.load_bfs (i := 0) (f := (fun x => x.Kind)) trivial rfl hw rfl rfl fd_PinType_1 ty3 ?_
  refine ic (x142.Kind) 1 rfl rfl rfl rfl ?_
  refine mv (vb (decide (x142.Kind < 1))) rfl rfl ?_
  refine RL.gs (c := true) (b := (decide (x142.Kind < 1))) (v := (vp b145 1)) rfl rfl rfl (gs_fa_b rfl (fun _ => rfl) fa55_1) ?_
  refine RL.gs (c := true) (b := (decide (x142.Kind < 1))) (v := (vi x142.Kind)) rfl rfl rfl (gs_load_bfs (i := 0) (f := (fun x => x.Kind)) rfl hw (fun h => by exact (cv_t h : cv (true && ((decide (x142.Kind < 1)) == false)) (vp b145 1) = (vp b145 1))) rfl fd_PinType_1 ty3) ?_
  refine RL.gs (c := true) (b := (decide (x142.Kind < 1))) (v := (vb (decide (x142.Kind > 7)))) rfl rfl rfl (gs_icmp (bop := .gtr) (K := .i64) (a := x142.Kind) (b := 7) rfl (fun h => by exact (cv_t h : cv (true && ((decide (x142.Kind < 1)) == false)) (vi x142.Kind) = (vi x142.Kind))) (fun _ => rfl) rfl) ?_
  refine RL.pick (b := (decide (x142.Kind < 1))) (v := (vb ((decide (x142.Kind < 1)) || (decide (x142.Kind > 7))))) trivial rfl rfl (pk_or (c := true) rfl) ?_
  refine as_ (vb ((decide (x142.Kind < 1)) || (decide (x142.Kind > 7)))) rfl rfl ?_
  refine RL.nt ?_
  refine RC.cond (b := ((decide (x142.Kind < 1)) || (decide (x142.Kind > 7)))) rfl (fun hc => ?_) (fun hc => ?_)
  ·replace hb := cT hc hb
   refine RC.sr ?_
   refine as_ (vi 4) rfl rfl ?_
   refine RL.nt ?_
   refine RC.rb ?_
   refine blkQ_r ?_
   refine thenQ_r ?_
   obtain rfl := oi hb
   exact ⟨rfl, fin1 rfl rfl ⟨rfl, hw.drop 4 rfl⟩⟩
  replace hb := cF hc hb
  refine RC.sr ?_
  refine RL.fa_b trivial rfl rfl fa55_2 ?_
  refine RL.load_bfs (i := 0) (f := (fun x => x.Group)) trivial rfl hw rfl rfl fd_PinType_2 ty3 ?_
  refine ic (x142.Group) 0 rfl rfl rfl rfl ?_
  refine mv (vb (decide (x142.Group < 0))) rfl rfl ?_
  refine RL.gs (c := true) (b := (decide (x142.Group < 0))) (v := (vp b145 2)) rfl rfl rfl (gs_fa_b rfl (fun _ => rfl) fa55_2) ?_
  refine RL.gs (c := true) (b := (decide (x142.Group < 0))) (v := (vi x142.Group)) rfl rfl rfl (gs_load_bfs (i := 0) (f := (fun x => x.Group)) rfl hw (fun h => by exact (cv_t h : cv (true && ((decide (x142.Group < 0)) == false)) (vp b145 2) = (vp b145 2))) rfl fd_PinType_2 ty3) ?_
  refine RL.gs (c := true) (b := (decide (x142.Group < 0))) (v := (vb (decide (x142.Group > 200)))) rfl rfl rfl (gs_icmp (bop := .gtr) (K := .i64) (a := x142.Group) (b := 200) rfl (fun h => by exact (cv_t h : cv (true && ((decide (x142.Group < 0)) == false)) (vi x142.Group) = (vi x142.Group))) (fun _ => rfl) rfl) ?_
  refine RL.pick (b := (decide (x142.Group < 0))) (v := (vb ((decide (x142.Group < 0)) || (decide (x142.Group > 200))))) trivial rfl rfl (pk_or (c := true) rfl) ?_
  refine as_ (vb ((decide (x142.Group < 0)) || (decide (x142.Group > 200)))) rfl rfl ?_
  refine RL.nt ?_
  refine RC.cond (b := ((decide (x142.Group < 0)) || (decide (x142.Group > 200)))) rfl (fun hc => ?_) (fun hc => ?_)
  ·replace hb := cT hc hb
   refine RC.sr ?_
   refine as_ (vi 1) rfl rfl ?_
   refine RL.nt ?_
   refine RC.rb ?_
   refine blkQ_r ?_
   refine thenQ_r ?_
   obtain rfl := oi hb
   exact ⟨rfl, fin1 rfl rfl ⟨rfl, hw.drop 4 rfl⟩⟩
  replace hb := cF hc hb
  refine RC.seq ?_
  obtain ⟨s244, hj, hb⟩ := bd hb
  refine RC.jn (fun (s244 : Bool) (σ : Nat → Value) (w : World) => agree σ [(0, v0), (13, v0), (14, (vi (p0.length : Int))), (15, (vi (k31 : Int))), (43, (vb s244))] ∧ Holds E w ([rd v0 p0] ++ Γ)) s244 ?_ ?_
  ·rcases Bool.eq_false_or_eq_true (decide ((k31 : Int) > 0)) with hg245 | hg245
   rotate_left
   ·replace hj := cF hg245 hj
    refine RC.drw mixed rfl (fun (D : Nat → Bool) (σ : Nat → Value) (w : World) => doneV D σ [(0, 44, (vi (k31 : Int))), (1, 45, (vb (decide ((k31 : Int) > 0)))), (2, 46, (vb (decide ((k31 : Int) > 0)))), (3, 47, undef), (4, 48, undef), (5, 49, undef), (6, 50, undef), (7, 51, undef), (8, 52, undef), (9, 53, undef), (10, 54, undef), (11, 55, undef), (12, 56, (vb false)), (13, 43, (vb false))] ∧ agree σ [(0, v0), (3, (vi (k31 : Int))), (4, (vp b145 0)), (13, v0), (14, (vi (p0.length : Int))), (15, (vi (k31 : Int)))] ∧ Holds E w ([bx 55 b145 x142, rd v144 x142, pt v143 x142, rd v0 p0] ++ Γ)) ?_ ⟨?_, ?_, ?_, ?_, ?_, ?_, ?_, ?_, ?_, ?_, ?_, ?_, ?_, ?_, trivial⟩ ?_
    ·have hw := hw.drew
     exact ⟨doneV.none, ⟨rfl, rfl, rfl, rfl, rfl, rfl, trivial⟩, hw⟩
    ·rintro D σ w hD hdep hcl ⟨hv, ha, hw⟩
     obtain ⟨τ, rfl⟩ := (ac (ha.at 1 rfl) az).ups
     refine mv (vi (k31 : Int)) rfl rfl ?_
     refine RL.nil ?_
     exact ⟨rfl, hv.put 0 rfl rfl, ha.up rfl, hw⟩
    ·rintro D σ w hD hdep hcl ⟨hv, ha, hw⟩
     obtain ⟨τ, rfl⟩ := (ac (hv.at 0 rfl (hdep.1 rfl)) az).ups
     refine ic ((k31 : Int)) 0 rfl rfl rfl rfl ?_
     refine RL.nil ?_
     exact ⟨rfl, hv.put 1 rfl rfl, ha.up rfl, hw⟩
    ·rintro D σ w hD hdep hcl ⟨hv, ha, hw⟩
     obtain ⟨τ, rfl⟩ := (ac (hv.at 1 rfl (hdep.1 rfl)) az).ups
     refine mv (vb (decide ((k31 : Int) > 0))) rfl rfl ?_
     refine RL.nil ?_
     exact ⟨rfl, hv.put 2 rfl rfl, ha.up rfl, hw⟩
    ·rintro D σ w hD hdep hcl ⟨hv, ha, hw⟩
     obtain ⟨τ, rfl⟩ := (ac (hv.at 2 rfl (hdep.1 rfl)) (ac (ha.at 2 rfl) az)).ups
     refine sk rfl (.inl (cb hg245)) rfl ?_
     refine RL.nil ?_
     exact ⟨rfl, hv.put 3 rfl rfl, ha.up rfl, hw⟩
    ·rintro D σ w hD hdep hcl ⟨hv, ha, hw⟩
     obtain ⟨τ, rfl⟩ := (ac (hv.at 2 rfl (hdep.2.1 rfl)) (ac (hv.at 3 rfl (hdep.1 rfl)) az)).ups
     refine sk rfl (.inl (cb hg245)) rfl ?_
     refine RL.nil ?_
     exact ⟨rfl, hv.put 4 rfl rfl, ha.up rfl, hw⟩
    ·rintro D σ w hD hdep hcl ⟨hv, ha, hw⟩
     obtain ⟨τ, rfl⟩ := (ac (hv.at 2 rfl (hdep.1 rfl)) (ac (ha.at 0 rfl) az)).ups
     refine sk rfl (.inl (cb hg245)) rfl ?_
     refine RL.nil ?_
     exact ⟨rfl, hv.put 5 rfl rfl, ha.up rfl, hw⟩
    ·rintro D σ w hD hdep hcl ⟨hv, ha, hw⟩
     obtain ⟨τ, rfl⟩ := (ac (hv.at 2 rfl (hdep.1 rfl)) (ac (ha.at 1 rfl) az)).ups
     refine sk rfl (.inl (cb hg245)) rfl ?_
     refine RL.nil ?_
     exact ⟨rfl, hv.put 6 rfl rfl, ha.up rfl, hw⟩
    ·rintro D σ w hD hdep hcl ⟨hv, ha, hw⟩
     obtain ⟨τ, rfl⟩ := (ac (hv.at 2 rfl (hdep.2.1 rfl)) (ac (hv.at 6 rfl (hdep.1 rfl)) az)).ups
     refine sk rfl (.inl (cb hg245)) rfl ?_
     refine RL.nil ?_
     exact ⟨rfl, hv.put 7 rfl rfl, ha.up rfl, hw⟩
    ·rintro D σ w hD hdep hcl ⟨hv, ha, hw⟩
     obtain ⟨τ, rfl⟩ := (ac (hv.at 2 rfl (hdep.2.2.1 rfl)) (ac (hv.at 5 rfl (hdep.1 rfl)) (ac (hv.at 7 rfl (hdep.2.1 rfl)) az))).ups
     refine sk rfl (.inl (cb hg245)) rfl ?_
     refine RL.nil ?_
     exact ⟨rfl, hv.put 8 rfl rfl, ha.up rfl, hw⟩
    ·rintro D σ w hD hdep hcl ⟨hv, ha, hw⟩
     obtain ⟨τ, rfl⟩ := (ac (hv.at 2 rfl (hdep.2.1 rfl)) (ac (hv.at 8 rfl (hdep.1 rfl)) az)).ups
     refine sk rfl (.inl (cb hg245)) rfl ?_
     refine RL.nil ?_
     exact ⟨rfl, hv.put 9 rfl rfl, ha.up rfl, hw⟩
    ·rintro D σ w hD hdep hcl ⟨hv, ha, hw⟩
     obtain ⟨τ, rfl⟩ := (ac (hv.at 2 rfl (hdep.2.1 rfl)) (ac (hv.at 9 rfl (hdep.1 rfl)) az)).ups
     refine sk rfl (.inl (cb hg245)) rfl ?_
     refine RL.nil ?_
     exact ⟨rfl, hv.put 10 rfl rfl, ha.up rfl, hw⟩
    ·rintro D σ w hD hdep hcl ⟨hv, ha, hw⟩
     obtain ⟨τ, rfl⟩ := (ac (hv.at 2 rfl (hdep.2.2.1 rfl)) (ac (hv.at 4 rfl (hdep.1 rfl)) (ac (hv.at 10 rfl (hdep.2.1 rfl)) az))).ups
     refine sk rfl (.inl (cb hg245)) rfl ?_
     refine RL.nil ?_
     exact ⟨rfl, hv.put 11 rfl rfl, ha.up rfl, hw⟩
    ·rintro D σ w hD hdep hcl ⟨hv, ha, hw⟩
     obtain ⟨τ, rfl⟩ := (ac (hv.at 2 rfl (hdep.1 rfl)) (ac (hv.at 11 rfl (hdep.2.1 rfl)) az)).ups
     refine RL.pick (b := (decide ((k31 : Int) > 0))) (v := (vb false)) trivial rfl rfl (by rw [hg245]; rfl) ?_
     refine RL.nil ?_
     exact ⟨rfl, hv.put 12 rfl rfl, ha.up rfl, hw⟩
    ·rintro D σ w hD hdep hcl ⟨hv, ha, hw⟩
     obtain ⟨τ, rfl⟩ := (ac (hv.at 12 rfl (hdep.1 rfl)) az).ups
     refine as_ (vb false) rfl rfl ?_
     refine RL.nil ?_
     exact ⟨rfl, hv.put 13 rfl rfl, ha.up rfl, hw⟩
    rintro D σ w hall ⟨hv, ha, hw⟩
    obtain ⟨τ, rfl⟩ := (ac (hv.at 13 rfl (hall 13 (by decide))) (ac (ha.at 0 rfl) (ac (ha.at 1 rfl) (ac (ha.at 2 rfl) (ac (ha.at 3 rfl) (ac (ha.at 4 rfl) (ac (ha.at 5 rfl) az))))))).ups
    obtain rfl := oi hj
    exact ⟨rfl, ⟨rfl, rfl, rfl, rfl, rfl, trivial⟩, hw.pick 4 [3] (new := [rd v0 p0]) rfl rfl (by decide) (by decide)⟩
   replace hj := cT hg245 hj
   obtain ⟨x246, hx246, hj⟩ := bd hj
   refine RC.drw mixed rfl (fun (D : Nat → Bool) (σ : Nat → Value) (w : World) => ∃ (v247 : Value) (v248 : Value), doneV D σ [(0, 44, (vi (k31 : Int))), (1, 45, (vb (decide ((k31 : Int) > 0)))), (2, 46, (vb (decide ((k31 : Int) > 0)))), (3, 47, (vp b145 0)), (4, 48, (str x142.Name)), (5, 49, v0), (6, 50, (vi (k31 : Int))), (7, 51, (vi (IntKind.wrap .i64 ((k31 : Int) - 1)))), (8, 52, v247), (9, 53, v248), (10, 54, (str x246.Name)), (11, 55, (vb (x142.Name.ltb x246.Name || x142.Name.eqb x246.Name))), (12, 56, (vb (x142.Name.ltb x246.Name || x142.Name.eqb x246.Name))), (13, 43, (vb (x142.Name.ltb x246.Name || x142.Name.eqb x246.Name)))] ∧ agree σ [(0, v0), (3, (vi (k31 : Int))), (4, (vp b145 0)), (13, v0), (14, (vi (p0.length : Int))), (15, (vi (k31 : Int)))] ∧ Holds E w ([bif D 8 then (pt v247 x246) else junk, bif D 9 then (pt v248 x246.Name) else junk, bx 55 b145 x142, rd v144 x142, pt v143 x142, rd v0 p0] ++ Γ)) ?_ ⟨?_, ?_, ?_, ?_, ?_, ?_, ?_, ?_, ?_, ?_, ?_, ?_, ?_, ?_, trivial⟩ ?_
   ·have hw := hw.drew
    have hw := hw.junk
    have hw := hw.junk
    exact ⟨undef, undef, doneV.none, ⟨rfl, rfl, rfl, rfl, rfl, rfl, trivial⟩, hw⟩
   ·rintro D σ w hD hdep hcl ⟨v247, v248, hv, ha, hw⟩
    obtain ⟨τ, rfl⟩ := (ac (ha.at 1 rfl) az).ups
    refine mv (vi (k31 : Int)) rfl rfl ?_
    refine RL.nil ?_
    exact ⟨rfl, v247, v248, hv.put 0 rfl rfl, ha.up rfl, hw⟩
   ·rintro D σ w hD hdep hcl ⟨v247, v248, hv, ha, hw⟩
    obtain ⟨τ, rfl⟩ := (ac (hv.at 0 rfl (hdep.1 rfl)) az).ups
    refine ic ((k31 : Int)) 0 rfl rfl rfl rfl ?_
    refine RL.nil ?_
    exact ⟨rfl, v247, v248, hv.put 1 rfl rfl, ha.up rfl, hw⟩
   ·rintro D σ w hD hdep hcl ⟨v247, v248, hv, ha, hw⟩
    obtain ⟨τ, rfl⟩ := (ac (hv.at 1 rfl (hdep.1 rfl)) az).ups
    refine mv (vb (decide ((k31 : Int) > 0))) rfl rfl ?_
    refine RL.nil ?_
    exact ⟨rfl, v247, v248, hv.put 2 rfl rfl, ha.up rfl, hw⟩
   ·rintro D σ w hD hdep hcl ⟨v247, v248, hv, ha, hw⟩
    obtain ⟨τ, rfl⟩ := (ac (hv.at 2 rfl (hdep.1 rfl)) (ac (ha.at 2 rfl) az)).ups
    refine RL.fa_b ⟨_, rfl, cb hg245⟩ rfl rfl fa55_0 ?_
    refine RL.nil ?_
    exact ⟨rfl, v247, v248, hv.put 3 rfl rfl, ha.up rfl, hw⟩
   ·rintro D σ w hD hdep hcl ⟨v247, v248, hv, ha, hw⟩
    obtain ⟨τ, rfl⟩ := (ac (hv.at 2 rfl (hdep.2.1 rfl)) (ac (hv.at 3 rfl (hdep.1 rfl)) az)).ups
    refine RL.load_bfs (i := 2) (f := (fun x => x.Name)) ⟨_, rfl, cb hg245⟩ rfl hw rfl rfl fd_PinType_0 ty9 ?_
    refine RL.nil ?_
    exact ⟨rfl, v247, v248, hv.put 4 rfl rfl, ha.up rfl, hw⟩
   ·rintro D σ w hD hdep hcl ⟨v247, v248, hv, ha, hw⟩
    obtain ⟨τ, rfl⟩ := (ac (hv.at 2 rfl (hdep.1 rfl)) (ac (ha.at 0 rfl) az)).ups
    refine RL.move (v := v0) ⟨_, rfl, cb hg245⟩ rfl rfl ?_
    refine RL.nil ?_
    exact ⟨rfl, v247, v248, hv.put 5 rfl rfl, ha.up rfl, hw⟩
   ·rintro D σ w hD hdep hcl ⟨v247, v248, hv, ha, hw⟩
    obtain ⟨τ, rfl⟩ := (ac (hv.at 2 rfl (hdep.1 rfl)) (ac (ha.at 1 rfl) az)).ups
    refine RL.move (v := (vi (k31 : Int))) ⟨_, rfl, cb hg245⟩ rfl rfl ?_
    refine RL.nil ?_
    exact ⟨rfl, v247, v248, hv.put 6 rfl rfl, ha.up rfl, hw⟩
   ·rintro D σ w hD hdep hcl ⟨v247, v248, hv, ha, hw⟩
    obtain ⟨τ, rfl⟩ := (ac (hv.at 2 rfl (hdep.2.1 rfl)) (ac (hv.at 6 rfl (hdep.1 rfl)) az)).ups
    refine RL.iar (a := (k31 : Int)) (b := 1) ⟨_, rfl, cb hg245⟩ rfl rfl rfl rfl ?_
    refine RL.nil ?_
    exact ⟨rfl, v247, v248, hv.put 7 rfl rfl, ha.up rfl, hw⟩
   ·rintro D σ w hD hdep hcl ⟨v247, v248, hv, ha, hw⟩
    obtain ⟨τ, rfl⟩ := (ac (hv.at 2 rfl (hdep.2.2.1 rfl)) (ac (hv.at 5 rfl (hdep.1 rfl)) (ac (hv.at 7 rfl (hdep.2.1 rfl)) az))).ups
    have hw := hw.selF (i := 0) rfl hD
    refine RL.ia_rd (i := 5) ⟨_, rfl, cb hg245⟩ rfl hw rfl rfl rfl sl56 hx246 fun v249 hw => ?_
    have hw := hw.pick 7 [0, 2, 3, 4, 5, 6] (new := [pt v249 x246, bif D 9 then (pt v248 x246.Name) else junk, bx 55 b145 x142, rd v144 x142, pt v143 x142, rd v0 p0]) rfl rfl (by decide) (by decide)
    have hw := hw.altT (i := 0) (b := true) rfl rfl (junk)
    refine RL.nil ?_
    exact ⟨rfl, v249, v248, hv.put 8 rfl rfl, ha.up rfl, hw⟩
   ·rintro D σ w hD hdep hcl ⟨v247, v248, hv, ha, hw⟩
    obtain ⟨τ, rfl⟩ := (ac (hv.at 2 rfl (hdep.2.1 rfl)) (ac (hv.at 8 rfl (hdep.1 rfl)) az)).ups
    have hw := hw.selT (i := 0) rfl (hdep.1 rfl)
    have hw := hw.selF (i := 1) rfl hD
    refine RL.fa_pt (i := 0) (f := fun (x : PinType) => x.Name) ⟨_, rfl, cb hg245⟩ rfl hw rfl rfl fa55_0 fd_PinType_0 fun v250 hw => ?_
    have hw := hw.pick 7 [1, 0, 3, 4, 5, 6] (new := [pt v247 x246, pt v250 x246.Name, bx 55 b145 x142, rd v144 x142, pt v143 x142, rd v0 p0]) rfl rfl (by decide) (by decide)
    have hw := hw.altT (i := 0) (b := D 8) rfl (hdep.1 rfl) (junk)
    have hw := hw.altT (i := 1) (b := true) rfl rfl (junk)
    refine RL.nil ?_
    exact ⟨rfl, v247, v250, hv.put 9 rfl rfl, ha.up rfl, hw⟩
   ·rintro D σ w hD hdep hcl ⟨v247, v248, hv, ha, hw⟩
    obtain ⟨τ, rfl⟩ := (ac (hv.at 2 rfl (hdep.2.1 rfl)) (ac (hv.at 9 rfl (hdep.1 rfl)) az)).ups
    have hw := hw.selT (i := 1) rfl (hdep.1 rfl)
    refine RL.load_pts (i := 1) (y := x246.Name) ⟨_, rfl, cb hg245⟩ rfl hw rfl rfl ty9 ?_
    have hw := hw.altT (i := 1) (b := D 9) rfl (hdep.1 rfl) (junk)
    refine RL.nil ?_
    exact ⟨rfl, v247, v248, hv.put 10 rfl rfl, ha.up rfl, hw⟩
   ·rintro D σ w hD hdep hcl ⟨v247, v248, hv, ha, hw⟩
    obtain ⟨τ, rfl⟩ := (ac (hv.at 2 rfl (hdep.2.2.1 rfl)) (ac (hv.at 4 rfl (hdep.1 rfl)) (ac (hv.at 10 rfl (hdep.2.1 rfl)) az))).ups
    refine RL.scmp (a := x142.Name) (b := x246.Name) ⟨_, rfl, cb hg245⟩ rfl rfl rfl rfl ?_
    refine RL.nil ?_
    exact ⟨rfl, v247, v248, hv.put 11 rfl rfl, ha.up rfl, hw⟩
   ·rintro D σ w hD hdep hcl ⟨v247, v248, hv, ha, hw⟩
    obtain ⟨τ, rfl⟩ := (ac (hv.at 2 rfl (hdep.1 rfl)) (ac (hv.at 11 rfl (hdep.2.1 rfl)) az)).ups
    refine RL.pick (b := (decide ((k31 : Int) > 0))) (v := (vb (x142.Name.ltb x246.Name || x142.Name.eqb x246.Name))) trivial rfl rfl (by rw [hg245]; rfl) ?_
    refine RL.nil ?_
    exact ⟨rfl, v247, v248, hv.put 12 rfl rfl, ha.up rfl, hw⟩
   ·rintro D σ w hD hdep hcl ⟨v247, v248, hv, ha, hw⟩
    obtain ⟨τ, rfl⟩ := (ac (hv.at 12 rfl (hdep.1 rfl)) az).ups
    refine as_ (vb (x142.Name.ltb x246.Name || x142.Name.eqb x246.Name)) rfl rfl ?_
    refine RL.nil ?_
    exact ⟨rfl, v247, v248, hv.put 13 rfl rfl, ha.up rfl, hw⟩
   rintro D σ w hall ⟨v247, v248, hv, ha, hw⟩
   rw [hall 8 (by decide), hall 9 (by decide)] at hw
   obtain ⟨τ, rfl⟩ := (ac (hv.at 13 rfl (hall 13 (by decide))) (ac (ha.at 0 rfl) (ac (ha.at 1 rfl) (ac (ha.at 2 rfl) (ac (ha.at 3 rfl) (ac (ha.at 4 rfl) (ac (ha.at 5 rfl) az))))))).ups
   obtain rfl := oi hj
   exact ⟨rfl, ⟨rfl, rfl, rfl, rfl, rfl, trivial⟩, hw.pick 6 [5] (new := [rd v0 p0]) rfl rfl (by decide) (by decide)⟩
  rintro σ w ⟨ha, hw⟩
  obtain ⟨τ, rfl⟩ := ha.ups
  refine thenQ_n ?_
  refine RC.cond (b := s244) rfl (fun hc => ?_) (fun hc => ?_)
  rotate_left
  ·replace hb := cF hc hb
   refine RC.skip ?_
   refine blkQ_n ?_
   refine blkQ_n ?_
   refine thenQ_n ?_
   refine RC.region ?_
   refine RL.inc trivial rfl hk hm rfl rfl ?_
   refine mv (vi ((k31 + 1 : Nat) : Int)) rfl rfl ?_
   refine RL.nil ?_
   obtain rfl := oi hb
   exact ⟨rfl, ⟨rfl, rfl, rfl, rfl, trivial⟩, hw.pick 1 [0] (new := [rd v0 p0]) rfl rfl (by decide) (by decide)⟩
  replace hb := cT hc hb
  refine RC.sr ?_
  refine as_ (vi 8) rfl rfl ?_
  refine RL.nt ?_
  refine RC.rb ?_
  refine blkQ_r ?_
  refine thenQ_r ?_
  obtain rfl := oi hb
  exact ⟨rfl, fin1 rfl rfl ⟨rfl, hw.drop 1 rfl⟩⟩
 ·intro r σ w e hK
  subst e
  refine thenQ_r ?_
  obtain rfl := oi hb
  exact hK
 intro s32 σ w e hJ
 subst e
 rw [Fo.cs_go] at hb
 obtain ⟨ha, hw⟩ := hJ
 obtain ⟨τ, rfl⟩ := ha.ups
 refine thenQ_n ?_
 refine RC.seq ?_
 refine RC.sr ?_
 refine mv v0 rfl rfl ?_
 refine RL.len_rd (i := 0) (l := p0) trivial rfl hw rfl rfl un56 ?_
 refine mv (vi 0) rfl rfl ?_
 refine RL.nt ?_
 obtain ⟨o267, hN, hb⟩ := bd hb
 refine RC.range (fun (k251 : Nat) (s252 : Unit) (σ : Nat → Value) (w : World) => agree σ [(0, v0), (58, v0), (59, (vi (p0.length : Int))), (60, (vi (k251 : Int)))] ∧ Holds E w ([rd v0 p0] ++ Γ)) (fun (s252 : Unit) (σ : Nat → Value) (w : World) => agree σ [] ∧ Holds E w ([rd v0 p0] ++ Γ)) (netlist_checkPins_K E Γ) hN ?_ ?_ ?_ ?_ ?_ 
 ·exact ⟨⟨rfl, rfl, rfl, rfl, trivial⟩, hw.pick 1 [0] (new := [rd v0 p0]) rfl rfl (by decide) (by decide)⟩
 ·intro hm s252 σ w hI
  obtain ⟨ha, hw⟩ := hI
  obtain ⟨τ, rfl⟩ := ha.ups
  refine RC.sr ?_
  refine ic ((p0.length : Int)) ((p0.length : Int)) rfl rfl rfl rfl ?_
  refine RL.nq ?_
  refine RC.cond_f dge ?_
  refine RC.ex ?_
  exact ⟨rfl, trivial, hw.pick 1 [0] (new := [rd v0 p0]) rfl rfl (by decide) (by decide)⟩
 ·intro hm k251 s252 fl σ w hk hI hb
  obtain ⟨ha, hw⟩ := hI
  obtain ⟨τ, rfl⟩ := ha.ups
  refine RC.sr ?_
  refine ic ((k251 : Int)) ((p0.length : Int)) rfl rfl rfl rfl ?_
  refine RL.nq ?_
  refine RC.cond_t (dlt hk) ?_
  refine RC.ss ?_
  refine RC.bs ?_
  refine mv (vi (k251 : Int)) rfl rfl ?_
  obtain ⟨x260, hx260, hb⟩ := bd hb
  refine RL.ia_rd (i := 0) trivial rfl hw rfl rfl rfl sl56 hx260 fun v261 hw => ?_
  refine RL.load_pt (i := 0) (x := x260) trivial rfl hw rfl rfl ty55 fun v262 hw => ?_
  refine RL.alloc trivial rfl hw ze55.z fun b263 w hw => ?_
  refine as_ (vi (k251 : Int)) rfl rfl ?_
  refine RL.store_raw (i := 0) (j := 1) trivial hw rfl rfl rfl rfl ty55 rfl fun w hw => ?_
  refine RL.ns ?_
  refine mv v0 rfl rfl ?_
  refine mv (vi (k251 : Int)) rfl rfl ?_
  obtain ⟨x264, hx264, hb⟩ := bd hb
  refine RL.cut (i := 3) trivial rfl hw rfl rfl sl56 (.inr ⟨rfl, rfl⟩) (.inl rfl) hx264 fun v265 hw => ?_
  have hw := hw.freeze_bx (i := 1) rfl
  refine RL.makeFunc trivial rfl [(vp b263 0)] rfl ?_
  obtain ⟨x266, hx266, hb⟩ := bd hb
  refine RL.call trivial rfl fn71 [v265, (.func (.func 72) #[] #[(vp b263 0)])] rfl (Calls_ret (slices_ContainsFunc_PinType_ok N  (i0 := 0) hw rfl ⟨72, [(vp b263 0)], rfl, fn72, fun w Γl v y0 r i hw hi hr => by exact Calls_ret (netlist_checkPins_c1_ok N (i0 := i) (i1 := Γl.length + 1) hw hi (up_get rfl) hr) fun _ _ h => h⟩ hx266) ?_)
  rintro _ w ⟨rfl, hw⟩
  refine RL.nt ?_
  refine RC.cond (b := x266) rfl (fun hc => ?_) (fun hc => ?_)
  rotate_left
  ·replace hb := cF hc hb
   refine RC.skip ?_
   refine blkQ_n ?_
   refine thenQ_n ?_
   refine RC.region ?_
   refine RL.inc trivial rfl hk hm rfl rfl ?_
   refine mv (vi ((k251 + 1 : Nat) : Int)) rfl rfl ?_
   refine RL.nil ?_
   obtain rfl := oi hb
   exact ⟨rfl, ⟨rfl, rfl, rfl, rfl, trivial⟩, hw.pick 5 [4] (new := [rd v0 p0]) rfl rfl (by decide) (by decide)⟩
  replace hb := cT hc hb
  refine RC.sr ?_
  refine as_ (vi 12) rfl rfl ?_
  refine RL.nt ?_
  refine RC.rb ?_
  refine thenQ_r ?_
  obtain rfl := oi hb
  exact ⟨rfl, fin1 rfl rfl ⟨rfl, hw.drop 5 rfl⟩⟩
 ·intro r σ w e hK
  subst e
  refine thenQ_r ?_
  obtain rfl := oi hb
  exact hK
 intro s252 σ w e hJ
 subst e
 rw [Fo.cs_go] at hb
 obtain ⟨ha, hw⟩ := hJ
 obtain ⟨τ, rfl⟩ := ha.ups
 refine thenQ_n ?_
 refine RC.sr ?_
 refine as_ (vi 0) rfl rfl ?_
 refine RL.nt ?_
 refine RC.ret ?_
 obtain rfl := oi hb
 exact fin1 rfl rfl ⟨rfl, hw.drop 1 rfl⟩
def netlist_CheckTypes_R (E : World) (Γ : List HP) (res : Int) (v : Value) (w : World) : Prop := v = (vi res) ∧ Holds E w Γ
def netlist_CheckTypes_K (E : World) (Γ : List HP) (r : Int) (σ : Nat → Value) (w : World) : Prop := finQ Tryz.prog 40 Tryz.f24 (netlist_CheckTypes_R E Γ r) .ret σ w
theorem netlist_CheckTypes_ok (N : Nat) {E w : World} {Γ : List HP} {i0 : Nat} {v0 : Value} {p0 : (List PartType)} {res : Int} (hw : Holds E w Γ) (h0 : Γ[i0]? = some (rd v0 p0)) (hb : netlist_CheckTypes N p0 = some res) :
    Calls Tryz.prog 24 [v0].toArray w (Ret (netlist_CheckTypes_R E Γ res)) := by
 unfold netlist_CheckTypes at hb
 refine enter Tryz.func24 rfl rfl (Nat.le_of_ble_eq_true rfl) ?_
 have hw := hw.dup (i := i0 + 0) h0
 refine RC.sr ?_
 refine as_ (vi 0) rfl rfl ?_
 refine RL.nq ?_
 refine RC.sr ?_
 refine mv v0 rfl rfl ?_
 refine RL.len_rd (i := 0) (l := p0) trivial rfl hw rfl rfl un22 ?_
 refine ic ((p0.length : Int)) 200 rfl rfl rfl rfl ?_
 refine RL.nt ?_
 refine RC.cond (b := (decide ((p0.length : Int) > 200))) rfl (fun hc => ?_) (fun hc => ?_)
 ·replace hb := cT hc hb
  refine RC.sr ?_
  refine as_ (vi 2) rfl rfl ?_
  refine RL.nt ?_
  refine RC.rt ?_
  obtain rfl := oi hb
  exact fin1 rfl rfl ⟨rfl, hw.drop 1 rfl⟩
 replace hb := cF hc hb
 refine RC.ss ?_
 refine RC.sr ?_
 refine mv v0 rfl rfl ?_
 refine RL.len_rd (i := 0) (l := p0) trivial rfl hw rfl rfl un22 ?_
 refine mv (vi 0) rfl rfl ?_
 refine RL.nt ?_
 obtain ⟨o73, hN, hb⟩ := bd hb
 refine RC.range (fun (k31 : Nat) (s32 : Unit) (σ : Nat → Value) (w : World) => agree σ [(0, v0), (9, v0), (10, (vi (p0.length : Int))), (11, (vi (k31 : Int)))] ∧ Holds E w ([rd v0 p0] ++ Γ)) (fun (s32 : Unit) (σ : Nat → Value) (w : World) => agree σ [] ∧ Holds E w ([rd v0 p0] ++ Γ)) (netlist_CheckTypes_K E Γ) hN ?_ ?_ ?_ ?_ ?_ 
 ·exact ⟨⟨rfl, rfl, rfl, rfl, trivial⟩, hw.pick 1 [0] (new := [rd v0 p0]) rfl rfl (by decide) (by decide)⟩
 ·intro hm s32 σ w hI
  obtain ⟨ha, hw⟩ := hI
  obtain ⟨τ, rfl⟩ := ha.ups
  refine RC.sr ?_
  refine ic ((p0.length : Int)) ((p0.length : Int)) rfl rfl rfl rfl ?_
  refine RL.nq ?_
  refine RC.cond_f dge ?_
  refine RC.ex ?_
  exact ⟨rfl, trivial, hw.pick 1 [0] (new := [rd v0 p0]) rfl rfl (by decide) (by decide)⟩
 ·intro hm k31 s32 fl σ w hk hI hb
  obtain ⟨ha, hw⟩ := hI
  obtain ⟨τ, rfl⟩ := ha.ups
  refine RC.sr ?_
  refine ic ((k31 : Int)) ((p0.length : Int)) rfl rfl rfl rfl ?_
  refine RL.nq ?_
  refine RC.cond_t (dlt hk) ?_
  refine RC.ss ?_
  refine RC.bs ?_
  refine mv (vi (k31 : Int)) rfl rfl ?_
  obtain ⟨x53, hx53, hb⟩ := bd hb
  refine RL.ia_rd (i := 0) trivial rfl hw rfl rfl rfl sl22 hx53 fun v54 hw => ?_
  refine RL.load_pt (i := 0) (x := x53) trivial rfl hw rfl rfl ty58 fun v55 hw => ?_
  refine RL.alloc trivial rfl hw ze58.z fun b56 w hw => ?_
  refine as_ (vi (k31 : Int)) rfl rfl ?_
  refine RL.store_raw (i := 0) (j := 1) trivial hw rfl rfl rfl rfl ty58 rfl fun w hw => ?_
  refine RL.nq ?_
  refine RC.sr ?_
  refine RL.fa_b trivial rfl rfl fa58_0 ?_
  refine RL.load_bfs (i := 0) (f := (fun x => x.Name)) trivial rfl hw rfl rfl fd_PartType_0 ty9 ?_
  obtain ⟨x57, hx57, hb⟩ := bd hb
  refine RL.call trivial rfl fn42 [(str x53.Name)] rfl (Calls_ret (netlist_IsWord_ok N (p0 := x53.Name)  hw  hx57) ?_)
  rintro _ w ⟨rfl, hw⟩
  refine RL.not (b := x57) trivial rfl rfl ?_
  refine RL.nt ?_
  refine RC.cond (b := (!x57)) rfl (fun hc => ?_) (fun hc => ?_)
  ·replace hb := cT hc hb
   refine RC.sr ?_
   refine as_ (vi 5) rfl rfl ?_
   refine RL.nt ?_
   refine RC.rt ?_
   refine blkQ_r ?_
   refine thenQ_r ?_
   obtain rfl := oi hb
   exact ⟨rfl, fin1 rfl rfl ⟨rfl, hw.drop 4 rfl⟩⟩
  replace hb := cF hc hb
  refine RC.ss ?_
  refine RC.sr ?_
  refine RL.fa_b trivial rfl rfl fa58_1 ?_
  refine RL.load_bf (i := 0) (f := (fun x => x.Pins)) trivial rfl hw rfl rfl fd_PartType_1 ty56 fun v58 hw => ?_
  obtain ⟨x59, hx59, hb⟩ := bd hb
  refine RL.call trivial rfl fn43 [v58] rfl (Calls_ret (netlist_checkPins_ok N  (i0 := 0) hw rfl hx59) ?_)
  rintro _ w ⟨rfl, hw⟩
  refine as_ (vi x59) rfl rfl ?_
  refine RL.ns ?_
  refine mv (vi x59) rfl rfl ?_
  refine ic x59 0 rfl rfl rfl rfl ?_
  refine RL.nt ?_
  refine RC.cond (b := (x59 != 0)) rfl (fun hc => ?_) (fun hc => ?_)
  ·replace hb := cT hc hb
   refine RC.sr ?_
   refine mv (vi x59) rfl rfl ?_
   refine as_ (vi x59) rfl rfl ?_
   refine RL.nt ?_
   refine RC.rt ?_
   refine blkQ_r ?_
   refine thenQ_r ?_
   obtain rfl := oi hb
   exact ⟨rfl, fin1 rfl rfl ⟨rfl, hw.drop 5 rfl⟩⟩
  replace hb := cF hc hb
  refine RC.ss ?_
  obtain ⟨s66, hj, hb⟩ := bd hb
  refine RC.jn (fun (s66 : Bool) (σ : Nat → Value) (w : World) => agree σ [(0, v0), (9, v0), (10, (vi (p0.length : Int))), (11, (vi (k31 : Int))), (38, (vb s66))] ∧ Holds E w ([rd v0 p0] ++ Γ)) s66 ?_ ?_
  ·rcases Bool.eq_false_or_eq_true (decide ((k31 : Int) > 0)) with hg67 | hg67
   rotate_left
   ·replace hj := cF hg67 hj
    refine RC.drw mixed rfl (fun (D : Nat → Bool) (σ : Nat → Value) (w : World) => doneV D σ [(0, 26, (vi (k31 : Int))), (1, 27, (vb (decide ((k31 : Int) > 0)))), (2, 28, (vb (decide ((k31 : Int) > 0)))), (3, 29, undef), (4, 30, undef), (5, 31, undef), (6, 32, undef), (7, 33, undef), (8, 34, undef), (9, 35, undef), (10, 36, undef), (11, 37, undef), (12, 38, (vb false))] ∧ agree σ [(0, v0), (3, (vi (k31 : Int))), (4, (vp b56 0)), (9, v0), (10, (vi (p0.length : Int))), (11, (vi (k31 : Int)))] ∧ Holds E w ([rd v58 x53.Pins, bx 58 b56 x53, rd v55 x53, pt v54 x53, rd v0 p0] ++ Γ)) ?_ ⟨?_, ?_, ?_, ?_, ?_, ?_, ?_, ?_, ?_, ?_, ?_, ?_, ?_, trivial⟩ ?_
    ·have hw := hw.drew
     exact ⟨doneV.none, ⟨rfl, rfl, rfl, rfl, rfl, rfl, trivial⟩, hw⟩
    ·rintro D σ w hD hdep hcl ⟨hv, ha, hw⟩
     obtain ⟨τ, rfl⟩ := (ac (ha.at 1 rfl) az).ups
     refine mv (vi (k31 : Int)) rfl rfl ?_
     refine RL.nil ?_
     exact ⟨rfl, hv.put 0 rfl rfl, ha.up rfl, hw⟩
    ·rintro D σ w hD hdep hcl ⟨hv, ha, hw⟩
     obtain ⟨τ, rfl⟩ := (ac (hv.at 0 rfl (hdep.1 rfl)) az).ups
     refine ic ((k31 : Int)) 0 rfl rfl rfl rfl ?_
     refine RL.nil ?_
     exact ⟨rfl, hv.put 1 rfl rfl, ha.up rfl, hw⟩
    ·rintro D σ w hD hdep hcl ⟨hv, ha, hw⟩
     obtain ⟨τ, rfl⟩ := (ac (hv.at 1 rfl (hdep.1 rfl)) az).ups
     refine mv (vb (decide ((k31 : Int) > 0))) rfl rfl ?_
     refine RL.nil ?_
     exact ⟨rfl, hv.put 2 rfl rfl, ha.up rfl, hw⟩
    ·rintro D σ w hD hdep hcl ⟨hv, ha, hw⟩
     obtain ⟨τ, rfl⟩ := (ac (hv.at 2 rfl (hdep.1 rfl)) (ac (ha.at 2 rfl) az)).ups
     refine sk rfl (.inl (cb hg67)) rfl ?_
     refine RL.nil ?_
     exact ⟨rfl, hv.put 3 rfl rfl, ha.up rfl, hw⟩
    ·rintro D σ w hD hdep hcl ⟨hv, ha, hw⟩
     obtain ⟨τ, rfl⟩ := (ac (hv.at 2 rfl (hdep.2.1 rfl)) (ac (hv.at 3 rfl (hdep.1 rfl)) az)).ups
     refine sk rfl (.inl (cb hg67)) rfl ?_
     refine RL.nil ?_
     exact ⟨rfl, hv.put 4 rfl rfl, ha.up rfl, hw⟩
    ·rintro D σ w hD hdep hcl ⟨hv, ha, hw⟩
     obtain ⟨τ, rfl⟩ := (ac (hv.at 2 rfl (hdep.1 rfl)) (ac (ha.at 0 rfl) az)).ups
     refine sk rfl (.inl (cb hg67)) rfl ?_
     refine RL.nil ?_
     exact ⟨rfl, hv.put 5 rfl rfl, ha.up rfl, hw⟩
    ·rintro D σ w hD hdep hcl ⟨hv, ha, hw⟩
     obtain ⟨τ, rfl⟩ := (ac (hv.at 2 rfl (hdep.1 rfl)) (ac (ha.at 1 rfl) az)).ups
     refine sk rfl (.inl (cb hg67)) rfl ?_
     refine RL.nil ?_
     exact ⟨rfl, hv.put 6 rfl rfl, ha.up rfl, hw⟩
    ·rintro D σ w hD hdep hcl ⟨hv, ha, hw⟩
     obtain ⟨τ, rfl⟩ := (ac (hv.at 2 rfl (hdep.2.1 rfl)) (ac (hv.at 6 rfl (hdep.1 rfl)) az)).ups
     refine sk rfl (.inl (cb hg67)) rfl ?_
     refine RL.nil ?_
     exact ⟨rfl, hv.put 7 rfl rfl, ha.up rfl, hw⟩
    ·rintro D σ w hD hdep hcl ⟨hv, ha, hw⟩
     obtain ⟨τ, rfl⟩ := (ac (hv.at 2 rfl (hdep.2.2.1 rfl)) (ac (hv.at 5 rfl (hdep.1 rfl)) (ac (hv.at 7 rfl (hdep.2.1 rfl)) az))).ups
     refine sk rfl (.inl (cb hg67)) rfl ?_
     refine RL.nil ?_
     exact ⟨rfl, hv.put 8 rfl rfl, ha.up rfl, hw⟩
    ·rintro D σ w hD hdep hcl ⟨hv, ha, hw⟩
     obtain ⟨τ, rfl⟩ := (ac (hv.at 2 rfl (hdep.2.1 rfl)) (ac (hv.at 8 rfl (hdep.1 rfl)) az)).ups
     refine sk rfl (.inl (cb hg67)) rfl ?_
     refine RL.nil ?_
     exact ⟨rfl, hv.put 9 rfl rfl, ha.up rfl, hw⟩
    ·rintro D σ w hD hdep hcl ⟨hv, ha, hw⟩
     obtain ⟨τ, rfl⟩ := (ac (hv.at 2 rfl (hdep.2.1 rfl)) (ac (hv.at 9 rfl (hdep.1 rfl)) az)).ups
     refine sk rfl (.inl (cb hg67)) rfl ?_
     refine RL.nil ?_
     exact ⟨rfl, hv.put 10 rfl rfl, ha.up rfl, hw⟩
    ·rintro D σ w hD hdep hcl ⟨hv, ha, hw⟩
     obtain ⟨τ, rfl⟩ := (ac (hv.at 2 rfl (hdep.2.2.1 rfl)) (ac (hv.at 4 rfl (hdep.1 rfl)) (ac (hv.at 10 rfl (hdep.2.1 rfl)) az))).ups
     refine sk rfl (.inl (cb hg67)) rfl ?_
     refine RL.nil ?_
     exact ⟨rfl, hv.put 11 rfl rfl, ha.up rfl, hw⟩
    ·rintro D σ w hD hdep hcl ⟨hv, ha, hw⟩
     obtain ⟨τ, rfl⟩ := (ac (hv.at 2 rfl (hdep.1 rfl)) (ac (hv.at 11 rfl (hdep.2.1 rfl)) az)).ups
     refine RL.pick (b := (decide ((k31 : Int) > 0))) (v := (vb false)) trivial rfl rfl (by rw [hg67]; rfl) ?_
     refine RL.nil ?_
     exact ⟨rfl, hv.put 12 rfl rfl, ha.up rfl, hw⟩
    rintro D σ w hall ⟨hv, ha, hw⟩
    obtain ⟨τ, rfl⟩ := (ac (hv.at 12 rfl (hall 12 (by decide))) (ac (ha.at 0 rfl) (ac (ha.at 1 rfl) (ac (ha.at 2 rfl) (ac (ha.at 3 rfl) (ac (ha.at 4 rfl) (ac (ha.at 5 rfl) az))))))).ups
    obtain rfl := oi hj
    exact ⟨rfl, ⟨rfl, rfl, rfl, rfl, rfl, trivial⟩, hw.pick 5 [4] (new := [rd v0 p0]) rfl rfl (by decide) (by decide)⟩
   replace hj := cT hg67 hj
   obtain ⟨x68, hx68, hj⟩ := bd hj
   refine RC.drw mixed rfl (fun (D : Nat → Bool) (σ : Nat → Value) (w : World) => ∃ (v69 : Value) (v70 : Value), doneV D σ [(0, 26, (vi (k31 : Int))), (1, 27, (vb (decide ((k31 : Int) > 0)))), (2, 28, (vb (decide ((k31 : Int) > 0)))), (3, 29, (vp b56 0)), (4, 30, (str x53.Name)), (5, 31, v0), (6, 32, (vi (k31 : Int))), (7, 33, (vi (IntKind.wrap .i64 ((k31 : Int) - 1)))), (8, 34, v69), (9, 35, v70), (10, 36, (str x68.Name)), (11, 37, (vb (x53.Name.ltb x68.Name || x53.Name.eqb x68.Name))), (12, 38, (vb (x53.Name.ltb x68.Name || x53.Name.eqb x68.Name)))] ∧ agree σ [(0, v0), (3, (vi (k31 : Int))), (4, (vp b56 0)), (9, v0), (10, (vi (p0.length : Int))), (11, (vi (k31 : Int)))] ∧ Holds E w ([bif D 8 then (pt v69 x68) else junk, bif D 9 then (pt v70 x68.Name) else junk, rd v58 x53.Pins, bx 58 b56 x53, rd v55 x53, pt v54 x53, rd v0 p0] ++ Γ)) ?_ ⟨?_, ?_, ?_, ?_, ?_, ?_, ?_, ?_, ?_, ?_, ?_, ?_, ?_, trivial⟩ ?_
   ·have hw := hw.drew
    have hw := hw.junk
    have hw := hw.junk
    exact ⟨undef, undef, doneV.none, ⟨rfl, rfl, rfl, rfl, rfl, rfl, trivial⟩, hw⟩
   ·rintro D σ w hD hdep hcl ⟨v69, v70, hv, ha, hw⟩
    obtain ⟨τ, rfl⟩ := (ac (ha.at 1 rfl) az).ups
    refine mv (vi (k31 : Int)) rfl rfl ?_
    refine RL.nil ?_
    exact ⟨rfl, v69, v70, hv.put 0 rfl rfl, ha.up rfl, hw⟩
   ·rintro D σ w hD hdep hcl ⟨v69, v70, hv, ha, hw⟩
    obtain ⟨τ, rfl⟩ := (ac (hv.at 0 rfl (hdep.1 rfl)) az).ups
    refine ic ((k31 : Int)) 0 rfl rfl rfl rfl ?_
    refine RL.nil ?_
    exact ⟨rfl, v69, v70, hv.put 1 rfl rfl, ha.up rfl, hw⟩
   ·rintro D σ w hD hdep hcl ⟨v69, v70, hv, ha, hw⟩
    obtain ⟨τ, rfl⟩ := (ac (hv.at 1 rfl (hdep.1 rfl)) az).ups
    refine mv (vb (decide ((k31 : Int) > 0))) rfl rfl ?_
    refine RL.nil ?_
    exact ⟨rfl, v69, v70, hv.put 2 rfl rfl, ha.up rfl, hw⟩
   ·rintro D σ w hD hdep hcl ⟨v69, v70, hv, ha, hw⟩
    obtain ⟨τ, rfl⟩ := (ac (hv.at 2 rfl (hdep.1 rfl)) (ac (ha.at 2 rfl) az)).ups
    refine RL.fa_b ⟨_, rfl, cb hg67⟩ rfl rfl fa58_0 ?_
    refine RL.nil ?_
    exact ⟨rfl, v69, v70, hv.put 3 rfl rfl, ha.up rfl, hw⟩
   ·rintro D σ w hD hdep hcl ⟨v69, v70, hv, ha, hw⟩
    obtain ⟨τ, rfl⟩ := (ac (hv.at 2 rfl (hdep.2.1 rfl)) (ac (hv.at 3 rfl (hdep.1 rfl)) az)).ups
    refine RL.load_bfs (i := 3) (f := (fun x => x.Name)) ⟨_, rfl, cb hg67⟩ rfl hw rfl rfl fd_PartType_0 ty9 ?_
    refine RL.nil ?_
    exact ⟨rfl, v69, v70, hv.put 4 rfl rfl, ha.up rfl, hw⟩
   ·rintro D σ w hD hdep hcl ⟨v69, v70, hv, ha, hw⟩
    obtain ⟨τ, rfl⟩ := (ac (hv.at 2 rfl (hdep.1 rfl)) (ac (ha.at 0 rfl) az)).ups
    refine RL.move (v := v0) ⟨_, rfl, cb hg67⟩ rfl rfl ?_
    refine RL.nil ?_
    exact ⟨rfl, v69, v70, hv.put 5 rfl rfl, ha.up rfl, hw⟩
   ·rintro D σ w hD hdep hcl ⟨v69, v70, hv, ha, hw⟩
    obtain ⟨τ, rfl⟩ := (ac (hv.at 2 rfl (hdep.1 rfl)) (ac (ha.at 1 rfl) az)).ups
    refine RL.move (v := (vi (k31 : Int))) ⟨_, rfl, cb hg67⟩ rfl rfl ?_
    refine RL.nil ?_
    exact ⟨rfl, v69, v70, hv.put 6 rfl rfl, ha.up rfl, hw⟩
   ·rintro D σ w hD hdep hcl ⟨v69, v70, hv, ha, hw⟩
    obtain ⟨τ, rfl⟩ := (ac (hv.at 2 rfl (hdep.2.1 rfl)) (ac (hv.at 6 rfl (hdep.1 rfl)) az)).ups
    refine RL.iar (a := (k31 : Int)) (b := 1) ⟨_, rfl, cb hg67⟩ rfl rfl rfl rfl ?_
    refine RL.nil ?_
    exact ⟨rfl, v69, v70, hv.put 7 rfl rfl, ha.up rfl, hw⟩
   ·rintro D σ w hD hdep hcl ⟨v69, v70, hv, ha, hw⟩
    obtain ⟨τ, rfl⟩ := (ac (hv.at 2 rfl (hdep.2.2.1 rfl)) (ac (hv.at 5 rfl (hdep.1 rfl)) (ac (hv.at 7 rfl (hdep.2.1 rfl)) az))).ups
    have hw := hw.selF (i := 0) rfl hD
    refine RL.ia_rd (i := 6) ⟨_, rfl, cb hg67⟩ rfl hw rfl rfl rfl sl22 hx68 fun v71 hw => ?_
    have hw := hw.pick 8 [0, 2, 3, 4, 5, 6, 7] (new := [pt v71 x68, bif D 9 then (pt v70 x68.Name) else junk, rd v58 x53.Pins, bx 58 b56 x53, rd v55 x53, pt v54 x53, rd v0 p0]) rfl rfl (by decide) (by decide)
    have hw := hw.altT (i := 0) (b := true) rfl rfl (junk)
    refine RL.nil ?_
    exact ⟨rfl, v71, v70, hv.put 8 rfl rfl, ha.up rfl, hw⟩
   ·rintro D σ w hD hdep hcl ⟨v69, v70, hv, ha, hw⟩
    obtain ⟨τ, rfl⟩ := (ac (hv.at 2 rfl (hdep.2.1 rfl)) (ac (hv.at 8 rfl (hdep.1 rfl)) az)).ups
    have hw := hw.selT (i := 0) rfl (hdep.1 rfl)
    have hw := hw.selF (i := 1) rfl hD
    refine RL.fa_pt (i := 0) (f := fun (x : PartType) => x.Name) ⟨_, rfl, cb hg67⟩ rfl hw rfl rfl fa58_0 fd_PartType_0 fun v72 hw => ?_
    have hw := hw.pick 8 [1, 0, 3, 4, 5, 6, 7] (new := [pt v69 x68, pt v72 x68.Name, rd v58 x53.Pins, bx 58 b56 x53, rd v55 x53, pt v54 x53, rd v0 p0]) rfl rfl (by decide) (by decide)
    have hw := hw.altT (i := 0) (b := D 8) rfl (hdep.1 rfl) (junk)
    have hw := hw.altT (i := 1) (b := true) rfl rfl (junk)
    refine RL.nil ?_
    exact ⟨rfl, v69, v72, hv.put 9 rfl rfl, ha.up rfl, hw⟩
   ·rintro D σ w hD hdep hcl ⟨v69, v70, hv, ha, hw⟩
    obtain ⟨τ, rfl⟩ := (ac (hv.at 2 rfl (hdep.2.1 rfl)) (ac (hv.at 9 rfl (hdep.1 rfl)) az)).ups
    have hw := hw.selT (i := 1) rfl (hdep.1 rfl)
    refine RL.load_pts (i := 1) (y := x68.Name) ⟨_, rfl, cb hg67⟩ rfl hw rfl rfl ty9 ?_
    have hw := hw.altT (i := 1) (b := D 9) rfl (hdep.1 rfl) (junk)
    refine RL.nil ?_
    exact ⟨rfl, v69, v70, hv.put 10 rfl rfl, ha.up rfl, hw⟩
   ·rintro D σ w hD hdep hcl ⟨v69, v70, hv, ha, hw⟩
    obtain ⟨τ, rfl⟩ := (ac (hv.at 2 rfl (hdep.2.2.1 rfl)) (ac (hv.at 4 rfl (hdep.1 rfl)) (ac (hv.at 10 rfl (hdep.2.1 rfl)) az))).ups
    refine RL.scmp (a := x53.Name) (b := x68.Name) ⟨_, rfl, cb hg67⟩ rfl rfl rfl rfl ?_
    refine RL.nil ?_
    exact ⟨rfl, v69, v70, hv.put 11 rfl rfl, ha.up rfl, hw⟩
   ·rintro D σ w hD hdep hcl ⟨v69, v70, hv, ha, hw⟩
    obtain ⟨τ, rfl⟩ := (ac (hv.at 2 rfl (hdep.1 rfl)) (ac (hv.at 11 rfl (hdep.2.1 rfl)) az)).ups
    refine RL.pick (b := (decide ((k31 : Int) > 0))) (v := (vb (x53.Name.ltb x68.Name || x53.Name.eqb x68.Name))) trivial rfl rfl (by rw [hg67]; rfl) ?_
    refine RL.nil ?_
    exact ⟨rfl, v69, v70, hv.put 12 rfl rfl, ha.up rfl, hw⟩
   rintro D σ w hall ⟨v69, v70, hv, ha, hw⟩
   rw [hall 8 (by decide), hall 9 (by decide)] at hw
   obtain ⟨τ, rfl⟩ := (ac (hv.at 12 rfl (hall 12 (by decide))) (ac (ha.at 0 rfl) (ac (ha.at 1 rfl) (ac (ha.at 2 rfl) (ac (ha.at 3 rfl) (ac (ha.at 4 rfl) (ac (ha.at 5 rfl) az))))))).ups
   obtain rfl := oi hj
   exact ⟨rfl, ⟨rfl, rfl, rfl, rfl, rfl, trivial⟩, hw.pick 7 [6] (new := [rd v0 p0]) rfl rfl (by decide) (by decide)⟩
  rintro σ w ⟨ha, hw⟩
  obtain ⟨τ, rfl⟩ := ha.ups
  refine thenQ_n ?_
  refine RC.cond (b := s66) rfl (fun hc => ?_) (fun hc => ?_)
  rotate_left
  ·replace hb := cF hc hb
   refine RC.skip ?_
   refine blkQ_n ?_
   refine thenQ_n ?_
   refine RC.region ?_
   refine RL.inc trivial rfl hk hm rfl rfl ?_
   refine mv (vi ((k31 + 1 : Nat) : Int)) rfl rfl ?_
   refine RL.nil ?_
   obtain rfl := oi hb
   exact ⟨rfl, ⟨rfl, rfl, rfl, rfl, trivial⟩, hw.pick 1 [0] (new := [rd v0 p0]) rfl rfl (by decide) (by decide)⟩
  replace hb := cT hc hb
  refine RC.sr ?_
  refine as_ (vi 8) rfl rfl ?_
  refine RL.nt ?_
  refine RC.rb ?_
  refine thenQ_r ?_
  obtain rfl := oi hb
  exact ⟨rfl, fin1 rfl rfl ⟨rfl, hw.drop 1 rfl⟩⟩
 ·intro r σ w e hK
  subst e
  refine thenQ_r ?_
  obtain rfl := oi hb
  exact hK
 intro s32 σ w e hJ
 subst e
 rw [Fo.cs_go] at hb
 obtain ⟨ha, hw⟩ := hJ
 obtain ⟨τ, rfl⟩ := ha.ups
 refine thenQ_n ?_
 refine RC.sr ?_
 refine as_ (vi 0) rfl rfl ?_
 refine RL.nt ?_
 refine RC.ret ?_
 obtain rfl := oi hb
 exact fin1 rfl rfl ⟨rfl, hw.drop 1 rfl⟩
def slices_BinarySearchFunc_PartType_string_R (E : World) (Γ : List HP) (res : Int × Bool) (v : Value) (w : World) : Prop := v = .tuple #[(vi res.1), (vb res.2)] ∧ Holds E w Γ
theorem slices_BinarySearchFunc_PartType_string_ok (N : Nat) {E w : World} {Γ : List HP} {i0 : Nat} {v0 : Value} {p0 : (List PartType)} {p1 : Str} {v2 : Value} {p2 : PartType → Str → Option Int} {res : Int × Bool} (hw : Holds E w Γ) (h0 : Γ[i0]? = some (rd v0 p0)) (h2 : Fn2 Tryz.prog E Γ v2 p2 (fun (r : Int) => Value.int .i64 r)) (hb : slices_BinarySearchFunc_PartType_string N p0 p1 p2 = some res) :
    Calls Tryz.prog 73 [v0, (str p1), v2].toArray w (Ret (slices_BinarySearchFunc_PartType_string_R E Γ res)) := by
 unfold slices_BinarySearchFunc_PartType_string at hb
 refine enter Tryz.func73 rfl rfl (Nat.le_of_ble_eq_true rfl) ?_
 have hw := hw.dup (i := i0 + 0) h0
 refine RC.sr ?_
 refine as_ (vi 0) rfl rfl ?_
 refine as_ (vb false) rfl rfl ?_
 refine RL.ns ?_
 refine mv v0 rfl rfl ?_
 refine RL.len_rd (i := 0) (l := p0) trivial rfl hw rfl rfl un22 ?_
 refine as_ (vi (p0.length : Int)) rfl rfl ?_
 refine RL.ns ?_
 refine mv (vi (p0.length : Int)) rfl rfl ?_
 refine as_ (vi 0) rfl rfl ?_
 refine as_ (vi (p0.length : Int)) rfl rfl ?_
 refine RL.nq ?_
 obtain ⟨o59, hN, hb⟩ := bd hb
 refine RC.iter (fun (s32 : Int × Int) (σ : Nat → Value) (w : World) => agree σ [(0, v0), (1, (str p1)), (2, v2), (8, (vi (p0.length : Int))), (9, (vi s32.1)), (10, (vi s32.2))] ∧ Holds E w ([rd v0 p0] ++ Γ)) (fun (s32 : Int × Int) (σ : Nat → Value) (w : World) => agree σ [(0, v0), (1, (str p1)), (2, v2), (8, (vi (p0.length : Int))), (9, (vi s32.1))] ∧ Holds E w ([rd v0 p0] ++ Γ)) (fun (r : Empty) (_ : Nat → Value) (_ : World) => r.elim) hN ?_ ?_ ?_ ?_ 
 ·exact ⟨⟨rfl, rfl, rfl, rfl, rfl, rfl, trivial⟩, hw.pick 1 [0] (new := [rd v0 p0]) rfl rfl (by decide) (by decide)⟩
 ·intro s32 fl σ w hI hb
  obtain ⟨ha, hw⟩ := hI
  obtain ⟨τ, rfl⟩ := ha.ups
  refine RC.seq ?_
  refine RC.sr ?_
  refine mv (vi s32.1) rfl rfl ?_
  refine mv (vi s32.2) rfl rfl ?_
  refine ic (s32.1) (s32.2) rfl rfl rfl rfl ?_
  refine RL.nt ?_
  refine RC.cond (b := (decide (s32.1 < s32.2))) rfl (fun hc => ?_) (fun hc => ?_)
  rotate_left
  ·replace hb := cF hc hb
   refine RC.ex ?_
   obtain rfl := oi hb
   exact ⟨rfl, ⟨rfl, rfl, rfl, rfl, rfl, trivial⟩, hw.pick 1 [0] (new := [rd v0 p0]) rfl rfl (by decide) (by decide)⟩
  replace hb := cT hc hb
  refine RC.sn ?_
  refine RC.bs ?_
  refine mv (vi s32.1) rfl rfl ?_
  refine mv (vi s32.2) rfl rfl ?_
  refine RL.iar (a := s32.1) (b := s32.2) trivial rfl rfl rfl rfl ?_
  refine RL.conv (a := (IntKind.wrap .i64 (s32.1 + s32.2))) trivial rfl rfl ⟨_, un3⟩ un75 ?_
  refine RL.bin (v := (.int .u64 (IntKind.wrap .u64 (IntKind.wrap .i64 (s32.1 + s32.2))))) (v' := (.int .u64 1)) (u := (.int .u64 (Int.fdiv (IntKind.wrap .u64 (IntKind.wrap .i64 (s32.1 + s32.2))) 2))) trivial rfl rfl rfl (fun _ => rfl) (fun _ => rfl) ?_
  refine RL.conv (a := (Int.fdiv (IntKind.wrap .u64 (IntKind.wrap .i64 (s32.1 + s32.2))) 2)) trivial rfl rfl ⟨_, un75⟩ un3 ?_
  refine as_ (vi (IntKind.wrap .i64 (Int.fdiv (IntKind.wrap .u64 (IntKind.wrap .i64 (s32.1 + s32.2))) 2))) rfl rfl ?_
  refine RL.ns ?_
  refine mv v2 rfl rfl ?_
  refine mv v0 rfl rfl ?_
  refine mv (vi (IntKind.wrap .i64 (Int.fdiv (IntKind.wrap .u64 (IntKind.wrap .i64 (s32.1 + s32.2))) 2))) rfl rfl ?_
  obtain ⟨x43, hx43, hb⟩ := bd hb
  refine RL.ia_rd (i := 0) trivial rfl hw rfl rfl rfl sl22 hx43 fun v44 hw => ?_
  refine RL.load_pt (i := 0) (x := x43) trivial rfl hw rfl rfl ty58 fun v45 hw => ?_
  refine mv (str p1) rfl rfl ?_
  have hw := hw.sc (γ := Str) p1
  obtain ⟨x46, hx46, hb⟩ := bd hb
  refine RL.callF2 (i := 1) (j := 0) trivial rfl hw rfl h2 4 rfl rfl rfl rfl rfl hx46 fun w hw => ?_
  refine ic x46 0 rfl rfl rfl rfl ?_
  refine RL.nt ?_
  obtain ⟨s47, hj, hb⟩ := bd hb
  refine RC.jn (fun (s47 : Int × Int) (σ : Nat → Value) (w : World) => agree σ [(0, v0), (1, (str p1)), (2, v2), (8, (vi (p0.length : Int))), (9, (vi s47.1)), (10, (vi s47.2))] ∧ Holds E w ([rd v0 p0] ++ Γ)) s47 ?_ ?_
  ·refine RC.cond (b := (decide (x46 < 0))) rfl (fun hc => ?_) (fun hc => ?_)
   rotate_left
   ·replace hj := cF hc hj
    refine RC.region ?_
    refine mv (vi (IntKind.wrap .i64 (Int.fdiv (IntKind.wrap .u64 (IntKind.wrap .i64 (s32.1 + s32.2))) 2))) rfl rfl ?_
    refine as_ (vi (IntKind.wrap .i64 (Int.fdiv (IntKind.wrap .u64 (IntKind.wrap .i64 (s32.1 + s32.2))) 2))) rfl rfl ?_
    refine RL.nil ?_
    obtain rfl := oi hj
    exact ⟨rfl, ⟨rfl, rfl, rfl, rfl, rfl, rfl, trivial⟩, hw.pick 4 [3] (new := [rd v0 p0]) rfl rfl (by decide) (by decide)⟩
   replace hj := cT hc hj
   refine RC.region ?_
   refine mv (vi (IntKind.wrap .i64 (Int.fdiv (IntKind.wrap .u64 (IntKind.wrap .i64 (s32.1 + s32.2))) 2))) rfl rfl ?_
   refine RL.iar (a := (IntKind.wrap .i64 (Int.fdiv (IntKind.wrap .u64 (IntKind.wrap .i64 (s32.1 + s32.2))) 2))) (b := 1) trivial rfl rfl rfl rfl ?_
   refine as_ (vi (IntKind.wrap .i64 ((IntKind.wrap .i64 (Int.fdiv (IntKind.wrap .u64 (IntKind.wrap .i64 (s32.1 + s32.2))) 2)) + 1))) rfl rfl ?_
   refine RL.nil ?_
   obtain rfl := oi hj
   exact ⟨rfl, ⟨rfl, rfl, rfl, rfl, rfl, rfl, trivial⟩, hw.pick 4 [3] (new := [rd v0 p0]) rfl rfl (by decide) (by decide)⟩
  rintro σ w ⟨ha, hw⟩
  obtain ⟨τ, rfl⟩ := ha.ups
  refine blkQ_n ?_
  obtain rfl := oi hb
  exact ⟨rfl, ⟨rfl, rfl, rfl, rfl, rfl, rfl, trivial⟩, hw.pick 1 [0] (new := [rd v0 p0]) rfl rfl (by decide) (by decide)⟩
 ·intro r _ _ _ _
  exact r.elim
 intro s32 σ w e hJ
 subst e
 rw [Fo.cs_go] at hb
 obtain ⟨ha, hw⟩ := hJ
 obtain ⟨τ, rfl⟩ := ha.ups
 refine thenQ_n ?_
 refine RC.seq ?_
 obtain ⟨s53, hj, hb⟩ := bd hb
 refine RC.jn (fun (s53 : Bool) (σ : Nat → Value) (w : World) => agree σ [(6, (vi s32.1)), (7, (vb s53))] ∧ Holds E w ([] ++ Γ)) s53 ?_ ?_
 ·refine RC.region ?_
  refine mv (vi s32.1) rfl rfl ?_
  refine mv (vi s32.1) rfl rfl ?_
  refine mv (vi (p0.length : Int)) rfl rfl ?_
  refine ic (s32.1) ((p0.length : Int)) rfl rfl rfl rfl ?_
  refine mv (vb (decide (s32.1 < (p0.length : Int)))) rfl rfl ?_
  rcases Bool.eq_false_or_eq_true (decide (s32.1 < (p0.length : Int))) with hg54 | hg54
  rotate_left
  ·replace hj := cF hg54 hj
   refine sk rfl (.inl (cb hg54)) rfl ?_
   refine sk rfl (.inl (cb hg54)) rfl ?_
   refine sk rfl (.inl (cb hg54)) rfl ?_
   refine sk rfl (.inl (cb hg54)) rfl ?_
   refine sk rfl (.inl (cb hg54)) rfl ?_
   refine sk rfl (.inl (cb hg54)) rfl ?_
   refine sk rfl (.inl (cb hg54)) rfl ?_
   refine sk rfl (.inl (cb hg54)) rfl ?_
   refine RL.pick (b := (decide (s32.1 < (p0.length : Int)))) (v := (vb false)) trivial rfl rfl (by rw [hg54]; rfl) ?_
   refine as_ (vi s32.1) rfl rfl ?_
   refine as_ (vb false) rfl rfl ?_
   refine RL.nil ?_
   obtain rfl := oi hj
   exact ⟨rfl, ⟨rfl, rfl, trivial⟩, hw.pick 1 [] (new := []) rfl rfl (by decide) (by decide)⟩
  replace hj := cT hg54 hj
  refine RL.move (v := v2) ⟨_, rfl, cb hg54⟩ rfl rfl ?_
  refine RL.move (v := v0) ⟨_, rfl, cb hg54⟩ rfl rfl ?_
  refine RL.move (v := (vi s32.1)) ⟨_, rfl, cb hg54⟩ rfl rfl ?_
  obtain ⟨x55, hx55, hj⟩ := bd hj
  refine RL.ia_rd (i := 0) ⟨_, rfl, cb hg54⟩ rfl hw rfl rfl rfl sl22 hx55 fun v56 hw => ?_
  refine RL.load_pt (i := 0) (x := x55) ⟨_, rfl, cb hg54⟩ rfl hw rfl rfl ty58 fun v57 hw => ?_
  refine RL.move (v := (str p1)) ⟨_, rfl, cb hg54⟩ rfl rfl ?_
  have hw := hw.sc (γ := Str) p1
  obtain ⟨x58, hx58, hj⟩ := bd hj
  refine RL.callF2 (i := 1) (j := 0) ⟨_, rfl, cb hg54⟩ rfl hw rfl h2 4 rfl rfl rfl rfl rfl hx58 fun w hw => ?_
  refine RL.icmp (a := x58) (b := 0) ⟨_, rfl, cb hg54⟩ rfl rfl rfl rfl ?_
  refine RL.pick (b := (decide (s32.1 < (p0.length : Int)))) (v := (vb (x58 == 0))) trivial rfl rfl (by rw [hg54]; rfl) ?_
  refine as_ (vi s32.1) rfl rfl ?_
  refine as_ (vb (x58 == 0)) rfl rfl ?_
  refine RL.nil ?_
  obtain rfl := oi hj
  exact ⟨rfl, ⟨rfl, rfl, trivial⟩, hw.pick 4 [] (new := []) rfl rfl (by decide) (by decide)⟩
 rintro σ w ⟨ha, hw⟩
 obtain ⟨τ, rfl⟩ := ha.ups
 refine thenQ_n ?_
 refine RC.ret ?_
 obtain rfl := oi hb
 exact fin2 rfl rfl rfl ⟨rfl, hw.drop 0 rfl⟩
def bytealg_CompareString_R (E : World) (Γ : List HP) (res : Int) (v : Value) (w : World) : Prop := v = (vi res) ∧ Holds E w Γ
theorem bytealg_CompareString_ok (N : Nat) {E w : World} {Γ : List HP} {p0 : Str} {p1 : Str} {res : Int} (hw : Holds E w Γ)  (hb : bytealg_CompareString N p0 p1 = some res) :
    Calls Tryz.prog 50 [(str p0), (str p1)].toArray w (Ret (bytealg_CompareString_R E Γ res)) := by
 unfold bytealg_CompareString at hb
 refine enter Tryz.func50 rfl rfl (Nat.le_of_ble_eq_true rfl) ?_
 refine RC.sr ?_
 refine as_ (vi 0) rfl rfl ?_
 refine RL.ns ?_
 refine mv (str p0) rfl rfl ?_
 refine mv (str p1) rfl rfl ?_
 refine RL.xcall (v := (vi (Lib.compareBytes p0.toL p1.toL))) trivial rfl [(str p0), (str p1)] rfl (x81 p0 p1 w) ?_
 refine as_ (vi (Lib.compareBytes p0.toL p1.toL)) rfl rfl ?_
 refine RL.nt ?_
 refine RC.ret ?_
 obtain rfl := oi hb
 exact fin1 rfl rfl ⟨rfl, hw.drop 0 rfl⟩
def strings_Compare_R (E : World) (Γ : List HP) (res : Int) (v : Value) (w : World) : Prop := v = (vi res) ∧ Holds E w Γ
theorem strings_Compare_ok (N : Nat) {E w : World} {Γ : List HP} {p0 : Str} {p1 : Str} {res : Int} (hw : Holds E w Γ)  (hb : strings_Compare N p0 p1 = some res) :
    Calls Tryz.prog 32 [(str p0), (str p1)].toArray w (Ret (strings_Compare_R E Γ res)) := by
 unfold strings_Compare at hb
 refine enter Tryz.func32 rfl rfl (Nat.le_of_ble_eq_true rfl) ?_
 refine RC.sr ?_
 refine as_ (vi 0) rfl rfl ?_
 refine RL.ns ?_
 refine mv (str p0) rfl rfl ?_
 refine mv (str p1) rfl rfl ?_
 obtain ⟨x31, hx31, hb⟩ := bd hb
 refine RL.call trivial rfl fn50 [(str p0), (str p1)] rfl (Calls_ret (bytealg_CompareString_ok N (p0 := p0) (p1 := p1)  hw  hx31) ?_)
 rintro _ w ⟨rfl, hw⟩
 refine as_ (vi x31) rfl rfl ?_
 refine RL.nt ?_
 refine RC.ret ?_
 obtain rfl := oi hb
 exact fin1 rfl rfl ⟨rfl, hw.drop 0 rfl⟩
def netlist_TypeAt_c1_R (E : World) (Γ : List HP) (res : Int) (v : Value) (w : World) : Prop := v = (vi res) ∧ Holds E w Γ
theorem netlist_TypeAt_c1_ok (N : Nat) {E w : World} {Γ : List HP} {i0 : Nat} {v0 : Value} {p0 : PartType} {p1 : Str} {res : Int} (hw : Holds E w Γ) (h0 : Γ[i0]? = some (rd v0 p0)) (hb : netlist_TypeAt_c1 N p0 p1 = some res) :
    Calls Tryz.prog 74 [v0, (str p1)].toArray w (Ret (netlist_TypeAt_c1_R E Γ res)) := by
 unfold netlist_TypeAt_c1 at hb
 refine enter Tryz.func74 rfl rfl (Nat.le_of_ble_eq_true rfl) ?_
 have hw := hw.dup (i := i0 + 0) h0
 refine RC.sr ?_
 refine RL.box_rd (i := 0) (v := v0) trivial rfl hw rfl rfl fun b31 w hw => ?_
 refine as_ (vi 0) rfl rfl ?_
 refine RL.ns ?_
 refine RL.fa_b trivial rfl rfl fa58_0 ?_
 refine RL.load_bfs (i := 0) (f := (fun x => x.Name)) trivial rfl hw rfl rfl fd_PartType_0 ty9 ?_
 refine mv (str p1) rfl rfl ?_
 obtain ⟨x32, hx32, hb⟩ := bd hb
 refine RL.call trivial rfl fn32 [(str p0.Name), (str p1)] rfl (Calls_ret (strings_Compare_ok N (p0 := p0.Name) (p1 := p1)  hw  hx32) ?_)
 rintro _ w ⟨rfl, hw⟩
 refine as_ (vi x32) rfl rfl ?_
 refine RL.nt ?_
 refine RC.ret ?_
 obtain rfl := oi hb
 exact fin1 rfl rfl ⟨rfl, hw.drop 2 rfl⟩
def netlist_TypeAt_R (E : World) (Γ : List HP) (res : Int) (v : Value) (w : World) : Prop := v = (vi res) ∧ Holds E w Γ
theorem netlist_TypeAt_ok (N : Nat) {E w : World} {Γ : List HP} {i0 : Nat} {v0 : Value} {p0 : (List PartType)} {p1 : Str} {res : Int} (hw : Holds E w Γ) (h0 : Γ[i0]? = some (rd v0 p0)) (hb : netlist_TypeAt N p0 p1 = some res) :
    Calls Tryz.prog 44 [v0, (str p1)].toArray w (Ret (netlist_TypeAt_R E Γ res)) := by
 unfold netlist_TypeAt at hb
 refine enter Tryz.func44 rfl rfl (Nat.le_of_ble_eq_true rfl) ?_
 have hw := hw.dup (i := i0 + 0) h0
 refine RC.sr ?_
 refine as_ (vi 0) rfl rfl ?_
 refine RL.ns ?_
 refine mv v0 rfl rfl ?_
 refine mv (str p1) rfl rfl ?_
 obtain ⟨x31, hx31, hb⟩ := bd hb
 refine RL.call trivial rfl fn73 [v0, (str p1), (.func (.func 74) #[] #[])] rfl (Calls_ret (slices_BinarySearchFunc_PartType_string_ok N (p1 := p1) (i0 := 0) hw rfl ⟨74, [], rfl, fn74, fun w Γl v v' y0 y1 r i j hw hi hj hr => by obtain rfl := hw.ofSc (γ := Str) hj; exact Calls_ret (netlist_TypeAt_c1_ok N (p1 := y1) (i0 := i) hw hi hr) fun _ _ h => h⟩ hx31) ?_)
 rintro _ w ⟨rfl, hw⟩
 refine mv (.tuple #[(vi x31.1), (vb x31.2)]) rfl rfl ?_
 refine RL.extract (v := (vi x31.1)) trivial rfl rfl rfl ?_
 refine RL.extract (v := (vb x31.2)) trivial rfl rfl rfl ?_
 refine as_ (vi x31.1) rfl rfl ?_
 refine as_ (vb x31.2) rfl rfl ?_
 refine RL.nq ?_
 refine RC.sr ?_
 refine mv (vb x31.2) rfl rfl ?_
 refine RL.not (b := x31.2) trivial rfl rfl ?_
 refine RL.nt ?_
 refine RC.cond (b := (!x31.2)) rfl (fun hc => ?_) (fun hc => ?_)
 ·replace hb := cT hc hb
  refine RC.sr ?_
  refine as_ (vi (-1)) rfl rfl ?_
  refine RL.nt ?_
  refine RC.rt ?_
  obtain rfl := oi hb
  exact fin1 rfl rfl ⟨rfl, hw.drop 1 rfl⟩
 replace hb := cF hc hb
 refine RC.sx ?_
 refine mv (vi x31.1) rfl rfl ?_
 refine as_ (vi x31.1) rfl rfl ?_
 refine RL.nt ?_
 refine RC.ret ?_
 obtain rfl := oi hb
 exact fin1 rfl rfl ⟨rfl, hw.drop 1 rfl⟩
def netlist_checkParts_R (E : World) (Γ : List HP) (res : Int) (v : Value) (w : World) : Prop := v = (vi res) ∧ Holds E w Γ
def netlist_checkParts_K (E : World) (Γ : List HP) (r : Int) (σ : Nat → Value) (w : World) : Prop := finQ Tryz.prog 46 Tryz.f25 (netlist_checkParts_R E Γ r) .ret σ w
theorem netlist_checkParts_ok (N : Nat) {E w : World} {Γ : List HP} {i0 : Nat} {v0 : Value} {p0 : (List PartType)} {i1 : Nat} {v1 : Value} {p1 : (List Part)} {v2 : Value} {p2 : Str → Option Bool} {res : Int} (hw : Holds E w Γ) (h0 : Γ[i0]? = some (rd v0 p0)) (h1 : Γ[i1]? = some (rd v1 p1)) (h2 : Fn1 Tryz.prog E Γ v2 p2 (fun (r : Bool) => Value.bool r)) (hb : netlist_checkParts N p0 p1 p2 = some res) :
    Calls Tryz.prog 25 [v0, v1, v2].toArray w (Ret (netlist_checkParts_R E Γ res)) := by
 unfold netlist_checkParts at hb
 refine enter Tryz.func25 rfl rfl (Nat.le_of_ble_eq_true rfl) ?_
 have hw := hw.dup (i := i0 + 0) h0
 have hw := hw.dup (i := i1 + 1) h1
 refine RC.sr ?_
 refine as_ (vi 0) rfl rfl ?_
 refine RL.nq ?_
 refine RC.sr ?_
 refine mv v1 rfl rfl ?_
 refine RL.len_rd (i := 0) (l := p1) trivial rfl hw rfl rfl un23 ?_
 refine ic ((p1.length : Int)) 1000 rfl rfl rfl rfl ?_
 refine RL.nt ?_
 refine RC.cond (b := (decide ((p1.length : Int) > 1000))) rfl (fun hc => ?_) (fun hc => ?_)
 ·replace hb := cT hc hb
  refine RC.sr ?_
  refine as_ (vi 2) rfl rfl ?_
  refine RL.nt ?_
  refine RC.rt ?_
  obtain rfl := oi hb
  exact fin1 rfl rfl ⟨rfl, hw.drop 2 rfl⟩
 replace hb := cF hc hb
 refine RC.ss ?_
 refine RC.sr ?_
 refine mv v1 rfl rfl ?_
 refine RL.len_rd (i := 0) (l := p1) trivial rfl hw rfl rfl un23 ?_
 refine mv (vi 0) rfl rfl ?_
 refine RL.nt ?_
 obtain ⟨o151, hN, hb⟩ := bd hb
 refine RC.range (fun (k31 : Nat) (s32 : Unit) (σ : Nat → Value) (w : World) => agree σ [(0, v0), (1, v1), (2, v2), (12, v1), (13, (vi (p1.length : Int))), (14, (vi (k31 : Int)))] ∧ Holds E w ([rd v0 p0, rd v1 p1] ++ Γ)) (fun (s32 : Unit) (σ : Nat → Value) (w : World) => agree σ [] ∧ Holds E w ([rd v0 p0, rd v1 p1] ++ Γ)) (netlist_checkParts_K E Γ) hN ?_ ?_ ?_ ?_ ?_ 
 ·exact ⟨⟨rfl, rfl, rfl, rfl, rfl, rfl, trivial⟩, hw.pick 2 [1, 0] (new := [rd v0 p0, rd v1 p1]) rfl rfl (by decide) (by decide)⟩
 ·intro hm s32 σ w hI
  obtain ⟨ha, hw⟩ := hI
  obtain ⟨τ, rfl⟩ := ha.ups
  refine RC.sr ?_
  refine ic ((p1.length : Int)) ((p1.length : Int)) rfl rfl rfl rfl ?_
  refine RL.nq ?_
  refine RC.cond_f dge ?_
  refine RC.ex ?_
  exact ⟨rfl, trivial, hw.pick 2 [0, 1] (new := [rd v0 p0, rd v1 p1]) rfl rfl (by decide) (by decide)⟩
 ·intro hm k31 s32 fl σ w hk hI hb
  obtain ⟨ha, hw⟩ := hI
  obtain ⟨τ, rfl⟩ := ha.ups
  refine RC.sr ?_
  refine ic ((k31 : Int)) ((p1.length : Int)) rfl rfl rfl rfl ?_
  refine RL.nq ?_
  refine RC.cond_t (dlt hk) ?_
  refine RC.ss ?_
  refine RC.bs ?_
  refine mv (vi (k31 : Int)) rfl rfl ?_
  obtain ⟨x92, hx92, hb⟩ := bd hb
  refine RL.ia_rd (i := 1) trivial rfl hw rfl rfl rfl sl23 hx92 fun v93 hw => ?_
  refine RL.load_pt (i := 0) (x := x92) trivial rfl hw rfl rfl ty48 fun v94 hw => ?_
  refine RL.alloc trivial rfl hw ze48.z fun b95 w hw => ?_
  refine as_ (vi (k31 : Int)) rfl rfl ?_
  refine RL.store_raw (i := 0) (j := 1) trivial hw rfl rfl rfl rfl ty48 rfl fun w hw => ?_
  refine RL.nt ?_
  refine RC.bs ?_
  refine mv v2 rfl rfl ?_
  refine RL.fa_b trivial rfl rfl fa48_0 ?_
  refine RL.load_bfs (i := 0) (f := (fun x => x.Name)) trivial rfl hw rfl rfl fd_Part_0 ty9 ?_
  have hw := hw.sc (γ := Str) x92.Name
  obtain ⟨x96, hx96, hb⟩ := bd hb
  refine RL.callF1 (i := 0) trivial rfl hw rfl h2 6 rfl rfl rfl hx96 fun w hw => ?_
  refine RL.not (b := x96) trivial rfl rfl ?_
  refine as_ (vb (!x96)) rfl rfl ?_
  refine RL.nt ?_
  refine RC.cond (b := (!x96)) rfl (fun hc => ?_) (fun hc => ?_)
  ·replace hb := cT hc hb
   refine RC.sr ?_
   refine as_ (vi 5) rfl rfl ?_
   refine RL.nt ?_
   refine RC.rb ?_
   refine blkQ_r ?_
   refine thenQ_r ?_
   obtain rfl := oi hb
   exact ⟨rfl, fin1 rfl rfl ⟨rfl, hw.drop 6 rfl⟩⟩
  replace hb := cF hc hb
  refine RC.sr ?_
  refine mv v0 rfl rfl ?_
  refine RL.fa_b trivial rfl rfl fa48_1 ?_
  refine RL.load_bfs (i := 1) (f := (fun x => x.Type_)) trivial rfl hw rfl rfl fd_Part_1 ty9 ?_
  obtain ⟨x124, hx124, hb⟩ := bd hb
  refine RL.call trivial rfl fn44 [v0, (str x92.Type_)] rfl (Calls_ret (netlist_TypeAt_ok N (p1 := x92.Type_) (i0 := 4) hw rfl hx124) ?_)
  rintro _ w ⟨rfl, hw⟩
  refine ic x124 0 rfl rfl rfl rfl ?_
  refine as_ (vb (decide (x124 < 0))) rfl rfl ?_
  refine RL.nt ?_
  refine RC.cond (b := (decide (x124 < 0))) rfl (fun hc => ?_) (fun hc => ?_)
  ·replace hb := cT hc hb
   refine RC.sr ?_
   refine as_ (vi 9) rfl rfl ?_
   refine RL.nt ?_
   refine RC.rb ?_
   refine blkQ_r ?_
   refine thenQ_r ?_
   obtain rfl := oi hb
   exact ⟨rfl, fin1 rfl rfl ⟨rfl, hw.drop 6 rfl⟩⟩
  replace hb := cF hc hb
  refine RC.seq ?_
  obtain ⟨s144, hj, hb⟩ := bd hb
  refine RC.jn (fun (s144 : Bool) (σ : Nat → Value) (w : World) => agree σ [(0, v0), (1, v1), (2, v2), (12, v1), (13, (vi (p1.length : Int))), (14, (vi (k31 : Int))), (31, (vb s144))] ∧ Holds E w ([rd v0 p0, rd v1 p1] ++ Γ)) s144 ?_ ?_
  ·rcases Bool.eq_false_or_eq_true (decide ((k31 : Int) > 0)) with hg145 | hg145
   rotate_left
   ·replace hj := cF hg145 hj
    refine RC.drw mixed rfl (fun (D : Nat → Bool) (σ : Nat → Value) (w : World) => doneV D σ [(0, 32, (vi (k31 : Int))), (1, 33, (vb (decide ((k31 : Int) > 0)))), (2, 34, (vb (decide ((k31 : Int) > 0)))), (3, 35, undef), (4, 36, undef), (5, 37, undef), (6, 38, undef), (7, 39, undef), (8, 40, undef), (9, 41, undef), (10, 42, undef), (11, 43, undef), (12, 44, (vb false)), (13, 31, (vb false))] ∧ agree σ [(0, v0), (1, v1), (2, v2), (7, (vi (k31 : Int))), (8, (vp b95 0)), (12, v1), (13, (vi (p1.length : Int))), (14, (vi (k31 : Int)))] ∧ Holds E w ([rd (str x92.Name) x92.Name, bx 48 b95 x92, rd v94 x92, pt v93 x92, rd v0 p0, rd v1 p1] ++ Γ)) ?_ ⟨?_, ?_, ?_, ?_, ?_, ?_, ?_, ?_, ?_, ?_, ?_, ?_, ?_, ?_, trivial⟩ ?_
    ·have hw := hw.drew
     exact ⟨doneV.none, ⟨rfl, rfl, rfl, rfl, rfl, rfl, rfl, rfl, trivial⟩, hw⟩
    ·rintro D σ w hD hdep hcl ⟨hv, ha, hw⟩
     obtain ⟨τ, rfl⟩ := (ac (ha.at 3 rfl) az).ups
     refine mv (vi (k31 : Int)) rfl rfl ?_
     refine RL.nil ?_
     exact ⟨rfl, hv.put 0 rfl rfl, ha.up rfl, hw⟩
    ·rintro D σ w hD hdep hcl ⟨hv, ha, hw⟩
     obtain ⟨τ, rfl⟩ := (ac (hv.at 0 rfl (hdep.1 rfl)) az).ups
     refine ic ((k31 : Int)) 0 rfl rfl rfl rfl ?_
     refine RL.nil ?_
     exact ⟨rfl, hv.put 1 rfl rfl, ha.up rfl, hw⟩
    ·rintro D σ w hD hdep hcl ⟨hv, ha, hw⟩
     obtain ⟨τ, rfl⟩ := (ac (hv.at 1 rfl (hdep.1 rfl)) az).ups
     refine mv (vb (decide ((k31 : Int) > 0))) rfl rfl ?_
     refine RL.nil ?_
     exact ⟨rfl, hv.put 2 rfl rfl, ha.up rfl, hw⟩
    ·rintro D σ w hD hdep hcl ⟨hv, ha, hw⟩
     obtain ⟨τ, rfl⟩ := (ac (hv.at 2 rfl (hdep.1 rfl)) (ac (ha.at 4 rfl) az)).ups
     refine sk rfl (.inl (cb hg145)) rfl ?_
     refine RL.nil ?_
     exact ⟨rfl, hv.put 3 rfl rfl, ha.up rfl, hw⟩
    ·rintro D σ w hD hdep hcl ⟨hv, ha, hw⟩
     obtain ⟨τ, rfl⟩ := (ac (hv.at 2 rfl (hdep.2.1 rfl)) (ac (hv.at 3 rfl (hdep.1 rfl)) az)).ups
     refine sk rfl (.inl (cb hg145)) rfl ?_
     refine RL.nil ?_
     exact ⟨rfl, hv.put 4 rfl rfl, ha.up rfl, hw⟩
    ·rintro D σ w hD hdep hcl ⟨hv, ha, hw⟩
     obtain ⟨τ, rfl⟩ := (ac (hv.at 2 rfl (hdep.1 rfl)) (ac (ha.at 1 rfl) az)).ups
     refine sk rfl (.inl (cb hg145)) rfl ?_
     refine RL.nil ?_
     exact ⟨rfl, hv.put 5 rfl rfl, ha.up rfl, hw⟩
    ·rintro D σ w hD hdep hcl ⟨hv, ha, hw⟩
     obtain ⟨τ, rfl⟩ := (ac (hv.at 2 rfl (hdep.1 rfl)) (ac (ha.at 3 rfl) az)).ups
     refine sk rfl (.inl (cb hg145)) rfl ?_
     refine RL.nil ?_
     exact ⟨rfl, hv.put 6 rfl rfl, ha.up rfl, hw⟩
    ·rintro D σ w hD hdep hcl ⟨hv, ha, hw⟩
     obtain ⟨τ, rfl⟩ := (ac (hv.at 2 rfl (hdep.2.1 rfl)) (ac (hv.at 6 rfl (hdep.1 rfl)) az)).ups
     refine sk rfl (.inl (cb hg145)) rfl ?_
     refine RL.nil ?_
     exact ⟨rfl, hv.put 7 rfl rfl, ha.up rfl, hw⟩
    ·rintro D σ w hD hdep hcl ⟨hv, ha, hw⟩
     obtain ⟨τ, rfl⟩ := (ac (hv.at 2 rfl (hdep.2.2.1 rfl)) (ac (hv.at 5 rfl (hdep.1 rfl)) (ac (hv.at 7 rfl (hdep.2.1 rfl)) az))).ups
     refine sk rfl (.inl (cb hg145)) rfl ?_
     refine RL.nil ?_
     exact ⟨rfl, hv.put 8 rfl rfl, ha.up rfl, hw⟩
    ·rintro D σ w hD hdep hcl ⟨hv, ha, hw⟩
     obtain ⟨τ, rfl⟩ := (ac (hv.at 2 rfl (hdep.2.1 rfl)) (ac (hv.at 8 rfl (hdep.1 rfl)) az)).ups
     refine sk rfl (.inl (cb hg145)) rfl ?_
     refine RL.nil ?_
     exact ⟨rfl, hv.put 9 rfl rfl, ha.up rfl, hw⟩
    ·rintro D σ w hD hdep hcl ⟨hv, ha, hw⟩
     obtain ⟨τ, rfl⟩ := (ac (hv.at 2 rfl (hdep.2.1 rfl)) (ac (hv.at 9 rfl (hdep.1 rfl)) az)).ups
     refine sk rfl (.inl (cb hg145)) rfl ?_
     refine RL.nil ?_
     exact ⟨rfl, hv.put 10 rfl rfl, ha.up rfl, hw⟩
    ·rintro D σ w hD hdep hcl ⟨hv, ha, hw⟩
     obtain ⟨τ, rfl⟩ := (ac (hv.at 2 rfl (hdep.2.2.1 rfl)) (ac (hv.at 4 rfl (hdep.1 rfl)) (ac (hv.at 10 rfl (hdep.2.1 rfl)) az))).ups
     refine sk rfl (.inl (cb hg145)) rfl ?_
     refine RL.nil ?_
     exact ⟨rfl, hv.put 11 rfl rfl, ha.up rfl, hw⟩
    ·rintro D σ w hD hdep hcl ⟨hv, ha, hw⟩
     obtain ⟨τ, rfl⟩ := (ac (hv.at 2 rfl (hdep.1 rfl)) (ac (hv.at 11 rfl (hdep.2.1 rfl)) az)).ups
     refine RL.pick (b := (decide ((k31 : Int) > 0))) (v := (vb false)) trivial rfl rfl (by rw [hg145]; rfl) ?_
     refine RL.nil ?_
     exact ⟨rfl, hv.put 12 rfl rfl, ha.up rfl, hw⟩
    ·rintro D σ w hD hdep hcl ⟨hv, ha, hw⟩
     obtain ⟨τ, rfl⟩ := (ac (hv.at 12 rfl (hdep.1 rfl)) az).ups
     refine as_ (vb false) rfl rfl ?_
     refine RL.nil ?_
     exact ⟨rfl, hv.put 13 rfl rfl, ha.up rfl, hw⟩
    rintro D σ w hall ⟨hv, ha, hw⟩
    obtain ⟨τ, rfl⟩ := (ac (hv.at 13 rfl (hall 13 (by decide))) (ac (ha.at 0 rfl) (ac (ha.at 1 rfl) (ac (ha.at 2 rfl) (ac (ha.at 3 rfl) (ac (ha.at 4 rfl) (ac (ha.at 5 rfl) (ac (ha.at 6 rfl) (ac (ha.at 7 rfl) az))))))))).ups
    obtain rfl := oi hj
    exact ⟨rfl, ⟨rfl, rfl, rfl, rfl, rfl, rfl, rfl, trivial⟩, hw.pick 6 [4, 5] (new := [rd v0 p0, rd v1 p1]) rfl rfl (by decide) (by decide)⟩
   replace hj := cT hg145 hj
   obtain ⟨x146, hx146, hj⟩ := bd hj
   refine RC.drw mixed rfl (fun (D : Nat → Bool) (σ : Nat → Value) (w : World) => ∃ (v147 : Value) (v148 : Value), doneV D σ [(0, 32, (vi (k31 : Int))), (1, 33, (vb (decide ((k31 : Int) > 0)))), (2, 34, (vb (decide ((k31 : Int) > 0)))), (3, 35, (vp b95 0)), (4, 36, (str x92.Name)), (5, 37, v1), (6, 38, (vi (k31 : Int))), (7, 39, (vi (IntKind.wrap .i64 ((k31 : Int) - 1)))), (8, 40, v147), (9, 41, v148), (10, 42, (str x146.Name)), (11, 43, (vb (x92.Name.ltb x146.Name || x92.Name.eqb x146.Name))), (12, 44, (vb (x92.Name.ltb x146.Name || x92.Name.eqb x146.Name))), (13, 31, (vb (x92.Name.ltb x146.Name || x92.Name.eqb x146.Name)))] ∧ agree σ [(0, v0), (1, v1), (2, v2), (7, (vi (k31 : Int))), (8, (vp b95 0)), (12, v1), (13, (vi (p1.length : Int))), (14, (vi (k31 : Int)))] ∧ Holds E w ([bif D 8 then (pt v147 x146) else junk, bif D 9 then (pt v148 x146.Name) else junk, rd (str x92.Name) x92.Name, bx 48 b95 x92, rd v94 x92, pt v93 x92, rd v0 p0, rd v1 p1] ++ Γ)) ?_ ⟨?_, ?_, ?_, ?_, ?_, ?_, ?_, ?_, ?_, ?_, ?_, ?_, ?_, ?_, trivial⟩ ?_
   ·have hw := hw.drew
    have hw := hw.junk
    have hw := hw.junk
    exact ⟨undef, undef, doneV.none, ⟨rfl, rfl, rfl, rfl, rfl, rfl, rfl, rfl, trivial⟩, hw⟩
   ·rintro D σ w hD hdep hcl ⟨v147, v148, hv, ha, hw⟩
    obtain ⟨τ, rfl⟩ := (ac (ha.at 3 rfl) az).ups
    refine mv (vi (k31 : Int)) rfl rfl ?_
    refine RL.nil ?_
    exact ⟨rfl, v147, v148, hv.put 0 rfl rfl, ha.up rfl, hw⟩
   ·rintro D σ w hD hdep hcl ⟨v147, v148, hv, ha, hw⟩
    obtain ⟨τ, rfl⟩ := (ac (hv.at 0 rfl (hdep.1 rfl)) az).ups
    refine ic ((k31 : Int)) 0 rfl rfl rfl rfl ?_
    refine RL.nil ?_
    exact ⟨rfl, v147, v148, hv.put 1 rfl rfl, ha.up rfl, hw⟩
   ·rintro D σ w hD hdep hcl ⟨v147, v148, hv, ha, hw⟩
    obtain ⟨τ, rfl⟩ := (ac (hv.at 1 rfl (hdep.1 rfl)) az).ups
    refine mv (vb (decide ((k31 : Int) > 0))) rfl rfl ?_
    refine RL.nil ?_
    exact ⟨rfl, v147, v148, hv.put 2 rfl rfl, ha.up rfl, hw⟩
   ·rintro D σ w hD hdep hcl ⟨v147, v148, hv, ha, hw⟩
    obtain ⟨τ, rfl⟩ := (ac (hv.at 2 rfl (hdep.1 rfl)) (ac (ha.at 4 rfl) az)).ups
    refine RL.fa_b ⟨_, rfl, cb hg145⟩ rfl rfl fa48_0 ?_
    refine RL.nil ?_
    exact ⟨rfl, v147, v148, hv.put 3 rfl rfl, ha.up rfl, hw⟩
   ·rintro D σ w hD hdep hcl ⟨v147, v148, hv, ha, hw⟩
    obtain ⟨τ, rfl⟩ := (ac (hv.at 2 rfl (hdep.2.1 rfl)) (ac (hv.at 3 rfl (hdep.1 rfl)) az)).ups
    refine RL.load_bfs (i := 3) (f := (fun x => x.Name)) ⟨_, rfl, cb hg145⟩ rfl hw rfl rfl fd_Part_0 ty9 ?_
    refine RL.nil ?_
    exact ⟨rfl, v147, v148, hv.put 4 rfl rfl, ha.up rfl, hw⟩
   ·rintro D σ w hD hdep hcl ⟨v147, v148, hv, ha, hw⟩
    obtain ⟨τ, rfl⟩ := (ac (hv.at 2 rfl (hdep.1 rfl)) (ac (ha.at 1 rfl) az)).ups
    refine RL.move (v := v1) ⟨_, rfl, cb hg145⟩ rfl rfl ?_
    refine RL.nil ?_
    exact ⟨rfl, v147, v148, hv.put 5 rfl rfl, ha.up rfl, hw⟩
   ·rintro D σ w hD hdep hcl ⟨v147, v148, hv, ha, hw⟩
    obtain ⟨τ, rfl⟩ := (ac (hv.at 2 rfl (hdep.1 rfl)) (ac (ha.at 3 rfl) az)).ups
    refine RL.move (v := (vi (k31 : Int))) ⟨_, rfl, cb hg145⟩ rfl rfl ?_
    refine RL.nil ?_
    exact ⟨rfl, v147, v148, hv.put 6 rfl rfl, ha.up rfl, hw⟩
   ·rintro D σ w hD hdep hcl ⟨v147, v148, hv, ha, hw⟩
    obtain ⟨τ, rfl⟩ := (ac (hv.at 2 rfl (hdep.2.1 rfl)) (ac (hv.at 6 rfl (hdep.1 rfl)) az)).ups
    refine RL.iar (a := (k31 : Int)) (b := 1) ⟨_, rfl, cb hg145⟩ rfl rfl rfl rfl ?_
    refine RL.nil ?_
    exact ⟨rfl, v147, v148, hv.put 7 rfl rfl, ha.up rfl, hw⟩
   ·rintro D σ w hD hdep hcl ⟨v147, v148, hv, ha, hw⟩
    obtain ⟨τ, rfl⟩ := (ac (hv.at 2 rfl (hdep.2.2.1 rfl)) (ac (hv.at 5 rfl (hdep.1 rfl)) (ac (hv.at 7 rfl (hdep.2.1 rfl)) az))).ups
    have hw := hw.selF (i := 0) rfl hD
    refine RL.ia_rd (i := 7) ⟨_, rfl, cb hg145⟩ rfl hw rfl rfl rfl sl23 hx146 fun v149 hw => ?_
    have hw := hw.pick 9 [0, 2, 3, 4, 5, 6, 7, 8] (new := [pt v149 x146, bif D 9 then (pt v148 x146.Name) else junk, rd (str x92.Name) x92.Name, bx 48 b95 x92, rd v94 x92, pt v93 x92, rd v0 p0, rd v1 p1]) rfl rfl (by decide) (by decide)
    have hw := hw.altT (i := 0) (b := true) rfl rfl (junk)
    refine RL.nil ?_
    exact ⟨rfl, v149, v148, hv.put 8 rfl rfl, ha.up rfl, hw⟩
   ·rintro D σ w hD hdep hcl ⟨v147, v148, hv, ha, hw⟩
    obtain ⟨τ, rfl⟩ := (ac (hv.at 2 rfl (hdep.2.1 rfl)) (ac (hv.at 8 rfl (hdep.1 rfl)) az)).ups
    have hw := hw.selT (i := 0) rfl (hdep.1 rfl)
    have hw := hw.selF (i := 1) rfl hD
    refine RL.fa_pt (i := 0) (f := fun (x : Part) => x.Name) ⟨_, rfl, cb hg145⟩ rfl hw rfl rfl fa48_0 fd_Part_0 fun v150 hw => ?_
    have hw := hw.pick 9 [1, 0, 3, 4, 5, 6, 7, 8] (new := [pt v147 x146, pt v150 x146.Name, rd (str x92.Name) x92.Name, bx 48 b95 x92, rd v94 x92, pt v93 x92, rd v0 p0, rd v1 p1]) rfl rfl (by decide) (by decide)
    have hw := hw.altT (i := 0) (b := D 8) rfl (hdep.1 rfl) (junk)
    have hw := hw.altT (i := 1) (b := true) rfl rfl (junk)
    refine RL.nil ?_
    exact ⟨rfl, v147, v150, hv.put 9 rfl rfl, ha.up rfl, hw⟩
   ·rintro D σ w hD hdep hcl ⟨v147, v148, hv, ha, hw⟩
    obtain ⟨τ, rfl⟩ := (ac (hv.at 2 rfl (hdep.2.1 rfl)) (ac (hv.at 9 rfl (hdep.1 rfl)) az)).ups
    have hw := hw.selT (i := 1) rfl (hdep.1 rfl)
    refine RL.load_pts (i := 1) (y := x146.Name) ⟨_, rfl, cb hg145⟩ rfl hw rfl rfl ty9 ?_
    have hw := hw.altT (i := 1) (b := D 9) rfl (hdep.1 rfl) (junk)
    refine RL.nil ?_
    exact ⟨rfl, v147, v148, hv.put 10 rfl rfl, ha.up rfl, hw⟩
   ·rintro D σ w hD hdep hcl ⟨v147, v148, hv, ha, hw⟩
    obtain ⟨τ, rfl⟩ := (ac (hv.at 2 rfl (hdep.2.2.1 rfl)) (ac (hv.at 4 rfl (hdep.1 rfl)) (ac (hv.at 10 rfl (hdep.2.1 rfl)) az))).ups
    refine RL.scmp (a := x92.Name) (b := x146.Name) ⟨_, rfl, cb hg145⟩ rfl rfl rfl rfl ?_
    refine RL.nil ?_
    exact ⟨rfl, v147, v148, hv.put 11 rfl rfl, ha.up rfl, hw⟩
   ·rintro D σ w hD hdep hcl ⟨v147, v148, hv, ha, hw⟩
    obtain ⟨τ, rfl⟩ := (ac (hv.at 2 rfl (hdep.1 rfl)) (ac (hv.at 11 rfl (hdep.2.1 rfl)) az)).ups
    refine RL.pick (b := (decide ((k31 : Int) > 0))) (v := (vb (x92.Name.ltb x146.Name || x92.Name.eqb x146.Name))) trivial rfl rfl (by rw [hg145]; rfl) ?_
    refine RL.nil ?_
    exact ⟨rfl, v147, v148, hv.put 12 rfl rfl, ha.up rfl, hw⟩
   ·rintro D σ w hD hdep hcl ⟨v147, v148, hv, ha, hw⟩
    obtain ⟨τ, rfl⟩ := (ac (hv.at 12 rfl (hdep.1 rfl)) az).ups
    refine as_ (vb (x92.Name.ltb x146.Name || x92.Name.eqb x146.Name)) rfl rfl ?_
    refine RL.nil ?_
    exact ⟨rfl, v147, v148, hv.put 13 rfl rfl, ha.up rfl, hw⟩
   rintro D σ w hall ⟨v147, v148, hv, ha, hw⟩
   rw [hall 8 (by decide), hall 9 (by decide)] at hw
   obtain ⟨τ, rfl⟩ := (ac (hv.at 13 rfl (hall 13 (by decide))) (ac (ha.at 0 rfl) (ac (ha.at 1 rfl) (ac (ha.at 2 rfl) (ac (ha.at 3 rfl) (ac (ha.at 4 rfl) (ac (ha.at 5 rfl) (ac (ha.at 6 rfl) (ac (ha.at 7 rfl) az))))))))).ups
   obtain rfl := oi hj
   exact ⟨rfl, ⟨rfl, rfl, rfl, rfl, rfl, rfl, rfl, trivial⟩, hw.pick 8 [6, 7] (new := [rd v0 p0, rd v1 p1]) rfl rfl (by decide) (by decide)⟩
  rintro σ w ⟨ha, hw⟩
  obtain ⟨τ, rfl⟩ := ha.ups
  refine thenQ_n ?_
  refine RC.cond (b := s144) rfl (fun hc => ?_) (fun hc => ?_)
  rotate_left
  ·replace hb := cF hc hb
   refine RC.skip ?_
   refine blkQ_n ?_
   refine blkQ_n ?_
   refine thenQ_n ?_
   refine RC.region ?_
   refine RL.inc trivial rfl hk hm rfl rfl ?_
   refine mv (vi ((k31 + 1 : Nat) : Int)) rfl rfl ?_
   refine RL.nil ?_
   obtain rfl := oi hb
   exact ⟨rfl, ⟨rfl, rfl, rfl, rfl, rfl, rfl, trivial⟩, hw.pick 2 [0, 1] (new := [rd v0 p0, rd v1 p1]) rfl rfl (by decide) (by decide)⟩
  replace hb := cT hc hb
  refine RC.sr ?_
  refine as_ (vi 8) rfl rfl ?_
  refine RL.nt ?_
  refine RC.rb ?_
  refine blkQ_r ?_
  refine thenQ_r ?_
  obtain rfl := oi hb
  exact ⟨rfl, fin1 rfl rfl ⟨rfl, hw.drop 2 rfl⟩⟩
 ·intro r σ w e hK
  subst e
  refine thenQ_r ?_
  obtain rfl := oi hb
  exact hK
 intro s32 σ w e hJ
 subst e
 rw [Fo.cs_go] at hb
 obtain ⟨ha, hw⟩ := hJ
 obtain ⟨τ, rfl⟩ := ha.ups
 refine thenQ_n ?_
 refine RC.sr ?_
 refine as_ (vi 0) rfl rfl ?_
 refine RL.nt ?_
 refine RC.ret ?_
 obtain rfl := oi hb
 exact fin1 rfl rfl ⟨rfl, hw.drop 2 rfl⟩
def stringslite_Index_R (E : World) (Γ : List HP) (res : Int) (v : Value) (w : World) : Prop := v = (vi res) ∧ Holds E w Γ
theorem stringslite_Index_ok (N : Nat) {E w : World} {Γ : List HP} {p0 : Str} {p1 : Str} {res : Int} (hw : Holds E w Γ)  (hb : stringslite_Index N p0 p1 = some res) :
    Calls Tryz.prog 105 [(str p0), (str p1)].toArray w (Ret (stringslite_Index_R E Γ res)) := by
 unfold stringslite_Index at hb
 refine enter Tryz.func105 rfl rfl (Nat.le_of_ble_eq_true rfl) ?_
 refine RC.sr ?_
 refine as_ (vi 0) rfl rfl ?_
 refine RL.ns ?_
 refine mv (str p1) rfl rfl ?_
 refine RL.lens (s := p1) trivial rfl rfl un9 ?_
 refine as_ (vi (p1.toL.length : Int)) rfl rfl ?_
 refine RL.nq ?_
 refine RC.bs ?_
 refine mv (vi (p1.toL.length : Int)) rfl rfl ?_
 refine ic ((p1.toL.length : Int)) 0 rfl rfl rfl rfl ?_
 refine mv (vb ((p1.toL.length : Int) == 0)) rfl rfl ?_
 refine RL.gs (c := true) (b := ((p1.toL.length : Int) == 0)) (v := (str p1)) rfl rfl rfl (gs_move rfl (fun _ => rfl)) ?_
 refine RL.gs (c := true) (b := ((p1.toL.length : Int) == 0)) (v := (str p0)) rfl rfl rfl (gs_move rfl (fun _ => rfl)) ?_
 refine RL.gs (c := true) (b := ((p1.toL.length : Int) == 0)) (v := (vb (p1.eqb p0))) rfl rfl rfl (gs_scmp (bop := .eql) (a := p1) (b := p0) rfl (fun h => by exact (cv_t h : cv (true && (((p1.toL.length : Int) == 0) == false)) (str p1) = (str p1))) (fun h => by exact (cv_t h : cv (true && (((p1.toL.length : Int) == 0) == false)) (str p0) = (str p0))) rfl) ?_
 refine RL.pick (b := ((p1.toL.length : Int) == 0)) (v := (vb (((p1.toL.length : Int) == 0) || (p1.eqb p0)))) trivial rfl rfl (pk_or (c := true) rfl) ?_
 refine as_ (vb (((p1.toL.length : Int) == 0) || (p1.eqb p0))) rfl rfl ?_
 refine RL.nt ?_
 refine RC.cond (b := (((p1.toL.length : Int) == 0) || (p1.eqb p0))) rfl (fun hc => ?_) (fun hc => ?_)
 ·replace hb := cT hc hb
  refine RC.sr ?_
  refine as_ (vi 0) rfl rfl ?_
  refine RL.nt ?_
  refine RC.rb ?_
  refine thenQ_r ?_
  obtain rfl := oi hb
  exact fin1 rfl rfl ⟨rfl, hw.drop 0 rfl⟩
 replace hb := cF hc hb
 refine RC.sr ?_
 refine mv (vi (p1.toL.length : Int)) rfl rfl ?_
 refine ic ((p1.toL.length : Int)) 1 rfl rfl rfl rfl ?_
 refine as_ (vb ((p1.toL.length : Int) == 1)) rfl rfl ?_
 refine RL.nt ?_
 refine RC.cond (b := ((p1.toL.length : Int) == 1)) rfl (fun hc => ?_) (fun hc => ?_)
 ·replace hb := cT hc hb
  refine RC.sr ?_
  refine mv (str p0) rfl rfl ?_
  refine mv (str p1) rfl rfl ?_
  obtain ⟨x37, hx37, hb⟩ := bd hb
  refine RL.idxs (s := p1) (i := 0) (c := x37) trivial rfl rfl rfl un9 hx37 ?_
  obtain ⟨x38, hx38, hb⟩ := bd hb
  refine RL.call trivial rfl fn93 [(str p0), (.int .u8 (x37.toNat : Int))] rfl (Calls_ret (stringslite_IndexByte_ok N (p0 := p0) (p1 := (x37.toNat : Int))  hw  hx38) ?_)
  rintro _ w ⟨rfl, hw⟩
  refine as_ (vi x38) rfl rfl ?_
  refine RL.nt ?_
  refine RC.rb ?_
  refine thenQ_r ?_
  obtain rfl := oi hb
  exact fin1 rfl rfl ⟨rfl, hw.drop 0 rfl⟩
 replace hb := cF hc hb
 refine RC.sr ?_
 refine mv (vi (p1.toL.length : Int)) rfl rfl ?_
 refine mv (str p0) rfl rfl ?_
 refine RL.lens (s := p0) trivial rfl rfl un9 ?_
 refine ic ((p1.toL.length : Int)) ((p0.toL.length : Int)) rfl rfl rfl rfl ?_
 refine as_ (vb (decide ((p1.toL.length : Int) ≥ (p0.toL.length : Int)))) rfl rfl ?_
 refine RL.nt ?_
 refine RC.cond (b := (decide ((p1.toL.length : Int) ≥ (p0.toL.length : Int)))) rfl (fun hc => ?_) (fun hc => ?_)
 rotate_left
 ·replace hb := cF hc hb
  cases hb
 replace hb := cT hc hb
 refine RC.sr ?_
 refine as_ (vi (-1)) rfl rfl ?_
 refine RL.nt ?_
 refine RC.rb ?_
 refine thenQ_r ?_
 obtain rfl := oi hb
 exact fin1 rfl rfl ⟨rfl, hw.drop 0 rfl⟩
def strings_Index_R (E : World) (Γ : List HP) (res : Int) (v : Value) (w : World) : Prop := v = (vi res) ∧ Holds E w Γ
theorem strings_Index_ok (N : Nat) {E w : World} {Γ : List HP} {p0 : Str} {p1 : Str} {res : Int} (hw : Holds E w Γ)  (hb : strings_Index N p0 p1 = some res) :
    Calls Tryz.prog 97 [(str p0), (str p1)].toArray w (Ret (strings_Index_R E Γ res)) := by
 unfold strings_Index at hb
 refine enter Tryz.func97 rfl rfl (Nat.le_of_ble_eq_true rfl) ?_
 refine RC.sr ?_
 refine as_ (vi 0) rfl rfl ?_
 refine RL.ns ?_
 refine mv (str p0) rfl rfl ?_
 refine mv (str p1) rfl rfl ?_
 obtain ⟨x31, hx31, hb⟩ := bd hb
 refine RL.call trivial rfl fn105 [(str p0), (str p1)] rfl (Calls_ret (stringslite_Index_ok N (p0 := p0) (p1 := p1)  hw  hx31) ?_)
 rintro _ w ⟨rfl, hw⟩
 refine as_ (vi x31) rfl rfl ?_
 refine RL.nt ?_
 refine RC.ret ?_
 obtain rfl := oi hb
 exact fin1 rfl rfl ⟨rfl, hw.drop 0 rfl⟩
def strings_Count_R (E : World) (Γ : List HP) (res : Int) (v : Value) (w : World) : Prop := v = (vi res) ∧ Holds E w Γ
def strings_Count_K (E : World) (Γ : List HP) (r : Int) (σ : Nat → Value) (w : World) : Prop := finQ Tryz.prog 34 Tryz.f96 (strings_Count_R E Γ r) .ret σ w
theorem strings_Count_ok (N : Nat) {E w : World} {Γ : List HP} {p0 : Str} {p1 : Str} {res : Int} (hw : Holds E w Γ)  (hb : strings_Count N p0 p1 = some res) :
    Calls Tryz.prog 96 [(str p0), (str p1)].toArray w (Ret (strings_Count_R E Γ res)) := by
 unfold strings_Count at hb
 refine enter Tryz.func96 rfl rfl (Nat.le_of_ble_eq_true rfl) ?_
 refine RC.sr ?_
 refine as_ (vi 0) rfl rfl ?_
 refine RL.nq ?_
 refine RC.sr ?_
 refine mv (str p1) rfl rfl ?_
 refine RL.lens (s := p1) trivial rfl rfl un9 ?_
 refine ic ((p1.toL.length : Int)) 0 rfl rfl rfl rfl ?_
 refine RL.nt ?_
 refine RC.cond (b := ((p1.toL.length : Int) == 0)) rfl (fun hc => ?_) (fun hc => ?_)
 ·replace hb := cT hc hb
  cases hb
 replace hb := cF hc hb
 refine RC.ss ?_
 refine RC.sr ?_
 refine mv (str p1) rfl rfl ?_
 refine RL.lens (s := p1) trivial rfl rfl un9 ?_
 refine ic ((p1.toL.length : Int)) 1 rfl rfl rfl rfl ?_
 refine RL.nt ?_
 refine RC.cond (b := ((p1.toL.length : Int) == 1)) rfl (fun hc => ?_) (fun hc => ?_)
 ·replace hb := cT hc hb
  refine RC.sr ?_
  refine mv (str p0) rfl rfl ?_
  refine mv (str p1) rfl rfl ?_
  obtain ⟨x32, hx32, hb⟩ := bd hb
  refine RL.idxs (s := p1) (i := 0) (c := x32) trivial rfl rfl rfl un9 hx32 ?_
  refine RL.xcall (v := (vi ((Lib.countByte p0.toL (Int.toNat (x32.toNat : Int)).toUInt8 : Nat) : Int))) trivial rfl [(str p0), (.int .u8 (x32.toNat : Int))] rfl (x104 p0 (x32.toNat : Int) w) ?_
  refine as_ (vi ((Lib.countByte p0.toL (Int.toNat (x32.toNat : Int)).toUInt8 : Nat) : Int)) rfl rfl ?_
  refine RL.nt ?_
  refine RC.rt ?_
  obtain rfl := oi hb
  exact fin1 rfl rfl ⟨rfl, hw.drop 0 rfl⟩
 replace hb := cF hc hb
 refine RC.sx ?_
 refine as_ (vi 0) rfl rfl ?_
 refine RL.nt ?_
 obtain ⟨o41, hN, hb⟩ := bd hb
 refine RC.iter (fun (s34 : Str × Int) (σ : Nat → Value) (w : World) => agree σ [(0, (str s34.1)), (1, (str p1)), (4, (vi 0)), (5, (vi s34.2))] ∧ Holds E w ([] ++ Γ)) (fun (s34 : Str × Int) (σ : Nat → Value) (w : World) => agree σ [(4, (vi 0))] ∧ Holds E w ([] ++ Γ)) (strings_Count_K E Γ) hN ?_ ?_ ?_ ?_ 
 ·exact ⟨⟨rfl, rfl, rfl, rfl, trivial⟩, hw.pick 0 [] (new := []) rfl rfl (by decide) (by decide)⟩
 ·intro s34 fl σ w hI hb
  obtain ⟨ha, hw⟩ := hI
  obtain ⟨τ, rfl⟩ := ha.ups
  refine RC.bs ?_
  refine mv (str s34.1) rfl rfl ?_
  refine mv (str p1) rfl rfl ?_
  obtain ⟨x39, hx39, hb⟩ := bd hb
  refine RL.call trivial rfl fn97 [(str s34.1), (str p1)] rfl (Calls_ret (strings_Index_ok N (p0 := s34.1) (p1 := p1)  hw  hx39) ?_)
  rintro _ w ⟨rfl, hw⟩
  refine as_ (vi x39) rfl rfl ?_
  refine RL.nq ?_
  refine RC.sr ?_
  refine mv (vi x39) rfl rfl ?_
  refine ic x39 ((-1)) rfl rfl rfl rfl ?_
  refine RL.nt ?_
  refine RC.cond (b := (x39 == (-1))) rfl (fun hc => ?_) (fun hc => ?_)
  ·replace hb := cT hc hb
   refine RC.sr ?_
   refine mv (vi s34.2) rfl rfl ?_
   refine as_ (vi s34.2) rfl rfl ?_
   refine RL.nt ?_
   refine RC.rt ?_
   refine blkQ_r ?_
   obtain rfl := oi hb
   exact ⟨rfl, fin1 rfl rfl ⟨rfl, hw.drop 0 rfl⟩⟩
  replace hb := cF hc hb
  refine RC.sx ?_
  refine mv (vi s34.2) rfl rfl ?_
  refine RL.iar (a := s34.2) (b := 1) trivial rfl rfl rfl rfl ?_
  refine as_ (vi (IntKind.wrap .i64 (s34.2 + 1))) rfl rfl ?_
  refine RL.nt ?_
  refine RC.region ?_
  refine mv (str s34.1) rfl rfl ?_
  refine mv (vi x39) rfl rfl ?_
  refine mv (str p1) rfl rfl ?_
  refine RL.lens (s := p1) trivial rfl rfl un9 ?_
  refine RL.iar (a := x39) (b := (p1.toL.length : Int)) trivial rfl rfl rfl rfl ?_
  obtain ⟨x40, hx40, hb⟩ := bd hb
  refine RL.scut (s := s34.1) trivial rfl rfl un9 (.inl rfl) (.inr ⟨rfl, rfl⟩) hx40 ?_
  refine as_ (str x40) rfl rfl ?_
  refine RL.nil ?_
  refine blkQ_n ?_
  obtain rfl := oi hb
  exact ⟨rfl, ⟨rfl, rfl, rfl, rfl, trivial⟩, hw.pick 0 [] (new := []) rfl rfl (by decide) (by decide)⟩
 ·intro r σ w e hK
  subst e
  obtain rfl := oi hb
  exact hK
 intro s34 σ w e hJ
 subst e
 rw [Fo.cs_go] at hb
 obtain ⟨ha, hw⟩ := hJ
 obtain ⟨τ, rfl⟩ := ha.ups
 obtain rfl := oi hb
 refine fin_n ?_
 exact fin1 rfl rfl ⟨rfl, hw.drop 0 rfl⟩
def strings_genSplit_R (E : World) (Γ : List HP) (res : (List Str)) (v : Value) (w : World) : Prop := Holds E w (own 9 v res :: Γ)
theorem strings_genSplit_ok (N : Nat) {E w : World} {Γ : List HP} {p0 : Str} {p1 : Str} {p2 : Int} {p3 : Int} {res : (List Str)} (hw : Holds E w Γ)  (hb : strings_genSplit N p0 p1 p2 p3 = some res) :
    Calls Tryz.prog 76 [(str p0), (str p1), (vi p2), (vi p3)].toArray w (Ret (strings_genSplit_R E Γ res)) := by
 unfold strings_genSplit at hb
 refine enter Tryz.func76 rfl rfl (Nat.le_of_ble_eq_true rfl) ?_
 refine RC.sr ?_
 refine as_ (.slice none 0 0) rfl rfl ?_
 refine RL.nq ?_
 refine RC.sr ?_
 refine mv (vi p3) rfl rfl ?_
 refine ic p3 0 rfl rfl rfl rfl ?_
 refine RL.nt ?_
 refine RC.cond (b := (p3 == 0)) rfl (fun hc => ?_) (fun hc => ?_)
 ·replace hb := cT hc hb
  refine RC.sr ?_
  refine as_ (.slice none 0 0) rfl rfl ?_
  refine RL.nt ?_
  refine RC.rt ?_
  obtain rfl := oi hb
  have hw := hw.own_nil Str 9
  exact fin1 rfl rfl (hw.pick 1 [0] (new := [own 9 (.slice none 0 0) ([] : (List Str))]) rfl rfl (by decide) (by decide))
 replace hb := cF hc hb
 refine RC.ss ?_
 refine RC.sr ?_
 refine mv (str p1) rfl rfl ?_
 refine RL.scmp (a := p1) (b := ⟨[]⟩) trivial rfl rfl rfl rfl ?_
 refine RL.nt ?_
 refine RC.cond (b := (p1.eqb (⟨[]⟩))) rfl (fun hc => ?_) (fun hc => ?_)
 ·replace hb := cT hc hb
  cases hb
 replace hb := cF hc hb
 refine RC.ss ?_
 refine RC.sr ?_
 refine mv (vi p3) rfl rfl ?_
 refine ic p3 0 rfl rfl rfl rfl ?_
 refine RL.nt ?_
 obtain ⟨s32, hj, hb⟩ := bd hb
 refine RC.jn (fun (s32 : Int) (σ : Nat → Value) (w : World) => agree σ [(0, (str p0)), (1, (str p1)), (2, (vi p2)), (3, (vi s32))] ∧ Holds E w ([] ++ Γ)) s32 ?_ ?_
 ·refine RC.cond (b := (decide (p3 < 0))) rfl (fun hc => ?_) (fun hc => ?_)
  rotate_left
  ·replace hj := cF hc hj
   refine RC.skip ?_
   obtain rfl := oi hj
   exact ⟨rfl, ⟨rfl, rfl, rfl, rfl, trivial⟩, hw.pick 0 [] (new := []) rfl rfl (by decide) (by decide)⟩
  replace hj := cT hc hj
  refine RC.region ?_
  refine mv (str p0) rfl rfl ?_
  refine mv (str p1) rfl rfl ?_
  obtain ⟨x33, hx33, hj⟩ := bd hj
  refine RL.call trivial rfl fn96 [(str p0), (str p1)] rfl (Calls_ret (strings_Count_ok N (p0 := p0) (p1 := p1)  hw  hx33) ?_)
  rintro _ w ⟨rfl, hw⟩
  refine RL.iar (a := x33) (b := 1) trivial rfl rfl rfl rfl ?_
  refine as_ (vi (IntKind.wrap .i64 (x33 + 1))) rfl rfl ?_
  refine RL.nil ?_
  obtain rfl := oi hj
  exact ⟨rfl, ⟨rfl, rfl, rfl, rfl, trivial⟩, hw.pick 0 [] (new := []) rfl rfl (by decide) (by decide)⟩
 rintro σ w ⟨ha, hw⟩
 obtain ⟨τ, rfl⟩ := ha.ups
 refine thenQ_n ?_
 refine RC.sr ?_
 refine mv (vi s32) rfl rfl ?_
 refine mv (str p0) rfl rfl ?_
 refine RL.lens (s := p0) trivial rfl rfl un9 ?_
 refine RL.iar (a := (p0.toL.length : Int)) (b := 1) trivial rfl rfl rfl rfl ?_
 refine RL.min (a := s32) (b := (IntKind.wrap .i64 ((p0.toL.length : Int) + 1))) trivial rfl rfl rfl ?_
 refine as_ (vi (if (IntKind.wrap .i64 ((p0.toL.length : Int) + 1)) < s32 then (IntKind.wrap .i64 ((p0.toL.length : Int) + 1)) else s32)) rfl rfl ?_
 refine RL.ns ?_
 refine mv (vi (if (IntKind.wrap .i64 ((p0.toL.length : Int) + 1)) < s32 then (IntKind.wrap .i64 ((p0.toL.length : Int) + 1)) else s32)) rfl rfl ?_
 obtain ⟨x34, hx34, hb⟩ := bd hb
 refine RL.mk (k := (if (IntKind.wrap .i64 ((p0.toL.length : Int) + 1)) < s32 then (IntKind.wrap .i64 ((p0.toL.length : Int) + 1)) else s32)) trivial rfl hw rfl rfl el36 zd9 hx34 fun v35 w hw => ?_
 refine as_ v35 rfl rfl ?_
 refine RL.ns ?_
 refine mv (vi (if (IntKind.wrap .i64 ((p0.toL.length : Int) + 1)) < s32 then (IntKind.wrap .i64 ((p0.toL.length : Int) + 1)) else s32)) rfl rfl ?_
 refine RL.iar (a := (if (IntKind.wrap .i64 ((p0.toL.length : Int) + 1)) < s32 then (IntKind.wrap .i64 ((p0.toL.length : Int) + 1)) else s32)) (b := 1) trivial rfl rfl rfl rfl ?_
 refine as_ (vi (IntKind.wrap .i64 ((if (IntKind.wrap .i64 ((p0.toL.length : Int) + 1)) < s32 then (IntKind.wrap .i64 ((p0.toL.length : Int) + 1)) else s32) - 1))) rfl rfl ?_
 refine RL.ns ?_
 refine as_ (vi 0) rfl rfl ?_
 refine RL.nq ?_
 obtain ⟨o53, hN, hb⟩ := bd hb
 refine RC.iter (fun (s37 : Str × (List Str) × Int) (σ : Nat → Value) (w : World) => agree σ [(0, (str s37.1)), (1, (str p1)), (2, (vi p2)), (3, (vi (IntKind.wrap .i64 ((if (IntKind.wrap .i64 ((p0.toL.length : Int) + 1)) < s32 then (IntKind.wrap .i64 ((p0.toL.length : Int) + 1)) else s32) - 1)))), (9, v35), (10, (vi s37.2.2))] ∧ Holds E w ([own 9 v35 s37.2.1] ++ Γ)) (fun (s37 : Str × (List Str) × Int) (σ : Nat → Value) (w : World) => agree σ [(0, (str s37.1)), (9, v35), (10, (vi s37.2.2))] ∧ Holds E w ([own 9 v35 s37.2.1] ++ Γ)) (fun (r : Empty) (_ : Nat → Value) (_ : World) => r.elim) hN ?_ ?_ ?_ ?_ 
 ·exact ⟨⟨rfl, rfl, rfl, rfl, rfl, rfl, trivial⟩, hw.pick 1 [0] (new := [own 9 v35 x34]) rfl rfl (by decide) (by decide)⟩
 ·intro s37 fl σ w hI hb
  obtain ⟨ha, hw⟩ := hI
  obtain ⟨τ, rfl⟩ := ha.ups
  refine RC.seq ?_
  refine RC.sr ?_
  refine mv (vi s37.2.2) rfl rfl ?_
  refine mv (vi (IntKind.wrap .i64 ((if (IntKind.wrap .i64 ((p0.toL.length : Int) + 1)) < s32 then (IntKind.wrap .i64 ((p0.toL.length : Int) + 1)) else s32) - 1))) rfl rfl ?_
  refine ic (s37.2.2) ((IntKind.wrap .i64 ((if (IntKind.wrap .i64 ((p0.toL.length : Int) + 1)) < s32 then (IntKind.wrap .i64 ((p0.toL.length : Int) + 1)) else s32) - 1))) rfl rfl rfl rfl ?_
  refine RL.nt ?_
  refine RC.cond (b := (decide (s37.2.2 < (IntKind.wrap .i64 ((if (IntKind.wrap .i64 ((p0.toL.length : Int) + 1)) < s32 then (IntKind.wrap .i64 ((p0.toL.length : Int) + 1)) else s32) - 1))))) rfl (fun hc => ?_) (fun hc => ?_)
  rotate_left
  ·replace hb := cF hc hb
   refine RC.ex ?_
   obtain rfl := oi hb
   exact ⟨rfl, ⟨rfl, rfl, rfl, trivial⟩, hw.pick 1 [0] (new := [own 9 v35 s37.2.1]) rfl rfl (by decide) (by decide)⟩
  replace hb := cT hc hb
  refine RC.sn ?_
  refine RC.bs ?_
  refine mv (str s37.1) rfl rfl ?_
  refine mv (str p1) rfl rfl ?_
  obtain ⟨x46, hx46, hb⟩ := bd hb
  refine RL.call trivial rfl fn97 [(str s37.1), (str p1)] rfl (Calls_ret (strings_Index_ok N (p0 := s37.1) (p1 := p1)  hw  hx46) ?_)
  rintro _ w ⟨rfl, hw⟩
  refine as_ (vi x46) rfl rfl ?_
  refine RL.nq ?_
  refine RC.sr ?_
  refine mv (vi x46) rfl rfl ?_
  refine ic x46 0 rfl rfl rfl rfl ?_
  refine RL.nt ?_
  refine RC.cond (b := (decide (x46 < 0))) rfl (fun hc => ?_) (fun hc => ?_)
  ·replace hb := cT hc hb
   refine RC.ex ?_
   refine blkQ_x (by decide) ?_
   obtain rfl := oi hb
   exact ⟨rfl, ⟨rfl, rfl, rfl, trivial⟩, hw.pick 1 [0] (new := [own 9 v35 s37.2.1]) rfl rfl (by decide) (by decide)⟩
  replace hb := cF hc hb
  refine RC.sx ?_
  refine mv v35 rfl rfl ?_
  refine mv (vi s37.2.2) rfl rfl ?_
  refine mv (str s37.1) rfl rfl ?_
  refine mv (vi x46) rfl rfl ?_
  refine mv (vi p2) rfl rfl ?_
  refine RL.iar (a := x46) (b := p2) trivial rfl rfl rfl rfl ?_
  obtain ⟨x47, hx47, hb⟩ := bd hb
  refine RL.scut (s := s37.1) trivial rfl rfl un9 (.inr ⟨rfl, rfl⟩) (.inl rfl) hx47 ?_
  obtain ⟨x48, hx48, hb⟩ := bd hb
  refine RL.ia_ownA (i := 0) trivial rfl hw rfl rfl rfl sl36 hx48 ?_
  have hw := hw.sc (γ := Str) x47
  refine RL.store_el (i := 1) (j := 0) (f := (fun _ y => y)) trivial hw rfl rfl (elp hw (i := 1) rfl hx48 0) rfl (idx_some hx48).2.1 rfl Fs.self (by decide) ty9 fun w hw => ?_
  refine RL.ns ?_
  refine mv (str s37.1) rfl rfl ?_
  refine mv (vi x46) rfl rfl ?_
  refine mv (str p1) rfl rfl ?_
  refine RL.lens (s := p1) trivial rfl rfl un9 ?_
  refine RL.iar (a := x46) (b := (p1.toL.length : Int)) trivial rfl rfl rfl rfl ?_
  obtain ⟨x49, hx49, hb⟩ := bd hb
  refine RL.scut (s := s37.1) trivial rfl rfl un9 (.inl rfl) (.inr ⟨rfl, rfl⟩) hx49 ?_
  refine as_ (str x49) rfl rfl ?_
  refine RL.nt ?_
  refine RC.region ?_
  refine mv (vi s37.2.2) rfl rfl ?_
  refine RL.iar (a := s37.2.2) (b := 1) trivial rfl rfl rfl rfl ?_
  refine as_ (vi (IntKind.wrap .i64 (s37.2.2 + 1))) rfl rfl ?_
  refine RL.nil ?_
  refine blkQ_n ?_
  obtain rfl := oi hb
  exact ⟨rfl, ⟨rfl, rfl, rfl, rfl, rfl, rfl, trivial⟩, hw.pick 2 [1] (new := [own 9 v35 (s37.2.1.set (Int.toNat s37.2.2) x47)]) rfl rfl (by decide) (by decide)⟩
 ·intro r _ _ _ _
  exact r.elim
 intro s37 σ w e hJ
 subst e
 rw [Fo.cs_go] at hb
 obtain ⟨ha, hw⟩ := hJ
 obtain ⟨τ, rfl⟩ := ha.ups
 refine thenQ_n ?_
 refine RC.sr ?_
 refine mv v35 rfl rfl ?_
 refine mv (vi s37.2.2) rfl rfl ?_
 refine mv (str s37.1) rfl rfl ?_
 obtain ⟨x50, hx50, hb⟩ := bd hb
 refine RL.ia_ownA (i := 0) trivial rfl hw rfl rfl rfl sl36 hx50 ?_
 have hw := hw.sc (γ := Str) s37.1
 refine RL.store_el (i := 1) (j := 0) (f := (fun _ y => y)) trivial hw rfl rfl (elp hw (i := 1) rfl hx50 0) rfl (idx_some hx50).2.1 rfl Fs.self (by decide) ty9 fun w hw => ?_
 refine RL.ns ?_
 refine mv v35 rfl rfl ?_
 refine mv (vi s37.2.2) rfl rfl ?_
 refine RL.iar (a := s37.2.2) (b := 1) trivial rfl rfl rfl rfl ?_
 obtain ⟨x51, hx51, hb⟩ := bd hb
 refine RL.cut_own (i := 1) trivial rfl hw rfl rfl sl36 (.inr ⟨rfl, rfl⟩) (.inl rfl) hx51 fun v52 hw => ?_
 refine as_ v52 rfl rfl ?_
 refine RL.nt ?_
 refine RC.ret ?_
 obtain rfl := oi hb
 exact fin1 rfl rfl (hw.pick 2 [1] (new := [own 9 v52 x51]) rfl rfl (by decide) (by decide))
def strings_Split_R (E : World) (Γ : List HP) (res : (List Str)) (v : Value) (w : World) : Prop := Holds E w (own 9 v res :: Γ)
theorem strings_Split_ok (N : Nat) {E w : World} {Γ : List HP} {p0 : Str} {p1 : Str} {res : (List Str)} (hw : Holds E w Γ)  (hb : strings_Split N p0 p1 = some res) :
    Calls Tryz.prog 46 [(str p0), (str p1)].toArray w (Ret (strings_Split_R E Γ res)) := by
 unfold strings_Split at hb
 refine enter Tryz.func46 rfl rfl (Nat.le_of_ble_eq_true rfl) ?_
 refine RC.sr ?_
 refine as_ (.slice none 0 0) rfl rfl ?_
 refine RL.ns ?_
 refine mv (str p0) rfl rfl ?_
 refine mv (str p1) rfl rfl ?_
 obtain ⟨x31, hx31, hb⟩ := bd hb
 refine RL.call trivial rfl fn76 [(str p0), (str p1), (vi 0), (vi (-1))] rfl (Calls_ret (strings_genSplit_ok N (p0 := p0) (p1 := p1) (p2 := 0) (p3 := (-1))  hw  hx31) ?_)
 rintro v32 w hw
 refine as_ v32 rfl rfl ?_
 refine RL.nt ?_
 refine RC.ret ?_
 obtain rfl := oi hb
 exact fin1 rfl rfl (hw.pick 1 [0] (new := [own 9 v32 x31]) rfl rfl (by decide) (by decide))
end Go.Gk
