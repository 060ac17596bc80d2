/-
  Printed by gen.py: Go functions as plain functions, and that they are.
-/
import Derived.Test.YtnjoaggeheokeaaDoorT
set_option linter.unusedVariables false
set_option linter.unusedSimpArgs false
set_option linter.unusedSectionVars false
set_option maxRecDepth 100000
set_option maxHeartbeats 4000000

namespace Go.Gk
open Go Go.Proofs
def slices_Clone_Pin_R (E : World) (Γ : List HP) (res : (List Pin)) (v : Value) (w : World) : Prop := Holds E w (own 28 v res :: Γ)
def slices_Clone_Pin_K (E : World) (Γ : List HP) (r : (List Pin)) (σ : Nat → Value) (w : World) : Prop := finQ Tryd.prog 8 Tryd.f55 (slices_Clone_Pin_R E Γ r) .ret σ w
theorem slices_Clone_Pin_ok (N : Nat) {E w : World} {Γ : List HP} {i0 : Nat} {v0 : Value} {p0 : (List Pin)} {res : (List Pin)} (hw : Holds E w Γ) (h0 : Γ[i0]? = some (rd v0 p0)) (hb : slices_Clone_Pin N p0 = some res) :
    Calls Tryd.prog 55 [v0].toArray w (Ret (slices_Clone_Pin_R E Γ res)) := by
 unfold slices_Clone_Pin at hb
 refine enter Tryd.func55 rfl rfl (Nat.le_of_ble_eq_true rfl) ?_
 have hw := hw.dup (i := i0 + 0) h0
 refine RC.sr ?_
 refine as_ (.slice none 0 0) rfl rfl ?_
 refine RL.nq ?_
 refine RC.sr ?_
 refine mv v0 rfl rfl ?_
 refine RL.eqnil (i := 0) trivial rfl hw rfl rfl rfl un33 ?_
 refine RL.nt ?_
 refine RC.cond (b := (nilV v0)) rfl (fun hc => ?_) (fun hc => ?_)
 ·have hx := hw.nilx (i := 0) rfl hc
  rw [hx] at hb
  replace hb : some ([] : (List Pin)) = _ := hb
  refine RC.sr ?_
  refine as_ (.slice none 0 0) rfl rfl ?_
  refine RL.nt ?_
  refine RC.rt ?_
  obtain rfl := oi hb
  have hw := hw.own_nil Pin 28
  exact fin1 rfl rfl (hw.pick 2 [0] (new := [own 28 (.slice none 0 0) ([] : (List Pin))]) rfl rfl (by decide) (by decide))
 refine RC.sx ?_
 refine RL.bslice (l := ([] : (List Pin))) trivial rfl hw [] rfl rfl rfl sl33 ze28 (fun M hs g => trivial) fun v31 w hw => ?_
 refine mv v0 rfl rfl ?_
 obtain ⟨x32, hx32, hb⟩ := bd hb
 refine RL.app (i := 0) (j := 1) trivial rfl hw rfl rfl rfl rfl el33 hx32 fun v33 w hw => ?_
 refine as_ v33 rfl rfl ?_
 refine RL.nt ?_
 refine RC.ret ?_
 obtain rfl := oi hb
 exact fin1 rfl rfl (hw.pick 2 [0] (new := [own 28 v33 x32]) rfl rfl (by decide) (by decide))
end Go.Gk
