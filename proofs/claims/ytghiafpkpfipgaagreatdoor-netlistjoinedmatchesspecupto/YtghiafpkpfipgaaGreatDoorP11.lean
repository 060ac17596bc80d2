/-
  Plain laws: parts left out. No statement of the seed is proved here.
-/
import Derived.Test.YtghiafpkpfipgaaGreatDoorQ3
set_option linter.unusedVariables false
set_option linter.unusedSimpArgs false
set_option linter.unusedSectionVars false
namespace Go.Gk
open Go
section
variable {N : Nat}
def bareN (n : Net) : Net := ⟨n.Name, n.Pins, []⟩
theorem clonePart {l : List Part} (h : l.length ≤ 1048576) : slices_Clone_Part N l = some l := by
  unfold slices_Clone_Part; rw [app_some (by simp; omega)]; rfl
theorem cloneNet {l : List Net} (h : l.length ≤ 1048576) : slices_Clone_Net N l = some l := by
  unfold slices_Clone_Net; rw [app_some (by simp; omega)]; rfl
theorem clonePin {l : List Pin} (h : l.length ≤ 1048576) : slices_Clone_Pin N l = some l := by
  unfold slices_Clone_Pin; rw [app_some (by simp; omega)]; rfl
theorem Own_eq {x : Netlist} (h1 : x.Parts.length ≤ 1048576) (h2 : x.Nets.length ≤ 1048576) (h3 : ∀ n ∈ x.Nets, n.Pins.length ≤ 1048576) : netlist_Own N x = some (x.Parts, x.Nets.map bareN) := by
  unfold netlist_Own
  rw [clonePart h1, bnd_some, cloneNet h2, bnd_some]
  obtain ⟨s, a1, a2, a3⟩ := fld_inv (m := x.Nets.length) (s := x.Nets.map fun x => (false, x)) (body := fun (k48 : Nat) (s49 : (List (Bool × Net))) => ((idx s49 (k48 : Int)).bind fun (x141 : Bool × Net) => (ffq x141).bind fun (x148 : Net) => (slices_Clone_Pin N x148.Pins).bind fun (x149 : (List Pin)) => (idx s49 (k48 : Int)).bind fun (x151 : Bool × Net) => (idx (s49.set (Int.toNat (k48 : Int)) (true, { x151.2 with Pins := x149 })) (k48 : Int)).bind fun (x158 : Bool × Net) => some ((s49.set (Int.toNat (k48 : Int)) (true, { x151.2 with Pins := x149 })).set (Int.toNat (k48 : Int)) (x158.1, { x158.2 with Ports := ([] : (List Str)) })) : Option ((List (Bool × Net)))))
    (fun k s => s.length = x.Nets.length ∧ ∀ (i : Nat) (n : Net), x.Nets[i]? = some n → s[i]? = some (if i < k then (true, bareN n) else (false, n))) (by omega) ⟨by simp, fun i n hn => by rw [List.getElem?_map, hn]; rfl⟩ (fun k s hk ⟨i1, i2⟩ => by
      have hx : x.Nets[k]? = some x.Nets[k] := List.getElem?_eq_getElem hk
      have hs := i2 k _ hx
      rw [if_neg (by omega)] at hs
      rw [idx_at hs, bnd_some]
      have e : ffq (false, x.Nets[k]) = some x.Nets[k] := rfl
      rw [e, bnd_some, clonePin (h3 _ (List.getElem_mem hk)), bnd_some, bnd_some, Int.toNat_natCast]
      have hs2 : (s.set k (true, { x.Nets[k] with Pins := x.Nets[k].Pins }))[k]? = some (true, x.Nets[k]) := by rw [List.getElem?_set, if_pos rfl, if_pos (by omega)]
      rw [idx_at hs2, bnd_some]
      refine ⟨_, rfl, by simp [i1], fun i n hn => ?_⟩
      rw [List.getElem?_set]
      by_cases e : k = i
      · subst e
        rw [if_pos rfl, if_pos (by simp; omega), if_pos (by omega)]
        rw [hx] at hn; injection hn with hn; subst hn; rfl
      · rw [if_neg e, List.getElem?_set, if_neg e, i2 i n hn]
        by_cases h : i < k
        · rw [if_pos h, if_pos (by omega)]
        · rw [if_neg h, if_neg (by omega)])
  have hs : s = x.Nets.map (fun n => (true, bareN n)) := by
    apply List.ext_getElem?
    intro i
    rw [List.getElem?_map]
    cases hn : x.Nets[i]? with
    | none =>
      have : x.Nets.length ≤ i := by simpa using hn
      rw [List.getElem?_eq_none (by omega)]; rfl
    | some n =>
      have := (List.getElem?_eq_some_iff.1 hn).1
      rw [a3 i n hn, if_pos this]; rfl
  rw [a1, bnd_some, hs]
  have : allT (x.Nets.map (fun n => (true, bareN n))) = some (x.Nets.map bareN) := by
    unfold allT
    rw [if_pos (by rw [List.all_eq_true]; intro p hp; obtain ⟨n, _, rfl⟩ := List.mem_map.1 hp; rfl), List.map_map]
    rfl
  rw [this, bnd_some]
/-! ### The reference -/
/-! ### Left out in two portions -/
end
end Go.Gk
