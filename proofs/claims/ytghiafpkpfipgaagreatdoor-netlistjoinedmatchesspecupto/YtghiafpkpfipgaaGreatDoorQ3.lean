/-
  Plain laws: names in order, what makes a list right, elements left out. No statement of the seed is proved here.
-/
import Derived.Test.YtghiafpkpfipgaaGreatDoorP5
set_option linter.unusedVariables false
set_option linter.unusedSimpArgs false
set_option linter.unusedSectionVars false
namespace Go.Gk
open Go
section
variable {N : Nat}
/-! ### Names in order -/
theorem NetAt_eq {x : Netlist} {s : Str} (hs : Sorted Net.Name x.Nets) (hl : x.Nets.length ≤ 1048576) (hN : 4194304 ≤ N) : netlist_NetAt N x s = some (nat? Net.Name x.Nets s) := by
  obtain ⟨r, h1, h2⟩ := gBSF_eq (N := N) (key := Net.Name) (l := x.Nets) (s := s) (φ := netlist_NetAt_c1 N) (fun y => rfl) hs hl hN
  unfold netlist_NetAt
  rw [← h2]
  show (gBSF N x.Nets s (netlist_NetAt_c1 N)).bind _ = _
  rw [h1]; rfl
theorem netNamed_eq {x : Netlist} {s : Str} (hl : x.Nets.length ≤ 1048576) : etchhouseref2_netNamed N x s = some (nat? Net.Name x.Nets s) := gScan_eq (by omega)
theorem Equal_str {l m : List Str} (hl : l.length ≤ 4611686018427387904) : slices_Equal_string N l m = some (decide (l = m)) := by
  have h := gEqual_eq (l := l) (m := m) hl
  have e : slices_Equal_string N l m = gEqual l m := by
    unfold slices_Equal_string gEqual
    simp only [eqb_dec]
  rw [e, h]

theorem Same_self {x : Netlist} (h1 : x.Parts.length ≤ 1048576) (h2 : x.Nets.length ≤ 1048576) (h3 : ∀ n ∈ x.Nets, n.Pins.length ≤ 1048576 ∧ n.Ports.length ≤ 1048576) : etchhouseref2_Same N x x = some true := by
  unfold etchhouseref2_Same
  have e1 : slices_Equal_Part N x.Parts x.Parts = some true := by
    have := gEqual_eq (l := x.Parts) (m := x.Parts) (by omega)
    rw [decide_eq_true rfl] at this
    exact this
  rw [e1, bnd_some]
  simp only [Bool.not_true, cond_false, bne_self_eq_false, bnd_some]
  rw [rng_unit (fun _ => none) (by omega) (fun k hk _ => by
    have hx : x.Nets[k]? = some x.Nets[k] := List.getElem?_eq_getElem hk
    obtain ⟨h4, h5⟩ := h3 _ (List.getElem_mem hk)
    have e2 : slices_Equal_Pin N x.Nets[k].Pins x.Nets[k].Pins = some true := by
      have := gEqual_eq (l := x.Nets[k].Pins) (m := x.Nets[k].Pins) (by omega)
      rw [decide_eq_true rfl] at this
      exact this
    have e3 : slices_Equal_string N x.Nets[k].Ports x.Nets[k].Ports = some true := by
      rw [Equal_str (by omega), decide_eq_true rfl]
    simp only [idx_at hx, bnd_some, eqb_refl, e2, e3, Bool.not_true, cond_false]
    rfl), bnd_some, fst?_none.2 (fun _ _ => rfl)]
  rfl

/-! ### Order by pairs -/
section
variable {α : Type}
theorem sorted_iff {key : α → Str} {l : List α} : Sorted key l ↔ l.Pairwise (fun a b => Str.lt (key a) (key b)) := by
  rw [List.pairwise_iff_getElem]
  constructor
  · intro h i j hi hj hij
    exact h i j _ _ hij (List.getElem?_eq_getElem hi) (List.getElem?_eq_getElem hj)
  · intro h i j x y hij hx hy
    obtain ⟨hi, rfl⟩ := List.getElem?_eq_some_iff.1 hx
    obtain ⟨hj, rfl⟩ := List.getElem?_eq_some_iff.1 hy
    exact h i j hi hj hij
def pinsUpP (l : List Pin) : Prop := l.Pairwise (fun a b => pinLt a b = true)
theorem pinsUp_iff {l : List Pin} : (∀ (i j : Nat) (p q : Pin), i < j → l[i]? = some p → l[j]? = some q → pinLt p q = true) ↔ pinsUpP l := by
  unfold pinsUpP
  rw [List.pairwise_iff_getElem]
  constructor
  · intro h i j hi hj hij
    exact h i j _ _ hij (List.getElem?_eq_getElem hi) (List.getElem?_eq_getElem hj)
  · intro h i j x y hij hx hy
    obtain ⟨hi, rfl⟩ := List.getElem?_eq_some_iff.1 hx
    obtain ⟨hj, rfl⟩ := List.getElem?_eq_some_iff.1 hy
    exact h i j hi hj hij
theorem Sorted.ordBad {key : α → Str} {l : List α} (h : Sorted key l) {k : Nat} (hk : k < l.length) : Gk.ordBad key l k = false := by
  unfold Gk.ordBad
  rw [List.getElem?_eq_getElem hk, List.getElem?_eq_getElem (by omega : k - 1 < l.length)]
  dsimp only
  by_cases h0 : 0 < k
  · rw [le_test.2 (h (k - 1) k _ _ (by omega) (List.getElem?_eq_getElem (by omega)) (List.getElem?_eq_getElem hk))]; simp
  · rw [decide_eq_false h0]; simp
end
theorem pinOrd_of {l : List Pin} (h : pinsUpP l) {k : Nat} (hk : k < l.length) : pinOrd l k = false := by
  unfold pinOrd
  rw [List.getElem?_eq_getElem hk, List.getElem?_eq_getElem (by omega : k - 1 < l.length)]
  dsimp only
  by_cases h0 : 0 < k
  · rw [pinsUp_iff.2 h (k - 1) k _ _ (by omega) (List.getElem?_eq_getElem (by omega)) (List.getElem?_eq_getElem hk)]; simp
  · rw [decide_eq_false h0]; simp
/-- What makes a list right. -/
theorem checkList_conv {t : List PartType} {x : Netlist} (h0 : checkTypes t = 0) (ok : ListOk t x) : checkList t x = 0 := by
  unfold checkList
  rw [if_neg (by rw [h0]; simp)]
  have h1 : checkParts t x.Parts = 0 := by
    unfold checkParts
    rw [if_neg (by have := ok.few; omega), fst?_none.2 (fun k hk => ?_)]
    · rfl
    · unfold partErr
      rw [List.getElem?_eq_getElem hk]
      dsimp only
      have hm := List.getElem_mem hk
      have := ok.parts.typed _ hm
      rw [if_neg (by rw [ok.pathP _ hm]; decide), if_neg (by omega), if_neg (by rw [ok.parts.sorted.ordBad hk]; decide)]
  rw [if_neg (by rw [h1]; simp)]
  unfold checkNets
  rw [if_neg (by have := ok.fewNets; omega), fst?_none.2 (fun i hi => ?_)]
  · rfl
  · unfold netErr
    rw [List.getElem?_eq_getElem hi]
    dsimp only
    have hm := List.getElem_mem hi
    obtain ⟨h3, h4⟩ := ok.fewPins _ hm
    rw [if_neg (by rw [ok.path _ hm]; decide), if_neg (by omega), if_neg (by omega), fst?_none.2 (fun k hk => ?_)]
    · rw [ok.noPorts _ hm, if_neg (by simp), if_neg (by rw [ok.nets.ordBad hi]; decide)]; rfl
    · unfold npErr
      rw [List.getElem?_eq_getElem hk]
      dsimp only
      have hp := List.getElem_mem hk
      rw [if_neg (by rw [ok.pin _ hm _ hp]; decide), if_neg (by rw [pinOrd_of (pinsUp_iff.1 (ok.pinsUp _ hm)) hk]; decide), if_neg ?_]
      intro h
      unfold inNets at h
      obtain ⟨m, hm2, hp2⟩ := List.any_eq_true.1 h
      obtain ⟨j, hj⟩ := List.getElem?_of_mem hm2
      have hji : j < i := by have := (List.getElem?_eq_some_iff.1 hj).1; rw [List.length_take] at this; omega
      rw [List.getElem?_take_of_lt hji] at hj
      have := ok.once j i m _ _ hj (List.getElem?_eq_getElem hi) (of_decide_eq_true hp2) hp
      omega

/-! ### Elements left out -/
section
variable {α : Type}
end
end
end Go.Gk
