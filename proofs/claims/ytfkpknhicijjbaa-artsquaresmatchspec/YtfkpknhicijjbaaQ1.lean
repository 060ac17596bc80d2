/-
  Plain laws: sorting by a comparison. No statement of the seed is proved here.
-/
import Derived.Test.YtfkpknhicijjbaaK18
import Derived.Test.YtfkpknhicijjbaaP0
set_option linter.unusedVariables false
set_option linter.unusedSimpArgs false
set_option linter.unusedSectionVars false
namespace Go.Gk
open Go Go.Proofs Go.Sort
section
variable {α : Type}
theorem extract_all {β : Type} (a : Array β) {n : Nat} (h : a.size = n) : a.extract 0 n = a := by subst h; exact Array.extract_size
theorem swo_of {φ : α → α → Option Int} {l : List α} (cf : α → α → Int) (hφ : ∀ x ∈ l, ∀ y ∈ l, φ x y = some (cf x y)) (h1 : ∀ x ∈ l, ¬ cf x x < 0)
    (h2 : ∀ x ∈ l, ∀ y ∈ l, ∀ z ∈ l, cf x y < 0 → cf y z < 0 → cf x z < 0) (h3 : ∀ x ∈ l, ∀ y ∈ l, ∀ z ∈ l, ¬ cf x y < 0 → ¬ cf y z < 0 → ¬ cf x z < 0) : SWO (ltOf (cfI φ l)) := by
  have hm : ∀ i : Fin l.length, l[i] ∈ l := fun i => List.getElem_mem i.isLt
  have e : ∀ i j : Fin l.length, cfI φ l i j = cf l[i] l[j] := fun i j => by unfold cfI; rw [hφ _ (hm i) _ (hm j)]; rfl
  refine ⟨fun x => ?_, fun x y z => ?_, fun x y z => ?_⟩
  · simp only [ltOf, e, decide_eq_false_iff_not]; exact h1 _ (hm _)
  · simp only [ltOf, e, decide_eq_true_iff]; exact h2 _ (hm _) _ (hm _) _ (hm _)
  · simp only [ltOf, e, decide_eq_false_iff_not]; exact h3 _ (hm _) _ (hm _) _ (hm _)
theorem gSort_eq {φ : α → α → Option Int} {l : List α} (cf : α → α → Int) (hφ : ∀ x ∈ l, ∀ y ∈ l, φ x y = some (cf x y)) (h1 : ∀ x ∈ l, ¬ cf x x < 0)
    (h2 : ∀ x ∈ l, ∀ y ∈ l, ∀ z ∈ l, cf x y < 0 → cf y z < 0 → cf x z < 0) (h3 : ∀ x ∈ l, ∀ y ∈ l, ∀ z ∈ l, ¬ cf x y < 0 → ¬ cf y z < 0 → ¬ cf x z < 0) (hl : l.length < 4611686018427387904) :
    ∃ m, gSort φ l = some m ∧ m.Perm l ∧ m.Pairwise (fun x y => ¬ cf y x < 0) := by
  have hO := swo_of cf hφ h1 h2 h3
  have hm : ∀ i : Fin l.length, l[i] ∈ l := fun i => List.getElem_mem i.isLt
  have hc : (∀ i j : Fin l.length, ∃ c, φ l[i] l[j] = some c) := fun i j => ⟨_, hφ _ (hm i) _ (hm j)⟩
  refine ⟨sortL φ l, by unfold gSort; rw [if_pos ⟨⟨hc, hO⟩, hl⟩], ?_⟩
  unfold sortL
  by_cases hn : 0 < l.length
  · rw [dif_pos hn]
    letI inh : Inhabited (Fin l.length) := ⟨⟨0, hn⟩⟩
    have hds : (Array.ofFn fun i : Fin l.length => i).size = l.length := by simp
    obtain ⟨hp, hs⟩ := pdq_sorts (ltOf (cfI φ l)) hO (Array.ofFn fun i : Fin l.length => i) 0 l.length (Lib.bitLen l.length) true true (Nat.zero_le _) (by rw [hds]; exact Nat.le_refl _) (Or.inl rfl)
    show (List.map (fun i => l[i]) (pdq (ltOf (cfI φ l)) (Array.ofFn fun i : Fin l.length => i) 0 l.length (Lib.bitLen l.length) true true).toList).Perm l ∧ _
    generalize pdq (ltOf (cfI φ l)) (Array.ofFn fun i : Fin l.length => i) 0 l.length (Lib.bitLen l.length) true true = d' at hp hs
    obtain ⟨hz, _, hpm⟩ := hp
    have hz' : d'.size = l.length := hz.trans hds
    rw [extract_all d' hz', extract_all _ hds] at hpm
    have hof : (Array.ofFn fun i : Fin l.length => i).toList.map (fun i => l[i]) = l := by
      rw [Array.toList_ofFn, List.map_ofFn]
      exact List.ofFn_getElem
    refine ⟨(hpm.map (fun i => l[i])).trans (List.Perm.of_eq hof), ?_⟩
    rw [List.pairwise_map, List.pairwise_iff_getElem]
    intro i j hi hj hij
    rw [Array.length_toList] at hi hj
    have := hs i j (Nat.zero_le _) hij (by rw [← hz']; exact hj)
    rw [getElem!_pos d' i hi, getElem!_pos d' j hj] at this
    have hij2 := hφ _ (hm (d'[j])) _ (hm (d'[i]))
    have hij3 : cfI φ l d'[j] d'[i] = cf l[d'[j]] l[d'[i]] := by unfold cfI; rw [hij2]; rfl
    unfold ltOf at this
    rw [decide_eq_false_iff_not, hij3] at this
    exact this
  · rw [dif_neg hn]
    have : l = [] := List.length_eq_zero_iff.1 (by omega)
    subst this
    exact ⟨List.Perm.refl _, List.Pairwise.nil⟩
theorem gSort_one {φ : α → α → Option Int} {x : α} (h : φ x x = some 0) : gSort φ [x] = some [x] := by
  obtain ⟨m, h1, h2, _⟩ := gSort_eq (φ := φ) (l := [x]) (fun _ _ => 0) (fun a ha b hb => by simp at ha hb; rw [ha, hb]; exact h) (fun _ _ => by decide) (fun _ _ _ _ _ _ h => by simp at h) (fun _ _ _ _ _ _ _ _ => by decide) (by simp)
  rw [h1, List.perm_singleton.1 h2]
theorem gSortI_sorted {l : List Int} (h : l.Pairwise (fun x y => x ≤ y)) (hl : l.length < 4611686018427387904) : gSortI l = some l := by
  unfold gSortI
  rw [if_pos hl, List.mergeSort_of_pairwise (by simpa using h)]
end
end Go.Gk
