/-
  Plain laws: rows sorted that are others' rearrangements; the classes of a partition, one behind the other. No statement of the seed is proved here.
-/
import Derived.Test.YtghdidhpcgioeaaDoorQ2
import Derived.Test.YtghdidhpcgioeaaDoorQ3
import Derived.Test.YtghdidhpcgioeaaDoorK25
set_option linter.unusedVariables false
set_option linter.unusedSimpArgs false
set_option linter.unusedSectionVars false
namespace Go.Gk
open Go
theorem Str.toL_lt {a b : Str} (h : Str.lt a b) : a.toL < b.toL := by
  have : Op.bytesLess a.toL b.toL = true := h
  rw [Go.Proofs.bytesLess_eq] at this
  simpa using this
theorem sortS_of_perm {l m : List Str} (hp : l.Perm m) (hs : Sorted (fun x => x) m) (hl : l.length < 4611686018427387904) : gSortS l = some m := by
  unfold gSortS
  rw [if_pos hl]
  congr 1
  have h1 : ((l.map Str.toL).mergeSort fun x y => decide (x ≤ y)) = m.map Str.toL := by
    refine List.Perm.eq_of_pairwise (le := fun a b => a ≤ b) (fun a b _ _ h h' => List.le_antisymm h h') ?_ ?_ ((List.mergeSort_perm _ _).trans (hp.map _))
    · have := List.pairwise_mergeSort (le := fun x y : List UInt8 => decide (x ≤ y)) (fun a b c h h' => by
        rw [decide_eq_true_eq] at h h' ⊢; exact List.le_trans h h') (fun a b => by
        rw [Bool.or_eq_true, decide_eq_true_eq, decide_eq_true_eq]; exact List.le_total _ _) (l.map Str.toL)
      exact this.imp fun h => by simpa using h
    · rw [List.pairwise_map]
      exact (sorted_iff.1 hs).imp fun h => List.le_of_lt (Str.toL_lt h)
  rw [h1, List.map_map]
  exact List.map_id' _
theorem isles_perm {n : Nat} {r : Nat → Nat} (le : ∀ i, i < n → r i ≤ i) (rr : ∀ i, i < n → r (r i) = r i) : ((heads n r).flatMap (cls n r)).Perm (List.range n) := by
  refine (List.perm_ext_iff_of_nodup ?_ List.nodup_range).2 fun a => ?_
  · refine List.pairwise_flatMap.2 ⟨fun k _ => List.Nodup.sublist List.filter_sublist List.nodup_range, (heads_nodup n r).imp fun h x hx y hy e => ?_⟩
    subst e
    unfold cls at hx hy
    have h1 := (List.mem_filter.1 hx).2
    have h2 := (List.mem_filter.1 hy).2
    rw [decide_eq_true_eq] at h1 h2
    exact h (h1.symm.trans h2)
  · rw [List.mem_flatMap, List.mem_range]
    constructor
    · rintro ⟨k, _, h⟩
      unfold cls at h
      exact List.mem_range.1 (List.mem_filter.1 h).1
    · intro h
      refine ⟨r a, mem_heads.2 ⟨by have := le a h; omega, rr a h⟩, ?_⟩
      unfold cls
      exact List.mem_filter.2 ⟨List.mem_range.2 h, by simp⟩
/-- Where nothing is joined each stands alone. -/
theorem alone_of_fine {n : Nat} {r : Nat → Nat} (le : ∀ i, i < n → r i ≤ i) (rr : ∀ i, i < n → r (r i) = r i) (hF : Fine n r []) : heads n r = List.range n := by
  unfold heads
  refine List.filter_eq_self.2 fun k hk => ?_
  have hk := List.mem_range.1 hk
  have := hF (fun j => j = k) (fun p hp => by simp at hp) k (r k) hk (by have := le k hk; omega) (rr k hk).symm rfl
  simpa using this
end Go.Gk
