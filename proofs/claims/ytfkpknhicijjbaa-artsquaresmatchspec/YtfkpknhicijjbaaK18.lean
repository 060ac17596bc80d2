/-
  slices.Sort of ints (the shelf's contract) in the logic of memory. No statement of the seed is proved here.
-/
import Derived.Test.YtfkpknhicijjbaaK16
import Derived.Test.YtfkpknhicijjbaaK17
import Derived.Shelf.SortM.Plain
import Derived.Shelf.SortM.SortNone
set_option linter.unusedVariables false
set_option linter.unusedSimpArgs false
set_option linter.unusedSectionVars false
namespace Go.Gk
open Go Go.Proofs Go.Sort
def gSortI (l : List Int) : Option (List Int) := if l.length < 4611686018427387904 then some (l.mergeSort fun x y => decide (x ≤ y)) else none
section
variable (w : World) (g o m : Nat) (dk : Array Int) (os : Array Obj)
theorem s1_other {b : Nat} (hb : b < w.heap.size) (hg : b ≠ g) : (grow (putRow (Value.int .i64) (Go.Sort.ahead w m) g o dk) os).heap[b]? = w.heap[b]? := by
  simp only [grow, putRow, mapBlock, Go.Sort.ahead]
  rw [Array.getElem?_append_left (by simpa using hb), Array.getElem?_modify, if_neg (fun h => hg h.symm)]
theorem s1_self {cur : Array Value} {e : TypeId} {fr : Nat × Nat} (hg : w.heap[g]? = some (.cells cur e fr)) :
    (grow (putRow (Value.int .i64) (Go.Sort.ahead w m) g o dk) os).heap[g]? = some (.cells (putCells (Value.int .i64) o dk cur) e fr) := by
  have hb : g < w.heap.size := (Array.getElem?_eq_some_iff.1 hg).1
  simp only [grow, putRow, mapBlock, Go.Sort.ahead]
  rw [Array.getElem?_append_left (by simpa using hb), Array.getElem?_modify, if_pos rfl, hg]
  rfl
end
/-- **slices.Sort** of ints. -/
theorem sortI_ok {P : Program} {ρ : Shelf.Ren} (L : SlLaysM.n5 P ρ) {E w : World} {Γ : List HP} {e : TypeId} {v : Value} {l l' : List Int} (hw : Holds E w (own e v l :: Γ)) (hb : gSortI l = some l') :
    Calls P (ρ.f 5) [v].toArray w (Ret fun z w' => z = .tuple #[] ∧ Holds E w' (own e v l' :: Γ)) := by
  unfold gSortI at hb
  split at hb
  case isFalse => cases hb
  rename_i hbig
  injection hb with hb
  by_cases hn : l.length = 0
  · have hl : l = [] := List.length_eq_zero_iff.1 hn
    subst hl
    have e1 : l' = [] := by rw [← hb]; exact List.length_eq_zero_iff.1 (by rw [List.length_mergeSort]; rfl)
    subst e1
    obtain ⟨a, c, hv⟩ := hw.own_slice (i := 0) rfl
    subst hv
    refine Calls.mono (AnyM.slices_Sort_int_none L a c w) fun ex w' h => ?_
    obtain ⟨rfl, rfl⟩ := h
    exact ⟨_, rfl, rfl, hw⟩
  obtain ⟨M, hs, gd⟩ := hw
  rcases gd.sat 0 _ rfl with ⟨_, h2, _⟩ | ⟨g, o, cap, cur, xs, rfl, hcap, hmax, hh, hsz, hx, hcs⟩
  · rw [h2] at hn; exact absurd rfl hn
  have hg : w.heap[g]? = some (.cells cur e (0, 0)) := gd.le 0 g _ (by simp) (by rw [hh]; exact one_self g _)
  have hgs : g < w.heap.size := (Array.getElem?_eq_some_iff.1 hg).1
  have hsz1 : GT.sz Int = 1 := rfl
  rw [hsz1, Nat.mul_one] at hsz hx
  subst hx
  have hel : ∀ i (hi : i < l.length), cur.toList[o + i]? = some (.int .i64 l[i]) := fun i hi => by
    have := hcs.2 i l[i] (List.getElem?_eq_getElem hi)
    rw [hsz1, Nat.mul_one, List.drop_take, List.take_take, List.drop_drop] at this
    have h3 : (cur.toList.drop (o + i)).take (min 1 (l.length - i)) = [Sc.toV l[i]] := this
    have h4 := congrArg (fun z => z[0]?) h3
    simp only [List.getElem?_take, List.getElem?_drop, Nat.add_zero] at h4
    rw [if_pos (by omega)] at h4
    exact h4
  have hH : Go.Sort.Holds (Value.int .i64) w g o l.toArray := by
    intro j hj
    have hj' : j < l.length := by simpa using hj
    have hin : o + j < cur.size := by omega
    have h1 := hel j hj'
    rw [Array.getElem?_toList, Array.getElem?_eq_getElem hin] at h1
    injection h1 with h1
    refine ⟨?_, ?_⟩
    · rw [getElem!_pos l.toArray j hj]
      simp only [World.cell?, hg]
      simp [Array.getElem?_eq_getElem hin, h1]
    · simp only [World.frozen?, hg]
      simp
  refine Calls.mono (AnyM.slices_Sort_int L g o cap l w hH hgs hbig) fun ex w' h => ?_
  obtain ⟨rfl, n, os, rfl⟩ := h
  refine ⟨_, rfl, rfl, ?_⟩
  rw [hb]
  have hll : l'.length = l.length := by rw [← hb, List.length_mergeSort]
  have hpc : (putCells (Value.int .i64) o l'.toArray cur).size = cur.size := by simp [putCells]
  have h2 := gd.update (w' := grow (putRow (Value.int .i64) (Go.Sort.ahead w n) g o l'.toArray) os) (P' := own e (.slice (some ⟨g, o, none⟩) l.length cap) l') (i := 0) (by simp) (Gk.one g (.cells (putCells (Value.int .i64) o l'.toArray cur) e (0, 0))) ?_ rfl rfl rfl ?_ ?_ ?_ (Nat.le_add_right _ _)
  · exact ⟨M, _, h2⟩
  · refine .inr ⟨g, o, cap, _, _, by rw [hll], by rw [hll]; exact hcap, hmax, rfl, by rw [hpc, hsz1, Nat.mul_one]; exact hsz, rfl, ?_⟩
    rw [hll, hsz1, Nat.mul_one]
    refine ⟨?_, fun a x hx => ?_⟩
    · have e1 : (putCells (Value.int .i64) o l'.toArray cur).toList.length = cur.size := by rw [Array.length_toList, hpc]
      rw [List.length_take, List.length_drop, e1, hll, hsz1]; omega
    · have ha : a < l'.length := (List.getElem?_eq_some_iff.1 hx).1
      rw [hsz1, Nat.mul_one, List.drop_take, List.take_take, List.drop_drop]
      show List.take _ _ = [Sc.toV x]
      apply List.ext_getElem?
      intro t
      rw [List.getElem?_take, List.getElem?_drop]
      by_cases ht : t = 0
      · subst ht
        have hin : o + a + 0 < (putCells (Value.int .i64) o l'.toArray cur).size := by rw [hpc]; omega
        rw [if_pos (by omega), Array.getElem?_toList, Array.getElem?_eq_getElem hin]
        simp only [putCells, Array.getElem_mapIdx, Nat.add_zero, List.size_toArray]
        rw [if_pos (by omega)]
        have e2 : o + a - o = a := by omega
        rw [List.getElem?_eq_getElem ha] at hx
        injection hx with hx
        rw [e2, getElem!_pos l'.toArray a (by simpa using ha)]
        simp [hx]; rfl
      · rw [if_neg (by omega), List.getElem?_eq_none (by simp; omega)]
  · intro b o' hb
    obtain ⟨rfl, rfl⟩ := one_some hb
    exact s1_self _ _ _ _ _ _ hg
  · intro b o' hb
    obtain ⟨rfl, rfl⟩ := one_some hb
    exact .inl ⟨_, by rw [hh]; exact one_self b _⟩
  · intro b hb1 hb2
    refine s1_other _ _ _ _ _ _ hb2 fun h => ?_
    subst h
    rw [hh, one_self] at hb1; cases hb1
end Go.Gk
