/-
  Plain laws: numbers that are joined (Union). No statement of the seed is proved here.
-/
import Derived.Test.YtghdidhpcgioeaaDoorB
import Derived.Test.YtghdidhpcgioeaaDoorP3
set_option linter.unusedVariables false
set_option linter.unusedSimpArgs false
set_option linter.unusedSectionVars false
namespace Go.Gk
open Go
section
variable {N : Nat}
/-- The row up tells for each number one that is not above it; r is the least one that is so reached. -/
structure UF (n : Nat) (up : List Int) (r : Nat → Nat) : Prop where
  len : up.length = n
  rt : ∀ i, i < n → ∃ u : Nat, up[i]? = some ((u : Nat) : Int) ∧ u ≤ i ∧ r u = r i ∧ (u = i ↔ r i = i)
theorem UF.le {n : Nat} {up : List Int} {r : Nat → Nat} (h : UF n up r) : ∀ i, i < n → r i ≤ i := by
  intro i
  induction i using Nat.strongRecOn with
  | ind i ih =>
    intro hi
    obtain ⟨u, _, h2, h3, h4⟩ := h.rt i hi
    by_cases e : u = i
    · rw [h4.1 e]; exact Nat.le_refl _
    · rw [← h3]; have := ih u (by omega) (by omega); omega
theorem UF.rr {n : Nat} {up : List Int} {r : Nat → Nat} (h : UF n up r) : ∀ i, i < n → r (r i) = r i := by
  intro i
  induction i using Nat.strongRecOn with
  | ind i ih =>
    intro hi
    obtain ⟨u, _, h2, h3, h4⟩ := h.rt i hi
    by_cases e : u = i
    · rw [h4.1 e, h4.1 e]
    · rw [← h3]; exact ih u (by omega) (by omega)
theorem set_int {l : List Int} {j : Nat} {v : Int} {i : Nat} (hj : j < l.length) : (l.set j v)[i]? = if i = j then some v else l[i]? := by
  rw [List.getElem?_set]
  by_cases e : j = i
  · rw [if_pos e, if_pos e.symm, if_pos hj]
  · rw [if_neg e, if_neg (fun h => e h.symm)]
theorem UF.init (n : Nat) (up : List Int) (h1 : up.length = n) (h2 : ∀ i, i < n → up[i]? = some ((i : Nat) : Int)) : UF n up (fun i => i) :=
  ⟨h1, fun i hi => ⟨i, h2 i hi, Nat.le_refl _, rfl, by simp⟩⟩
def joinR (r : Nat → Nat) (a b : Nat) : Nat → Nat := fun x => if r x = max a b then min a b else r x
theorem if_max (a b : Nat) : (if ((a : Nat) : Int) < ((b : Nat) : Int) then ((b : Nat) : Int) else ((a : Nat) : Int)) = ((max a b : Nat) : Int) := by
  rw [Nat.max_def]; split <;> split <;> omega
theorem if_min (a b : Nat) : (if ((b : Nat) : Int) < ((a : Nat) : Int) then ((b : Nat) : Int) else ((a : Nat) : Int)) = ((min a b : Nat) : Int) := by
  rw [Nat.min_def]; split <;> split <;> omega
/-- r joins all pairs of E -/
def Coarse (r : Nat → Nat) (E : List (Nat × Nat)) : Prop := ∀ p ∈ E, r p.1 = r p.2
/-- r joins nothing that E does not join -/
def Fine (n : Nat) (r : Nat → Nat) (E : List (Nat × Nat)) : Prop := ∀ S : Nat → Prop, (∀ p ∈ E, S p.1 ↔ S p.2) → ∀ i j, i < n → j < n → r i = r j → S i → S j
theorem Coarse.join {r : Nat → Nat} {E : List (Nat × Nat)} (h : Coarse r E) (i k : Nat) (_h2 : r (r i) = r i) : Coarse (joinR r (r i) (r k)) (E ++ [(i, k)]) := fun p hp => by
  rcases List.mem_append.1 hp with hp | hp
  · unfold joinR; rw [h p hp]
  · simp at hp; subst hp
    unfold joinR
    dsimp only
    split <;> split <;> omega
theorem Fine.join {n : Nat} {r : Nat → Nat} {E : List (Nat × Nat)} (h : Fine n r E) {i k : Nat} (hi : i < n) (hk : k < n) : Fine n (joinR r (r i) (r k)) (E ++ [(i, k)]) := fun S hS x y hx hy hr hSx => by
  have hE : ∀ p ∈ E, S p.1 ↔ S p.2 := fun p hp => hS p (List.mem_append_left _ hp)
  have hik : S i ↔ S k := hS (i, k) (by simp)
  have key := h S hE
  unfold joinR at hr
  by_cases h1 : r x = r y
  · exact key x y hx hy h1 hSx
  · have : (r x = r i ∧ r y = r k) ∨ (r x = r k ∧ r y = r i) := by
      split at hr <;> split at hr <;> omega
    rcases this with ⟨e1, e2⟩ | ⟨e1, e2⟩
    · exact key k y hk hy e2.symm (hik.1 (key x i hx hi e1 hSx))
    · exact key i y hi hy e2.symm (hik.2 (key x k hx hk e1 hSx))
theorem Fine.id (n : Nat) : Fine n (fun i => i) [] := fun S _ i j _ _ h hs => by
  have h : i = j := h
  subst h; exact hs
theorem Coarse.id : Coarse (fun i => i) [] := fun p hp => by simp at hp

/-! ### The sets -/
def heads (n : Nat) (r : Nat → Nat) : List Nat := (List.range n).filter (fun k => decide (r k = k))
def cls (n : Nat) (r : Nat → Nat) (k : Nat) : List Nat := (List.range n).filter (fun i => decide (r i = k))
theorem heads_succ (n : Nat) (r : Nat → Nat) : heads (n + 1) r = if r n = n then heads n r ++ [n] else heads n r := by
  unfold heads
  rw [List.range_succ, List.filter_append]
  by_cases h : r n = n
  · rw [if_pos h]; simp [h]
  · rw [if_neg h]; simp [h]
theorem cls_succ (n : Nat) (r : Nat → Nat) (k : Nat) : cls (n + 1) r k = if r n = k then cls n r k ++ [n] else cls n r k := by
  unfold cls
  rw [List.range_succ, List.filter_append]
  by_cases h : r n = k
  · rw [if_pos h]; simp [h]
  · rw [if_neg h]; simp [h]
theorem heads_len (n : Nat) (r : Nat → Nat) : (heads n r).length ≤ n := by
  have := List.length_filter_le (fun k => decide (r k = k)) (List.range n)
  rw [List.length_range] at this; exact this
theorem cls_len (n : Nat) (r : Nat → Nat) (k : Nat) : (cls n r k).length ≤ n := by
  have := List.length_filter_le (fun i => decide (r i = k)) (List.range n)
  rw [List.length_range] at this; exact this
theorem mem_heads {n k : Nat} {r : Nat → Nat} : k ∈ heads n r ↔ k < n ∧ r k = k := by unfold heads; simp
theorem heads_nodup (n : Nat) (r : Nat → Nat) : (heads n r).Nodup := List.Nodup.sublist List.filter_sublist List.nodup_range
def setsS (n : Nat) (r : Nat → Nat) : List (List Int) := (heads n r).map (fun k => (cls n r k).map (fun i => ((i : Nat) : Int)))
theorem cls_nil {n k : Nat} {r : Nat → Nat} (h : ∀ i, i < n → r i ≤ i) (hk : n ≤ k) : cls n r k = [] := by
  unfold cls
  rw [List.filter_eq_nil_iff]
  intro i hi
  have h1 := List.mem_range.1 hi
  have := h i h1
  simp; omega
theorem set_map_append {α β : Type} (f g : α → β) (l : List α) (j : Nat) (a : α) (hn : l.Nodup) (hj : l[j]? = some a) (hf : ∀ b, b ∈ l → b ≠ a → f b = g b) : (l.map f).set j (g a) = l.map g := by
  apply List.ext_getElem?
  intro i
  have hjl := (List.getElem?_eq_some_iff.1 hj).1
  rw [List.getElem?_set, List.length_map, List.getElem?_map, List.getElem?_map]
  by_cases e : j = i
  · subst e; rw [if_pos rfl, if_pos hjl, hj]; rfl
  · rw [if_neg e]
    cases hb : l[i]? with
    | none => rfl
    | some b =>
      have hne : b ≠ a := fun he => by
        subst he
        have hil := (List.getElem?_eq_some_iff.1 hb).1
        exact e ((List.getElem_inj hn).1 (by rw [(List.getElem?_eq_some_iff.1 hb).2, (List.getElem?_eq_some_iff.1 hj).2]) |>.symm)
      show some (f b) = some (g b)
      rw [hf b (List.mem_of_getElem? hb) hne]
/-- the map tells for each head its place -/
def NumOk (n : Nat) (r : Nat → Nat) (m : List (Int × Int)) : Prop := ∀ (j k : Nat), (heads n r)[j]? = some k → mget m ((k : Nat) : Int) 0 = ((j : Nat) : Int)
end
end Go.Gk
