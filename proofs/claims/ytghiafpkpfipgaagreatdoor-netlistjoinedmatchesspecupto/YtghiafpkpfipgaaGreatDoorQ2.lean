/-
  Plain laws: numbers that are joined (Union). No statement of the seed is proved here.
-/
import Derived.Test.YtghiafpkpfipgaaGreatDoorB
import Derived.Test.YtghiafpkpfipgaaGreatDoorP3
set_option linter.unusedVariables false
set_option linter.unusedSimpArgs false
set_option linter.unusedSectionVars false
namespace Go.Gk
open Go
section
variable {N : Nat}
/-- The row up tells for each number one that is not above it; r is the least one that is so reached. -/
structure UF (n : Nat) (up : List Int) (r : Nat → Nat) : Prop where
  len : up.length = n
  rt : ∀ i, i < n → ∃ u : Nat, up[i]? = some ((u : Nat) : Int) ∧ u ≤ i ∧ r u = r i ∧ (u = i ↔ r i = i)
theorem UF.le {n : Nat} {up : List Int} {r : Nat → Nat} (h : UF n up r) : ∀ i, i < n → r i ≤ i := by
  intro i
  induction i using Nat.strongRecOn with
  | ind i ih =>
    intro hi
    obtain ⟨u, _, h2, h3, h4⟩ := h.rt i hi
    by_cases e : u = i
    · rw [h4.1 e]; exact Nat.le_refl _
    · rw [← h3]; have := ih u (by omega) (by omega); omega
def joinR (r : Nat → Nat) (a b : Nat) : Nat → Nat := fun x => if r x = max a b then min a b else r x
theorem if_max (a b : Nat) : (if ((a : Nat) : Int) < ((b : Nat) : Int) then ((b : Nat) : Int) else ((a : Nat) : Int)) = ((max a b : Nat) : Int) := by
  rw [Nat.max_def]; split <;> split <;> omega
theorem if_min (a b : Nat) : (if ((b : Nat) : Int) < ((a : Nat) : Int) then ((b : Nat) : Int) else ((a : Nat) : Int)) = ((min a b : Nat) : Int) := by
  rw [Nat.min_def]; split <;> split <;> omega
/-- r joins all pairs of E -/
def Coarse (r : Nat → Nat) (E : List (Nat × Nat)) : Prop := ∀ p ∈ E, r p.1 = r p.2
/-- r joins nothing that E does not join -/
def Fine (n : Nat) (r : Nat → Nat) (E : List (Nat × Nat)) : Prop := ∀ S : Nat → Prop, (∀ p ∈ E, S p.1 ↔ S p.2) → ∀ i j, i < n → j < n → r i = r j → S i → S j
theorem Coarse.join {r : Nat → Nat} {E : List (Nat × Nat)} (h : Coarse r E) (i k : Nat) (_h2 : r (r i) = r i) : Coarse (joinR r (r i) (r k)) (E ++ [(i, k)]) := fun p hp => by
  rcases List.mem_append.1 hp with hp | hp
  · unfold joinR; rw [h p hp]
  · simp at hp; subst hp
    unfold joinR
    dsimp only
    split <;> split <;> omega
theorem Fine.join {n : Nat} {r : Nat → Nat} {E : List (Nat × Nat)} (h : Fine n r E) {i k : Nat} (hi : i < n) (hk : k < n) : Fine n (joinR r (r i) (r k)) (E ++ [(i, k)]) := fun S hS x y hx hy hr hSx => by
  have hE : ∀ p ∈ E, S p.1 ↔ S p.2 := fun p hp => hS p (List.mem_append_left _ hp)
  have hik : S i ↔ S k := hS (i, k) (by simp)
  have key := h S hE
  unfold joinR at hr
  by_cases h1 : r x = r y
  · exact key x y hx hy h1 hSx
  · have : (r x = r i ∧ r y = r k) ∨ (r x = r k ∧ r y = r i) := by
      split at hr <;> split at hr <;> omega
    rcases this with ⟨e1, e2⟩ | ⟨e1, e2⟩
    · exact key k y hk hy e2.symm (hik.1 (key x i hx hi e1 hSx))
    · exact key i y hi hy e2.symm (hik.2 (key x k hx hk e1 hSx))
theorem Fine.id (n : Nat) : Fine n (fun i => i) [] := fun S _ i j _ _ h hs => by
  have h : i = j := h
  subst h; exact hs
theorem Coarse.id : Coarse (fun i => i) [] := fun p hp => by simp at hp

/-! ### The sets -/
end
end Go.Gk
