/-
  Slices whose elements own slices. No statement of the seed is proved here.
-/
import Derived.Test.YtghiafpkpfipgaaGreatDoorK17
set_option linter.unusedVariables false
set_option linter.unusedSimpArgs false
set_option linter.unusedSectionVars false
namespace Go.Gk
open Go
/-! ### One part into two, and back -/
section
variable {E w : World} {M : Heap} {hs : Nat → Heap} {Γ : List HP} {P P1 P2 : HP} {j : Nat} {h1 h2 : Heap}
theorem Good.split (g : Good E w M hs Γ) (hj : j < Γ.length) (hl1 : ∀ b o, h1 b = some o → hs j b = some o) (hl2 : ∀ b o, h2 b = some o → hs j b = some o)
    (hd : ∀ b o, h1 b = some o → h2 b = none) (hp1 : P1.ok M h1) (hp2 : P2.ok M h2) : Good E w M (hcons h1 (hset hs j h2)) (P1 :: Γ.set j P2) := by
  have g2 : Good E w M (hset hs j h2) (Γ.set j P2) := by
    have := g.update (w' := w) (P' := P2) hj h2 hp2 rfl rfl rfl (fun b o hb => g.le j b o hj (hl2 b o hb)) (fun b o hb => .inl ⟨o, hl2 b o hb⟩) (fun b _ _ => rfl)
    exact this
  refine g2.cons h1 hp1 (fun b o hb => g.le j b o hj (hl1 b o hb)) (fun b o hb => g.dm j b o hj (hl1 b o hb)) (fun i b o hi hb => ?_)
  rw [List.length_set] at hi
  unfold hset
  split
  · exact hd b o hb
  · rename_i hne
    exact g.dj j i b o hj hi (fun h => hne h.symm) (hl1 b o hb)
theorem Good.join (g : Good E w M hs (P1 :: Γ)) (hj : j < Γ.length) (hp : P.ok M (hor (hs 0) (hs (j + 1)))) :
    Good E w M (hset (fun i => hs (i + 1)) j (hor (hs 0) (hs (j + 1)))) (Γ.set j P) := by
  have hj1 : j + 1 < (P1 :: Γ).length := by simp; exact hj
  have ho : ∀ b o, hor (hs 0) (hs (j + 1)) b = some o → hs 0 b = some o ∨ hs (j + 1) b = some o := fun b o hb => by
    unfold hor at hb
    cases e : hs 0 b with
    | some o' => rw [e] at hb; exact .inl hb
    | none => rw [e] at hb; exact .inr hb
  have h0 : 0 < (P1 :: Γ).length := by simp
  refine ⟨g.os, g.tape, g.out, g.dr, g.im, fun i Q hq => ?_, fun i b o hi hb => ?_, fun i b o hi hb => ?_, fun i k b o hi hk hne hb => ?_⟩
  · rw [List.getElem?_set] at hq
    unfold hset
    by_cases e : j = i
    · subst e; simp [hj] at hq; subst hq; simpa using hp
    · rw [if_neg e] at hq; rw [if_neg (fun h => e h.symm)]; exact g.sat (i + 1) Q (by simpa using hq)
  · rw [List.length_set] at hi
    unfold hset at hb
    split at hb
    · rcases ho b o hb with h | h
      · exact g.le 0 b o h0 h
      · exact g.le (j + 1) b o hj1 h
    · exact g.le (i + 1) b o (by simp; exact hi) hb
  · rw [List.length_set] at hi
    unfold hset at hb
    split at hb
    · rcases ho b o hb with h | h
      · exact g.dm 0 b o h0 h
      · exact g.dm (j + 1) b o hj1 h
    · exact g.dm (i + 1) b o (by simp; exact hi) hb
  · rw [List.length_set] at hi hk
    have hi1 : i + 1 < (P1 :: Γ).length := by simp; exact hi
    have hk1 : k + 1 < (P1 :: Γ).length := by simp; exact hk
    unfold hset at hb ⊢
    split at hb
    · rename_i e
      rw [if_neg (fun h => hne (e.trans h.symm))]
      rcases ho b o hb with h | h
      · exact g.dj 0 (k + 1) b o h0 hk1 (by omega) h
      · exact g.dj (j + 1) (k + 1) b o hj1 hk1 (by omega) h
    · split
      · rename_i e1 e2
        have a1 := g.dj (i + 1) 0 b o hi1 h0 (by omega) hb
        have a2 := g.dj (i + 1) (j + 1) b o hi1 hj1 (by omega) hb
        unfold hor; rw [a1]; exact a2
      · exact g.dj (i + 1) (k + 1) b o hi1 hk1 (by omega) hb
end

/-! ### Raw values; what an element owns -/
structure RV where
  v : Value
  one : v.oneCell' = true
instance : Sc RV := ⟨RV.v, RV.one⟩
/-- how an element u owns what it owns and reads as x; rest: what is known of it even while its own part is lent out -/
structure XT (ρ α : Type) where
  rest : ρ → α → Prop
  ok : Heap → Heap → ρ → α → Prop
  mono : ∀ {M M' h : Heap} {u : ρ} {x : α}, hle M M' → ok M h u x → ok M' h u x
  res : ∀ {M h : Heap} {u : ρ} {x : α}, ok M h u x → rest u x
/-- the elements' own parts, told apart by colours; element k (if it is one) is lent out -/
def bag {ρ α : Type} (X : XT ρ α) (us : List ρ) (xs : List α) (k : Option Nat) : HP :=
  ⟨fun M h => us.length = xs.length ∧ (∀ (i : Nat) u x, us[i]? = some u → xs[i]? = some x → X.rest u x) ∧ ∃ c : Nat → Nat, (∀ b o, h b = some o → c b < us.length ∧ k ≠ some (c b)) ∧
    ∀ i u x, k ≠ some i → us[i]? = some u → xs[i]? = some x → X.ok M (fun b => if c b = i then h b else none) u x,
   fun hk ⟨h1, h0, c, h2, h3⟩ => ⟨h1, h0, c, h2, fun i u x hi hu hx => X.mono hk (h3 i u x hi hu hx)⟩⟩
def elm {ρ α : Type} (X : XT ρ α) (u : ρ) (x : α) : HP := ⟨fun M h => X.ok M h u x, fun hk h => X.mono hk h⟩
section
variable {ρ α : Type} {X : XT ρ α} {us : List ρ} {xs : List α} {E w : World} {Γ : List HP} {j i : Nat} {u u' : ρ} {x x' : α}
theorem Holds.bag_len (h : Holds E w Γ) {k : Option Nat} (hj : Γ[j]? = some (bag X us xs k)) : us.length = xs.length := by
  obtain ⟨M, hs, g⟩ := h
  exact (g.sat j _ hj).1
theorem Holds.focus (h : Holds E w Γ) (hj : Γ[j]? = some (bag X us xs none)) (hu : us[i]? = some u) (hx : xs[i]? = some x) : Holds E w (elm X u x :: Γ.set j (bag X us xs (some i))) := by
  obtain ⟨M, hs, g⟩ := h
  obtain ⟨hl, hr, c, hc, hok⟩ := g.sat j _ hj
  refine ⟨M, _, g.split (lt_of_get hj) (h1 := fun b => if c b = i then hs j b else none) (h2 := fun b => if c b = i then none else hs j b) (fun b o hb => ?_) (fun b o hb => ?_) (fun b o hb => ?_) ?_ ?_⟩
  · split at hb
    · exact hb
    · cases hb
  · split at hb
    · cases hb
    · exact hb
  · split at hb
    · rename_i e; rw [if_pos e]
    · cases hb
  · exact hok i u x (by simp) hu hx
  · refine ⟨hl, hr, c, fun b o hb => ?_, fun a u2 x2 ha hu2 hx2 => ?_⟩
    · dsimp only at hb; split at hb
      · cases hb
      · rename_i hne
        exact ⟨(hc b o hb).1, fun e => hne (by injection e with e; exact e.symm)⟩
    · have hai : a ≠ i := fun e => ha (by rw [e])
      have := hok a u2 x2 (by simp) hu2 hx2
      have e : (fun b => if c b = a then hs j b else none) = (fun b => if c b = a then (if c b = i then none else hs j b) else none) := by
        funext b
        by_cases hb : c b = a
        · rw [if_pos hb, if_pos hb, if_neg (fun e => hai (hb.symm.trans e))]
        · rw [if_neg hb, if_neg hb]
      rw [← e]; exact this
theorem Holds.unfocus (h : Holds E w (elm X u' x' :: Γ)) (hj : Γ[j]? = some (bag X us xs (some i))) (hi : i < us.length) : Holds E w (Γ.set j (bag X (us.set i u') (xs.set i x') none)) := by
  obtain ⟨M, hs, g⟩ := h
  have hlt := lt_of_get hj
  obtain ⟨hl, hr, c, hc, hok⟩ := g.sat (j + 1) _ (by simpa using hj)
  have h0 : X.ok M (hs 0) u' x' := g.sat 0 _ rfl
  have hdj : ∀ b o, hs 0 b = some o → hs (j + 1) b = none := fun b o hb => g.dj 0 (j + 1) b o (by simp) (by simp; exact hlt) (by omega) hb
  have hrr : ∀ (a : Nat) u2 x2, (us.set i u')[a]? = some u2 → (xs.set i x')[a]? = some x2 → X.rest u2 x2 := fun a u2 x2 hu2 hx2 => by
    rw [List.getElem?_set] at hu2 hx2
    by_cases ha : i = a
    · subst ha
      rw [if_pos rfl, if_pos hi] at hu2
      rw [if_pos rfl, if_pos (by rw [← hl]; exact hi)] at hx2
      injection hu2 with hu2; injection hx2 with hx2
      subst hu2; subst hx2
      exact X.res h0
    · rw [if_neg ha] at hu2 hx2; exact hr a u2 x2 hu2 hx2
  refine ⟨M, _, g.join hlt ⟨by simp [hl], hrr, fun b => if (hs 0 b).isSome = true then i else c b, fun b o hb => ?_, fun a u2 x2 _ hu2 hx2 => ?_⟩⟩
  · rw [List.length_set]
    refine ⟨?_, by simp⟩
    dsimp only
    split
    · exact hi
    · rename_i hn
      have : hs 0 b = none := by simpa using hn
      unfold hor at hb
      rw [this] at hb
      exact (hc b o hb).1
  · rw [List.getElem?_set] at hu2 hx2
    by_cases ha : i = a
    · subst ha
      rw [if_pos rfl, if_pos hi] at hu2
      rw [if_pos rfl, if_pos (by rw [← hl]; exact hi)] at hx2
      injection hu2 with hu2; injection hx2 with hx2
      subst hu2; subst hx2
      have e : (fun b => if (if (hs 0 b).isSome = true then i else c b) = i then hor (hs 0) (hs (j + 1)) b else none) = hs 0 := by
        funext b
        cases hb : hs 0 b with
        | some o => simp [hor, hb]
        | none =>
          simp only [Option.isSome_none, Bool.false_eq_true, if_false]
          split
          · rename_i hci
            unfold hor; rw [hb]
            cases hq : hs (j + 1) b with
            | none => rfl
            | some o => exact absurd (by rw [hci]) (hc b o hq).2
          · rfl
      rw [e]; exact h0
    · rw [if_neg ha] at hu2 hx2
      have := hok a u2 x2 (fun e => ha (by injection e)) hu2 hx2
      have e : (fun b => if c b = a then hs (j + 1) b else none) = (fun b => if (if (hs 0 b).isSome = true then i else c b) = a then hor (hs 0) (hs (j + 1)) b else none) := by
        funext b
        cases hb : hs 0 b with
        | some o => simp [hor, hb, ha, hdj b o hb]
        | none => simp [hor, hb]
      rw [← e]; exact this
theorem Holds.bag_rest (h : Holds E w Γ) {k : Option Nat} (hj : Γ[j]? = some (bag X us xs k)) (hu : us[i]? = some u) (hx : xs[i]? = some x) : X.rest u x := by
  obtain ⟨M, hs, g⟩ := h
  exact (g.sat j _ hj).2.1 i u x hu hx
end

/-! ### A slice whose elements own slices -/
section
variable {ρ α : Type} [GT ρ] {X : XT ρ α} {us : List ρ} {xs : List α} {E w : World} {Γ : List HP} {j i : Nat} {e : TypeId} {v : Value}
/-- The elements' own slices become memory that never changes: the slice holds data. -/
theorem Holds.nest_freeze [GT α] (hsz : GT.sz ρ = GT.sz α) (hX : ∀ M h u x cs, (∀ b o, h b = some o → M b = none) → X.ok M h u x → GT.ok M cs u → GT.ok (hor M h) cs x)
    (h : Holds E w (bag X us xs none :: Γ)) (hj : Γ[j]? = some (own e v us)) : Holds E w (Gk.junk :: Γ.set j (own e v xs)) := by
  obtain ⟨M, hs, g⟩ := h
  have hlt := lt_of_get hj
  obtain ⟨hl, hr, c, hc, hok⟩ := g.sat 0 _ rfl
  have g2 := g.freeze (P' := Gk.junk) (i := 0) (by simp) trivial
  have ho := g.sat (j + 1) (own e v us) (by simpa using hj)
  have hnew : (own e v xs).ok (hor M (hs 0)) (hs (j + 1)) := by
    rcases ho with ⟨h1, h2, h3⟩ | ⟨b, o, cap, cur, cs, h1, h2, h3, h4, h5, h6, h7⟩
    · subst h2
      exact .inl ⟨h1, List.length_eq_zero_iff.1 (by rw [← hl]; rfl), h3⟩
    · refine .inr ⟨b, o, cap, cur, cs, by rw [← hl]; exact h1, by rw [← hl]; exact h2, h3, h4, by rw [← hsz]; exact h5, by rw [← hl, ← hsz]; exact h6, ⟨by rw [← hl, ← hsz]; exact h7.1, fun a x hx => ?_⟩⟩
      have ha : a < us.length := by rw [hl]; exact (List.getElem?_eq_some_iff.1 hx).1
      have hu := List.getElem?_eq_getElem ha
      have h9 := hX M _ _ _ _ (fun b' o' hb' => by
        split at hb'
        · exact g.dm 0 b' o' (by simp) hb'
        · cases hb') (hok a _ x (by simp) hu hx) (by exact h7.2 a _ hu)
      rw [← hsz]
      refine GT.mono (fun q o' hq => ?_) h9
      unfold hor at hq ⊢
      cases hM : M q with
      | some o2 => rw [hM] at hq; exact hq
      | none =>
        rw [hM] at hq
        dsimp only at hq ⊢
        split at hq
        · exact hq
        · cases hq
  have g3 := g2.update (w' := w) (P' := own e v xs) (i := j + 1) (by simp; exact hlt) (hs (j + 1)) hnew rfl rfl rfl
    (fun b o hb => g.le (j + 1) b o (by simp; exact hlt) hb) (fun b o hb => .inl ⟨o, by unfold hset; rw [if_neg (by omega)]; exact hb⟩) (fun b _ _ => rfl)
  exact ⟨_, _, g3⟩
end

/-! ### Elements that are slices -/
section
variable {β : Type} [GT β]
def XS (e : TypeId) (β : Type) [GT β] : XT RV (List β) := ⟨fun _ _ => True, fun M h u l => ownV e M h u.v l, fun {M M' h u l} hk hh => (own e u.v l).mono hk hh, fun _ => trivial⟩
theorem ownV.sl {e : TypeId} {M h : Heap} {v : Value} {l : List β} (hd : ∀ b o, h b = some o → M b = none) (ho : ownV e M h v l) : sliceOk (hor M h) v l := by
  rcases ho with ⟨rfl, rfl, _⟩ | ⟨b, o, cap, cur, xs, rfl, h2, h3, h4, h5, h6, h7⟩
  · exact ⟨none, 0, 0, rfl, rfl, Nat.le_refl _, by simp [maxLen], fun i x hx => by simp at hx⟩
  · refine slice_of_row (M := hor M h) (e := e) (fr := (0, 0)) ?_ (h7.mono (hle_hor _ _)) h6 h2 h3
    have hb : h b = some (.cells cur e (0, 0)) := by rw [h4]; exact one_self _ _
    simp [hor, hd b _ hb, hb]
end

end Go.Gk
