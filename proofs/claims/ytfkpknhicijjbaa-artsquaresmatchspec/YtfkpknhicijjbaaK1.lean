/-
  A small logic of memory over the model: assertions on disjoint parts of the heap, beside memory that never changes.
  No statement of the seed is proved here.
-/
import Derived.Tactics
import Derived.Orders
import Derived.Maps.AppendAt
import Derived.Laws.Tables
import Derived.Laws.CopyRow
import Derived.KernelRfl
set_option linter.unusedVariables false
set_option linter.unusedSimpArgs false
set_option linter.unusedSectionVars false
namespace Go.Gk
open Go

/-! ### Parts of a heap, assertions -/
abbrev Heap := Nat → Option Obj
def hnil : Heap := fun _ => none
def one (g : Nat) (o : Obj) : Heap := fun b => if b = g then some o else none
def hor (M h : Heap) : Heap := fun b => match M b with | some o => some o | none => h b
def hle (M M' : Heap) : Prop := ∀ b o, M b = some o → M' b = some o

theorem hle_refl (M : Heap) : hle M M := fun _ _ h => h
theorem hle_trans {A B C : Heap} (h : hle A B) (k : hle B C) : hle A C := fun b o e => k b o (h b o e)
theorem hle_hor (M h : Heap) : hle M (hor M h) := fun b o e => by simp [hor, e]
theorem one_some {g b : Nat} {o o' : Obj} (h : one g o b = some o') : b = g ∧ o = o' := by
  unfold one at h; split at h <;> simp_all
theorem one_self (g : Nat) (o : Obj) : one g o g = some o := by simp [one]

structure HP where
  ok : Heap → Heap → Prop
  mono : ∀ {M M' h : Heap}, hle M M' → ok M h → ok M' h

def junk : HP := ⟨fun _ _ => True, fun _ h => h⟩

structure Good (E w : World) (M : Heap) (hs : Nat → Heap) (Γ : List HP) : Prop where
  os : w.os = E.os
  tape : w.tape = E.tape
  out : w.output = E.output
  dr : E.drawn ≤ w.drawn
  im : ∀ b o, M b = some o → w.heap[b]? = some o
  sat : ∀ i (P : HP), Γ[i]? = some P → P.ok M (hs i)
  le : ∀ i b o, i < Γ.length → hs i b = some o → w.heap[b]? = some o
  dm : ∀ i b o, i < Γ.length → hs i b = some o → M b = none
  dj : ∀ i j b o, i < Γ.length → j < Γ.length → i ≠ j → hs i b = some o → hs j b = none

def Holds (E w : World) (Γ : List HP) : Prop := ∃ M hs, Good E w M hs Γ

theorem lt_of_get {Γ : List HP} {i : Nat} {P : HP} (h : Γ[i]? = some P) : i < Γ.length := (List.getElem?_eq_some_iff.1 h).1

section
variable {E w w' : World} {M : Heap} {hs : Nat → Heap} {Γ Γ' : List HP} {P P' : HP} {i : Nat}

def hcons (h : Heap) (hs : Nat → Heap) : Nat → Heap
  | 0 => h
  | i + 1 => hs i
def hset (hs : Nat → Heap) (i : Nat) (h : Heap) : Nat → Heap := fun j => if j = i then h else hs j

theorem Good.cons (g : Good E w M hs Γ) (h : Heap) (hp : P.ok M h) (hle' : ∀ b o, h b = some o → w.heap[b]? = some o)
    (hdm : ∀ b o, h b = some o → M b = none) (hdj : ∀ j b o, j < Γ.length → h b = some o → hs j b = none) :
    Good E w M (hcons h hs) (P :: Γ) where
  os := g.os
  tape := g.tape
  out := g.out
  dr := g.dr
  im := g.im
  sat := fun i Q hq => by
    cases i with
    | zero => simp at hq; subst hq; exact hp
    | succ i => exact g.sat i Q (by simpa using hq)
  le := fun i b o hi hb => by
    cases i with
    | zero => exact hle' b o hb
    | succ i => exact g.le i b o (by simpa using hi) hb
  dm := fun i b o hi hb => by
    cases i with
    | zero => exact hdm b o hb
    | succ i => exact g.dm i b o (by simpa using hi) hb
  dj := fun i j b o hi hj hne hb => by
    cases i with
    | zero =>
      cases j with
      | zero => exact absurd rfl hne
      | succ j => exact hdj j b o (by simpa using hj) hb
    | succ i =>
      cases j with
      | zero =>
        simp only [hcons] at hb ⊢
        cases e : h b with
        | none => rfl
        | some o' => have := hdj i b o' (by simpa using hi) e; rw [this] at hb; cases hb
      | succ j => exact g.dj i j b o (by simpa using hi) (by simpa using hj) (by omega) hb

theorem Good.cons_nil (g : Good E w M hs Γ) (hp : P.ok M hnil) : Good E w M (hcons hnil hs) (P :: Γ) :=
  g.cons hnil hp (fun _ _ h => by cases h) (fun _ _ h => by cases h) (fun _ _ _ _ h => by cases h)

/-- The world changes, but no block of any part. -/
theorem Good.world (g : Good E w M hs Γ) (h1 : w'.os = w.os) (h2 : w'.tape = w.tape) (h3 : w'.output = w.output)
    (hk : ∀ b, b < w.heap.size → w'.heap[b]? = w.heap[b]?) (h0 : w.drawn ≤ w'.drawn := by first | exact Nat.le_refl _ | exact Nat.le_succ _) : Good E w' M hs Γ := by
  have key : ∀ b o, w.heap[b]? = some o → w'.heap[b]? = some o := fun b o h => by
    rw [hk b ((Array.getElem?_eq_some_iff.1 h).1)]; exact h
  exact ⟨h1.trans g.os, h2.trans g.tape, h3.trans g.out, Nat.le_trans g.dr h0, fun b o h => key b o (g.im b o h), g.sat,
    fun i b o hi h => key b o (g.le i b o hi h), g.dm, g.dj⟩

/-- One part changes, and the blocks that it owns; new blocks may come. -/
theorem Good.update (g : Good E w M hs Γ) (hi : i < Γ.length) (h' : Heap) (hp : P'.ok M h')
    (h1 : w'.os = w.os) (h2 : w'.tape = w.tape) (h3 : w'.output = w.output)
    (hle' : ∀ b o, h' b = some o → w'.heap[b]? = some o)
    (hdom : ∀ b o, h' b = some o → (∃ o', hs i b = some o') ∨ w.heap.size ≤ b)
    (hk : ∀ b, hs i b = none → b < w.heap.size → w'.heap[b]? = w.heap[b]?) (h0 : w.drawn ≤ w'.drawn := by first | exact Nat.le_refl _ | exact Nat.le_succ _) :
    Good E w' M (hset hs i h') (Γ.set i P') := by
  have lt : ∀ b o, w.heap[b]? = some o → b < w.heap.size := fun b o h => (Array.getElem?_eq_some_iff.1 h).1
  refine ⟨h1.trans g.os, h2.trans g.tape, h3.trans g.out, Nat.le_trans g.dr h0, fun b o h => ?_, fun j Q hq => ?_, fun j b o hj hb => ?_, fun j b o hj hb => ?_, fun j k b o hj hk' hne hb => ?_⟩
  · have hw := g.im b o h
    rw [hk b ?_ (lt b o hw)]; exact hw
    cases e : hs i b with
    | none => rfl
    | some o' => have := g.dm i b o' hi e; rw [this] at h; cases h
  · rw [List.getElem?_set] at hq
    unfold hset
    by_cases e : i = j
    · subst e; simp [hi] at hq; subst hq; simpa using hp
    · rw [if_neg e] at hq; rw [if_neg (fun h => e h.symm)]; exact g.sat j Q hq
  · rw [List.length_set] at hj
    unfold hset at hb
    split at hb
    · exact hle' b o hb
    · rename_i e
      have hw := g.le j b o hj hb
      rw [hk b (g.dj j i b o hj hi e hb) (lt b o hw)]; exact hw
  · rw [List.length_set] at hj
    unfold hset at hb
    split at hb
    · rcases hdom b o hb with ⟨o', h'⟩ | h'
      · exact g.dm i b o' hi h'
      · cases e : M b with
        | none => rfl
        | some o' => exact absurd (lt b o' (g.im b o' e)) (by omega)
    · exact g.dm j b o hj hb
  · rw [List.length_set] at hj hk'
    unfold hset at hb ⊢
    split at hb
    · rename_i e
      rw [if_neg (fun h => hne (e.trans h.symm))]
      rcases hdom b o hb with ⟨o', h'⟩ | h'
      · exact g.dj i k b o' hi hk' (fun h => hne (e.trans h)) h'
      · cases e' : hs k b with
        | none => rfl
        | some o' => exact absurd (lt b o' (g.le k b o' hk' e')) (by omega)
    · rename_i e
      split
      · cases e' : h' b with
        | none => rfl
        | some o' =>
          rcases hdom b o' e' with ⟨o'', h''⟩ | h''
          · have := g.dj i j b o'' hi hj (fun h => e h.symm) h''; rw [this] at hb; cases hb
          · exact absurd (lt b o (g.le j b o hj hb)) (by omega)
      · exact g.dj j k b o hj hk' hne hb

/-- An own part becomes memory that never changes. -/
theorem Good.freeze (g : Good E w M hs Γ) (hi : i < Γ.length) (hp : P'.ok (hor M (hs i)) hnil) :
    Good E w (hor M (hs i)) (hset hs i hnil) (Γ.set i P') := by
  refine ⟨g.os, g.tape, g.out, g.dr, fun b o h => ?_, fun j Q hq => ?_, fun j b o hj hb => ?_, fun j b o hj hb => ?_, fun j k b o hj hk' hne hb => ?_⟩
  · unfold hor at h
    cases e : M b with
    | none => rw [e] at h; exact g.le i b o hi h
    | some o' => rw [e] at h; simp at h; subst h; exact g.im b _ e
  · rw [List.getElem?_set] at hq
    unfold hset
    by_cases e : i = j
    · subst e; simp [hi] at hq; subst hq; simpa using hp
    · rw [if_neg e] at hq; rw [if_neg (fun h => e h.symm)]; exact Q.mono (hle_hor _ _) (g.sat j Q hq)
  · rw [List.length_set] at hj
    unfold hset at hb
    split at hb
    · cases hb
    · exact g.le j b o hj hb
  · rw [List.length_set] at hj
    unfold hset at hb
    split at hb
    · cases hb
    · rename_i e
      simp only [hor, g.dm j b o hj hb]
      exact g.dj j i b o hj hi e hb
  · rw [List.length_set] at hj hk'
    unfold hset at hb ⊢
    split at hb
    · cases hb
    · split
      · rfl
      · exact g.dj j k b o hj hk' hne hb

/-- A list of assertions taken out of another one, each place at most once. -/
theorem Good.pick (g : Good E w M hs Γ) (f : Nat → Nat) (hlt : ∀ i, i < Γ'.length → f i < Γ.length) (hget : ∀ i, i < Γ'.length → Γ'[i]? = Γ[f i]?)
    (hinj : ∀ i j, i < Γ'.length → j < Γ'.length → i ≠ j → f i ≠ f j) : Good E w M (fun i => hs (f i)) Γ' :=
  ⟨g.os, g.tape, g.out, g.dr, g.im, fun i Q hq => g.sat (f i) Q (by rw [← hget i (lt_of_get hq)]; exact hq),
    fun i b o hi hb => g.le (f i) b o (hlt i hi) hb, fun i b o hi hb => g.dm (f i) b o (hlt i hi) hb,
    fun i j b o hi hj hne hb => g.dj (f i) (f j) b o (hlt i hi) (hlt j hj) (hinj i j hi hj hne) hb⟩

theorem Holds.junk_at (h : Holds E w Γ) (i : Nat) : Holds E w (Γ.set i junk) := by
  obtain ⟨M, hs, g⟩ := h
  by_cases hi : i < Γ.length
  · have e : hset hs i (hs i) = hs := by funext j; unfold hset; split <;> simp_all
    have := g.update (P' := junk) hi (hs i) trivial rfl rfl rfl (fun b o hb => g.le i b o hi hb) (fun b o hb => .inl ⟨o, hb⟩) (fun _ _ _ => rfl)
    exact ⟨M, _, this⟩
  · rw [List.set_eq_of_length_le (by omega)]; exact ⟨M, hs, g⟩

theorem Holds.drop (k : Nat) (h : Holds E w Γ) (hd : Γ.drop k = Γ') : Holds E w Γ' := by
  obtain ⟨M, hs, g⟩ := h
  subst hd
  exact ⟨M, _, g.pick (fun i => k + i) (fun i hi => by rw [List.length_drop] at hi; omega) (fun i _ => by rw [List.getElem?_drop]) (fun i j _ _ h => by omega)⟩

/-- The chosen entries, in the chosen order, ahead of the rest behind the first m. -/
theorem Holds.pick (h : Holds E w Γ) (m : Nat) (idx : List Nat) {Γ0 new : List HP} (hd : Γ.drop m = Γ0) (hg : idx.map (fun i => Γ[i]?) = new.map some)
    (hn : idx.Nodup) (hm : ∀ i ∈ idx, i < m) : Holds E w (new ++ Γ0) := by
  obtain ⟨M, hs, g⟩ := h
  have hlen : idx.length = new.length := by have := congrArg List.length hg; simpa using this
  have hat : ∀ i, i < idx.length → Γ[idx.getD i 0]? = new[i]? := fun i hi => by
    have := congrArg (·[i]?) hg
    simp [List.getElem?_map, List.getElem?_eq_getElem hi, List.getElem?_eq_getElem (hlen ▸ hi)] at this
    simp [List.getD_eq_getElem?_getD, List.getElem?_eq_getElem hi, this, List.getElem?_eq_getElem (hlen ▸ hi)]
  have hm' : ∀ i, i < idx.length → idx.getD i 0 < m := fun i hi => by
    rw [List.getD_eq_getElem?_getD, List.getElem?_eq_getElem hi]; exact hm _ (List.getElem_mem hi)
  subst hd
  have hget : ∀ i, i < (new ++ Γ.drop m).length → (new ++ Γ.drop m)[i]? = Γ[if i < idx.length then idx.getD i 0 else m + (i - idx.length)]? := by
    intro i hi
    by_cases e : i < idx.length
    · rw [if_pos e, hat i e, List.getElem?_append_left (hlen ▸ e)]
    · rw [if_neg e, List.getElem?_append_right (by omega), List.getElem?_drop, hlen]
  refine ⟨M, _, g.pick (fun i => if i < idx.length then idx.getD i 0 else m + (i - idx.length)) (fun i hi => ?_) hget (fun i j hi hj hne => ?_)⟩
  · have := hget i hi
    rw [List.getElem?_eq_getElem hi] at this
    exact lt_of_get this.symm
  · show (if i < idx.length then idx.getD i 0 else m + (i - idx.length)) ≠ (if j < idx.length then idx.getD j 0 else m + (j - idx.length))
    by_cases e : i < idx.length
    · by_cases e' : j < idx.length
      · rw [if_pos e, if_pos e']
        intro h
        rw [List.getD_eq_getElem?_getD, List.getElem?_eq_getElem e, List.getD_eq_getElem?_getD, List.getElem?_eq_getElem e'] at h
        exact hne ((List.getElem_inj hn).1 (by simpa using h))
      · rw [if_pos e, if_neg e']; have := hm' i e; omega
    · by_cases e' : j < idx.length
      · rw [if_neg e, if_pos e']; have := hm' j e'; omega
      · rw [if_neg e, if_neg e']; omega

/-- An entry put back to its place. -/
theorem Holds.back (h : Holds E w (P :: Γ)) (hi : i < Γ.length) : Holds E w (Γ.set i P) := by
  obtain ⟨M, hs, g⟩ := h
  have hlen : (Γ.set i P).length = Γ.length := List.length_set
  refine ⟨M, _, g.pick (fun j => if j = i then 0 else j + 1) (fun j hj => ?_) (fun j hj => ?_) (fun j k hj hk hne => ?_)⟩
  · show (if j = i then 0 else j + 1) < Γ.length + 1
    split <;> omega
  · rw [List.getElem?_set]
    show _ = (P :: Γ)[if j = i then 0 else j + 1]?
    by_cases e : i = j
    · subst e; simp [hi]
    · rw [if_neg e, if_neg (fun h => e h.symm)]; rfl
  · show (if j = i then 0 else j + 1) ≠ (if k = i then 0 else k + 1)
    split <;> split <;> omega

/-- An entry to the front, junk in its place. -/
theorem Holds.pull (h : Holds E w Γ) (hi : Γ[i]? = some P) : Holds E w (P :: Γ.set i junk) := by
  obtain ⟨M, hs, g⟩ := h
  have hlt := lt_of_get hi
  have g2 := g.update (P' := junk) hlt hnil trivial rfl rfl rfl (fun b o hb => by cases hb) (fun b o hb => by cases hb) (fun _ _ _ => rfl)
  refine ⟨M, _, g2.cons (hs i) (g.sat i P hi) (fun b o hb => g.le i b o hlt hb) (fun b o hb => g.dm i b o hlt hb) (fun j b o hj hb => ?_)⟩
  rw [List.length_set] at hj
  unfold hset
  split
  · rfl
  · rename_i e; exact g.dj i j b o hlt hj (fun h => e h.symm) hb

theorem Holds.world (h : Holds E w Γ) (h1 : w'.os = w.os) (h2 : w'.tape = w.tape) (h3 : w'.output = w.output)
    (hk : ∀ b, b < w.heap.size → w'.heap[b]? = w.heap[b]?) (h0 : w.drawn ≤ w'.drawn := by first | exact Nat.le_refl _ | exact Nat.le_succ _) : Holds E w' Γ :=
  let ⟨M, hs, g⟩ := h
  ⟨M, hs, g.world h1 h2 h3 hk h0⟩
theorem Holds.drew (h : Holds E w Γ) : Holds E w.drew Γ := h.world rfl rfl rfl (fun _ _ => rfl)

theorem heap_alloc_lt (w : World) (o : Obj) (b : Nat) (h : b < w.heap.size) : (w.alloc o).heap[b]? = w.heap[b]? := heap_alloc_old w o b h

/-- A new block. -/
theorem Holds.alloc (h : Holds E w Γ) (o : Obj) (hp : ∀ M hs, Good E w M hs Γ → P.ok M (one w.heap.size o)) : Holds E (w.alloc o) (P :: Γ) := by
  obtain ⟨M, hs, g⟩ := h
  have lt : ∀ b o, w.heap[b]? = some o → b < w.heap.size := fun b o h => (Array.getElem?_eq_some_iff.1 h).1
  refine ⟨M, _, (g.world (w' := w.alloc o) rfl rfl rfl (fun b hb => heap_alloc_lt w o b hb)).cons (one w.heap.size o) (hp M hs g) (fun b o' hb => ?_) (fun b o' hb => ?_) (fun j b o' hj hb => ?_)⟩
  · obtain ⟨rfl, rfl⟩ := one_some hb; exact heap_alloc_new w o
  · obtain ⟨rfl, rfl⟩ := one_some hb
    cases e : M w.heap.size with
    | none => rfl
    | some o' => exact absurd (lt _ o' (g.im _ o' e)) (by omega)
  · obtain ⟨rfl, rfl⟩ := one_some hb
    cases e : hs j w.heap.size with
    | none => rfl
    | some o' => exact absurd (lt _ o' (g.le j _ o' hj e)) (by omega)

/-- A fact on the memory that never changes. -/
theorem Holds.know (h : Holds E w Γ) (hp : ∀ M hs, Good E w M hs Γ → P.ok M hnil) : Holds E w (P :: Γ) :=
  let ⟨M, hs, g⟩ := h
  ⟨M, _, g.cons_nil (hp M hs g)⟩
end
end Go.Gk
