/-
  Plain laws: the nets of pins, loose pins. No statement of the seed is proved here.
-/
import Derived.Test.YtghiafpkpfipgaaGreatDoorP4
set_option linter.unusedVariables false
set_option linter.unusedSimpArgs false
set_option linter.unusedSectionVars false
namespace Go.Gk
open Go
section
variable {N : Nat}
/-! ### What a right list is -/
structure ListOk (t : List PartType) (x : Netlist) : Prop where
  types : TypesOk t
  parts : PartsOk t x.Parts
  few : x.Parts.length ≤ 1000
  fewNets : x.Nets.length ≤ 1000
  fewPins : ∀ n ∈ x.Nets, 0 < n.Pins.length ∧ n.Pins.length ≤ 500
  noPorts : ∀ n ∈ x.Nets, n.Ports = []
  nets : Sorted Net.Name x.Nets
  path : ∀ n ∈ x.Nets, isPath n.Name = true
  pathP : ∀ p ∈ x.Parts, isPath p.Name = true
  pin : ∀ n ∈ x.Nets, ∀ p ∈ n.Pins, hasPin t x.Parts p = true
  pinsUp : ∀ n ∈ x.Nets, ∀ (i j : Nat) (p q : Pin), i < j → n.Pins[i]? = some p → n.Pins[j]? = some q → pinLt p q = true
  once : ∀ (i j : Nat) (n m : Net) (p : Pin), x.Nets[i]? = some n → x.Nets[j]? = some m → p ∈ n.Pins → p ∈ m.Pins → i = j
theorem pinLt_irrefl (a : Pin) : pinLt a a = false := by
  unfold pinLt
  have h1 : a.Part.ltb a.Part = false := by rw [← Bool.not_eq_true]; exact Str.lt_irrefl _
  have h2 : a.Pin.ltb a.Pin = false := by rw [← Bool.not_eq_true]; exact Str.lt_irrefl _
  rw [h1, h2]; simp
theorem pinLt_trans {a b c : Pin} (h1 : pinLt a b = true) (h2 : pinLt b c = true) : pinLt a c = true := by
  unfold pinLt at *
  simp only [Bool.or_eq_true, Bool.and_eq_true, eqb_iff] at *
  rcases h1 with h1 | ⟨e1, h1⟩
  · rcases h2 with h2 | ⟨e2, _⟩
    · exact .inl (Str.lt_trans h1 h2)
    · rw [← e2]; exact .inl h1
  · rcases h2 with h2 | ⟨e2, h2⟩
    · rw [e1]; exact .inl h2
    · exact .inr ⟨e1.trans e2, Str.lt_trans h1 h2⟩
theorem pinLt_total (a b : Pin) : pinLt a b = true ∨ a = b ∨ pinLt b a = true := by
  unfold pinLt
  simp only [Bool.or_eq_true, Bool.and_eq_true, eqb_iff]
  rcases Str.lt_total a.Part b.Part with h | h | h
  · exact .inl (.inl h)
  · rcases Str.lt_total a.Pin b.Pin with h' | h' | h'
    · exact .inl (.inr ⟨h, h'⟩)
    · refine .inr (.inl ?_); cases a; cases b; simp_all
    · exact .inr (.inr (.inr ⟨h.symm, h'⟩))
  · exact .inr (.inr (.inl h))
theorem pinsUp_of {l : List Pin} (h : ∀ k, k < l.length → pinOrd l k = false) : ∀ (i j : Nat) (p q : Pin), i < j → l[i]? = some p → l[j]? = some q → pinLt p q = true := by
  intro i j
  induction j with
  | zero => intro p q hij; omega
  | succ j ih =>
    intro p q hij hp hq
    have hj := (List.getElem?_eq_some_iff.1 hq).1
    have h1 := h (j + 1) hj
    unfold pinOrd at h1
    rw [hq, Nat.add_sub_cancel, List.getElem?_eq_getElem (by omega : j < l.length)] at h1
    simp at h1
    by_cases e : i = j
    · subst e
      rw [List.getElem?_eq_getElem (by omega : i < l.length)] at hp; injection hp with hp; subst hp; exact h1
    · exact pinLt_trans (ih p l[j] (by omega) hp (List.getElem?_eq_getElem (by omega))) h1
theorem netErr_ne {t : List PartType} {x : Netlist} {k : Nat} {r : Int} (h : netErr t x k = some r) : r ≠ 0 := by
  unfold netErr at h
  split at h
  · cases h
  split at h
  · injection h with h; omega
  split at h
  · injection h with h; omega
  split at h
  · injection h with h; omega
  cases hx : fst? _ (npErr t x k _) with
  | some r' =>
    rw [hx] at h
    injection h with h
    subst h
    obtain ⟨j, _, hj, _⟩ := fst?_some.1 hx
    exact npErr_ne hj
  | none =>
    rw [hx] at h
    simp only [Option.none_or] at h
    split at h
    · injection h with h; omega
    split at h
    · injection h with h; omega
    · cases h
theorem checkList_ok {t : List PartType} {x : Netlist} (h : checkList t x = 0) : ListOk t x := by
  unfold checkList at h
  by_cases h1 : checkTypes t ≠ 0
  · rw [if_pos h1] at h; exact absurd h h1
  rw [if_neg h1] at h
  by_cases h2 : checkParts t x.Parts ≠ 0
  · rw [if_pos h2] at h; exact absurd h h2
  rw [if_neg h2] at h
  replace h1 := Decidable.not_not.1 h1
  replace h2 := Decidable.not_not.1 h2
  unfold checkNets at h
  by_cases h3 : 1000 < x.Nets.length
  · rw [if_pos h3] at h; cases h
  rw [if_neg h3] at h
  have hn := getD_zero (fun k r hk => netErr_ne hk) h
  have key : ∀ i (hi : i < x.Nets.length), isPath x.Nets[i].Name = true ∧ 0 < x.Nets[i].Pins.length ∧ x.Nets[i].Pins.length ≤ 500 ∧ x.Nets[i].Ports = [] ∧ ordBad Net.Name x.Nets i = false ∧
      ∀ k (hk : k < x.Nets[i].Pins.length), hasPin t x.Parts x.Nets[i].Pins[k] = true ∧ pinOrd x.Nets[i].Pins k = false ∧ inNets (x.Nets.take i) x.Nets[i].Pins[k] = false := by
    intro i hi
    have h4 := hn i hi
    unfold netErr at h4
    rw [List.getElem?_eq_getElem hi] at h4
    dsimp only at h4
    split at h4
    · cases h4
    split at h4
    · cases h4
    split at h4
    · cases h4
    cases h5 : fst? x.Nets[i].Pins.length (npErr t x i x.Nets[i].Pins) with
    | some r => rw [h5] at h4; cases h4
    | none =>
      rw [h5] at h4
      simp only [Option.none_or] at h4
      split at h4
      · cases h4
      split at h4
      · cases h4
      rename_i h6 h7 h8 h9 h10
      refine ⟨by simpa using h6, by omega, by omega, List.length_eq_zero_iff.1 (by omega), by simpa using h10, fun k hk => ?_⟩
      have h11 := fst?_none.1 h5 k hk
      unfold npErr at h11
      rw [List.getElem?_eq_getElem hk] at h11
      dsimp only at h11
      repeat' split at h11
      all_goals first | (simp at h11; done) | simp_all
  have hpe : ∀ k (hk : k < x.Parts.length), isPath x.Parts[k].Name = true := by
    intro k hk
    have h5 := h2
    unfold checkParts at h5
    split at h5
    · cases h5
    have h4 := getD_zero (fun k r hk => partErr_ne hk) h5 k hk
    unfold partErr at h4
    rw [List.getElem?_eq_getElem hk] at h4
    dsimp only at h4
    split at h4
    · cases h4
    · rename_i h6; simpa using h6
  have mem : ∀ n ∈ x.Nets, ∃ i, ∃ hi : i < x.Nets.length, n = x.Nets[i] := fun n hn => by
    obtain ⟨i, hi⟩ := List.getElem?_of_mem hn
    obtain ⟨hlt, rfl⟩ := List.getElem?_eq_some_iff.1 hi
    exact ⟨i, hlt, rfl⟩
  refine ⟨checkTypes_ok h1, checkParts_ok h2, ?_, by omega, fun n hn => ?_, fun n hn => ?_, sorted_of_ord fun i hi => (key i hi).2.2.2.2.1, fun n hn => ?_, fun p hp => ?_, fun n hn p hp => ?_, fun n hn => ?_, ?_⟩
  · unfold checkParts at h2
    split at h2
    · cases h2
    · omega
  · obtain ⟨i, hi, rfl⟩ := mem n hn; exact ⟨(key i hi).2.1, (key i hi).2.2.1⟩
  · obtain ⟨i, hi, rfl⟩ := mem n hn; exact (key i hi).2.2.2.1
  · obtain ⟨i, hi, rfl⟩ := mem n hn; exact (key i hi).1
  · obtain ⟨k, hk⟩ := List.getElem?_of_mem hp
    obtain ⟨hlt, rfl⟩ := List.getElem?_eq_some_iff.1 hk
    exact hpe k hlt
  · obtain ⟨i, hi, rfl⟩ := mem n hn
    obtain ⟨k, hk⟩ := List.getElem?_of_mem hp
    obtain ⟨hlt, rfl⟩ := List.getElem?_eq_some_iff.1 hk
    exact ((key i hi).2.2.2.2.2 k hlt).1
  · obtain ⟨i, hi, rfl⟩ := mem n hn
    exact pinsUp_of fun k hk => ((key i hi).2.2.2.2.2 k hk).2.1
  · have one : ∀ (i j : Nat) (n m : Net) (p : Pin), i < j → x.Nets[i]? = some n → x.Nets[j]? = some m → p ∈ n.Pins → p ∈ m.Pins → False := by
      intro i j n m p hij hn hm hpn hpm
      obtain ⟨hj, rfl⟩ := List.getElem?_eq_some_iff.1 hm
      obtain ⟨k, hk⟩ := List.getElem?_of_mem hpm
      obtain ⟨hlt, rfl⟩ := List.getElem?_eq_some_iff.1 hk
      have h5 := ((key j hj).2.2.2.2.2 k hlt).2.2
      unfold inNets at h5
      rw [List.any_eq_false] at h5
      refine h5 n (List.mem_of_getElem? (i := i) (by rw [List.getElem?_take_of_lt hij]; exact hn)) ?_
      simpa using hpn
    intro i j n m p hn hm hpn hpm
    rcases Nat.lt_trichotomy i j with h5 | h5 | h5
    · exact (one i j n m p h5 hn hm hpn hpm).elim
    · exact h5
    · exact (one j i m n p h5 hm hn hpm hpn).elim

/-! ### Which net a pin is in -/
/-! ### Loose pins -/
def typeFor (t : List PartType) (p : Part) : PartType := (t.find? (fun y => y.Name.eqb p.Type_)).getD default
def pinsOf (t : List PartType) (p : Part) : List Pin := (typeFor t p).Pins.map (fun y => ⟨p.Name, y.Name⟩)
theorem awake_eq (hN : 4194304 ≤ N) : etchhouselaw2_awake N = some true := by
  obtain ⟨M, rfl⟩ : ∃ M, N = M + 64 := ⟨N - 64, by omega⟩
  rfl
end
end Go.Gk
