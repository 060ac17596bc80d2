/-
  Plain laws: names in order, what makes a list right, elements left out. No statement of the seed is proved here.
-/
import Derived.Test.YtghdidhpcgioeaaDoorP5
set_option linter.unusedVariables false
set_option linter.unusedSimpArgs false
set_option linter.unusedSectionVars false
namespace Go.Gk
open Go
section
variable {N : Nat}
/-! ### Names in order -/
def namesErr (l : List Str) (most : Nat) (b : Str → Bool) : Int :=
  if most < l.length then 2 else (fst? (R := Int) l.length (fun k => match l[k]? with | some s => if b s = false then some 9 else if ordBad (fun x => x) l k = true then some 8 else none | none => none)).getD 0
theorem ord_str {l : List Str} {k : Nat} {x : Str} (hx : l[k]? = some x) (hl : l.length ≤ 1048576) :
    (bif (decide (((k : Nat) : Int) > 0)) then ((idx l (IntKind.wrap .i64 (((k : Nat) : Int) - 1))).bind fun (x51 : Str) => some (x.ltb x51 || x.eqb x51)) else (some false)) = some (ordBad (fun x => x) l k) := ord_eq (fun x => x) hx hl
theorem names_ok {l : List Str} {most : Nat} {b : Str → Bool} (h : namesErr l most b = 0) : l.length ≤ most ∧ Sorted (fun x => x) l ∧ ∀ s ∈ l, b s = true := by
  unfold namesErr at h
  by_cases h1 : most < l.length
  · rw [if_pos h1] at h; cases h
  rw [if_neg h1] at h
  have hk := getD_zero (fun k r hk => by
    split at hk
    · split at hk
      · injection hk with hk; omega
      · split at hk
        · injection hk with hk; omega
        · cases hk
    · cases hk) h
  refine ⟨by omega, sorted_of_ord fun k hk' => ?_, fun s hs => ?_⟩
  · have := hk k hk'
    rw [List.getElem?_eq_getElem hk'] at this
    dsimp only at this
    split at this
    · cases this
    · split at this
      · cases this
      · rename_i h2; simpa using h2
  · obtain ⟨k, hk'⟩ := List.getElem?_of_mem hs
    obtain ⟨hlt, rfl⟩ := List.getElem?_eq_some_iff.1 hk'
    have := hk k hlt
    rw [hk'] at this
    dsimp only at this
    split at this
    · cases this
    · rename_i h2; simpa using h2
theorem NetAt_eq {x : Netlist} {s : Str} (hs : Sorted Net.Name x.Nets) (hl : x.Nets.length ≤ 1048576) (hN : 4194304 ≤ N) : netlist_NetAt N x s = some (nat? Net.Name x.Nets s) := by
  obtain ⟨r, h1, h2⟩ := gBSF_eq (N := N) (key := Net.Name) (l := x.Nets) (s := s) (φ := netlist_NetAt_c1 N) (fun y => rfl) hs hl hN
  unfold netlist_NetAt
  rw [← h2]
  show (gBSF N x.Nets s (netlist_NetAt_c1 N)).bind _ = _
  rw [h1]; rfl
def isNet (x : Netlist) (s : Str) : Bool := x.Nets.any (fun n => n.Name.eqb s)
theorem names_of {l : List Str} {most : Nat} {b : Str → Bool} (h1 : l.length ≤ most) (h2 : Sorted (fun x => x) l) (h3 : ∀ s ∈ l, b s = true) : namesErr l most b = 0 := by
  unfold namesErr
  rw [if_neg (by omega), fst?_none.2 (fun k hk => ?_)]
  · rfl
  · rw [List.getElem?_eq_getElem hk]
    dsimp only
    rw [if_neg (by rw [h3 _ (List.getElem_mem hk)]; decide), if_neg ?_]
    unfold ordBad
    rw [List.getElem?_eq_getElem hk, List.getElem?_eq_getElem (by omega : k - 1 < l.length)]
    dsimp only
    by_cases h0 : 0 < k
    · rw [le_test.2 (h2 (k - 1) k _ _ (by omega) (List.getElem?_eq_getElem (by omega)) (List.getElem?_eq_getElem hk))]; simp
    · rw [decide_eq_false h0]; simp
/-! ### Order by pairs -/
section
variable {α : Type}
theorem sorted_iff {key : α → Str} {l : List α} : Sorted key l ↔ l.Pairwise (fun a b => Str.lt (key a) (key b)) := by
  rw [List.pairwise_iff_getElem]
  constructor
  · intro h i j hi hj hij
    exact h i j _ _ hij (List.getElem?_eq_getElem hi) (List.getElem?_eq_getElem hj)
  · intro h i j x y hij hx hy
    obtain ⟨hi, rfl⟩ := List.getElem?_eq_some_iff.1 hx
    obtain ⟨hj, rfl⟩ := List.getElem?_eq_some_iff.1 hy
    exact h i j hi hj hij
def pinsUpP (l : List Pin) : Prop := l.Pairwise (fun a b => pinLt a b = true)
theorem pinsUp_iff {l : List Pin} : (∀ (i j : Nat) (p q : Pin), i < j → l[i]? = some p → l[j]? = some q → pinLt p q = true) ↔ pinsUpP l := by
  unfold pinsUpP
  rw [List.pairwise_iff_getElem]
  constructor
  · intro h i j hi hj hij
    exact h i j _ _ hij (List.getElem?_eq_getElem hi) (List.getElem?_eq_getElem hj)
  · intro h i j x y hij hx hy
    obtain ⟨hi, rfl⟩ := List.getElem?_eq_some_iff.1 hx
    obtain ⟨hj, rfl⟩ := List.getElem?_eq_some_iff.1 hy
    exact h i j hi hj hij
theorem Sorted.ordBad {key : α → Str} {l : List α} (h : Sorted key l) {k : Nat} (hk : k < l.length) : Gk.ordBad key l k = false := by
  unfold Gk.ordBad
  rw [List.getElem?_eq_getElem hk, List.getElem?_eq_getElem (by omega : k - 1 < l.length)]
  dsimp only
  by_cases h0 : 0 < k
  · rw [le_test.2 (h (k - 1) k _ _ (by omega) (List.getElem?_eq_getElem (by omega)) (List.getElem?_eq_getElem hk))]; simp
  · rw [decide_eq_false h0]; simp
end
theorem pinOrd_of {l : List Pin} (h : pinsUpP l) {k : Nat} (hk : k < l.length) : pinOrd l k = false := by
  unfold pinOrd
  rw [List.getElem?_eq_getElem hk, List.getElem?_eq_getElem (by omega : k - 1 < l.length)]
  dsimp only
  by_cases h0 : 0 < k
  · rw [pinsUp_iff.2 h (k - 1) k _ _ (by omega) (List.getElem?_eq_getElem (by omega)) (List.getElem?_eq_getElem hk)]; simp
  · rw [decide_eq_false h0]; simp
/-- What makes a list right. -/
theorem checkList_conv {t : List PartType} {x : Netlist} (h0 : checkTypes t = 0) (ok : ListOk t x) : checkList t x = 0 := by
  unfold checkList
  rw [if_neg (by rw [h0]; simp)]
  have h1 : checkParts t x.Parts = 0 := by
    unfold checkParts
    rw [if_neg (by have := ok.few; omega), fst?_none.2 (fun k hk => ?_)]
    · rfl
    · unfold partErr
      rw [List.getElem?_eq_getElem hk]
      dsimp only
      have hm := List.getElem_mem hk
      have := ok.parts.typed _ hm
      rw [if_neg (by rw [ok.pathP _ hm]; decide), if_neg (by omega), if_neg (by rw [ok.parts.sorted.ordBad hk]; decide)]
  rw [if_neg (by rw [h1]; simp)]
  unfold checkNets
  rw [if_neg (by have := ok.fewNets; omega), fst?_none.2 (fun i hi => ?_)]
  · rfl
  · unfold netErr
    rw [List.getElem?_eq_getElem hi]
    dsimp only
    have hm := List.getElem_mem hi
    obtain ⟨h3, h4⟩ := ok.fewPins _ hm
    rw [if_neg (by rw [ok.path _ hm]; decide), if_neg (by omega), if_neg (by omega), fst?_none.2 (fun k hk => ?_)]
    · rw [ok.noPorts _ hm, if_neg (by simp), if_neg (by rw [ok.nets.ordBad hi]; decide)]; rfl
    · unfold npErr
      rw [List.getElem?_eq_getElem hk]
      dsimp only
      have hp := List.getElem_mem hk
      rw [if_neg (by rw [ok.pin _ hm _ hp]; decide), if_neg (by rw [pinOrd_of (pinsUp_iff.1 (ok.pinsUp _ hm)) hk]; decide), if_neg ?_]
      intro h
      unfold inNets at h
      obtain ⟨m, hm2, hp2⟩ := List.any_eq_true.1 h
      obtain ⟨j, hj⟩ := List.getElem?_of_mem hm2
      have hji : j < i := by have := (List.getElem?_eq_some_iff.1 hj).1; rw [List.length_take] at this; omega
      rw [List.getElem?_take_of_lt hji] at hj
      have := ok.once j i m _ _ hj (List.getElem?_eq_getElem hi) (of_decide_eq_true hp2) hp
      omega

/-! ### Elements left out -/
section
variable {α : Type}
def gDel (z : α) (N : Nat) (p0 : List α) (p1 : α → Option Bool) : Option (List α) :=
  (gIndexFunc p0 p1).bind fun (x31 : Int) => bif (x31 == (-1)) then (some p0) else ((itr (fun (s33 : (List α) × Int × Int) => (bif (decide (s33.2.2 < (s33.1.length : Int))) then ((idx s33.1 s33.2.2).bind fun (x54 : α) => (p1 x54).bind fun (x58 : Bool) => (bif (!x58) then ((idx s33.1 s33.2.1).bind fun (x63 : α) => some ((s33.1.set (Int.toNat s33.2.1) x54), (IntKind.wrap .i64 (s33.2.1 + 1)))) else (some (s33.1, s33.2.1))).bind fun (s61 : (List α) × Int) => some (.nx (s61.1, s61.2, (IntKind.wrap .i64 (s33.2.2 + 1))))) else (some (.br (s33.1, s33.2.1, s33.2.2))) : Option (Fl ((List α) × Int × Int) Empty))) N (p0, x31, (IntKind.wrap .i64 (x31 + 1)))).bind fun (o67 : Fo ((List α) × Int × Int) Empty) => o67.cs (fun (s33 : (List α) × Int × Int) => (slc s33.1 s33.2.1 (s33.1.length : Int)).bind fun (x64 : (List α)) => (slc (s33.1.take (Int.toNat s33.2.1) ++ List.replicate (s33.1.length - Int.toNat s33.2.1) z) 0 s33.2.1).bind fun (x65 : (List α)) => some x65) (fun r => r.elim))
theorem gDel_eq {z : α} {l : List α} {φ : α → Option Bool} (p : α → Bool) (hφ : ∀ x ∈ l, φ x = some (p x)) (hl : l.length ≤ 1048576) (hN : 4194304 ≤ N) : gDel z N l φ = some (l.filter (fun x => !p x)) := by
  unfold gDel
  rw [gIndexFunc_eq p (by omega) hφ, bnd_some]
  rcases at?_cases l p with ⟨h1, h2⟩ | ⟨k, x, h1, h2, h3, h4⟩
  · rw [h1]
    have : l.filter (fun x => !p x) = l := List.filter_eq_self.2 fun a ha => by rw [h2 a ha]; rfl
    rw [this]; rfl
  · rw [h1, show (((k : Nat) : Int) == -1) = false by simp, cond_false]
    have hk := (List.getElem?_eq_some_iff.1 h2).1
    have hpre : (l.take k).filter (fun x => !p x) = l.take k := List.filter_eq_self.2 fun a ha => by
      obtain ⟨j, hj⟩ := List.getElem?_of_mem ha
      have hjk : j < k := by have := (List.getElem?_eq_some_iff.1 hj).1; rw [List.length_take] at this; omega
      rw [List.getElem?_take_of_lt hjk] at hj
      rw [h4 j a hjk hj]; rfl
    have hst : l.take (k + 1) = l.take k ++ [x] := by
      rw [List.take_succ_eq_append_getElem hk]; congr 1
      have := (List.getElem?_eq_some_iff.1 h2).2; rw [this]
    have hk1 : IntKind.wrap .i64 (((k : Nat) : Int) + 1) = ((k + 1 : Nat) : Int) := by rw [wrap_in (by omega) (by omega)]; omega
    rw [hk1]
    obtain ⟨o, a1, a2⟩ := itr_inv (S := (List α) × Int × Int) (R := Empty) (body := fun (s33 : (List α) × Int × Int) => (bif (decide (s33.2.2 < (s33.1.length : Int))) then ((idx s33.1 s33.2.2).bind fun (x54 : α) => (φ x54).bind fun (x58 : Bool) => (bif (!x58) then ((idx s33.1 s33.2.1).bind fun (x63 : α) => some ((s33.1.set (Int.toNat s33.2.1) x54), (IntKind.wrap .i64 (s33.2.1 + 1)))) else (some (s33.1, s33.2.1))).bind fun (s61 : (List α) × Int) => some (.nx (s61.1, s61.2, (IntKind.wrap .i64 (s33.2.2 + 1))))) else (some (.br (s33.1, s33.2.1, s33.2.2))) : Option (Fl ((List α) × Int × Int) Empty)))
      (fun s => ∃ i j : Nat, s.2.1 = ((i : Nat) : Int) ∧ s.2.2 = ((j : Nat) : Int) ∧ i < j ∧ j ≤ l.length ∧ s.1.length = l.length ∧ s.1.take i = (l.take j).filter (fun x => !p x) ∧ ∀ m, j ≤ m → s.1[m]? = l[m]?)
      (fun s => l.length - s.2.2.toNat) (fun s => ∃ i : Nat, s.2.1 = ((i : Nat) : Int) ∧ i ≤ l.length ∧ s.1.length = l.length ∧ s.1.take i = l.filter (fun x => !p x)) (fun _ => True) (fun s ⟨i, j, e1, e2, hij, hj, hlen, ht, hd⟩ => by
        obtain ⟨s, a, b⟩ := s
        dsimp only at e1 e2 hlen ht hd ⊢
        subst e1; subst e2
        by_cases hlt : j < l.length
        · rw [decide_eq_true (by rw [hlen]; omega), cond_true]
          have hx : s[j]? = some l[j] := by rw [hd j (Nat.le_refl _)]; exact List.getElem?_eq_getElem hlt
          have w1 : IntKind.wrap .i64 (((j : Nat) : Int) + 1) = ((j + 1 : Nat) : Int) := by rw [wrap_in (by omega) (by omega)]; omega
          have w2 : IntKind.wrap .i64 (((i : Nat) : Int) + 1) = ((i + 1 : Nat) : Int) := by rw [wrap_in (by omega) (by omega)]; omega
          have hs2 : l.take (j + 1) = l.take j ++ [l[j]] := List.take_succ_eq_append_getElem hlt
          rw [idx_at hx, bnd_some, hφ _ (List.getElem_mem hlt), bnd_some, w1]
          cases hp : p l[j] with
          | true =>
            refine ⟨.nx (s, ((i : Nat) : Int), ((j + 1 : Nat) : Int)), by rw [Bool.not_true, cond_false, bnd_some], ⟨i, j + 1, rfl, rfl, by omega, by omega, hlen, ?_, fun m hm => hd m (by omega)⟩, ?_⟩
            · rw [hs2, List.filter_append, ht]; simp [hp]
            · simp only [Int.toNat_natCast]; omega
          | false =>
            refine ⟨.nx (s.set i l[j], ((i + 1 : Nat) : Int), ((j + 1 : Nat) : Int)), by rw [Bool.not_false, cond_true, idx_nat _ _ (by omega), bnd_some, Int.toNat_natCast, w2, bnd_some], ⟨i + 1, j + 1, rfl, rfl, by omega, by omega, by simp [hlen], ?_, fun m hm => ?_⟩, ?_⟩
            · rw [hs2, List.filter_append, ← ht]
              have : (s.set i l[j]).take (i + 1) = s.take i ++ [l[j]] := by
                rw [List.take_succ_eq_append_getElem (by simp; omega), List.take_set_of_le (Nat.le_refl _)]; simp
              rw [this]; simp [hp]
            · rw [List.getElem?_set, if_neg (by omega)]; exact hd m (by omega)
            · simp only [Int.toNat_natCast]; omega
        · rw [decide_eq_false (by rw [hlen]; omega), cond_false]
          have hje : j = l.length := by omega
          subst hje
          rw [List.take_length] at ht
          exact ⟨.br (s, ((i : Nat) : Int), ((l.length : Nat) : Int)), rfl, i, rfl, by omega, hlen, ht⟩)
      N (l, ((k : Nat) : Int), ((k + 1 : Nat) : Int)) ⟨k, k + 1, rfl, rfl, by omega, by omega, rfl, by rw [hst, List.filter_append, hpre]; simp [h3], fun _ _ => rfl⟩ (by simp only [Int.toNat_natCast]; omega)
    rw [a1, bnd_some]
    cases o with
    | rt r => exact r.elim
    | go s =>
      obtain ⟨i, e1, hi, hlen, ht⟩ := a2
      obtain ⟨s, a, b⟩ := s
      dsimp only at e1 hlen ht
      subst e1
      simp only [Fo.cs]
      rw [slc_drop _ _ (by omega), bnd_some, Int.toNat_natCast, slc_take _ _ (by simp; omega), bnd_some, List.take_append_of_le_length (by simp; omega), List.take_take, Nat.min_self, ht]
end
end
end Go.Gk
