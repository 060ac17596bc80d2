/-
  Plain laws: rows of pins in order. No statement of the seed is proved here.
-/
import Derived.Test.YtghiafpkpfipgaaGreatDoorQ1
import Derived.Test.YtghiafpkpfipgaaGreatDoorQ3
set_option linter.unusedVariables false
set_option linter.unusedSimpArgs false
set_option linter.unusedSectionVars false
namespace Go.Gk
open Go
section
variable {N : Nat}
theorem pinLt_asymm {a b : Pin} (h : pinLt a b = true) : pinLt b a = false := by
  cases h2 : pinLt b a with
  | false => rfl
  | true => have := pinLt_trans h h2; rw [pinLt_irrefl] at this; cases this
theorem pinCmp_zero {a b : Pin} : pinCmp a b = 0 ↔ a = b := by
  unfold pinCmp
  constructor
  · intro h
    split at h
    · rename_i h1
      have e1 := Str.ext' ((compare_eq _ _).1 h1)
      have e2 := Str.ext' ((compare_eq _ _).1 h)
      obtain ⟨a1, a2⟩ := a; obtain ⟨b1, b2⟩ := b
      simp only at e1 e2
      rw [e1, e2]
    · rename_i h1; exact absurd h h1
  · intro h
    subst h
    rw [if_pos ((compare_eq _ _).2 rfl)]
    exact (compare_eq _ _).2 rfl
theorem pinCmp_neg {a b : Pin} : pinCmp a b < 0 ↔ pinLt a b = true := by
  have h := pinCmp_le a b
  constructor
  · intro h1
    rw [decide_eq_true (by omega)] at h
    rcases pinLt_total a b with h2 | h2 | h2
    · exact h2
    · rw [pinCmp_zero.2 h2] at h1; omega
    · rw [h2] at h; cases h
  · intro h1
    have h2 := pinLt_asymm h1
    rw [h2, Bool.not_false, decide_eq_true_eq] at h
    have : pinCmp a b ≠ 0 := fun e => by rw [pinCmp_zero] at e; subst e; rw [pinLt_irrefl] at h1; cases h1
    omega
/-- in order, the same pin more than once perhaps -/
def pinsWk (l : List Pin) : Prop := l.Pairwise (fun a b => pinLt b a = false)
theorem pinsWk_eq {l m : List Pin} (hl : pinsWk l) (hm : pinsWk m) (hp : l.Perm m) : l = m :=
  List.Perm.eq_of_pairwise (le := fun a b => pinLt b a = false) (fun a b _ _ h h' => by
    rcases pinLt_total a b with h2 | h2 | h2
    · rw [h2] at h'; cases h'
    · exact h2
    · rw [h2] at h; cases h) hl hm hp
theorem pinLt_not_trans {a b c : Pin} (h1 : pinLt b a = false) (h2 : pinLt c b = false) : pinLt c a = false := by
  cases h : pinLt c a with
  | false => rfl
  | true =>
    rcases pinLt_total a b with h3 | h3 | h3
    · rw [pinLt_trans h h3] at h2; cases h2
    · subst h3; rw [h] at h2; cases h2
    · rw [h3] at h1; cases h1
def sortP (l : List Pin) : List Pin := l.mergeSort (fun a b => !pinLt b a)
theorem sortP_perm (l : List Pin) : (sortP l).Perm l := List.mergeSort_perm _ _
theorem sortP_wk (l : List Pin) : pinsWk (sortP l) := by
  have := List.pairwise_mergeSort (le := fun a b : Pin => !pinLt b a) (fun a b c h1 h2 => by
    simp only [Bool.not_eq_true'] at h1 h2 ⊢; exact pinLt_not_trans h1 h2) (fun a b => by
    rcases pinLt_total a b with h | h | h
    · rw [pinLt_asymm h]; rfl
    · subst h; rw [pinLt_irrefl]; rfl
    · rw [pinLt_asymm h]; simp) l
  exact this.imp fun h => by simpa using h
theorem sortP_eq {l m : List Pin} (hp : m.Perm l) (hm : pinsWk m) : m = sortP l := pinsWk_eq hm (sortP_wk l) (hp.trans (sortP_perm l).symm)
theorem sortP_congr {l m : List Pin} (h : l.Perm m) : sortP l = sortP m := sortP_eq ((sortP_perm l).trans h) (sortP_wk l)
theorem sortP_up {l : List Pin} (h : l.Nodup) : pinsUpP (sortP l) := by
  have h1 : (sortP l).Nodup := (sortP_perm l).symm.nodup h
  have h2 := List.Pairwise.and (sortP_wk l) h1
  exact h2.imp fun {a b} h => by
    rcases pinLt_total a b with h3 | h3 | h3
    · exact h3
    · exact absurd h3 h.2
    · rw [h3] at h; cases h.1
theorem sortF_pins {l : List Pin} (hl : l.length < 4611686018427387904) : gSort (netlist_ComparePins N) l = some (sortP l) := by
  obtain ⟨m, h1, h2, h3⟩ := gSort_eq (φ := netlist_ComparePins N) (l := l) pinCmp (fun a _ b _ => ComparePins_eq a b) (fun a _ => by rw [pinCmp_zero.2 rfl]; decide)
    (fun a _ b _ c _ h1 h2 => by rw [pinCmp_neg] at *; exact pinLt_trans h1 h2) (fun a _ b _ c _ h1 h2 => by
      rw [pinCmp_neg, Bool.not_eq_true] at *; exact pinLt_not_trans h2 h1) hl
  rw [h1, sortP_eq h2 (h3.imp fun h => by rw [pinCmp_neg, Bool.not_eq_true] at h; exact h)]
theorem sortedPins_eq {l : List Pin} (hl : l.length ≤ 1048576) (hN : 4194304 ≤ N) : etchhouseref2_sortedPins N l = some (sortP l) := by
  unfold etchhouseref2_sortedPins
  obtain ⟨m, a1, a2, a3⟩ := fld_inv (m := l.length) (s := ([] : List Pin)) (body := fun (k31 : Nat) (s32 : (List Pin)) => ((idx l (k31 : Int)).bind fun (x162 : Pin) => (itr (fun (s167 : Int) => ((bif (decide (s167 > 0)) then ((idx s32 (IntKind.wrap .i64 (s167 - 1))).bind fun (x208 : Pin) => (etchhouseref2_before N x162 x208).bind fun (x210 : Bool) => some x210) else (some false)).bind fun (s205 : Bool) => bif s205 then (some (.nx (IntKind.wrap .i64 (s167 - 1)))) else (some (.br s167)) : Option (Fl (Int) Empty))) N (s32.length : Int)).bind fun (o217 : Fo (Int) Empty) => o217.cs (fun (s167 : Int) => (gIns 32 s32 s167 ([x162] : (List Pin))).bind fun (x215 : (List Pin)) => some x215) (fun r => r.elim) : Option ((List Pin))))
    (fun k m => m.Perm (l.take k) ∧ pinsWk m) (by omega) ⟨by simp, List.Pairwise.nil⟩ (fun k m hk ⟨i1, i2⟩ => by
      have hx : l[k]? = some l[k] := List.getElem?_eq_getElem hk
      have hml : m.length = k := by rw [i1.length_eq, List.length_take]; omega
      rw [idx_at hx, bnd_some]
      generalize l[k] = p at hx ⊢
      obtain ⟨o, b1, b2⟩ := itr_inv (S := Int) (R := Empty) (body := fun (s167 : Int) => ((bif (decide (s167 > 0)) then ((idx m (IntKind.wrap .i64 (s167 - 1))).bind fun (x208 : Pin) => (etchhouseref2_before N p x208).bind fun (x210 : Bool) => some x210) else (some false)).bind fun (s205 : Bool) => bif s205 then (some (.nx (IntKind.wrap .i64 (s167 - 1)))) else (some (.br s167)) : Option (Fl (Int) Empty)))
        (fun s => ∃ c : Nat, s = ((c : Nat) : Int) ∧ c ≤ m.length ∧ ∀ (j : Nat) (x : Pin), c ≤ j → m[j]? = some x → pinLt p x = true)
        (fun s => s.toNat)
        (fun s => ∃ c : Nat, s = ((c : Nat) : Int) ∧ c ≤ m.length ∧ (∀ (j : Nat) (x : Pin), c ≤ j → m[j]? = some x → pinLt p x = true) ∧ (∀ (j : Nat) (x : Pin), j < c → m[j]? = some x → pinLt p x = false)) (fun _ => True) (fun s ⟨c, e, hc, h1⟩ => by
          subst e
          by_cases h0 : 0 < c
          · have hw : IntKind.wrap .i64 (((c : Nat) : Int) - 1) = ((c - 1 : Nat) : Int) := by rw [wrap_in (by omega) (by omega)]; omega
            have hy : m[c - 1]? = some m[c - 1] := List.getElem?_eq_getElem (by omega)
            rw [decide_eq_true (by omega), cond_true, hw, idx_at hy, bnd_some]
            have hbf : etchhouseref2_before N p m[c - 1] = some (pinLt p m[c - 1]) := rfl
            rw [hbf, bnd_some, bnd_some]
            cases hlt : pinLt p m[c - 1] with
            | true =>
              refine ⟨.nx ((c - 1 : Nat) : Int), by rw [cond_true], ⟨c - 1, rfl, by omega, fun j x hj hx => ?_⟩, by simp only [Int.toNat_natCast]; omega⟩
              by_cases e : j = c - 1
              · subst e; rw [hy] at hx; injection hx with hx; rw [← hx]; exact hlt
              · exact h1 j x (by omega) hx
            | false =>
              refine ⟨.br ((c : Nat) : Int), by rw [cond_false], c, rfl, hc, h1, fun j x hj hx => ?_⟩
              by_cases e : j = c - 1
              · subst e; rw [hy] at hx; injection hx with hx; rw [← hx]; exact hlt
              · have hp := List.pairwise_iff_getElem.1 i2 j (c - 1) ((List.getElem?_eq_some_iff.1 hx).1) (by omega) (by omega)
                rw [(List.getElem?_eq_some_iff.1 hx).2] at hp
                exact pinLt_not_trans hp hlt
          · rw [decide_eq_false (by omega), cond_false, bnd_some, cond_false]
            exact ⟨_, rfl, c, rfl, hc, h1, fun j x hj => by omega⟩) N ((m.length : Nat) : Int) ⟨m.length, rfl, Nat.le_refl _, fun j x hj hx => by have := (List.getElem?_eq_some_iff.1 hx).1; omega⟩ (by simp only [Int.toNat_natCast]; omega)
      rw [b1, bnd_some]
      cases o with
      | rt r => exact r.elim
      | go s =>
        obtain ⟨c, e, hc, h1, h2⟩ := b2
        subst e
        simp only [Fo.cs]
        have hg : gIns 32 m ((c : Nat) : Int) [p] = some (m.take c ++ [p] ++ m.drop c) := by
          unfold gIns; rw [if_pos ⟨by omega, by omega, rfl, by simp only [List.length_singleton]; omega⟩, Int.toNat_natCast]
        rw [hg, bnd_some]
        refine ⟨_, rfl, ?_, ?_⟩
        · rw [List.take_succ_eq_append_getElem (by omega : k < l.length)]
          have hp : l[k] = p := by rw [List.getElem?_eq_getElem hk] at hx; injection hx
          rw [hp]
          have h3 : (m.take c ++ [p] ++ m.drop c).Perm (m ++ [p]) := by
            conv => rhs; rw [← List.take_append_drop c m]
            rw [List.append_assoc, List.append_assoc]
            exact List.Perm.append_left _ List.perm_append_comm
          exact h3.trans (i1.append_right _)
        · unfold pinsWk
          have hall : ∀ x ∈ m.drop c, pinLt p x = true := fun x hx => by
            obtain ⟨j, hj⟩ := List.getElem?_of_mem hx
            rw [List.getElem?_drop] at hj
            exact h1 (c + j) x (by omega) hj
          have hall2 : ∀ x ∈ m.take c, pinLt p x = false := fun x hx => by
            obtain ⟨j, hj⟩ := List.getElem?_of_mem hx
            have hjc : j < c := by have := (List.getElem?_eq_some_iff.1 hj).1; rw [List.length_take] at this; omega
            rw [List.getElem?_take_of_lt hjc] at hj
            exact h2 j x hjc hj
          have hm2 : (m.take c ++ m.drop c).Pairwise (fun a b => pinLt b a = false) := by rw [List.take_append_drop]; exact i2
          rw [List.pairwise_append] at hm2
          rw [List.append_assoc, List.pairwise_append]
          refine ⟨hm2.1, ?_, fun a ha b hb => ?_⟩
          · rw [List.singleton_append, List.pairwise_cons]
            exact ⟨fun b hb => pinLt_asymm (hall b hb), hm2.2.1⟩
          · rcases List.mem_cons.1 hb with rfl | hb
            · exact hall2 a ha
            · exact hm2.2.2 a ha b hb)
  rw [a1, bnd_some]
  rw [List.take_length] at a2
  rw [sortP_eq a2 a3]
end
end Go.Gk
