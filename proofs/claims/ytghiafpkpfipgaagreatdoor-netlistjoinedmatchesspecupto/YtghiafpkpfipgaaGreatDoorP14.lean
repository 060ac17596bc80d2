/-
  Plain laws: two nets joined, as specified. No statement of the seed is proved here.
-/
import Derived.Test.YtghiafpkpfipgaaGreatDoorP13
set_option linter.unusedVariables false
set_option linter.unusedSimpArgs false
set_option linter.unusedSectionVars false
namespace Go.Gk
open Go
section
variable {N : Nat}
theorem flat_take_le {α : Type} (L : List (List α)) (k : Nat) : (L.take k).flatten.length ≤ L.flatten.length := by
  conv => rhs; rw [← List.take_append_drop k L, List.flatten_append, List.length_append]
  omega
theorem GrowP_eq {n : Nat} (hn : n ≤ 1048576) : slices_Grow_Pin_nil N ((n : Nat) : Int) = some [] := by
  unfold slices_Grow_Pin_nil
  rw [decide_eq_false (by omega), cond_false]
  have e1 : IntKind.wrap .i64 (((n : Nat) : Int) - (IntKind.wrap .i64 (((0 : Nat) : Int) - ((0 : Nat) : Int)))) = ((n : Nat) : Int) := by
    have : IntKind.wrap .i64 (((0 : Nat) : Int) - ((0 : Nat) : Int)) = 0 := by rw [wrap_in (by omega) (by omega)]; rfl
    rw [this, wrap_in (by omega) (by omega)]; omega
  rw [e1]
  by_cases h : 0 < n
  · rw [decide_eq_true (by omega), cond_true]
    have : appz 32 (⟨⟨[]⟩, ⟨[]⟩⟩ : Pin) ((n : Nat) : Int) = some (List.replicate n ⟨⟨[]⟩, ⟨[]⟩⟩) := by
      unfold appz; rw [if_pos (by omega)]; rfl
    rw [this, bnd_some, slc_take _ _ (by omega), bnd_some, bnd_some]
    rfl
  · rw [decide_eq_false (by omega), cond_false, bnd_some]
theorem ConcatP_eq {L : List (List Pin)} (h1 : L.length ≤ 1048576) (h2 : L.flatten.length ≤ 1048576) : slices_Concat_Pin N L = some L.flatten := by
  unfold slices_Concat_Pin
  have hlen : ∀ k, k ≤ L.length → (L.take k).flatten.length ≤ 1048576 := fun k _ => Nat.le_trans (flat_take_le L k) h2
  rw [fld_fun (s := (0 : Int)) (fun k => (((L.take k).flatten.length : Nat) : Int)) (by omega) rfl (fun k hk => by
    have hx : L[k]? = some L[k] := List.getElem?_eq_getElem hk
    have h3 := hlen (k + 1) hk
    rw [List.take_succ_eq_append_getElem hk, List.flatten_append, List.length_append, List.flatten_singleton] at h3
    rw [idx_at hx, bnd_some, List.take_succ_eq_append_getElem hk, List.flatten_append, List.length_append, List.flatten_singleton]
    have e : IntKind.wrap .i64 ((((L.take k).flatten.length : Nat) : Int) + ((L[k].length : Nat) : Int)) = (((L.take k).flatten.length + L[k].length : Nat) : Int) := by rw [wrap_in (by omega) (by omega)]; omega
    rw [e, decide_eq_false (by omega), cond_false]), bnd_some, List.take_length, GrowP_eq h2, bnd_some]
  rw [fld_fun (s := ([] : List Pin)) (fun k => (L.take k).flatten) (by omega) rfl (fun k hk => by
    have hx : L[k]? = some L[k] := List.getElem?_eq_getElem hk
    have h3 := hlen (k + 1) hk
    rw [List.take_succ_eq_append_getElem hk, List.flatten_append, List.length_append, List.flatten_singleton] at h3
    rw [idx_at hx, bnd_some, app_some (by omega), bnd_some, List.take_succ_eq_append_getElem hk, List.flatten_append, List.flatten_singleton]), bnd_some, List.take_length]
theorem refJoined_eq {t : List PartType} {x : Netlist} {a b : Str} (hbt : bk t ≤ 1048576) (hbx : bk x ≤ 1048576) (hN : 4194304 ≤ N) : etchhouseref2_Joined N t x a b = some (jdR t x a b) := by
  unfold etchhouseref2_Joined jdR
  rw [ref_CheckList_eq hbt hbx hN, bnd_some]
  by_cases h1 : checkList t x ≠ 0
  · have e : (checkList t x != 0) = true := by rw [bne_iff_ne]; exact h1
    rw [e, cond_true, if_pos h1]; rfl
  rw [if_neg h1]
  replace h1 := Decidable.not_not.1 h1
  have ok := checkList_ok h1
  have hfn := ok.fewNets
  have hxb := bk_Netlist x
  rw [h1, show ((0 : Int) != 0) = false by decide, cond_false, netNamed_eq (by omega), bnd_some, netNamed_eq (by omega), bnd_some]
  rcases nat?_cases Net.Name x.Nets a with ⟨e, _⟩ | ⟨i, n, e1, e2, _⟩
  · rw [e, if_pos (show (-1 : Int) < 0 ∨ nat? Net.Name x.Nets b < 0 from .inl (by decide))]; rfl
  rcases nat?_cases Net.Name x.Nets b with ⟨e, _⟩ | ⟨k, m, f1, f2, _⟩
  · rw [e, if_pos (show nat? Net.Name x.Nets a < 0 ∨ (-1 : Int) < 0 from .inr (by decide)), decide_eq_true (by decide : (-1 : Int) < 0), Bool.or_true, cond_true]; rfl
  have hi := (List.getElem?_eq_some_iff.1 e2).1
  have hk := (List.getElem?_eq_some_iff.1 f2).1
  have gi : x.Nets.getD i default = n := by rw [List.getD_eq_getElem?_getD, e2]; rfl
  have gk : x.Nets.getD k default = m := by rw [List.getD_eq_getElem?_getD, f2]; rfl
  have hpn := (ok.fewPins n (List.mem_of_getElem? e2)).2
  have hpm := (ok.fewPins m (List.mem_of_getElem? f2)).2
  rw [e1, f1, decide_eq_false (show ¬ ((i : Nat) : Int) < 0 by omega), decide_eq_false (show ¬ ((k : Nat) : Int) < 0 by omega), Bool.or_false, cond_false, if_neg (show ¬ (((i : Nat) : Int) < 0 ∨ ((k : Nat) : Int) < 0) by omega)]
  by_cases h3 : i = k
  · rw [show (((i : Nat) : Int) == ((k : Nat) : Int)) = true by rw [beq_iff_eq]; omega, cond_true, if_pos (show ((i : Nat) : Int) = ((k : Nat) : Int) by omega)]; rfl
  rw [show (((i : Nat) : Int) == ((k : Nat) : Int)) = false by rw [beq_eq_false_iff_ne]; omega, cond_false, if_neg (show ¬ ((i : Nat) : Int) = ((k : Nat) : Int) by omega), idx_at e2, bnd_some, idx_at f2, bnd_some, Int.toNat_natCast, Int.toNat_natCast, gi, gk]
  have ew : IntKind.wrap .i64 (((n.Pins.length : Nat) : Int) + ((m.Pins.length : Nat) : Int)) = ((n.Pins.length + m.Pins.length : Nat) : Int) := by rw [wrap_in (by omega) (by omega)]; omega
  rw [ew]
  by_cases h4 : n.Pins.length + m.Pins.length > 500
  · rw [decide_eq_true (by omega), cond_true, if_pos h4]; rfl
  rw [decide_eq_false (by omega), cond_false, if_neg h4, clonePart (by have := ok.few; omega), bnd_some]
  rw [if_min, if_max]
  have hlk : min i k < max i k := by omega
  have hkl : max i k < x.Nets.length := by omega
  have hjn : joinN (x.Nets.getD (min i k) default) (x.Nets.getD (max i k) default) = ⟨(x.Nets.getD (min i k) default).Name, sortP (n.Pins ++ m.Pins), []⟩ := by
    unfold joinN
    rcases Nat.le_total i k with h | h
    · rw [Nat.min_eq_left h, Nat.max_eq_right h, gi, gk]
    · rw [Nat.min_eq_right h, Nat.max_eq_left h, gi, gk, sortP_congr List.perm_append_comm]
  generalize min i k = lo at hlk hjn ⊢
  generalize max i k = hi2 at hlk hkl hjn ⊢
  have hjl := joinL_len (i := lo) hkl
  have hget : ∀ j, (joinL x.Nets lo hi2)[j]? = _ := fun j => joinL_get (j := j) hlk hkl
  rw [hjn] at hget
  rw [fld_fun (s := ([] : List Net)) (fun j => (joinL x.Nets lo hi2).take (if j ≤ hi2 then j else j - 1)) (by omega) (by simp) (fun j hj => by
    have hxj : x.Nets[j]? = some x.Nets[j] := List.getElem?_eq_getElem hj
    have hgd : x.Nets.getD j default = x.Nets[j] := by rw [List.getD_eq_getElem?_getD, hxj]; rfl
    rw [idx_at hxj, bnd_some]
    have htk : ∀ q, (List.take q (joinL x.Nets lo hi2)).length ≤ 1048576 := fun q => by rw [List.length_take]; omega
    by_cases c1 : j = hi2
    · subst c1
      rw [show (((j : Nat) : Int) == ((j : Nat) : Int)) = true by simp, cond_true, bnd_some, if_pos (Nat.le_refl _), if_neg (by omega)]; rfl
    rw [show (((j : Nat) : Int) == ((hi2 : Nat) : Int)) = false by rw [beq_eq_false_iff_ne]; omega, cond_false]
    have hlast : ∀ (v : Net), (joinL x.Nets lo hi2)[if j ≤ hi2 then j else j - 1]? = some v → List.take (if j + 1 ≤ hi2 then j + 1 else j + 1 - 1) (joinL x.Nets lo hi2) = List.take (if j ≤ hi2 then j else j - 1) (joinL x.Nets lo hi2) ++ [v] := fun v hv => by
      have e : (if j + 1 ≤ hi2 then j + 1 else j + 1 - 1) = (if j ≤ hi2 then j else j - 1) + 1 := by split <;> split <;> omega
      rw [e]
      obtain ⟨h5, h6⟩ := List.getElem?_eq_some_iff.1 hv
      rw [List.take_succ_eq_append_getElem h5, h6]
    by_cases c2 : j = lo
    · subst c2
      rw [show (((j : Nat) : Int) == ((j : Nat) : Int)) = true by simp, cond_true, bnd_some, bnd_some, ConcatP_eq (by simp) (by simp; omega), bnd_some]
      have hfl : [n.Pins, m.Pins].flatten = n.Pins ++ m.Pins := by simp
      rw [hfl, sortedPins_eq (by rw [List.length_append]; omega) hN, bnd_some, app_some (by have := htk (if j ≤ hi2 then j else j - 1); simp only [List.length_singleton]; omega), bnd_some, bnd_some, bnd_some]
      rw [hlast _ (by rw [hget, if_pos (show (if j ≤ hi2 then j else j - 1) = j by rw [if_pos (by omega)])])]
      rw [hgd]
    · rw [show (((j : Nat) : Int) == ((lo : Nat) : Int)) = false by rw [beq_eq_false_iff_ne]; omega, cond_false, clonePin (by have := (ok.fewPins _ (List.getElem_mem hj)).2; omega), bnd_some, app_some (by have := htk (if j ≤ hi2 then j else j - 1); simp only [List.length_singleton]; omega), bnd_some, bnd_some, bnd_some]
      have hnet : (⟨x.Nets[j].Name, x.Nets[j].Pins, []⟩ : Net) = x.Nets[j] := by rw [← ok.noPorts _ (List.getElem_mem hj)]
      rw [hnet, hlast x.Nets[j] (by
        rw [hget, if_neg (by split <;> omega)]
        by_cases c3 : j ≤ hi2
        · rw [if_pos c3, if_pos (by omega)]; exact hxj
        · rw [if_neg c3, if_neg (by omega), show j - 1 + 1 = j by omega]; exact hxj)]), bnd_some]
  have hfin : (joinL x.Nets lo hi2).take (if x.Nets.length ≤ hi2 then x.Nets.length else x.Nets.length - 1) = joinL x.Nets lo hi2 := by
    rw [if_neg (by omega)]
    exact List.take_of_length_le (by omega)
  rw [hfin]; rfl
theorem NetlistJoinedMatchesSpec_eq {t : List PartType} {x : Netlist} {a b : Str} (hbt : bk t ≤ 1048576) (hbx : bk x ≤ 1048576) (_ : bk a ≤ 1048576) (_ : bk b ≤ 1048576) (hN : 4194304 ≤ N) : etchhouselaw2_NetlistJoinedMatchesSpec N t x a b = some true := by
  unfold etchhouselaw2_NetlistJoinedMatchesSpec
  rw [Joined_eq hbt hbx hN, bnd_some, refJoined_eq hbt hbx hN, bnd_some, awake_eq hN]
  have hs : etchhouseref2_Same N (jdR t x a b).1 (jdR t x a b).1 = some true := by
    rcases jdR_cases t x a b with ⟨c, _, e⟩ | ⟨i, k, h1, hik, hk, hsum, e⟩
    · rw [e]
      exact Same_self (Nat.zero_le _) (Nat.zero_le _) (fun n hn => by cases hn)
    · rw [e]
      have ok := checkList_ok (join_right h1 hik hk hsum)
      dsimp only
      refine Same_self (by have := ok.few; omega) (by have := ok.fewNets; omega) (fun n hn => ⟨by have := (ok.fewPins n hn).2; omega, by rw [ok.noPorts n hn]; exact Nat.zero_le _⟩)
  rw [hs]
  simp [bnd_some]
end
end Go.Gk
