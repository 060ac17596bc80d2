/-
  Plain laws: two nets joined. No statement of the seed is proved here.
-/
import Derived.Test.YtghiafpkpfipgaaGreatDoorP11
import Derived.Test.YtghiafpkpfipgaaGreatDoorQ2
import Derived.Test.YtghiafpkpfipgaaGreatDoorQ8
set_option linter.unusedVariables false
set_option linter.unusedSimpArgs false
set_option linter.unusedSectionVars false
namespace Go.Gk
open Go
section
variable {N : Nat}
def joinN (n m : Net) : Net := ⟨n.Name, sortP (n.Pins ++ m.Pins), []⟩
/-- nets i < k as one -/
def joinL (l : List Net) (i k : Nat) : List Net := (l.set i (joinN (l.getD i default) (l.getD k default))).take k ++ l.drop (k + 1)
def joinX (x : Netlist) (i k : Nat) : Netlist := ⟨x.Parts, joinL x.Nets i k⟩
theorem once_nodup {t : List PartType} {x : Netlist} (ok : ListOk t x) {i k : Nat} {n m : Net} (hn : x.Nets[i]? = some n) (hm : x.Nets[k]? = some m) (hik : i ≠ k) : (n.Pins ++ m.Pins).Nodup := by
  refine List.nodup_append.2 ⟨?_, ?_, fun p hp q hq e => ?_⟩
  · have := pinsUp_iff.1 (ok.pinsUp n (List.mem_of_getElem? hn))
    exact this.imp fun {a b} h e => by subst e; rw [pinLt_irrefl] at h; cases h
  · have := pinsUp_iff.1 (ok.pinsUp m (List.mem_of_getElem? hm))
    exact this.imp fun {a b} h e => by subst e; rw [pinLt_irrefl] at h; cases h
  · subst e
    exact hik (ok.once i k n m p hn hm hp hq)
/-- where a net has gone -/
def destJ (i k j : Nat) : Nat := if j = k then i else if j < k then j else j - 1
theorem joinL_len {l : List Net} {i k : Nat} (hk : k < l.length) : (joinL l i k).length = l.length - 1 := by
  unfold joinL
  rw [List.length_append, List.length_take, List.length_set, List.length_drop]; omega
theorem joinL_get {l : List Net} {i k j : Nat} (hik : i < k) (hk : k < l.length) : (joinL l i k)[j]? = if j = i then some (joinN (l.getD i default) (l.getD k default)) else if j < k then l[j]? else l[j + 1]? := by
  unfold joinL
  have e1 : ((l.set i (joinN (l.getD i default) (l.getD k default))).take k).length = k := by rw [List.length_take, List.length_set]; omega
  by_cases h : j < k
  · rw [List.getElem?_append_left (by omega), List.getElem?_take_of_lt h, List.getElem?_set]
    by_cases h2 : j = i
    · subst h2; rw [if_pos rfl, if_pos rfl, if_pos (by omega)]
    · rw [if_neg (fun e => h2 e.symm), if_neg h2, if_pos h]
  · rw [List.getElem?_append_right (by omega), e1, List.getElem?_drop, if_neg (by omega), if_neg h]
    congr 1; omega
/-- each pin of the new list's net j is one of an old net that has gone to j -/
theorem joinL_src {l : List Net} {i k j : Nat} {n : Net} {p : Pin} (hik : i < k) (hk : k < l.length) (hn : (joinL l i k)[j]? = some n) (hp : p ∈ n.Pins) : ∃ (j0 : Nat) (m : Net), l[j0]? = some m ∧ p ∈ m.Pins ∧ destJ i k j0 = j := by
  rw [joinL_get hik hk] at hn
  by_cases h : j = i
  · rw [if_pos h] at hn
    injection hn with hn
    subst hn
    have hp2 : p ∈ (l.getD i default).Pins ++ (l.getD k default).Pins := (sortP_perm _).mem_iff.1 hp
    rcases List.mem_append.1 hp2 with hp2 | hp2
    · refine ⟨i, l.getD i default, ?_, hp2, ?_⟩
      · rw [List.getD_eq_getElem?_getD, List.getElem?_eq_getElem (by omega)]; rfl
      · unfold destJ; rw [if_neg (by omega), if_pos hik, h]
    · refine ⟨k, l.getD k default, ?_, hp2, ?_⟩
      · rw [List.getD_eq_getElem?_getD, List.getElem?_eq_getElem hk]; rfl
      · unfold destJ; rw [if_pos rfl, h]
  · rw [if_neg h] at hn
    by_cases h2 : j < k
    · rw [if_pos h2] at hn
      exact ⟨j, n, hn, hp, by unfold destJ; rw [if_neg (by omega), if_pos h2]⟩
    · rw [if_neg h2] at hn
      exact ⟨j + 1, n, hn, hp, by unfold destJ; rw [if_neg (by omega), if_neg (by omega)]; omega⟩
theorem join_right {t : List PartType} {x : Netlist} {i k : Nat} (h : checkList t x = 0) (hik : i < k) (hk : k < x.Nets.length) (hp : (x.Nets.getD i default).Pins.length + (x.Nets.getD k default).Pins.length ≤ 500) : checkList t (joinX x i k) = 0 := by
  have ok := checkList_ok h
  have hi : x.Nets[i]? = some (x.Nets.getD i default) := by rw [List.getD_eq_getElem?_getD, List.getElem?_eq_getElem (by omega)]; rfl
  have hkk : x.Nets[k]? = some (x.Nets.getD k default) := by rw [List.getD_eq_getElem?_getD, List.getElem?_eq_getElem hk]; rfl
  have hall : ∀ n ∈ joinL x.Nets i k, n = joinN (x.Nets.getD i default) (x.Nets.getD k default) ∨ n ∈ x.Nets := fun n hn => by
    obtain ⟨j, hj⟩ := List.getElem?_of_mem hn
    rw [joinL_get hik hk] at hj
    split at hj
    · injection hj with hj; exact .inl hj.symm
    · split at hj <;> exact .inr (List.mem_of_getElem? hj)
  have mi := List.mem_of_getElem? hi
  have mk := List.mem_of_getElem? hkk
  refine checkList_conv (by
    unfold checkList at h
    split at h
    · rename_i hc; exact absurd h hc
    · rename_i hc; exact Decidable.not_not.1 hc) { types := ok.types, parts := ok.parts, few := ok.few, pathP := ok.pathP, fewNets := ?_, fewPins := ?_, noPorts := ?_, nets := ?_, path := ?_, pin := ?_, pinsUp := ?_, once := ?_ }
  · show (joinL x.Nets i k).length ≤ 1000
    rw [joinL_len hk]; have := ok.fewNets; omega
  · intro n hn
    rcases hall n hn with rfl | hn
    · have h1 := ok.fewPins _ mi
      have : (joinN (x.Nets.getD i default) (x.Nets.getD k default)).Pins.length = (x.Nets.getD i default).Pins.length + (x.Nets.getD k default).Pins.length := by
        show (sortP _).length = _
        rw [(sortP_perm _).length_eq, List.length_append]
      omega
    · exact ok.fewPins n hn
  · intro n hn
    rcases hall n hn with rfl | hn
    · rfl
    · exact ok.noPorts n hn
  · show Sorted Net.Name (joinL x.Nets i k)
    rw [sorted_iff, ← List.pairwise_map (f := Net.Name) (R := Str.lt)]
    have h1 : (x.Nets.map Net.Name).Pairwise Str.lt := List.pairwise_map.2 (sorted_iff.1 ok.nets)
    have h2 : (joinL x.Nets i k).map Net.Name = (x.Nets.map Net.Name).take k ++ (x.Nets.map Net.Name).drop (k + 1) := by
      unfold joinL
      rw [List.map_append, List.map_take, List.map_drop, List.map_set]
      congr 2
      have : (joinN (x.Nets.getD i default) (x.Nets.getD k default)).Name = (x.Nets.getD i default).Name := rfl
      rw [this]
      apply List.ext_getElem?
      intro j
      rw [List.getElem?_set]
      split
      · rename_i e; subst e
        rw [if_pos (by rw [List.length_map]; omega), List.getElem?_map, hi]; rfl
      · rfl
    rw [h2]
    refine List.Pairwise.sublist ?_ h1
    conv => rhs; rw [← List.take_append_drop k (x.Nets.map Net.Name)]
    exact List.Sublist.append (List.Sublist.refl _) (List.drop_sublist_drop_left _ (Nat.le_succ k))
  · intro n hn
    rcases hall n hn with rfl | hn
    · exact (show isPath (x.Nets.getD i default).Name = true from ok.path _ mi)
    · exact ok.path n hn
  · intro n hn p hp2
    rcases hall n hn with rfl | hn
    · have hp3 : p ∈ (x.Nets.getD i default).Pins ++ (x.Nets.getD k default).Pins := (sortP_perm _).mem_iff.1 hp2
      rcases List.mem_append.1 hp3 with h4 | h4
      · exact ok.pin _ mi p h4
      · exact ok.pin _ mk p h4
    · exact ok.pin n hn p hp2
  · intro n hn
    rcases hall n hn with rfl | hn
    · exact pinsUp_iff.2 (sortP_up (once_nodup ok hi hkk (by omega)))
    · exact ok.pinsUp n hn
  · intro a b n m p hn hm hpn hpm
    obtain ⟨a0, n0, a1, a2, a3⟩ := joinL_src hik hk hn hpn
    obtain ⟨b0, m0, b1, b2, b3⟩ := joinL_src hik hk hm hpm
    have := ok.once a0 b0 n0 m0 p a1 b1 a2 b2
    subst this
    rw [← a3, ← b3]
theorem bare_self {t : List PartType} {x : Netlist} (ok : ListOk t x) : x.Nets.map bareN = x.Nets := by
  conv => rhs; rw [← List.map_id x.Nets]
  refine List.map_congr_left fun n hn => ?_
  unfold bareN
  rw [← ok.noPorts n hn]; rfl
/-! ### Joined -/
def noL : Netlist := ⟨[], []⟩
def jdR (t : List PartType) (x : Netlist) (a b : Str) : Netlist × Int :=
  if checkList t x ≠ 0 then (noL, checkList t x) else
  if nat? Net.Name x.Nets a < 0 ∨ nat? Net.Name x.Nets b < 0 then (noL, 9) else
  if nat? Net.Name x.Nets a = nat? Net.Name x.Nets b then (noL, 12) else
  if (x.Nets.getD (nat? Net.Name x.Nets a).toNat default).Pins.length + (x.Nets.getD (nat? Net.Name x.Nets b).toNat default).Pins.length > 500 then (noL, 2) else
  (joinX x (min (nat? Net.Name x.Nets a).toNat (nat? Net.Name x.Nets b).toNat) (max (nat? Net.Name x.Nets a).toNat (nat? Net.Name x.Nets b).toNat), 0)
theorem jdR_cases (t : List PartType) (x : Netlist) (a b : Str) : (∃ c : Int, c ≠ 0 ∧ jdR t x a b = (noL, c)) ∨
    ∃ i k : Nat, checkList t x = 0 ∧ i < k ∧ k < x.Nets.length ∧ (x.Nets.getD i default).Pins.length + (x.Nets.getD k default).Pins.length ≤ 500 ∧ jdR t x a b = (joinX x i k, 0) := by
  unfold jdR
  by_cases h1 : checkList t x ≠ 0
  · rw [if_pos h1]; exact .inl ⟨_, h1, rfl⟩
  rw [if_neg h1]
  by_cases h2 : nat? Net.Name x.Nets a < 0 ∨ nat? Net.Name x.Nets b < 0
  · rw [if_pos h2]; exact .inl ⟨9, by decide, rfl⟩
  rw [if_neg h2]
  by_cases h3 : nat? Net.Name x.Nets a = nat? Net.Name x.Nets b
  · rw [if_pos h3]; exact .inl ⟨12, by decide, rfl⟩
  rw [if_neg h3]
  split
  · exact .inl ⟨2, by decide, rfl⟩
  · rename_i h4
    rcases nat?_cases Net.Name x.Nets a with ⟨e, _⟩ | ⟨i, n, e1, e2, _⟩
    · omega
    rcases nat?_cases Net.Name x.Nets b with ⟨e, _⟩ | ⟨k, m, f1, f2, _⟩
    · omega
    have hi := (List.getElem?_eq_some_iff.1 e2).1
    have hk := (List.getElem?_eq_some_iff.1 f2).1
    rw [e1, f1, Int.toNat_natCast, Int.toNat_natCast] at h4 ⊢
    refine .inr ⟨min i k, max i k, Decidable.not_not.1 h1, by omega, by omega, ?_, rfl⟩
    rcases Nat.le_total i k with h | h
    · rw [Nat.min_eq_left h, Nat.max_eq_right h]; omega
    · rw [Nat.min_eq_right h, Nat.max_eq_left h]; omega
theorem Joined_eq {t : List PartType} {x : Netlist} {a b : Str} (hbt : bk t ≤ 1048576) (hbx : bk x ≤ 1048576) (hN : 4194304 ≤ N) : netlist_Joined N t x a b = some (jdR t x a b) := by
  unfold netlist_Joined jdR
  rw [netlist_CheckList_eq hbt hbx hN, bnd_some]
  by_cases h1 : checkList t x ≠ 0
  · have e : (checkList t x != 0) = true := by rw [bne_iff_ne]; exact h1
    rw [e, cond_true, if_pos h1]; rfl
  rw [if_neg h1]
  replace h1 := Decidable.not_not.1 h1
  have ok := checkList_ok h1
  have hfn := ok.fewNets
  have hxb := bk_Netlist x
  rw [h1, show ((0 : Int) != 0) = false by decide, cond_false, NetAt_eq ok.nets (by omega) hN, bnd_some, NetAt_eq ok.nets (by omega) hN, bnd_some]
  rcases nat?_cases Net.Name x.Nets a with ⟨e, _⟩ | ⟨i, n, e1, e2, _⟩
  · rw [e, if_pos (show (-1 : Int) < 0 ∨ nat? Net.Name x.Nets b < 0 from .inl (by decide))]; rfl
  rcases nat?_cases Net.Name x.Nets b with ⟨e, _⟩ | ⟨k, m, f1, f2, _⟩
  · rw [e, if_pos (show nat? Net.Name x.Nets a < 0 ∨ (-1 : Int) < 0 from .inr (by decide)), decide_eq_true (by decide : (-1 : Int) < 0), Bool.or_true, cond_true]; rfl
  have hi := (List.getElem?_eq_some_iff.1 e2).1
  have hk := (List.getElem?_eq_some_iff.1 f2).1
  have gi : x.Nets.getD i default = n := by rw [List.getD_eq_getElem?_getD, e2]; rfl
  have gk : x.Nets.getD k default = m := by rw [List.getD_eq_getElem?_getD, f2]; rfl
  have hpn := (ok.fewPins n (List.mem_of_getElem? e2)).2
  have hpm := (ok.fewPins m (List.mem_of_getElem? f2)).2
  rw [e1, f1, decide_eq_false (show ¬ ((i : Nat) : Int) < 0 by omega), decide_eq_false (show ¬ ((k : Nat) : Int) < 0 by omega), Bool.or_false, cond_false, if_neg (show ¬ (((i : Nat) : Int) < 0 ∨ ((k : Nat) : Int) < 0) by omega)]
  by_cases h3 : i = k
  · rw [show (((i : Nat) : Int) == ((k : Nat) : Int)) = true by rw [beq_iff_eq]; omega, cond_true, if_pos (show ((i : Nat) : Int) = ((k : Nat) : Int) by omega)]; rfl
  rw [show (((i : Nat) : Int) == ((k : Nat) : Int)) = false by rw [beq_eq_false_iff_ne]; omega, cond_false, if_neg (show ¬ ((i : Nat) : Int) = ((k : Nat) : Int) by omega), idx_at e2, bnd_some, idx_at f2, bnd_some, Int.toNat_natCast, Int.toNat_natCast, gi, gk]
  have ew : IntKind.wrap .i64 (((n.Pins.length : Nat) : Int) + ((m.Pins.length : Nat) : Int)) = ((n.Pins.length + m.Pins.length : Nat) : Int) := by rw [wrap_in (by omega) (by omega)]; omega
  rw [ew]
  by_cases h4 : n.Pins.length + m.Pins.length > 500
  · rw [decide_eq_true (by omega), cond_true, if_pos h4]; rfl
  rw [decide_eq_false (by omega), cond_false, if_neg h4, Own_eq (by have := ok.few; omega) (by omega) (fun n hn => by have := (ok.fewPins n hn).2; omega), bnd_some]
  dsimp only
  rw [bare_self ok, if_min, if_max]
  have hlk : min i k < max i k := by omega
  have hkl : max i k < x.Nets.length := by omega
  have hsum : (x.Nets.getD (min i k) default).Pins.length + (x.Nets.getD (max i k) default).Pins.length ≤ 500 := by
    rcases Nat.le_total i k with h | h
    · rw [Nat.min_eq_left h, Nat.max_eq_right h, gi, gk]; omega
    · rw [Nat.min_eq_right h, Nat.max_eq_left h, gi, gk]; omega
  generalize min i k = lo at hlk hsum ⊢
  generalize max i k = hi2 at hlk hkl hsum ⊢
  have elo : x.Nets[lo]? = some (x.Nets.getD lo default) := by rw [List.getD_eq_getElem?_getD, List.getElem?_eq_getElem (by omega)]; rfl
  have ehi : x.Nets[hi2]? = some (x.Nets.getD hi2 default) := by rw [List.getD_eq_getElem?_getD, List.getElem?_eq_getElem hkl]; rfl
  have hne : ne? ((lo : Nat) : Int) ((hi2 : Nat) : Int) = some () := by unfold ne?; rw [if_neg (by simp only [Int.toNat_natCast]; omega)]
  rw [idx_at elo, bnd_some, idx_at ehi, bnd_some, hne, bnd_some, app_some (by omega), bnd_some, Int.toNat_natCast]
  generalize hq : x.Nets.getD lo default = q at *
  have eset : (x.Nets.set lo { q with Pins := q.Pins ++ (x.Nets.getD hi2 default).Pins })[lo]? = some { q with Pins := q.Pins ++ (x.Nets.getD hi2 default).Pins } := by rw [List.getElem?_set, if_pos rfl, if_pos (by omega)]
  rw [idx_at eset, bnd_some, sortF_pins (by rw [List.length_append]; omega), bnd_some, List.set_set]
  have ew2 : IntKind.wrap .i64 (((hi2 : Nat) : Int) + 1) = ((hi2 + 1 : Nat) : Int) := by rw [wrap_in (by omega) (by omega)]; omega
  have hnp : q.Ports = [] := ok.noPorts q (List.mem_of_getElem? elo)
  have hj : ({ q with Pins := sortP (q.Pins ++ (x.Nets.getD hi2 default).Pins) } : Net) = joinN q (x.Nets.getD hi2 default) := by unfold joinN; rw [← hnp]
  have hdel : gDelAt (x.Nets.set lo (joinN q (x.Nets.getD hi2 default))) ((hi2 : Nat) : Int) ((hi2 + 1 : Nat) : Int) = some (joinL x.Nets lo hi2) := by
    unfold gDelAt
    rw [if_pos ⟨by omega, by omega, by rw [List.length_set]; omega⟩, Int.toNat_natCast, Int.toNat_natCast]
    unfold joinL
    rw [hq, List.drop_set_of_lt (by omega)]
  dsimp only
  rw [ew2, hj, hdel, bnd_some]
  rfl
/-! ### All pins -/
end
end Go.Gk
