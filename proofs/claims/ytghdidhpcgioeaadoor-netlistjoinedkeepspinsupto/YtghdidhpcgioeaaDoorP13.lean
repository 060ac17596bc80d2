/-
  Plain laws: two nets joined. No statement of the seed is proved here.
-/
import Derived.Test.YtghdidhpcgioeaaDoorP11
import Derived.Test.YtghdidhpcgioeaaDoorQ2
import Derived.Test.YtghdidhpcgioeaaDoorQ8
set_option linter.unusedVariables false
set_option linter.unusedSimpArgs false
set_option linter.unusedSectionVars false
namespace Go.Gk
open Go
section
variable {N : Nat}
def joinN (n m : Net) : Net := ⟨n.Name, sortP (n.Pins ++ m.Pins), []⟩
/-- nets i < k as one -/
def joinL (l : List Net) (i k : Nat) : List Net := (l.set i (joinN (l.getD i default) (l.getD k default))).take k ++ l.drop (k + 1)
def joinX (x : Netlist) (i k : Nat) : Netlist := ⟨x.Parts, joinL x.Nets i k⟩
theorem three {α : Type} {l : List α} {i k : Nat} (hik : i < k) (hk : k < l.length) : ∃ A B C : List α, l = A ++ l[i] :: (B ++ l[k] :: C) ∧ A.length = i ∧ B.length = k - i - 1 := by
  refine ⟨l.take i, (l.drop (i + 1)).take (k - i - 1), l.drop (k + 1), ?_, by rw [List.length_take]; omega, by rw [List.length_take, List.length_drop]; omega⟩
  have e1 : l.drop k = l[k] :: l.drop (k + 1) := List.drop_eq_getElem_cons hk
  have e2 : l.drop i = l[i] :: l.drop (i + 1) := List.drop_eq_getElem_cons (by omega)
  have e3 : (l.drop (i + 1)).drop (k - i - 1) = l.drop k := by rw [List.drop_drop]; congr 1; omega
  rw [← e1, ← e3, List.take_append_drop, ← e2, List.take_append_drop]
theorem joinL_three {A B C : List Net} {a b : Net} : joinL (A ++ a :: (B ++ b :: C)) A.length (A.length + B.length + 1) = A ++ joinN a b :: (B ++ C) := by
  unfold joinL
  have e1 : (A ++ a :: (B ++ b :: C)).getD A.length default = a := by simp
  have e2 : (A ++ a :: (B ++ b :: C)).getD (A.length + B.length + 1) default = b := by
    rw [List.getD_eq_getElem?_getD, List.getElem?_append_right (by omega), show A.length + B.length + 1 - A.length = B.length + 1 by omega, List.getElem?_cons_succ, List.getElem?_append_right (Nat.le_refl _), Nat.sub_self]; rfl
  have e3 : (A ++ a :: (B ++ b :: C)).drop (A.length + B.length + 1 + 1) = C := by
    have : A ++ a :: (B ++ b :: C) = (A ++ a :: (B ++ [b])) ++ C := by simp
    rw [this]
    exact List.drop_left' (by simp; omega)
  rw [e1, e2, e3, List.set_append_right _ _ (Nat.le_refl _), Nat.sub_self, List.set_cons_zero]
  have : A ++ joinN a b :: (B ++ b :: C) = (A ++ joinN a b :: B) ++ b :: C := by simp
  rw [this, List.take_left' (by simp; omega)]
  simp
theorem once_nodup {t : List PartType} {x : Netlist} (ok : ListOk t x) {i k : Nat} {n m : Net} (hn : x.Nets[i]? = some n) (hm : x.Nets[k]? = some m) (hik : i ≠ k) : (n.Pins ++ m.Pins).Nodup := by
  refine List.nodup_append.2 ⟨?_, ?_, fun p hp q hq e => ?_⟩
  · have := pinsUp_iff.1 (ok.pinsUp n (List.mem_of_getElem? hn))
    exact this.imp fun {a b} h e => by subst e; rw [pinLt_irrefl] at h; cases h
  · have := pinsUp_iff.1 (ok.pinsUp m (List.mem_of_getElem? hm))
    exact this.imp fun {a b} h e => by subst e; rw [pinLt_irrefl] at h; cases h
  · subst e
    exact hik (ok.once i k n m p hn hm hp hq)
/-- where a net has gone -/
def destJ (i k j : Nat) : Nat := if j = k then i else if j < k then j else j - 1
theorem joinL_len {l : List Net} {i k : Nat} (hk : k < l.length) : (joinL l i k).length = l.length - 1 := by
  unfold joinL
  rw [List.length_append, List.length_take, List.length_set, List.length_drop]; omega
theorem joinL_get {l : List Net} {i k j : Nat} (hik : i < k) (hk : k < l.length) : (joinL l i k)[j]? = if j = i then some (joinN (l.getD i default) (l.getD k default)) else if j < k then l[j]? else l[j + 1]? := by
  unfold joinL
  have e1 : ((l.set i (joinN (l.getD i default) (l.getD k default))).take k).length = k := by rw [List.length_take, List.length_set]; omega
  by_cases h : j < k
  · rw [List.getElem?_append_left (by omega), List.getElem?_take_of_lt h, List.getElem?_set]
    by_cases h2 : j = i
    · subst h2; rw [if_pos rfl, if_pos rfl, if_pos (by omega)]
    · rw [if_neg (fun e => h2 e.symm), if_neg h2, if_pos h]
  · rw [List.getElem?_append_right (by omega), e1, List.getElem?_drop, if_neg (by omega), if_neg h]
    congr 1; omega
/-- each pin of the new list's net j is one of an old net that has gone to j -/
theorem joinL_src {l : List Net} {i k j : Nat} {n : Net} {p : Pin} (hik : i < k) (hk : k < l.length) (hn : (joinL l i k)[j]? = some n) (hp : p ∈ n.Pins) : ∃ (j0 : Nat) (m : Net), l[j0]? = some m ∧ p ∈ m.Pins ∧ destJ i k j0 = j := by
  rw [joinL_get hik hk] at hn
  by_cases h : j = i
  · rw [if_pos h] at hn
    injection hn with hn
    subst hn
    have hp2 : p ∈ (l.getD i default).Pins ++ (l.getD k default).Pins := (sortP_perm _).mem_iff.1 hp
    rcases List.mem_append.1 hp2 with hp2 | hp2
    · refine ⟨i, l.getD i default, ?_, hp2, ?_⟩
      · rw [List.getD_eq_getElem?_getD, List.getElem?_eq_getElem (by omega)]; rfl
      · unfold destJ; rw [if_neg (by omega), if_pos hik, h]
    · refine ⟨k, l.getD k default, ?_, hp2, ?_⟩
      · rw [List.getD_eq_getElem?_getD, List.getElem?_eq_getElem hk]; rfl
      · unfold destJ; rw [if_pos rfl, h]
  · rw [if_neg h] at hn
    by_cases h2 : j < k
    · rw [if_pos h2] at hn
      exact ⟨j, n, hn, hp, by unfold destJ; rw [if_neg (by omega), if_pos h2]⟩
    · rw [if_neg h2] at hn
      exact ⟨j + 1, n, hn, hp, by unfold destJ; rw [if_neg (by omega), if_neg (by omega)]; omega⟩
theorem joinL_dst {l : List Net} {i k j : Nat} {m : Net} {p : Pin} (hik : i < k) (hk : k < l.length) (hm : l[j]? = some m) (hp : p ∈ m.Pins) : ∃ n, (joinL l i k)[destJ i k j]? = some n ∧ p ∈ n.Pins := by
  rw [joinL_get hik hk]
  have hj := (List.getElem?_eq_some_iff.1 hm).1
  have hd : l.getD j default = m := by rw [List.getD_eq_getElem?_getD, hm]; rfl
  unfold destJ
  by_cases h : j = k
  · rw [if_pos h, if_pos rfl]
    exact ⟨_, rfl, (sortP_perm _).mem_iff.2 (List.mem_append_right _ (by rw [← h, hd]; exact hp))⟩
  · rw [if_neg h]
    by_cases h2 : j < k
    · rw [if_pos h2]
      by_cases h3 : j = i
      · rw [if_pos h3]
        exact ⟨_, rfl, (sortP_perm _).mem_iff.2 (List.mem_append_left _ (by rw [← h3, hd]; exact hp))⟩
      · rw [if_neg h3, if_pos h2]; exact ⟨m, hm, hp⟩
    · rw [if_neg h2, if_neg (by omega), if_neg (by omega), show j - 1 + 1 = j by omega]
      exact ⟨m, hm, hp⟩
theorem bk_sub {α : Type} [Bk α] {l m : List α} (h : l.Perm m) : bk l = bk m := bk_perm h
theorem join_right {t : List PartType} {x : Netlist} {i k : Nat} (h : checkList t x = 0) (hik : i < k) (hk : k < x.Nets.length) (hp : (x.Nets.getD i default).Pins.length + (x.Nets.getD k default).Pins.length ≤ 500) : checkList t (joinX x i k) = 0 := by
  have ok := checkList_ok h
  have hi : x.Nets[i]? = some (x.Nets.getD i default) := by rw [List.getD_eq_getElem?_getD, List.getElem?_eq_getElem (by omega)]; rfl
  have hkk : x.Nets[k]? = some (x.Nets.getD k default) := by rw [List.getD_eq_getElem?_getD, List.getElem?_eq_getElem hk]; rfl
  have hall : ∀ n ∈ joinL x.Nets i k, n = joinN (x.Nets.getD i default) (x.Nets.getD k default) ∨ n ∈ x.Nets := fun n hn => by
    obtain ⟨j, hj⟩ := List.getElem?_of_mem hn
    rw [joinL_get hik hk] at hj
    split at hj
    · injection hj with hj; exact .inl hj.symm
    · split at hj <;> exact .inr (List.mem_of_getElem? hj)
  have mi := List.mem_of_getElem? hi
  have mk := List.mem_of_getElem? hkk
  refine checkList_conv (by
    unfold checkList at h
    split at h
    · rename_i hc; exact absurd h hc
    · rename_i hc; exact Decidable.not_not.1 hc) { types := ok.types, parts := ok.parts, few := ok.few, pathP := ok.pathP, fewNets := ?_, fewPins := ?_, noPorts := ?_, nets := ?_, path := ?_, pin := ?_, pinsUp := ?_, once := ?_ }
  · show (joinL x.Nets i k).length ≤ 1000
    rw [joinL_len hk]; have := ok.fewNets; omega
  · intro n hn
    rcases hall n hn with rfl | hn
    · have h1 := ok.fewPins _ mi
      have : (joinN (x.Nets.getD i default) (x.Nets.getD k default)).Pins.length = (x.Nets.getD i default).Pins.length + (x.Nets.getD k default).Pins.length := by
        show (sortP _).length = _
        rw [(sortP_perm _).length_eq, List.length_append]
      omega
    · exact ok.fewPins n hn
  · intro n hn
    rcases hall n hn with rfl | hn
    · rfl
    · exact ok.noPorts n hn
  · show Sorted Net.Name (joinL x.Nets i k)
    rw [sorted_iff, ← List.pairwise_map (f := Net.Name) (R := Str.lt)]
    have h1 : (x.Nets.map Net.Name).Pairwise Str.lt := List.pairwise_map.2 (sorted_iff.1 ok.nets)
    have h2 : (joinL x.Nets i k).map Net.Name = (x.Nets.map Net.Name).take k ++ (x.Nets.map Net.Name).drop (k + 1) := by
      unfold joinL
      rw [List.map_append, List.map_take, List.map_drop, List.map_set]
      congr 2
      have : (joinN (x.Nets.getD i default) (x.Nets.getD k default)).Name = (x.Nets.getD i default).Name := rfl
      rw [this]
      apply List.ext_getElem?
      intro j
      rw [List.getElem?_set]
      split
      · rename_i e; subst e
        rw [if_pos (by rw [List.length_map]; omega), List.getElem?_map, hi]; rfl
      · rfl
    rw [h2]
    refine List.Pairwise.sublist ?_ h1
    conv => rhs; rw [← List.take_append_drop k (x.Nets.map Net.Name)]
    exact List.Sublist.append (List.Sublist.refl _) (List.drop_sublist_drop_left _ (Nat.le_succ k))
  · intro n hn
    rcases hall n hn with rfl | hn
    · exact (show isPath (x.Nets.getD i default).Name = true from ok.path _ mi)
    · exact ok.path n hn
  · intro n hn p hp2
    rcases hall n hn with rfl | hn
    · have hp3 : p ∈ (x.Nets.getD i default).Pins ++ (x.Nets.getD k default).Pins := (sortP_perm _).mem_iff.1 hp2
      rcases List.mem_append.1 hp3 with h4 | h4
      · exact ok.pin _ mi p h4
      · exact ok.pin _ mk p h4
    · exact ok.pin n hn p hp2
  · intro n hn
    rcases hall n hn with rfl | hn
    · exact pinsUp_iff.2 (sortP_up (once_nodup ok hi hkk (by omega)))
    · exact ok.pinsUp n hn
  · intro a b n m p hn hm hpn hpm
    obtain ⟨a0, n0, a1, a2, a3⟩ := joinL_src hik hk hn hpn
    obtain ⟨b0, m0, b1, b2, b3⟩ := joinL_src hik hk hm hpm
    have := ok.once a0 b0 n0 m0 p a1 b1 a2 b2
    subst this
    rw [← a3, ← b3]
theorem netOf_at {t : List PartType} {x : Netlist} (ok : ListOk t x) {j : Nat} {n : Net} {p : Pin} (hn : x.Nets[j]? = some n) (hp : p ∈ n.Pins) : netOf x p = ((j : Nat) : Int) :=
  at?_some hn (by simpa using hp) (fun j2 m hj hm => by
    rw [decide_eq_false_iff_not]
    intro h
    have := ok.once j2 j m n p hm hn h hp
    omega)
/-- the same pins, in other nets -/
theorem join_pins {l : List Net} {i k : Nat} (hik : i < k) (hk : k < l.length) : ((joinL l i k).flatMap Net.Pins).Perm (l.flatMap Net.Pins) := by
  obtain ⟨A, B, C, e, hA, hB⟩ := three hik hk
  generalize l[i] = a at e
  generalize l[k] = b at e
  subst e
  subst hA
  have hkk : k = A.length + B.length + 1 := by omega
  rw [hkk, joinL_three]
  simp only [List.flatMap_append, List.flatMap_cons]
  refine List.Perm.append_left _ ?_
  have h1 : (joinN a b).Pins.Perm (a.Pins ++ b.Pins) := sortP_perm _
  refine (h1.append_right _).trans ?_
  rw [List.append_assoc]
  refine List.Perm.append_left _ ?_
  rw [← List.append_assoc, ← List.append_assoc]
  exact List.perm_append_comm.append_right _
theorem bk_join {x : Netlist} {i k : Nat} (hik : i < k) (hk : k < x.Nets.length) : bk (joinX x i k) ≤ bk x := by
  obtain ⟨A, B, C, e, hA, hB⟩ := three hik hk
  rw [bk_Netlist, bk_Netlist]
  show bk x.Parts + bk (joinL x.Nets i k) + 1 ≤ _
  have : bk (joinL x.Nets i k) ≤ bk x.Nets := by
    generalize x.Nets[i] = a at e
    generalize x.Nets[k] = b at e
    rw [e]
    subst hA
    have hkk : k = A.length + B.length + 1 := by omega
    rw [hkk, joinL_three]
    have h1 := bk_append A (joinN a b :: (B ++ C))
    have h2 := bk_append A (a :: (B ++ b :: C))
    have h3 := bk_append B C
    have h4 := bk_append B (b :: C)
    rw [bk_cons] at h1 h2 h4
    have h5 : bk (joinN a b) = bk a.Name + bk (a.Pins ++ b.Pins) + bk ([] : List Str) + 1 := by
      rw [bk_Net]; show _ + bk (sortP _) + _ + 1 = _; rw [bk_perm (sortP_perm _)]; rfl
    have h6 := bk_append a.Pins b.Pins
    have h7 := bk_Net a
    have h8 := bk_Net b
    have h9 := bk_pos a.Ports
    have h10 := bk_pos b.Ports
    have h11 := bk_pos b.Name
    rw [bk_nil] at h5
    omega
  omega
theorem bare_self {t : List PartType} {x : Netlist} (ok : ListOk t x) : x.Nets.map bareN = x.Nets := by
  conv => rhs; rw [← List.map_id x.Nets]
  refine List.map_congr_left fun n hn => ?_
  unfold bareN
  rw [← ok.noPorts n hn]; rfl
/-! ### Joined -/
def noL : Netlist := ⟨[], []⟩
def jdR (t : List PartType) (x : Netlist) (a b : Str) : Netlist × Int :=
  if checkList t x ≠ 0 then (noL, checkList t x) else
  if nat? Net.Name x.Nets a < 0 ∨ nat? Net.Name x.Nets b < 0 then (noL, 9) else
  if nat? Net.Name x.Nets a = nat? Net.Name x.Nets b then (noL, 12) else
  if (x.Nets.getD (nat? Net.Name x.Nets a).toNat default).Pins.length + (x.Nets.getD (nat? Net.Name x.Nets b).toNat default).Pins.length > 500 then (noL, 2) else
  (joinX x (min (nat? Net.Name x.Nets a).toNat (nat? Net.Name x.Nets b).toNat) (max (nat? Net.Name x.Nets a).toNat (nat? Net.Name x.Nets b).toNat), 0)
theorem jdR_cases (t : List PartType) (x : Netlist) (a b : Str) : (∃ c : Int, c ≠ 0 ∧ jdR t x a b = (noL, c)) ∨
    ∃ i k : Nat, checkList t x = 0 ∧ i < k ∧ k < x.Nets.length ∧ (x.Nets.getD i default).Pins.length + (x.Nets.getD k default).Pins.length ≤ 500 ∧ jdR t x a b = (joinX x i k, 0) := by
  unfold jdR
  by_cases h1 : checkList t x ≠ 0
  · rw [if_pos h1]; exact .inl ⟨_, h1, rfl⟩
  rw [if_neg h1]
  by_cases h2 : nat? Net.Name x.Nets a < 0 ∨ nat? Net.Name x.Nets b < 0
  · rw [if_pos h2]; exact .inl ⟨9, by decide, rfl⟩
  rw [if_neg h2]
  by_cases h3 : nat? Net.Name x.Nets a = nat? Net.Name x.Nets b
  · rw [if_pos h3]; exact .inl ⟨12, by decide, rfl⟩
  rw [if_neg h3]
  split
  · exact .inl ⟨2, by decide, rfl⟩
  · rename_i h4
    rcases nat?_cases Net.Name x.Nets a with ⟨e, _⟩ | ⟨i, n, e1, e2, _⟩
    · omega
    rcases nat?_cases Net.Name x.Nets b with ⟨e, _⟩ | ⟨k, m, f1, f2, _⟩
    · omega
    have hi := (List.getElem?_eq_some_iff.1 e2).1
    have hk := (List.getElem?_eq_some_iff.1 f2).1
    rw [e1, f1, Int.toNat_natCast, Int.toNat_natCast] at h4 ⊢
    refine .inr ⟨min i k, max i k, Decidable.not_not.1 h1, by omega, by omega, ?_, rfl⟩
    rcases Nat.le_total i k with h | h
    · rw [Nat.min_eq_left h, Nat.max_eq_right h]; omega
    · rw [Nat.min_eq_right h, Nat.max_eq_left h]; omega
theorem Joined_eq {t : List PartType} {x : Netlist} {a b : Str} (hbt : bk t ≤ 1048576) (hbx : bk x ≤ 1048576) (hN : 4194304 ≤ N) : netlist_Joined N t x a b = some (jdR t x a b) := by
  unfold netlist_Joined jdR
  rw [netlist_CheckList_eq hbt hbx hN, bnd_some]
  by_cases h1 : checkList t x ≠ 0
  · have e : (checkList t x != 0) = true := by rw [bne_iff_ne]; exact h1
    rw [e, cond_true, if_pos h1]; rfl
  rw [if_neg h1]
  replace h1 := Decidable.not_not.1 h1
  have ok := checkList_ok h1
  have hfn := ok.fewNets
  have hxb := bk_Netlist x
  rw [h1, show ((0 : Int) != 0) = false by decide, cond_false, NetAt_eq ok.nets (by omega) hN, bnd_some, NetAt_eq ok.nets (by omega) hN, bnd_some]
  rcases nat?_cases Net.Name x.Nets a with ⟨e, _⟩ | ⟨i, n, e1, e2, _⟩
  · rw [e, if_pos (show (-1 : Int) < 0 ∨ nat? Net.Name x.Nets b < 0 from .inl (by decide))]; rfl
  rcases nat?_cases Net.Name x.Nets b with ⟨e, _⟩ | ⟨k, m, f1, f2, _⟩
  · rw [e, if_pos (show nat? Net.Name x.Nets a < 0 ∨ (-1 : Int) < 0 from .inr (by decide)), decide_eq_true (by decide : (-1 : Int) < 0), Bool.or_true, cond_true]; rfl
  have hi := (List.getElem?_eq_some_iff.1 e2).1
  have hk := (List.getElem?_eq_some_iff.1 f2).1
  have gi : x.Nets.getD i default = n := by rw [List.getD_eq_getElem?_getD, e2]; rfl
  have gk : x.Nets.getD k default = m := by rw [List.getD_eq_getElem?_getD, f2]; rfl
  have hpn := (ok.fewPins n (List.mem_of_getElem? e2)).2
  have hpm := (ok.fewPins m (List.mem_of_getElem? f2)).2
  rw [e1, f1, decide_eq_false (show ¬ ((i : Nat) : Int) < 0 by omega), decide_eq_false (show ¬ ((k : Nat) : Int) < 0 by omega), Bool.or_false, cond_false, if_neg (show ¬ (((i : Nat) : Int) < 0 ∨ ((k : Nat) : Int) < 0) by omega)]
  by_cases h3 : i = k
  · rw [show (((i : Nat) : Int) == ((k : Nat) : Int)) = true by rw [beq_iff_eq]; omega, cond_true, if_pos (show ((i : Nat) : Int) = ((k : Nat) : Int) by omega)]; rfl
  rw [show (((i : Nat) : Int) == ((k : Nat) : Int)) = false by rw [beq_eq_false_iff_ne]; omega, cond_false, if_neg (show ¬ ((i : Nat) : Int) = ((k : Nat) : Int) by omega), idx_at e2, bnd_some, idx_at f2, bnd_some, Int.toNat_natCast, Int.toNat_natCast, gi, gk]
  have ew : IntKind.wrap .i64 (((n.Pins.length : Nat) : Int) + ((m.Pins.length : Nat) : Int)) = ((n.Pins.length + m.Pins.length : Nat) : Int) := by rw [wrap_in (by omega) (by omega)]; omega
  rw [ew]
  by_cases h4 : n.Pins.length + m.Pins.length > 500
  · rw [decide_eq_true (by omega), cond_true, if_pos h4]; rfl
  rw [decide_eq_false (by omega), cond_false, if_neg h4, Own_eq (by have := ok.few; omega) (by omega) (fun n hn => by have := (ok.fewPins n hn).2; omega), bnd_some]
  dsimp only
  rw [bare_self ok, if_min, if_max]
  have hlk : min i k < max i k := by omega
  have hkl : max i k < x.Nets.length := by omega
  have hsum : (x.Nets.getD (min i k) default).Pins.length + (x.Nets.getD (max i k) default).Pins.length ≤ 500 := by
    rcases Nat.le_total i k with h | h
    · rw [Nat.min_eq_left h, Nat.max_eq_right h, gi, gk]; omega
    · rw [Nat.min_eq_right h, Nat.max_eq_left h, gi, gk]; omega
  generalize min i k = lo at hlk hsum ⊢
  generalize max i k = hi2 at hlk hkl hsum ⊢
  have elo : x.Nets[lo]? = some (x.Nets.getD lo default) := by rw [List.getD_eq_getElem?_getD, List.getElem?_eq_getElem (by omega)]; rfl
  have ehi : x.Nets[hi2]? = some (x.Nets.getD hi2 default) := by rw [List.getD_eq_getElem?_getD, List.getElem?_eq_getElem hkl]; rfl
  have hne : ne? ((lo : Nat) : Int) ((hi2 : Nat) : Int) = some () := by unfold ne?; rw [if_neg (by simp only [Int.toNat_natCast]; omega)]
  rw [idx_at elo, bnd_some, idx_at ehi, bnd_some, hne, bnd_some, app_some (by omega), bnd_some, Int.toNat_natCast]
  generalize hq : x.Nets.getD lo default = q at *
  have eset : (x.Nets.set lo { q with Pins := q.Pins ++ (x.Nets.getD hi2 default).Pins })[lo]? = some { q with Pins := q.Pins ++ (x.Nets.getD hi2 default).Pins } := by rw [List.getElem?_set, if_pos rfl, if_pos (by omega)]
  rw [idx_at eset, bnd_some, sortF_pins (by rw [List.length_append]; omega), bnd_some, List.set_set]
  have ew2 : IntKind.wrap .i64 (((hi2 : Nat) : Int) + 1) = ((hi2 + 1 : Nat) : Int) := by rw [wrap_in (by omega) (by omega)]; omega
  have hnp : q.Ports = [] := ok.noPorts q (List.mem_of_getElem? elo)
  have hj : ({ q with Pins := sortP (q.Pins ++ (x.Nets.getD hi2 default).Pins) } : Net) = joinN q (x.Nets.getD hi2 default) := by unfold joinN; rw [← hnp]
  have hdel : gDelAt (x.Nets.set lo (joinN q (x.Nets.getD hi2 default))) ((hi2 : Nat) : Int) ((hi2 + 1 : Nat) : Int) = some (joinL x.Nets lo hi2) := by
    unfold gDelAt
    rw [if_pos ⟨by omega, by omega, by rw [List.length_set]; omega⟩, Int.toNat_natCast, Int.toNat_natCast]
    unfold joinL
    rw [hq, List.drop_set_of_lt (by omega)]
  dsimp only
  rw [ew2, hj, hdel, bnd_some]
  rfl
/-! ### All pins -/
theorem AllPins_eq {x : Netlist} (hx : x.Nets.length ≤ 1048576) (hp : (x.Nets.flatMap Net.Pins).length ≤ 1048576) (hN : 4194304 ≤ N) : etchhouseref2_AllPins N x = some (sortP (x.Nets.flatMap Net.Pins)) := by
  unfold etchhouseref2_AllPins
  rw [fld_fun (s := ([] : List Pin)) (fun k => (x.Nets.take k).flatMap Net.Pins) (by omega) rfl (fun k hk => by
    have hxk : x.Nets[k]? = some x.Nets[k] := List.getElem?_eq_getElem hk
    have h1 : ((x.Nets.take (k + 1)).flatMap Net.Pins).length ≤ (x.Nets.flatMap Net.Pins).length := by
      conv => rhs; rw [← List.take_append_drop (k + 1) x.Nets, List.flatMap_append, List.length_append]
      omega
    rw [List.take_succ_eq_append_getElem hk, List.flatMap_append, List.length_append] at h1
    have h2 : [x.Nets[k]].flatMap Net.Pins = x.Nets[k].Pins := by simp
    rw [h2] at h1
    rw [idx_at hxk, bnd_some, app_some (by omega), bnd_some, List.take_succ_eq_append_getElem hk, List.flatMap_append, h2]), bnd_some, List.take_length, sortedPins_eq hp hN]
  rfl
theorem Equal_pin {l m : List Pin} (hl : l.length ≤ 4611686018427387904) : slices_Equal_Pin N l m = some (decide (l = m)) := gEqual_eq hl
def togB (x : Netlist) (p q : Pin) : Bool := decide (netOf x p ≥ 0) && (netOf x p == netOf x q)
theorem Together_eq {x : Netlist} {p q : Pin} (hb : bk x ≤ 1048576) : etchhouseref2_Together N x p q = some (togB x p q) := by
  unfold etchhouseref2_Together togB
  rw [ref_netOf_eq hb, bnd_some, ref_netOf_eq hb, bnd_some]
  cases decide (netOf x p ≥ 0) <;> rfl
theorem pins_small {x : Netlist} (hb : bk x ≤ 1048576) : (x.Nets.flatMap Net.Pins).length ≤ 1048576 := by
  rw [bk_Netlist] at hb
  have : ∀ l : List Net, (l.flatMap Net.Pins).length ≤ bk l := fun l => by
    induction l with
    | nil => simp
    | cons n l ih =>
      rw [List.flatMap_cons, List.length_append, bk_cons]
      have := bk_len n.Pins
      have := bk_Net n
      omega
  have := this x.Nets
  omega
theorem NetlistJoinedKeepsPins_eq {t : List PartType} {x : Netlist} {a b : Str} {p q : Int} (hbt : bk t ≤ 1048576) (hbx : bk x ≤ 1048576) (_ : bk a ≤ 1048576) (_ : bk b ≤ 1048576) (_ : bk p ≤ 1048576) (_ : bk q ≤ 1048576) (hN : 4194304 ≤ N) : etchhouselaw2_NetlistJoinedKeepsPins N t x a b p q = some true := by
  unfold etchhouselaw2_NetlistJoinedKeepsPins
  rw [Joined_eq hbt hbx hN, bnd_some, awake_eq hN]
  rcases jdR_cases t x a b with ⟨c, hc, e⟩ | ⟨i, k, h1, hik, hk, hsum, e⟩
  · rw [e]
    have : (c != 0) = true := by rw [bne_iff_ne]; exact hc
    dsimp only
    rw [this]; rfl
  rw [e]
  dsimp only
  have ok := checkList_ok h1
  have hfn := ok.fewNets
  have hy := join_right h1 hik hk hsum
  have oky := checkList_ok hy
  have hby : bk (joinX x i k) ≤ 1048576 := Nat.le_trans (bk_join hik hk) hbx
  have hperm : ((joinX x i k).Nets.flatMap Net.Pins).Perm (x.Nets.flatMap Net.Pins) := join_pins hik hk
  have hlen : (joinX x i k).Nets.length = x.Nets.length - 1 := joinL_len hk
  have hpos : 0 < (sortP (x.Nets.flatMap Net.Pins)).length := by
    rw [(sortP_perm _).length_eq]
    have h2 := ok.fewPins _ (List.getElem_mem hk)
    have h3 : x.Nets[k].Pins.length ≤ (x.Nets.flatMap Net.Pins).length := by
      have := List.Sublist.length_le (List.sublist_flatten_of_mem (List.mem_map_of_mem (f := Net.Pins) (List.getElem_mem hk)))
      rwa [← List.flatMap_def] at this
    omega
  have hps := pins_small hbx
  have hal : (sortP (x.Nets.flatMap Net.Pins)).length ≤ 1048576 := by rw [(sortP_perm _).length_eq]; exact hps
  rw [show ((0 : Int) != 0) = false by decide, cond_false, AllPins_eq (by omega) hps hN, bnd_some]
  obtain ⟨j1, b1, b2⟩ := Below_eq (N := N) (p := p) hpos (by omega)
  obtain ⟨j2, c1, c2⟩ := Below_eq (N := N) (p := q) hpos (by omega)
  rw [b1, bnd_some, idx_at (List.getElem?_eq_getElem b2), bnd_some, c1, bnd_some, idx_at (List.getElem?_eq_getElem c2), bnd_some]
  have m1 := (sortP_perm _).mem_iff.1 (List.getElem_mem b2)
  have m2 := (sortP_perm _).mem_iff.1 (List.getElem_mem c2)
  generalize (sortP (x.Nets.flatMap Net.Pins))[j1] = P1 at m1 ⊢
  generalize (sortP (x.Nets.flatMap Net.Pins))[j2] = P2 at m2 ⊢
  have hw : IntKind.wrap .i64 (((x.Nets.length : Nat) : Int) - 1) = ((x.Nets.length - 1 : Nat) : Int) := by rw [wrap_in (by omega) (by omega)]; omega
  have hpy := pins_small hby
  rw [hlen, hw, show (((x.Nets.length - 1 : Nat) : Int) == ((x.Nets.length - 1 : Nat) : Int)) = true by simp, cond_true, AllPins_eq (by rw [hlen]; omega) hpy hN, bnd_some, sortP_congr hperm, Equal_pin (by omega), bnd_some, decide_eq_true rfl, cond_true, Together_eq hbx, bnd_some]
  have hchk : netlist_CheckList N t (joinX x i k) = some 0 := by rw [netlist_CheckList_eq hbt hby hN, hy]
  have hin : togB x P1 P2 = true → togB (joinX x i k) P1 P2 = true := fun h => by
    obtain ⟨n1, hn1, hp1⟩ := List.mem_flatMap.1 m1
    obtain ⟨n2, hn2, hp2⟩ := List.mem_flatMap.1 m2
    obtain ⟨a1, ha1⟩ := List.getElem?_of_mem hn1
    obtain ⟨a2, ha2⟩ := List.getElem?_of_mem hn2
    unfold togB at h
    rw [netOf_at ok ha1 hp1, netOf_at ok ha2 hp2] at h
    have he : a1 = a2 := by simp at h; omega
    subst he
    obtain ⟨r1, q1, q2⟩ := joinL_dst hik hk ha1 hp1
    obtain ⟨r2, q3, q4⟩ := joinL_dst hik hk ha2 hp2
    unfold togB
    rw [netOf_at oky (show (joinX x i k).Nets[destJ i k a1]? = some r1 from q1) q2, netOf_at oky (show (joinX x i k).Nets[destJ i k a1]? = some r2 from q3) q4]
    simp
  cases htog : togB x P1 P2 with
  | false =>
    rw [Bool.not_false, cond_true, hchk, bnd_some]; rfl
  | true =>
    rw [Bool.not_true, cond_false, Together_eq hby, bnd_some, hin htog, cond_true, hchk, bnd_some]; rfl
end
end Go.Gk
