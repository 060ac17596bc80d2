/-
  Plain laws: the nets of pins, loose pins. No statement of the seed is proved here.
-/
import Derived.Test.YtghdidhpcgioeaaDoorP4
set_option linter.unusedVariables false
set_option linter.unusedSimpArgs false
set_option linter.unusedSectionVars false
namespace Go.Gk
open Go
section
variable {N : Nat}
/-! ### What a right list is -/
structure ListOk (t : List PartType) (x : Netlist) : Prop where
  types : TypesOk t
  parts : PartsOk t x.Parts
  few : x.Parts.length ≤ 1000
  fewNets : x.Nets.length ≤ 1000
  fewPins : ∀ n ∈ x.Nets, 0 < n.Pins.length ∧ n.Pins.length ≤ 500
  noPorts : ∀ n ∈ x.Nets, n.Ports = []
  nets : Sorted Net.Name x.Nets
  path : ∀ n ∈ x.Nets, isPath n.Name = true
  pathP : ∀ p ∈ x.Parts, isPath p.Name = true
  pin : ∀ n ∈ x.Nets, ∀ p ∈ n.Pins, hasPin t x.Parts p = true
  pinsUp : ∀ n ∈ x.Nets, ∀ (i j : Nat) (p q : Pin), i < j → n.Pins[i]? = some p → n.Pins[j]? = some q → pinLt p q = true
  once : ∀ (i j : Nat) (n m : Net) (p : Pin), x.Nets[i]? = some n → x.Nets[j]? = some m → p ∈ n.Pins → p ∈ m.Pins → i = j
theorem pinLt_irrefl (a : Pin) : pinLt a a = false := by
  unfold pinLt
  have h1 : a.Part.ltb a.Part = false := by rw [← Bool.not_eq_true]; exact Str.lt_irrefl _
  have h2 : a.Pin.ltb a.Pin = false := by rw [← Bool.not_eq_true]; exact Str.lt_irrefl _
  rw [h1, h2]; simp
theorem pinLt_trans {a b c : Pin} (h1 : pinLt a b = true) (h2 : pinLt b c = true) : pinLt a c = true := by
  unfold pinLt at *
  simp only [Bool.or_eq_true, Bool.and_eq_true, eqb_iff] at *
  rcases h1 with h1 | ⟨e1, h1⟩
  · rcases h2 with h2 | ⟨e2, _⟩
    · exact .inl (Str.lt_trans h1 h2)
    · rw [← e2]; exact .inl h1
  · rcases h2 with h2 | ⟨e2, h2⟩
    · rw [e1]; exact .inl h2
    · exact .inr ⟨e1.trans e2, Str.lt_trans h1 h2⟩
theorem pinLt_total (a b : Pin) : pinLt a b = true ∨ a = b ∨ pinLt b a = true := by
  unfold pinLt
  simp only [Bool.or_eq_true, Bool.and_eq_true, eqb_iff]
  rcases Str.lt_total a.Part b.Part with h | h | h
  · exact .inl (.inl h)
  · rcases Str.lt_total a.Pin b.Pin with h' | h' | h'
    · exact .inl (.inr ⟨h, h'⟩)
    · refine .inr (.inl ?_); cases a; cases b; simp_all
    · exact .inr (.inr (.inr ⟨h.symm, h'⟩))
  · exact .inr (.inr (.inl h))
theorem pinsUp_of {l : List Pin} (h : ∀ k, k < l.length → pinOrd l k = false) : ∀ (i j : Nat) (p q : Pin), i < j → l[i]? = some p → l[j]? = some q → pinLt p q = true := by
  intro i j
  induction j with
  | zero => intro p q hij; omega
  | succ j ih =>
    intro p q hij hp hq
    have hj := (List.getElem?_eq_some_iff.1 hq).1
    have h1 := h (j + 1) hj
    unfold pinOrd at h1
    rw [hq, Nat.add_sub_cancel, List.getElem?_eq_getElem (by omega : j < l.length)] at h1
    simp at h1
    by_cases e : i = j
    · subst e
      rw [List.getElem?_eq_getElem (by omega : i < l.length)] at hp; injection hp with hp; subst hp; exact h1
    · exact pinLt_trans (ih p l[j] (by omega) hp (List.getElem?_eq_getElem (by omega))) h1
theorem netErr_ne {t : List PartType} {x : Netlist} {k : Nat} {r : Int} (h : netErr t x k = some r) : r ≠ 0 := by
  unfold netErr at h
  split at h
  · cases h
  split at h
  · injection h with h; omega
  split at h
  · injection h with h; omega
  split at h
  · injection h with h; omega
  cases hx : fst? _ (npErr t x k _) with
  | some r' =>
    rw [hx] at h
    injection h with h
    subst h
    obtain ⟨j, _, hj, _⟩ := fst?_some.1 hx
    exact npErr_ne hj
  | none =>
    rw [hx] at h
    simp only [Option.none_or] at h
    split at h
    · injection h with h; omega
    split at h
    · injection h with h; omega
    · cases h
theorem checkList_ok {t : List PartType} {x : Netlist} (h : checkList t x = 0) : ListOk t x := by
  unfold checkList at h
  by_cases h1 : checkTypes t ≠ 0
  · rw [if_pos h1] at h; exact absurd h h1
  rw [if_neg h1] at h
  by_cases h2 : checkParts t x.Parts ≠ 0
  · rw [if_pos h2] at h; exact absurd h h2
  rw [if_neg h2] at h
  replace h1 := Decidable.not_not.1 h1
  replace h2 := Decidable.not_not.1 h2
  unfold checkNets at h
  by_cases h3 : 1000 < x.Nets.length
  · rw [if_pos h3] at h; cases h
  rw [if_neg h3] at h
  have hn := getD_zero (fun k r hk => netErr_ne hk) h
  have key : ∀ i (hi : i < x.Nets.length), isPath x.Nets[i].Name = true ∧ 0 < x.Nets[i].Pins.length ∧ x.Nets[i].Pins.length ≤ 500 ∧ x.Nets[i].Ports = [] ∧ ordBad Net.Name x.Nets i = false ∧
      ∀ k (hk : k < x.Nets[i].Pins.length), hasPin t x.Parts x.Nets[i].Pins[k] = true ∧ pinOrd x.Nets[i].Pins k = false ∧ inNets (x.Nets.take i) x.Nets[i].Pins[k] = false := by
    intro i hi
    have h4 := hn i hi
    unfold netErr at h4
    rw [List.getElem?_eq_getElem hi] at h4
    dsimp only at h4
    split at h4
    · cases h4
    split at h4
    · cases h4
    split at h4
    · cases h4
    cases h5 : fst? x.Nets[i].Pins.length (npErr t x i x.Nets[i].Pins) with
    | some r => rw [h5] at h4; cases h4
    | none =>
      rw [h5] at h4
      simp only [Option.none_or] at h4
      split at h4
      · cases h4
      split at h4
      · cases h4
      rename_i h6 h7 h8 h9 h10
      refine ⟨by simpa using h6, by omega, by omega, List.length_eq_zero_iff.1 (by omega), by simpa using h10, fun k hk => ?_⟩
      have h11 := fst?_none.1 h5 k hk
      unfold npErr at h11
      rw [List.getElem?_eq_getElem hk] at h11
      dsimp only at h11
      repeat' split at h11
      all_goals first | (simp at h11; done) | simp_all
  have hpe : ∀ k (hk : k < x.Parts.length), isPath x.Parts[k].Name = true := by
    intro k hk
    have h5 := h2
    unfold checkParts at h5
    split at h5
    · cases h5
    have h4 := getD_zero (fun k r hk => partErr_ne hk) h5 k hk
    unfold partErr at h4
    rw [List.getElem?_eq_getElem hk] at h4
    dsimp only at h4
    split at h4
    · cases h4
    · rename_i h6; simpa using h6
  have mem : ∀ n ∈ x.Nets, ∃ i, ∃ hi : i < x.Nets.length, n = x.Nets[i] := fun n hn => by
    obtain ⟨i, hi⟩ := List.getElem?_of_mem hn
    obtain ⟨hlt, rfl⟩ := List.getElem?_eq_some_iff.1 hi
    exact ⟨i, hlt, rfl⟩
  refine ⟨checkTypes_ok h1, checkParts_ok h2, ?_, by omega, fun n hn => ?_, fun n hn => ?_, sorted_of_ord fun i hi => (key i hi).2.2.2.2.1, fun n hn => ?_, fun p hp => ?_, fun n hn p hp => ?_, fun n hn => ?_, ?_⟩
  · unfold checkParts at h2
    split at h2
    · cases h2
    · omega
  · obtain ⟨i, hi, rfl⟩ := mem n hn; exact ⟨(key i hi).2.1, (key i hi).2.2.1⟩
  · obtain ⟨i, hi, rfl⟩ := mem n hn; exact (key i hi).2.2.2.1
  · obtain ⟨i, hi, rfl⟩ := mem n hn; exact (key i hi).1
  · obtain ⟨k, hk⟩ := List.getElem?_of_mem hp
    obtain ⟨hlt, rfl⟩ := List.getElem?_eq_some_iff.1 hk
    exact hpe k hlt
  · obtain ⟨i, hi, rfl⟩ := mem n hn
    obtain ⟨k, hk⟩ := List.getElem?_of_mem hp
    obtain ⟨hlt, rfl⟩ := List.getElem?_eq_some_iff.1 hk
    exact ((key i hi).2.2.2.2.2 k hlt).1
  · obtain ⟨i, hi, rfl⟩ := mem n hn
    exact pinsUp_of fun k hk => ((key i hi).2.2.2.2.2 k hk).2.1
  · have one : ∀ (i j : Nat) (n m : Net) (p : Pin), i < j → x.Nets[i]? = some n → x.Nets[j]? = some m → p ∈ n.Pins → p ∈ m.Pins → False := by
      intro i j n m p hij hn hm hpn hpm
      obtain ⟨hj, rfl⟩ := List.getElem?_eq_some_iff.1 hm
      obtain ⟨k, hk⟩ := List.getElem?_of_mem hpm
      obtain ⟨hlt, rfl⟩ := List.getElem?_eq_some_iff.1 hk
      have h5 := ((key j hj).2.2.2.2.2 k hlt).2.2
      unfold inNets at h5
      rw [List.any_eq_false] at h5
      refine h5 n (List.mem_of_getElem? (i := i) (by rw [List.getElem?_take_of_lt hij]; exact hn)) ?_
      simpa using hpn
    intro i j n m p hn hm hpn hpm
    rcases Nat.lt_trichotomy i j with h5 | h5 | h5
    · exact (one i j n m p h5 hn hm hpn hpm).elim
    · exact h5
    · exact (one j i m n p h5 hm hn hpm hpn).elim

/-! ### Which net a pin is in -/
def netOf (x : Netlist) (p : Pin) : Int := at? x.Nets (fun n => decide (p ∈ n.Pins))
theorem ref_netOf_eq {x : Netlist} {p : Pin} (hb : bk x ≤ 1048576) : etchhouseref2_netOf N x p = some (netOf x p) := by
  rw [bk_Netlist] at hb
  have := bk_len x.Nets
  have e := gIndexFunc_eq (l := x.Nets) (φ := fun n => slices_Contains_Pin N n.Pins p) (fun n => decide (p ∈ n.Pins)) (by omega) (fun n hn => by
    have hb2 := bk_mem hn
    rw [bk_Net] at hb2
    have := bk_len n.Pins
    exact gContains_eq (by omega))
  unfold netOf
  rw [← e]; rfl
def netMap (x : Netlist) (i : Nat) : List (Pin × Int) := (List.range i).foldl (fun m k => mputs m ((x.Nets[k]?.map Net.Pins).getD []) ((k : Nat) : Int)) []
theorem netMap_succ {x : Netlist} {i : Nat} {n : Net} (h : x.Nets[i]? = some n) : netMap x (i + 1) = mputs (netMap x i) n.Pins ((i : Nat) : Int) := by
  unfold netMap
  rw [List.range_succ, List.foldl_append, List.foldl_cons, List.foldl_nil, h]; rfl
theorem Nets_eq {x : Netlist} (hb : bk x ≤ 1048576) : netlist_Nets N x = some (netMap x x.Nets.length) := by
  rw [bk_Netlist] at hb
  have := bk_len x.Nets
  unfold netlist_Nets
  rw [fld_fun (s := ([] : List (Pin × Int))) (netMap x) (by omega) rfl (fun k hk => by
    have hx : x.Nets[k]? = some x.Nets[k] := List.getElem?_eq_getElem hk
    have hb2 := bk_get hx
    rw [bk_Net] at hb2
    have := bk_len x.Nets[k].Pins
    rw [idx_at hx, bnd_some, fld_mputs _ (by omega), bnd_some, netMap_succ hx]), bnd_some]
theorem mhas_netMap {x : Netlist} {p : Pin} : ∀ (i : Nat), i ≤ x.Nets.length → mhas (netMap x i) p = (x.Nets.take i).any (fun n => decide (p ∈ n.Pins))
  | 0, _ => by simp [netMap, mhas]
  | i + 1, h => by
    have hx : x.Nets[i]? = some x.Nets[i] := List.getElem?_eq_getElem (by omega)
    rw [netMap_succ hx, mhas_mputs, mhas_netMap i (by omega), List.take_succ_eq_append_getElem (by omega), List.any_append]
    simp [Bool.or_comm]
theorem mget_netMap {x : Netlist} {p : Pin} {j : Nat} (hj : ∀ k n, x.Nets[k]? = some n → p ∈ n.Pins → k = j) (z : Int) : ∀ (i : Nat), i ≤ x.Nets.length → mget (netMap x i) p z = if ((x.Nets.take i).any (fun n => decide (p ∈ n.Pins))) = true then ((j : Nat) : Int) else z
  | 0, _ => by simp [netMap, mget]
  | i + 1, h => by
    have hx : x.Nets[i]? = some x.Nets[i] := List.getElem?_eq_getElem (by omega)
    rw [netMap_succ hx, mget_mputs, mget_netMap hj z i (by omega), List.take_succ_eq_append_getElem (by omega), List.any_append]
    by_cases hp : p ∈ x.Nets[i].Pins
    · have hji := hj i _ hx hp
      rw [if_pos hp, if_pos (by simp [hp])]
      omega
    · rw [if_neg hp]; simp [hp]
theorem netOf_map {t : List PartType} {x : Netlist} (h : ListOk t x) (p : Pin) :
    mhas (netMap x x.Nets.length) p = decide (netOf x p ≥ 0) ∧ (0 ≤ netOf x p → ∀ z, mget (netMap x x.Nets.length) p z = netOf x p) := by
  have e : mhas (netMap x x.Nets.length) p = x.Nets.any (fun n => decide (p ∈ n.Pins)) := by rw [mhas_netMap _ (Nat.le_refl _), List.take_length]
  unfold netOf
  refine ⟨by rw [e, at?_ge], fun h0 z => ?_⟩
  rcases at?_cases x.Nets (fun n => decide (p ∈ n.Pins)) with ⟨h1, _⟩ | ⟨k, n, h1, h2, h3, _⟩
  · rw [h1] at h0; omega
  · have h3' : p ∈ n.Pins := by simpa using h3
    rw [mget_netMap (j := k) (fun i m hm hp => h.once i k m n p hm h2 hp h3') z _ (Nat.le_refl _), List.take_length, h1, if_pos]
    exact List.any_eq_true.2 ⟨n, List.mem_of_getElem? h2, h3⟩
def netOfS (t : List PartType) (x : Netlist) (p : Pin) : Str × Bool × Int :=
  if checkList t x ≠ 0 then (⟨[]⟩, false, checkList t x) else if hasPin t x.Parts p = false then (⟨[]⟩, false, 9) else
    match x.Nets.find? (fun n => decide (p ∈ n.Pins)) with
    | some n => (n.Name, true, 0)
    | none => (⟨[]⟩, false, 0)
/-! ### Loose pins -/
def typeFor (t : List PartType) (p : Part) : PartType := (t.find? (fun y => y.Name.eqb p.Type_)).getD default
def pinsOf (t : List PartType) (p : Part) : List Pin := (typeFor t p).Pins.map (fun y => ⟨p.Name, y.Name⟩)
def looseOf (t : List PartType) (x : Netlist) : List Pin := x.Parts.flatMap fun p => (pinsOf t p).filter (fun q => decide (netOf x q < 0))
theorem typeFor_at {t : List PartType} {p : Part} (h : 0 ≤ nat? PartType.Name t p.Type_) : ∃ k : Nat, nat? PartType.Name t p.Type_ = ((k : Nat) : Int) ∧ t[k]? = some (typeFor t p) := by
  rcases nat?_cases PartType.Name t p.Type_ with ⟨h1, _⟩ | ⟨k, y, h1, h2, _⟩
  · omega
  · refine ⟨k, h1, ?_⟩
    unfold typeFor
    rw [find_at h1 h2]; exact h2
theorem fld_flat {α β : Type} {l : List α} {body : Nat → List β → Option (List β)} {s0 : List β} (f : α → List β) (hl : l.length ≤ 4611686018427387904)
    (h : ∀ k y, l[k]? = some y → body k (s0 ++ (l.take k).flatMap f) = some (s0 ++ (l.take k).flatMap f ++ f y)) : fld l.length body s0 = some (s0 ++ l.flatMap f) := by
  rw [fld_fun (s := s0) (fun k => s0 ++ (l.take k).flatMap f) hl (by simp) (fun k hk => by
    rw [h k l[k] (List.getElem?_eq_getElem hk), List.take_succ_eq_append_getElem hk, List.flatMap_append, List.append_assoc]; simp), List.take_length]
theorem flatMap_len {α β : Type} (f : α → List β) (b : Nat) : ∀ (l : List α), (∀ x ∈ l, (f x).length ≤ b) → (l.flatMap f).length ≤ l.length * b
  | [], _ => by simp
  | x :: l, h => by
    have h1 := h x (by simp)
    have h2 := flatMap_len f b l (fun y hy => h y (by simp [hy]))
    rw [List.flatMap_cons, List.length_append, List.length_cons, Nat.succ_mul]; omega
theorem flatMap_take_len {α β : Type} (f : α → List β) (b : Nat) (l : List α) (k : Nat) (h : ∀ x ∈ l, (f x).length ≤ b) : ((l.take k).flatMap f).length ≤ l.length * b :=
  Nat.le_trans (flatMap_len f b _ (fun x hx => h x (List.mem_of_mem_take hx))) (Nat.mul_le_mul_right b (by rw [List.length_take]; omega))
theorem typeFor_pins {t : List PartType} {p : Part} (hbt : bk t ≤ 1048576) (h : 0 ≤ nat? PartType.Name t p.Type_) : (typeFor t p).Pins.length ≤ 1048576 := by
  obtain ⟨k, _, h2⟩ := typeFor_at h
  have h3 := bk_get h2
  rw [bk_PartType] at h3
  have := bk_len (typeFor t p).Pins
  omega
theorem pinsOf_eq {t : List PartType} {p : Part} (hs : Sorted PartType.Name t) (hbt : bk t ≤ 1048576) (h : 0 ≤ nat? PartType.Name t p.Type_) (hN : 4194304 ≤ N) : netlist_pinsOf N t p = some (pinsOf t p) := by
  have hl := typeFor_pins hbt h
  obtain ⟨k, h1, h2⟩ := typeFor_at h
  unfold netlist_pinsOf
  rw [TypeAt_eq hs hbt hN, bnd_some, h1, idx_at h2, bnd_some]
  rw [fld_flat (s0 := ([] : List Pin)) (fun (y : PinType) => [(⟨p.Name, y.Name⟩ : Pin)]) (by omega) (fun k y hy => by
    have := flatMap_take_len (fun (y : PinType) => [(⟨p.Name, y.Name⟩ : Pin)]) 1 (typeFor t p).Pins k (fun _ _ => by simp)
    rw [idx_at hy, bnd_some, app_some (by simp only [List.nil_append, List.length_cons, List.length_nil] at this ⊢; omega), bnd_some]), bnd_some]
  unfold pinsOf
  congr 1
  rw [List.nil_append]
  induction (typeFor t p).Pins with
  | nil => rfl
  | cons a l ih => rw [List.flatMap_cons, ih]; rfl
theorem looseOf_len {t : List PartType} {x : Netlist} (hbt : bk t ≤ 1048576) (ok : ListOk t x) {f : Part → List Pin} (hf : ∀ p ∈ x.Parts, (f p).length ≤ (typeFor t p).Pins.length) (k : Nat) : ((x.Parts.take k).flatMap f).length ≤ 1048576000 := by
  have := flatMap_take_len f 1048576 x.Parts k (fun p hp => Nat.le_trans (hf p hp) (typeFor_pins hbt (ok.parts.typed p hp)))
  have := ok.few
  have : x.Parts.length * 1048576 ≤ 1000 * 1048576 := Nat.mul_le_mul_right _ ok.few
  omega
theorem filter_flat {α : Type} (p : α → Bool) (l : List α) : l.flatMap (fun y => if p y = true then [y] else []) = l.filter p := by
  induction l with
  | nil => rfl
  | cons a l ih => rw [List.flatMap_cons, ih, List.filter_cons]; cases p a <;> simp
theorem LooseOf_eq {t : List PartType} {x : Netlist} (hbt : bk t ≤ 1048576) (hbx : bk x ≤ 1048576) (ok : ListOk t x) (hN : 4194304 ≤ N) : netlist_LooseOf N t x = some (looseOf t x) := by
  have hb := bk_Netlist x
  have hlp := bk_len x.Parts
  unfold netlist_LooseOf looseOf
  rw [Nets_eq hbx, bnd_some]
  rw [fld_flat (s0 := ([] : List Pin)) (fun (p : Part) => (pinsOf t p).filter (fun q => decide (netOf x q < 0))) (by omega) (fun k p hp => by
    have hm := List.mem_of_getElem? hp
    have hty := ok.parts.typed p hm
    have hpl : (pinsOf t p).length ≤ 1048576 := by unfold pinsOf; rw [List.length_map]; exact typeFor_pins hbt hty
    have hlen := looseOf_len hbt ok (f := fun (p : Part) => (pinsOf t p).filter (fun q => decide (netOf x q < 0))) (fun p _ => Nat.le_trans (List.length_filter_le _ _) (by unfold pinsOf; rw [List.length_map]; exact Nat.le_refl _)) k
    rw [idx_at hp, bnd_some, pinsOf_eq ok.types.sorted hbt hty hN, bnd_some]
    rw [List.nil_append]
    rw [fld_flat (s0 := (x.Parts.take k).flatMap fun (p : Part) => (pinsOf t p).filter (fun q => decide (netOf x q < 0))) (fun q => if decide (netOf x q < 0) = true then [q] else []) (by omega) (fun j q hq => by
      rw [idx_at hq, bnd_some, (netOf_map ok q).1]
      have e : (!decide (netOf x q ≥ 0)) = decide (netOf x q < 0) := by rw [← decide_not]; congr 1; rw [eq_iff_iff]; omega
      rw [e]
      have h2 := flatMap_take_len (fun q => if decide (netOf x q < 0) = true then [q] else []) 1 (pinsOf t p) j (fun q _ => by split <;> simp)
      cases decide (netOf x q < 0)
      · simp
      · rw [cond_true, app_some (by simp only [List.length_append, List.length_cons, List.length_nil]; omega)]; rfl), bnd_some, filter_flat]), bnd_some, List.nil_append]
def looseS (t : List PartType) (x : Netlist) : List Pin × Int := if checkList t x ≠ 0 then ([], checkList t x) else (looseOf t x, 0)
theorem netlist_Loose_eq {t : List PartType} {x : Netlist} (hbt : bk t ≤ 1048576) (hbx : bk x ≤ 1048576) (hN : 4194304 ≤ N) : netlist_Loose N t x = some (looseS t x) := by
  unfold netlist_Loose looseS
  rw [netlist_CheckList_eq hbt hbx hN, bnd_some]
  by_cases h1 : checkList t x ≠ 0
  · have e : (checkList t x != 0) = true := by rw [bne_iff_ne]; exact h1
    rw [e, cond_true, if_pos h1]
  rw [if_neg h1]
  replace h1 := Decidable.not_not.1 h1
  rw [h1, show ((0 : Int) != 0) = false by decide, cond_false, LooseOf_eq hbt hbx (checkList_ok h1) hN, bnd_some]
theorem looseS_len {t : List PartType} {x : Netlist} (hbt : bk t ≤ 1048576) : (looseS t x).1.length ≤ 1048576000 := by
  unfold looseS
  by_cases h1 : checkList t x ≠ 0
  · rw [if_pos h1]; simp
  rw [if_neg h1]
  have ok := checkList_ok (Decidable.not_not.1 h1)
  have := looseOf_len hbt ok (f := fun (p : Part) => (pinsOf t p).filter (fun q => decide (netOf x q < 0))) (fun p _ => Nat.le_trans (List.length_filter_le _ _) (by unfold pinsOf; rw [List.length_map]; exact Nat.le_refl _)) x.Parts.length
  rwa [List.take_length] at this
theorem awake_eq (hN : 4194304 ≤ N) : etchhouselaw2_awake N = some true := by
  obtain ⟨M, rfl⟩ : ∃ M, N = M + 64 := ⟨N - 64, by omega⟩
  rfl
end
end Go.Gk
