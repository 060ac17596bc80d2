/-
  Plain laws: parts left out. No statement of the seed is proved here.
-/
import Derived.Test.YtghdidhpcgioeaaDoorQ3
set_option linter.unusedVariables false
set_option linter.unusedSimpArgs false
set_option linter.unusedSectionVars false
namespace Go.Gk
open Go
section
variable {N : Nat}
def bareN (n : Net) : Net := ⟨n.Name, n.Pins, []⟩
def woN (W : List Str) (n : Net) : Net := ⟨n.Name, n.Pins.filter (fun p => !decide (p.Part ∈ W)), []⟩
def woP (W : List Str) (l : List Part) : List Part := l.filter (fun p => !decide (p.Name ∈ W))
def woS (W : List Str) (x : Netlist) : Netlist := ⟨woP W x.Parts, (x.Nets.map (woN W)).filter (fun n => !decide (n.Pins.length = 0))⟩
def isPart (x : Netlist) (s : Str) : Bool := x.Parts.any (fun p => p.Name.eqb s)
theorem clonePart {l : List Part} (h : l.length ≤ 1048576) : slices_Clone_Part N l = some l := by
  unfold slices_Clone_Part; rw [app_some (by simp; omega)]; rfl
theorem cloneNet {l : List Net} (h : l.length ≤ 1048576) : slices_Clone_Net N l = some l := by
  unfold slices_Clone_Net; rw [app_some (by simp; omega)]; rfl
theorem clonePin {l : List Pin} (h : l.length ≤ 1048576) : slices_Clone_Pin N l = some l := by
  unfold slices_Clone_Pin; rw [app_some (by simp; omega)]; rfl
theorem Own_eq {x : Netlist} (h1 : x.Parts.length ≤ 1048576) (h2 : x.Nets.length ≤ 1048576) (h3 : ∀ n ∈ x.Nets, n.Pins.length ≤ 1048576) : netlist_Own N x = some (x.Parts, x.Nets.map bareN) := by
  unfold netlist_Own
  rw [clonePart h1, bnd_some, cloneNet h2, bnd_some]
  obtain ⟨s, a1, a2, a3⟩ := fld_inv (m := x.Nets.length) (s := x.Nets.map fun x => (false, x)) (body := fun (k48 : Nat) (s49 : (List (Bool × Net))) => ((idx s49 (k48 : Int)).bind fun (x141 : Bool × Net) => (ffq x141).bind fun (x148 : Net) => (slices_Clone_Pin N x148.Pins).bind fun (x149 : (List Pin)) => (idx s49 (k48 : Int)).bind fun (x151 : Bool × Net) => (idx (s49.set (Int.toNat (k48 : Int)) (true, { x151.2 with Pins := x149 })) (k48 : Int)).bind fun (x158 : Bool × Net) => some ((s49.set (Int.toNat (k48 : Int)) (true, { x151.2 with Pins := x149 })).set (Int.toNat (k48 : Int)) (x158.1, { x158.2 with Ports := ([] : (List Str)) })) : Option ((List (Bool × Net)))))
    (fun k s => s.length = x.Nets.length ∧ ∀ (i : Nat) (n : Net), x.Nets[i]? = some n → s[i]? = some (if i < k then (true, bareN n) else (false, n))) (by omega) ⟨by simp, fun i n hn => by rw [List.getElem?_map, hn]; rfl⟩ (fun k s hk ⟨i1, i2⟩ => by
      have hx : x.Nets[k]? = some x.Nets[k] := List.getElem?_eq_getElem hk
      have hs := i2 k _ hx
      rw [if_neg (by omega)] at hs
      rw [idx_at hs, bnd_some]
      have e : ffq (false, x.Nets[k]) = some x.Nets[k] := rfl
      rw [e, bnd_some, clonePin (h3 _ (List.getElem_mem hk)), bnd_some, bnd_some, Int.toNat_natCast]
      have hs2 : (s.set k (true, { x.Nets[k] with Pins := x.Nets[k].Pins }))[k]? = some (true, x.Nets[k]) := by rw [List.getElem?_set, if_pos rfl, if_pos (by omega)]
      rw [idx_at hs2, bnd_some]
      refine ⟨_, rfl, by simp [i1], fun i n hn => ?_⟩
      rw [List.getElem?_set]
      by_cases e : k = i
      · subst e
        rw [if_pos rfl, if_pos (by simp; omega), if_pos (by omega)]
        rw [hx] at hn; injection hn with hn; subst hn; rfl
      · rw [if_neg e, List.getElem?_set, if_neg e, i2 i n hn]
        by_cases h : i < k
        · rw [if_pos h, if_pos (by omega)]
        · rw [if_neg h, if_neg (by omega)])
  have hs : s = x.Nets.map (fun n => (true, bareN n)) := by
    apply List.ext_getElem?
    intro i
    rw [List.getElem?_map]
    cases hn : x.Nets[i]? with
    | none =>
      have : x.Nets.length ≤ i := by simpa using hn
      rw [List.getElem?_eq_none (by omega)]; rfl
    | some n =>
      have := (List.getElem?_eq_some_iff.1 hn).1
      rw [a3 i n hn, if_pos this]; rfl
  rw [a1, bnd_some, hs]
  have : allT (x.Nets.map (fun n => (true, bareN n))) = some (x.Nets.map bareN) := by
    unfold allT
    rw [if_pos (by rw [List.all_eq_true]; intro p hp; obtain ⟨n, _, rfl⟩ := List.mem_map.1 hp; rfl), List.map_map]
    rfl
  rw [this, bnd_some]
def woR (t : List PartType) (W : List Str) (x : Netlist) : Netlist × Int := if checkList t x ≠ 0 then (⟨[], []⟩, checkList t x) else if namesErr W 1000 (isPart x) ≠ 0 then (⟨[], []⟩, namesErr W 1000 (isPart x)) else (woS W x, 0)
/-! ### The reference -/
theorem filt_flat {α : Type} (p : α → Bool) (l : List α) : l.flatMap (fun y => if p y = true then [y] else []) = l.filter p := filter_flat p l
theorem filtLoop {α : Type} {l : List α} {p : α → Bool} {b : Nat} (hl : l.length ≤ 1048576) (hb : b ≤ 64) {q : α → Option Bool} (hq : ∀ x ∈ l, q x = some (!p x)) :
    fld l.length (fun (k : Nat) (s : List α) => ((idx l (k : Int)).bind fun (x : α) => (q x).bind fun (y : Bool) => (bif (!y) then ((app b s ([x] : List α)).bind fun (z : List α) => some z) else (some s)).bind fun (z : List α) => some z : Option (List α))) ([] : List α) = some (l.filter p) := by
  have := fld_flat (l := l) (s0 := ([] : List α)) (body := fun (k : Nat) (s : List α) => ((idx l (k : Int)).bind fun (x : α) => (q x).bind fun (y : Bool) => (bif (!y) then ((app b s ([x] : List α)).bind fun (z : List α) => some z) else (some s)).bind fun (z : List α) => some z : Option (List α))) (fun y => if p y = true then [y] else []) (by omega) (fun k y hy => by
    have h1 := flatMap_take_len (fun y => if p y = true then [y] else []) 1 l k (fun y _ => by split <;> simp)
    have hmul : (((l.take k).flatMap (fun y => if p y = true then [y] else [])).length + 1) * b ≤ 140737488355328 := by
      have : (((l.take k).flatMap (fun y => if p y = true then [y] else [])).length + 1) * b ≤ 1048577 * 64 := Nat.mul_le_mul (by omega) hb
      omega
    rw [idx_at hy, bnd_some, hq y (List.mem_of_getElem? hy), bnd_some, Bool.not_not, List.nil_append, app_some (by simpa using hmul)]
    cases p y <;> simp [bnd_some])
  rw [this, List.nil_append, filter_flat]
theorem woR_small {t : List PartType} {x : Netlist} {W : List Str} : (woR t W x).1.Parts.length ≤ 1048576 ∧ (woR t W x).1.Nets.length ≤ 1048576 ∧ ∀ n ∈ (woR t W x).1.Nets, n.Pins.length ≤ 1048576 ∧ n.Ports.length ≤ 1048576 := by
  unfold woR
  by_cases h1 : checkList t x ≠ 0
  · rw [if_pos h1]; exact ⟨Nat.zero_le _, Nat.zero_le _, fun n h => by cases h⟩
  rw [if_neg h1]
  by_cases h2 : namesErr W 1000 (isPart x) ≠ 0
  · rw [if_pos h2]; exact ⟨Nat.zero_le _, Nat.zero_le _, fun n h => by cases h⟩
  rw [if_neg h2]
  have ok := checkList_ok (Decidable.not_not.1 h1)
  have hf := ok.few
  have hfn := ok.fewNets
  refine ⟨?_, ?_, fun n hn => ?_⟩
  · have := List.length_filter_le (fun p : Part => !decide (p.Name ∈ W)) x.Parts
    show (x.Parts.filter _).length ≤ _
    omega
  · have := List.length_filter_le (fun n : Net => !decide (n.Pins.length = 0)) (x.Nets.map (woN W))
    rw [List.length_map] at this
    show (List.filter _ _).length ≤ _
    omega
  · obtain ⟨m, hm, rfl⟩ := List.mem_map.1 (List.mem_filter.1 hn).1
    have := (ok.fewPins m hm).2
    have h3 := List.length_filter_le (fun p : Pin => !decide (p.Part ∈ W)) m.Pins
    refine ⟨?_, by simp [woN]⟩
    show (m.Pins.filter _).length ≤ _
    omega
/-! ### Left out in two portions -/
theorem wo_find {l : List Part} {W : List Str} {s : Str} (h : s ∉ W) : (woP W l).find? (fun x => x.Name.eqb s) = l.find? (fun x => x.Name.eqb s) := by
  unfold woP
  rw [List.find?_filter]
  congr 1
  funext p
  rw [Bool.eq_iff_iff, decide_eq_true_iff]
  constructor
  · exact fun h => h.2
  · intro h2
    refine ⟨?_, h2⟩
    rw [eqb_iff.1 h2]; simpa using h
theorem wo_right {t : List PartType} {x : Netlist} {W : List Str} (h : checkList t x = 0) : checkList t (woS W x) = 0 := by
  have ok := checkList_ok h
  have h0 : checkTypes t = 0 := by
    unfold checkList at h
    by_cases h1 : checkTypes t ≠ 0
    · rw [if_pos h1] at h; exact h
    · exact Decidable.not_not.1 h1
  have memN : ∀ n ∈ (woS W x).Nets, ∃ m ∈ x.Nets, n = woN W m ∧ (woN W m).Pins.length ≠ 0 := fun n hn => by
    have hn' : n ∈ (x.Nets.map (woN W)).filter (fun n => !decide (n.Pins.length = 0)) := hn
    obtain ⟨h1, h2⟩ := List.mem_filter.1 hn'
    obtain ⟨m, hm, rfl⟩ := List.mem_map.1 h1
    exact ⟨m, hm, rfl, by simpa using h2⟩
  have sN : Sorted Net.Name (woS W x).Nets := by
    rw [sorted_iff]
    refine List.Pairwise.filter _ ?_
    rw [List.pairwise_map]
    exact sorted_iff.1 ok.nets
  refine checkList_conv h0 ⟨ok.types, ⟨?_, fun p hp => ok.parts.typed p (List.mem_filter.1 hp).1⟩, ?_, ?_, fun n hn => ?_, fun n hn => ?_, sN, fun n hn => ?_, fun p hp => ok.pathP p (List.mem_filter.1 hp).1, fun n hn p hp => ?_, fun n hn => ?_, ?_⟩
  · exact sorted_iff.2 (List.Pairwise.filter _ (sorted_iff.1 ok.parts.sorted))
  · have := List.length_filter_le (fun p : Part => !decide (p.Name ∈ W)) x.Parts
    have := ok.few
    show (x.Parts.filter _).length ≤ _
    omega
  · have := List.length_filter_le (fun n : Net => !decide (n.Pins.length = 0)) (x.Nets.map (woN W))
    rw [List.length_map] at this
    have := ok.fewNets
    show (List.filter _ _).length ≤ _
    omega
  · obtain ⟨m, hm, rfl, h2⟩ := memN n hn
    have h3 := List.length_filter_le (fun p : Pin => !decide (p.Part ∈ W)) m.Pins
    have := (ok.fewPins m hm).2
    refine ⟨by omega, ?_⟩
    show (m.Pins.filter _).length ≤ _
    omega
  · obtain ⟨m, hm, rfl, h2⟩ := memN n hn; rfl
  · obtain ⟨m, hm, rfl, h2⟩ := memN n hn; exact ok.path m hm
  · obtain ⟨m, hm, rfl, h2⟩ := memN n hn
    obtain ⟨h3, h4⟩ := List.mem_filter.1 (show p ∈ m.Pins.filter _ from hp)
    have h5 := ok.pin m hm p h3
    have h6 : p.Part ∉ W := by simpa using h4
    unfold hasPin at h5 ⊢
    have : (woS W x).Parts.find? (fun y => y.Name.eqb p.Part) = x.Parts.find? (fun y => y.Name.eqb p.Part) := wo_find h6
    rw [this]; exact h5
  · obtain ⟨m, hm, rfl, h2⟩ := memN n hn
    exact pinsUp_iff.2 (List.Pairwise.filter _ (pinsUp_iff.1 (ok.pinsUp m hm)))
  · intro i j n m p hn hm hpn hpm
    obtain ⟨n0, hn0, rfl, _⟩ := memN n (List.mem_of_getElem? hn)
    obtain ⟨m0, hm0, rfl, _⟩ := memN m (List.mem_of_getElem? hm)
    have hp1 := (List.mem_filter.1 (show p ∈ n0.Pins.filter _ from hpn)).1
    have hp2 := (List.mem_filter.1 (show p ∈ m0.Pins.filter _ from hpm)).1
    obtain ⟨a, ha⟩ := List.getElem?_of_mem hn0
    obtain ⟨b, hb⟩ := List.getElem?_of_mem hm0
    have hab := ok.once a b n0 m0 p ha hb hp1 hp2
    subst hab
    rw [ha] at hb; injection hb with hb; subst hb
    exact sN.inj hn hm rfl
theorem wo_wo (A B W : List Str) (hW : ∀ s, s ∈ W ↔ s ∈ A ∨ s ∈ B) (x : Netlist) : woS B (woS A x) = woS W x := by
  have hd : ∀ s, (!decide (s ∈ A) && !decide (s ∈ B)) = !decide (s ∈ W) := fun s => by
    rw [Bool.eq_iff_iff]; simp [hW s]
  have hp : woP B (woP A x.Parts) = woP W x.Parts := by
    unfold woP
    rw [List.filter_filter]
    congr 1; funext p; rw [Bool.and_comm]; exact hd p.Name
  have hn : ∀ n, woN B (woN A n) = woN W n := fun n => by
    unfold woN
    dsimp only
    rw [List.filter_filter]
    congr 2; funext p; rw [Bool.and_comm]; exact hd p.Part
  have hnets : ∀ l : List Net, (((l.map (woN A)).filter (fun n => !decide (n.Pins.length = 0))).map (woN B)).filter (fun n => !decide (n.Pins.length = 0)) = (l.map (woN W)).filter (fun n => !decide (n.Pins.length = 0)) := by
    intro l
    induction l with
    | nil => rfl
    | cons n l ih =>
      simp only [List.map_cons, List.filter_cons]
      by_cases h1 : (woN A n).Pins.length = 0
      · have h2 : (woN W n).Pins.length = 0 := by
          rw [← hn]
          have := List.length_filter_le (fun p : Pin => !decide (p.Part ∈ B)) (woN A n).Pins
          show ((woN A n).Pins.filter _).length = 0
          omega
        rw [decide_eq_true h1, decide_eq_true h2]
        simp only [Bool.not_true, Bool.false_eq_true, if_false]
        exact ih
      · rw [decide_eq_false h1]
        simp only [Bool.not_false, if_true, List.map_cons, List.filter_cons, hn]
        rw [ih]
  unfold woS
  rw [hp]
  congr 1
  exact hnets x.Nets
theorem Below_eq {p : Int} {n : Nat} (h0 : 0 < n) (hn : n ≤ 1048577) : ∃ k : Nat, etchhouseref2_Below N p ((n : Nat) : Int) = some ((k : Nat) : Int) ∧ k < n := by
  unfold etchhouseref2_Below
  have e : nzq ((n : Nat) : Int) = some () := by unfold nzq; rw [show (((n : Nat) : Int) == 0) = false by simp; omega]; rfl
  rw [e, bnd_some]
  have h1 := Int.tmod_lt_of_pos p (show (0 : Int) < n by omega)
  have h2 : -(n : Int) < Int.tmod p n := by
    have h3 := Int.lt_tmod_of_pos p (show (0 : Int) < n by omega)
    exact h3
  by_cases h : Int.tmod p ((n : Nat) : Int) < 0
  · rw [decide_eq_true h, cond_true, bnd_some, wrap_in (by omega) (by omega)]
    exact ⟨(Int.tmod p n + n).toNat, by rw [Int.toNat_of_nonneg (by omega)], by omega⟩
  · rw [decide_eq_false h, cond_false, bnd_some]
    exact ⟨(Int.tmod p n).toNat, by rw [Int.toNat_of_nonneg (by omega)], by omega⟩
theorem bk_filter {α : Type} [Bk α] (p : α → Bool) (l : List α) : bk (l.filter p) ≤ bk l := by
  induction l with
  | nil => exact Nat.le_refl _
  | cons a l ih =>
    rw [List.filter_cons]
    split
    · rw [bk_cons, bk_cons]; omega
    · rw [bk_cons]; have := bk_pos a; omega
theorem bk_woN (W : List Str) (n : Net) : bk (woN W n) ≤ bk n := by
  rw [bk_Net, bk_Net]
  have := bk_filter (fun p : Pin => !decide (p.Part ∈ W)) n.Pins
  have h2 : bk ([] : List Str) = 1 := rfl
  have h3 := bk_pos n.Ports
  show bk n.Name + bk (n.Pins.filter _) + bk ([] : List Str) + 1 ≤ _
  omega
theorem bk_mapN (W : List Str) : ∀ l : List Net, bk (l.map (woN W)) ≤ bk l
  | [] => Nat.le_refl _
  | n :: l => by
    rw [List.map_cons, bk_cons, bk_cons]
    have := bk_mapN W l
    have := bk_woN W n
    omega
theorem bk_woS (W : List Str) (x : Netlist) : bk (woS W x) ≤ bk x := by
  rw [bk_Netlist, bk_Netlist]
  have h1 := bk_filter (fun p : Part => !decide (p.Name ∈ W)) x.Parts
  have h2 := bk_filter (fun n : Net => !decide (n.Pins.length = 0)) (x.Nets.map (woN W))
  have h3 := bk_mapN W x.Nets
  show bk (x.Parts.filter _) + bk (List.filter _ _) + 1 ≤ _
  omega
end
end Go.Gk
