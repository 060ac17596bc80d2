/-
  Plain laws: lists of nets: what program and reference check is one and the same. No statement of the seed is proved here.
-/
import Derived.Test.YtghiafpkpfipgaaGreatDoorP3
set_option linter.unusedVariables false
set_option linter.unusedSimpArgs false
set_option linter.unusedSectionVars false
namespace Go.Gk
open Go
section
variable {N : Nat}
/-! ### Finding by name -/
theorem TypeAt_eq {t : List PartType} {s : Str} (hs : Sorted PartType.Name t) (ht : bk t ≤ 1048576) (hN : 4194304 ≤ N) : netlist_TypeAt N t s = some (nat? PartType.Name t s) := by
  have := bk_len t
  obtain ⟨r, h1, h2⟩ := gBSF_eq (N := N) (key := PartType.Name) (l := t) (s := s) (φ := netlist_TypeAt_c1 N) (fun x => rfl) hs (by omega) hN
  have e : slices_BinarySearchFunc_PartType_string N t s (netlist_TypeAt_c1 N) = gBSF N t s (netlist_TypeAt_c1 N) := rfl
  unfold netlist_TypeAt
  rw [e, h1, bnd_some]; exact h2
theorem partAt_eq {l : List Part} {s : Str} (hs : Sorted Part.Name l) (hl : l.length ≤ 1048576) (hN : 4194304 ≤ N) : netlist_partAt N l s = some (nat? Part.Name l s) := by
  obtain ⟨r, h1, h2⟩ := gBSF_eq (N := N) (key := Part.Name) (l := l) (s := s) (φ := netlist_partAt_c1 N) (fun x => rfl) hs (by omega) hN
  have e : slices_BinarySearchFunc_Part_string N l s (netlist_partAt_c1 N) = gBSF N l s (netlist_partAt_c1 N) := rfl
  unfold netlist_partAt
  rw [e, h1, bnd_some]; exact h2
theorem PinAt_eq {y : PartType} {s : Str} (hs : Sorted PinType.Name y.Pins) (hl : y.Pins.length ≤ 1048576) (hN : 4194304 ≤ N) : netlist_PinAt N y s = some (nat? PinType.Name y.Pins s) := by
  obtain ⟨r, h1, h2⟩ := gBSF_eq (N := N) (key := PinType.Name) (l := y.Pins) (s := s) (φ := netlist_PinAt_c1 N) (fun x => rfl) hs (by omega) hN
  have e : slices_BinarySearchFunc_PinType_string N y.Pins s (netlist_PinAt_c1 N) = gBSF N y.Pins s (netlist_PinAt_c1 N) := rfl
  unfold netlist_PinAt
  rw [e, h1, bnd_some]; exact h2
theorem typeOf_eq {t : List PartType} {s : Str} (hl : t.length ≤ 1048576) : etchhouseref2_typeOf N t s = some (nat? PartType.Name t s) := by
  rw [← gScan_eq (by omega)]; rfl
theorem partOf_eq {l : List Part} {s : Str} (hl : l.length ≤ 1048576) : etchhouseref2_partOf N l s = some (nat? Part.Name l s) := by
  rw [← gScan_eq (by omega)]; rfl
theorem pinOf_eq {y : PartType} {s : Str} (hl : y.Pins.length ≤ 1048576) : etchhouseref2_pinOf N y s = some (nat? PinType.Name y.Pins s) := by
  rw [← gScan_eq (by omega)]; rfl
theorem nat?_cases {α : Type} (key : α → Str) (l : List α) (s : Str) : (nat? key l s = -1 ∧ ∀ x ∈ l, key x ≠ s) ∨ ∃ k x, nat? key l s = ((k : Nat) : Int) ∧ l[k]? = some x ∧ key x = s := by
  rcases at?_cases l (fun x => (key x).eqb s) with ⟨h1, h2⟩ | ⟨k, x, h1, h2, h3, _⟩
  · exact .inl ⟨h1, fun x hx => eqb_false.1 (h2 x hx)⟩
  · exact .inr ⟨k, x, h1, h2, eqb_iff.1 h3⟩
theorem nat?_ge {α : Type} (key : α → Str) (l : List α) (s : Str) : decide (nat? key l s ≥ 0) = l.any (fun x => (key x).eqb s) := at?_ge _ _

/-! ### Parts -/
def partErr (t : List PartType) (l : List Part) (k : Nat) : Option Int :=
  match l[k]? with
  | none => none
  | some p => if isPath p.Name = false then some 5 else if nat? PartType.Name t p.Type_ < 0 then some 9 else if ordBad Part.Name l k = true then some 8 else none
def checkParts (t : List PartType) (l : List Part) : Int := if 1000 < l.length then 2 else (fst? l.length (partErr t l)).getD 0
theorem part_round {R : Type} (a : Bool) (z : Int) (b : Bool) (f : Int → R) :
    ((bif (!a) then (some (.rt (f 5))) else (bif (decide (z < 0)) then (some (.rt (f 9))) else ((some b).bind fun (s : Bool) => bif s then (some (.rt (f 8))) else (some (.nx ()))))) : Option (Fl Unit R)) =
    some (rtnx ((if a = false then some (5 : Int) else if z < 0 then some 9 else if b = true then some 8 else none).map f) ()) := by
  cases a
  · rfl
  · by_cases hz : z < 0
    · rw [decide_eq_true hz]; simp [rtnx, hz]
    · rw [decide_eq_false hz]; cases b <;> simp [rtnx, hz]
theorem map_id_int (o : Option Int) : o.map (fun x => x) = o := by cases o <;> rfl
theorem checkParts_eq {t : List PartType} {l : List Part} (hs : Sorted PartType.Name t) (ht : bk t ≤ 1048576) (hl : bk l ≤ 1048576) (hN : 4194304 ≤ N) :
    netlist_checkParts N t l (netlist_IsPath N) = some (checkParts t l) := by
  have hlen := bk_len l
  unfold netlist_checkParts checkParts
  by_cases h1 : 1000 < l.length
  · rw [if_pos h1, decide_eq_true (by omega), cond_true]
  · rw [if_neg h1, decide_eq_false (by omega), cond_false]
    rw [rng_unit (partErr t l) (by omega) (fun k hk _ => by
      have hx : l[k]? = some l[k] := List.getElem?_eq_getElem hk
      have hb := bk_get hx
      rw [bk_Part] at hb
      have hb2 := bk_str l[k].Name
      rw [idx_at hx, bnd_some, netlist_IsPath_eq (by omega) hN, bnd_some, TypeAt_eq hs ht hN, bnd_some, ord_eq Part.Name hx (by omega)]
      refine (part_round _ _ _ (fun x : Int => x)).trans ?_
      rw [map_id_int]; unfold partErr; rw [hx]), bnd_some, rtgo_int]

/-! ### Pins -/
/-- The part of this name has this pin. -/
def hasPin (t : List PartType) (l : List Part) (p : Pin) : Bool :=
  match l.find? (fun x => x.Name.eqb p.Part) with
  | none => false
  | some x => match t.find? (fun y => y.Name.eqb x.Type_) with
    | none => false
    | some y => y.Pins.any (fun q => q.Name.eqb p.Pin)
theorem find_at {α : Type} {l : List α} {p : α → Bool} {k : Nat} {x : α} (hk : at? l p = ((k : Nat) : Int)) (hx : l[k]? = some x) : l.find? p = some x := by
  rcases at?_cases l p with ⟨h1, _⟩ | ⟨k', x', h1, h2, h3, h4⟩
  · omega
  · have : k' = k := by omega
    subst this
    rw [hx] at h2; injection h2 with h2; subst h2
    rw [List.find?_eq_some_iff_getElem]
    obtain ⟨hlt, hxx⟩ := List.getElem?_eq_some_iff.1 hx
    exact ⟨h3, k', hlt, hxx, fun j hj => by rw [h4 j l[j] hj (List.getElem?_eq_getElem (by omega))]; rfl⟩
theorem find_none {α : Type} {l : List α} {p : α → Bool} (hk : at? l p = -1) : l.find? p = none := by
  rcases at?_cases l p with ⟨_, h⟩ | ⟨k', x', h1, _⟩
  · rw [List.find?_eq_none]; intro x hx; rw [h x hx]; decide
  · omega
/-- All types of parts are there. -/
def Typed (t : List PartType) (l : List Part) : Prop := ∀ x ∈ l, 0 ≤ nat? PartType.Name t x.Type_
theorem hasPin_core {t : List PartType} {l : List Part} {p : Pin} (htl : Typed t l) {fp : Option Int} {ft : Str → Option Int} {fq : PartType → Option Int}
    (h1 : fp = some (nat? Part.Name l p.Part)) (h2 : ∀ s, ft s = some (nat? PartType.Name t s)) (h3 : ∀ y ∈ t, fq y = some (nat? PinType.Name y.Pins p.Pin)) :
    (fp.bind fun (x2 : Int) => (bif (decide (x2 ≥ 0)) then ((idx l x2).bind fun (x18 : Part) => (ft x18.Type_).bind fun (x21 : Int) => (idx t x21).bind fun (x22 : PartType) => (fq x22).bind fun (x25 : Int) => some (decide (x25 ≥ 0))) else (some false)).bind fun (s16 : Bool) => some s16) = some (hasPin t l p) := by
  rw [h1, bnd_some]
  unfold hasPin
  rcases nat?_cases Part.Name l p.Part with ⟨h4, _⟩ | ⟨k, x, h4, h5, h6⟩
  · rw [find_none h4, h4]; rfl
  · rw [find_at h4 h5, h4, decide_eq_true (by omega), cond_true, idx_at h5, bnd_some, h2, bnd_some]
    dsimp only
    have h7 := htl x (List.mem_of_getElem? h5)
    rcases nat?_cases PartType.Name t x.Type_ with ⟨h8, _⟩ | ⟨j, y, h8, h9, _⟩
    · omega
    · rw [find_at h8 h9, h8, idx_at h9, bnd_some, h3 y (List.mem_of_getElem? h9), bnd_some, bnd_some, nat?_ge]
theorem netlist_hasPin_eq {t : List PartType} {l : List Part} {p : Pin} (ht : TypesOk t) (hl : Sorted Part.Name l) (htl : Typed t l) (hbt : bk t ≤ 1048576) (hbl : bk l ≤ 1048576) (hN : 4194304 ≤ N) :
    netlist_hasPin N t l p = some (hasPin t l p) := by
  have := bk_len l
  exact hasPin_core htl (partAt_eq hl (by omega) hN) (fun s => TypeAt_eq ht.sorted hbt hN) (fun y hy => PinAt_eq (ht.pins y hy) (by
    have h1 := bk_mem hy; rw [bk_PartType] at h1; have h2 := bk_len y.Pins; omega) hN)
theorem ref_HasPin_eq {t : List PartType} {x : Netlist} {p : Pin} (htl : Typed t x.Parts) (hbt : bk t ≤ 1048576) (hbl : bk x ≤ 1048576) : etchhouseref2_HasPin N t x p = some (hasPin t x.Parts p) := by
  rw [bk_Netlist] at hbl
  have h1 := bk_len x.Parts
  have h2 := bk_len t
  exact hasPin_core htl (partOf_eq (by omega)) (fun s => typeOf_eq (by omega)) (fun y hy => pinOf_eq (by
    have h1 := bk_mem hy; rw [bk_PartType] at h1; have h2 := bk_len y.Pins; omega))
def pinLt (a b : Pin) : Bool := a.Part.ltb b.Part || (a.Part.eqb b.Part && a.Pin.ltb b.Pin)
def pinOrd (l : List Pin) (k : Nat) : Bool := match l[k]?, l[k - 1]? with | some p, some q => decide (0 < k) && !pinLt q p | _, _ => false
theorem cmp_gt (a b : Str) : 0 < Lib.compareBytes a.toL b.toL ↔ Str.lt b a := by
  have h1 := compare_lt a.toL b.toL
  have h2 := compare_eq a.toL b.toL
  rcases Str.lt_total a b with h | h | h
  · have h3 := h1.2 h
    exact ⟨fun h' => by omega, fun h' => absurd h' (Str.lt_asymm h)⟩
  · subst h
    have h3 := h2.2 rfl
    exact ⟨fun h' => by omega, fun h' => absurd h' (Str.lt_irrefl _)⟩
  · refine ⟨fun _ => h, fun _ => ?_⟩
    have h3 : ¬ Lib.compareBytes a.toL b.toL < 0 := fun h' => Str.lt_asymm h (h1.1 h')
    have h4 : ¬ Lib.compareBytes a.toL b.toL = 0 := fun h' => Str.lt_ne h (Str.ext' (h2.1 h')).symm
    omega
/-- Pins compared: by part, then by pin. -/
def pinCmp (a b : Pin) : Int := if Lib.compareBytes a.Part.toL b.Part.toL = 0 then Lib.compareBytes a.Pin.toL b.Pin.toL else Lib.compareBytes a.Part.toL b.Part.toL
theorem ComparePins_eq (a b : Pin) : netlist_ComparePins N a b = some (pinCmp a b) := by
  show (bif (Lib.compareBytes a.Part.toL b.Part.toL != 0) then some (Lib.compareBytes a.Part.toL b.Part.toL) else some (Lib.compareBytes a.Pin.toL b.Pin.toL)) = _
  unfold pinCmp
  by_cases h : Lib.compareBytes a.Part.toL b.Part.toL = 0
  · rw [h]; rfl
  · have : (Lib.compareBytes a.Part.toL b.Part.toL != 0) = true := by rw [bne_iff_ne]; exact h
    rw [this, if_neg h]; rfl
theorem pinCmp_le (a b : Pin) : decide (pinCmp a b ≤ 0) = !pinLt b a := by
  unfold pinCmp pinLt
  by_cases h : Lib.compareBytes a.Part.toL b.Part.toL = 0
  · have e : a.Part = b.Part := Str.ext' ((compare_eq _ _).1 h)
    have e2 : b.Part.ltb a.Part = false := by rw [e, ← Bool.not_eq_true]; exact Str.lt_irrefl _
    rw [if_pos h, e2, eqb_iff.2 e.symm, Bool.false_or, Bool.true_and]
    have := cmp_gt a.Pin b.Pin
    rw [Bool.eq_iff_iff, decide_eq_true_eq, Bool.not_eq_true', ← Bool.not_eq_true]
    constructor
    · intro h1 h2; have := this.2 h2; omega
    · intro h1
      by_cases h3 : 0 < Lib.compareBytes a.Pin.toL b.Pin.toL
      · exact absurd (this.1 h3) h1
      · omega
  · have e : b.Part ≠ a.Part := fun e => h ((compare_eq _ _).2 (by rw [e]))
    rw [if_neg h, eqb_false.2 e, Bool.false_and, Bool.or_false]
    have := cmp_gt a.Part b.Part
    rw [Bool.eq_iff_iff, decide_eq_true_eq, Bool.not_eq_true', ← Bool.not_eq_true]
    constructor
    · intro h1 h2; have := this.2 h2; omega
    · intro h1
      by_cases h3 : 0 < Lib.compareBytes a.Part.toL b.Part.toL
      · exact absurd (this.1 h3) h1
      · omega
theorem pinOrd_eq {l : List Pin} {k : Nat} {x : Pin} {f : Pin → Option Bool} (hf : ∀ y, f y = some (!pinLt y x)) (hx : l[k]? = some x) (hl : l.length ≤ 1048576) :
    (bif (decide (((k : Nat) : Int) > 0)) then ((idx l (IntKind.wrap .i64 (((k : Nat) : Int) - 1))).bind f) else (some false)) = some (pinOrd l k) := by
  have hk := (List.getElem?_eq_some_iff.1 hx).1
  unfold pinOrd
  by_cases h0 : 0 < k
  · rw [decide_eq_true (by omega), cond_true, wrap_pred h0 (by omega), idx_nat l _ (by omega), bnd_some, hx, List.getElem?_eq_getElem (by omega : k - 1 < l.length), hf]
    simp [h0]
  · have : k = 0 := by omega
    subst this
    rw [hx]; simp

/-! ### Nets -/
def inNets (l : List Net) (p : Pin) : Bool := l.any (fun n => decide (p ∈ n.Pins))
def npErr (t : List PartType) (x : Netlist) (i : Nat) (l : List Pin) (k : Nat) : Option Int :=
  match l[k]? with
  | none => none
  | some p => if hasPin t x.Parts p = false then some 9 else if pinOrd l k = true then some 8 else if inNets (x.Nets.take i) p = true then some 7 else none
def netErr (t : List PartType) (x : Netlist) (i : Nat) : Option Int :=
  match x.Nets[i]? with
  | none => none
  | some n => if isPath n.Name = false then some 5 else if n.Pins.length = 0 then some 9 else if 500 < n.Pins.length then some 2 else
      (fst? n.Pins.length (npErr t x i n.Pins)).or (if 0 < n.Ports.length then some 3 else if ordBad Net.Name x.Nets i = true then some 8 else none)
def checkNets (t : List PartType) (x : Netlist) : Int := if 1000 < x.Nets.length then 2 else (fst? x.Nets.length (netErr t x)).getD 0
def checkList (t : List PartType) (x : Netlist) : Int :=
  if checkTypes t ≠ 0 then checkTypes t else if checkParts t x.Parts ≠ 0 then checkParts t x.Parts else checkNets t x
theorem partErr_ne {t : List PartType} {l : List Part} {k : Nat} {r : Int} (h : partErr t l k = some r) : r ≠ 0 := by
  unfold partErr at h
  repeat' split at h
  all_goals first | (injection h with h; omega) | cases h
structure PartsOk (t : List PartType) (l : List Part) : Prop where
  sorted : Sorted Part.Name l
  typed : Typed t l
theorem checkParts_ok {t : List PartType} {l : List Part} (h : checkParts t l = 0) : PartsOk t l := by
  unfold checkParts at h
  split at h
  · cases h
  have hn := getD_zero (fun k r hk => partErr_ne hk) h
  have key : ∀ k (hk : k < l.length), 0 ≤ nat? PartType.Name t l[k].Type_ ∧ ordBad Part.Name l k = false := by
    intro k hk
    have := hn k hk
    unfold partErr at this
    rw [List.getElem?_eq_getElem hk] at this
    dsimp only at this
    repeat' split at this
    all_goals first | (simp at this; done) | simp_all
  refine ⟨sorted_of_ord fun k hk => (key k hk).2, fun x hx => ?_⟩
  obtain ⟨k, hk⟩ := List.getElem?_of_mem hx
  obtain ⟨hlt, rfl⟩ := List.getElem?_eq_some_iff.1 hk
  exact (key k hlt).1

theorem npErr_ne {t : List PartType} {x : Netlist} {i : Nat} {l : List Pin} {k : Nat} {r : Int} (h : npErr t x i l k = some r) : r ≠ 0 := by
  unfold npErr at h
  repeat' split at h
  all_goals first | (injection h with h; omega) | cases h
theorem checkNetPins_eq {l : List Pin} {has : Pin → Option Bool} {m : List (Pin × Bool)} (hB : Pin → Bool) (hh : ∀ p ∈ l, has p = some (hB p)) (hl : l.length ≤ 1048576) :
    netlist_checkNetPins N l has m = some (if 500 < l.length then ((2 : Int), m) else
      (fst? l.length (fun k => match l[k]? with
        | none => none
        | some p => if hB p = false then some (9 : Int) else if pinOrd l k = true then some 8 else if mget m p false = true then some 7 else none)).elim ((0 : Int), mputs m l true) (fun r => (r, m))) := by
  unfold netlist_checkNetPins
  by_cases h1 : 500 < l.length
  · rw [if_pos h1, decide_eq_true (by omega), cond_true]
  · rw [if_neg h1, decide_eq_false (by omega), cond_false]
    rw [rng_unit (fun k => Option.map (fun (r : Int) => (r, m)) (match l[k]? with
        | none => none
        | some p => if hB p = false then some (9 : Int) else if pinOrd l k = true then some 8 else if mget m p false = true then some 7 else none)) (by omega) (fun k hk _ => by
      have hx : l[k]? = some l[k] := List.getElem?_eq_getElem hk
      rw [idx_at hx, bnd_some, hh _ (List.getElem_mem hk), bnd_some, pinOrd_eq (fun y => by rw [ComparePins_eq, bnd_some, pinCmp_le]) hx hl, hx]
      dsimp only
      cases hB l[k]
      · rfl
      · cases pinOrd l k
        · cases mget m l[k] false <;> rfl
        · rfl), bnd_some, rtgo_cs, fld_mputs true (by omega), bnd_some]
    rw [← fst?_map]
    generalize fst? l.length _ = o
    cases o <;> rfl
def seenMap (x : Netlist) (i : Nat) : List (Pin × Bool) := (x.Nets.take i).foldl (fun m n => mputs m n.Pins true) []
theorem mget_seen (l : List Net) (p : Pin) : ∀ (m : List (Pin × Bool)), mget (l.foldl (fun m n => mputs m n.Pins true) m) p false = (inNets l p || mget m p false) := by
  induction l with
  | nil => intro m; rfl
  | cons n l ih =>
    intro m
    rw [List.foldl_cons, ih, mget_mputs]
    unfold inNets
    rw [List.any_cons]
    by_cases h : p ∈ n.Pins <;> simp [h]
theorem mget_seenMap (x : Netlist) (i : Nat) (p : Pin) : mget (seenMap x i) p false = inNets (x.Nets.take i) p := by
  unfold seenMap
  rw [mget_seen]; simp [mget]
theorem seenMap_succ {x : Netlist} {i : Nat} {n : Net} (h : x.Nets[i]? = some n) : seenMap x (i + 1) = mputs (seenMap x i) n.Pins true := by
  unfold seenMap
  obtain ⟨hlt, rfl⟩ := List.getElem?_eq_some_iff.1 h
  rw [List.take_succ_eq_append_getElem hlt, List.foldl_append]; rfl
theorem netlist_CheckList_eq {t : List PartType} {x : Netlist} (hbt : bk t ≤ 1048576) (hbx : bk x ≤ 1048576) (hN : 4194304 ≤ N) : netlist_CheckList N t x = some (checkList t x) := by
  have hb := bk_Netlist x
  have hln := bk_len x.Nets
  unfold netlist_CheckList checkList
  rw [netlist_CheckTypes_eq hbt, bnd_some]
  by_cases h1 : checkTypes t ≠ 0
  · have e : (checkTypes t != 0) = true := by rw [bne_iff_ne]; exact h1
    rw [e, cond_true, if_pos h1]
  replace h1 := Decidable.not_not.1 h1
  have ht := checkTypes_ok h1
  have e : (checkTypes t != 0) = false := by rw [h1]; rfl
  rw [e, cond_false, if_neg (fun h => h h1), checkParts_eq ht.sorted hbt (by omega) hN, bnd_some]
  by_cases h2 : checkParts t x.Parts ≠ 0
  · have e : (checkParts t x.Parts != 0) = true := by rw [bne_iff_ne]; exact h2
    rw [e, cond_true, if_pos h2]
  replace h2 := Decidable.not_not.1 h2
  have hp := checkParts_ok h2
  have e : (checkParts t x.Parts != 0) = false := by rw [h2]; rfl
  rw [e, cond_false, if_neg (fun h => h h2)]
  unfold checkNets
  by_cases h3 : 1000 < x.Nets.length
  · rw [if_pos h3, decide_eq_true (by omega), cond_true]
  · rw [if_neg h3, decide_eq_false (by omega), cond_false]
    rw [rng_fun (s := ([] : List (Pin × Bool))) (seenMap x) (netErr t x) (by omega) rfl (fun i hi _ => by
      have hx : x.Nets[i]? = some x.Nets[i] := List.getElem?_eq_getElem hi
      have hb2 := bk_get hx
      rw [bk_Net, bk_str] at hb2
      have hlp := bk_len x.Nets[i].Pins
      rw [seenMap_succ hx]
      rw [idx_at hx, bnd_some, netlist_IsPath_eq (by omega) hN, bnd_some, checkNetPins_eq (hasPin t x.Parts) (fun p _ => by
        unfold netlist_CheckList_c1
        rw [netlist_hasPin_eq ht hp.sorted hp.typed hbt (by omega) hN, bnd_some]) (by omega), bnd_some, ord_eq Net.Name hx (by omega)]
      unfold netErr
      rw [hx]
      dsimp only
      cases isPath x.Nets[i].Name
      · rfl
      simp only [Bool.not_true, cond_false, Bool.true_eq_false, if_false]
      by_cases h4 : x.Nets[i].Pins.length = 0
      · rw [if_pos h4, h4]; rfl
      have e4 : (((x.Nets[i].Pins.length : Nat) : Int) == 0) = false := by rw [beq_eq_false_iff_ne]; omega
      rw [if_neg h4, e4, cond_false]
      by_cases h5 : 500 < x.Nets[i].Pins.length
      · rw [if_pos h5, if_pos h5]; rfl
      rw [if_neg h5, if_neg h5]
      have e5 : (fst? x.Nets[i].Pins.length (fun k => match x.Nets[i].Pins[k]? with
        | none => none
        | some p => if hasPin t x.Parts p = false then some (9 : Int) else if pinOrd x.Nets[i].Pins k = true then some 8 else if mget (seenMap x i) p false = true then some 7 else none)) = fst? x.Nets[i].Pins.length (npErr t x i x.Nets[i].Pins) := by
        congr 1
        funext k
        unfold npErr
        split
        · rfl
        · rw [mget_seenMap]
      rw [e5]
      cases h6 : fst? x.Nets[i].Pins.length (npErr t x i x.Nets[i].Pins) with
      | some r =>
        obtain ⟨j, _, hj, _⟩ := fst?_some.1 h6
        have e6 : (r != 0) = true := by rw [bne_iff_ne]; exact npErr_ne hj
        simp only [Option.elim_some, e6, cond_true]; rfl
      | none =>
        simp only [Option.elim_none, bne_self_eq_false, cond_false, Option.none_or]
        by_cases h7 : 0 < x.Nets[i].Ports.length
        · rw [if_pos h7, decide_eq_true (by omega)]; rfl
        · rw [if_neg h7, decide_eq_false (by omega)]
          cases ordBad Net.Name x.Nets i <;> rfl), bnd_some]
    cases fst? x.Nets.length (netErr t x) <;> rfl
theorem inNets_eq {l : List Net} {p : Pin} (hb : bk l ≤ 1048576) : etchhouseref2_inNets N l p = some (inNets l p) := by
  have := bk_len l
  unfold etchhouseref2_inNets
  rw [rng_any (fun n => decide (p ∈ n.Pins)) true (by omega) (fun k n hn => by
    have hb2 := bk_get hn
    rw [bk_Net] at hb2
    have := bk_len n.Pins
    have e : slices_Contains_Pin N n.Pins p = gContains n.Pins p := rfl
    rw [idx_at hn, bnd_some, e, gContains_eq (by omega), bnd_some]
    cases decide (p ∈ n.Pins) <;> rfl), bnd_some]
  unfold inNets
  cases l.any _ <;> rfl
theorem ref_checkList_eq {t : List PartType} {x : Netlist} (hbt : bk t ≤ 1048576) (hbx : bk x ≤ 1048576) (hN : 4194304 ≤ N) :
    etchhouseref2_checkList N t x = some (if checkParts t x.Parts ≠ 0 then checkParts t x.Parts else checkNets t x) := by
  have hb := bk_Netlist x
  have hln := bk_len x.Nets
  have hlp := bk_len x.Parts
  have hlt := bk_len t
  unfold etchhouseref2_checkList
  by_cases h1 : 1000 < x.Parts.length
  · have : checkParts t x.Parts = 2 := by unfold checkParts; rw [if_pos h1]
    rw [decide_eq_true (by omega), cond_true, this]; rfl
  rw [decide_eq_false (by omega), cond_false]
  rw [rng_unit (partErr t x.Parts) (by omega) (fun k hk _ => by
    have hx : x.Parts[k]? = some x.Parts[k] := List.getElem?_eq_getElem hk
    have hb := bk_get hx
    rw [bk_Part] at hb
    have hb2 := bk_str x.Parts[k].Name
    rw [idx_at hx, bnd_some, ref_IsPath_eq (by omega) hN, bnd_some, typeOf_eq (by omega), bnd_some, ord_eq Part.Name hx (by omega)]
    refine (part_round _ _ _ (fun x : Int => x)).trans ?_
    rw [map_id_int]; unfold partErr; rw [hx]), bnd_some, rtgo_cs]
  have hcp : checkParts t x.Parts = (fst? x.Parts.length (partErr t x.Parts)).getD 0 := by unfold checkParts; rw [if_neg h1]
  cases h2 : fst? x.Parts.length (partErr t x.Parts) with
  | some r =>
    obtain ⟨j, _, hj, _⟩ := fst?_some.1 h2
    rw [h2] at hcp
    simp only [Option.getD_some] at hcp
    rw [hcp, if_pos (partErr_ne hj)]; rfl
  | none =>
    rw [h2] at hcp
    simp only [Option.getD_none] at hcp
    have hp := checkParts_ok hcp
    rw [hcp, if_neg (fun h => h rfl)]
    simp only [Option.elim_none]
    unfold checkNets
    by_cases h3 : 1000 < x.Nets.length
    · rw [if_pos h3, decide_eq_true (by omega), cond_true]
    · rw [if_neg h3, decide_eq_false (by omega), cond_false]
      rw [rng_unit (netErr t x) (by omega) (fun i hi _ => by
        have hx : x.Nets[i]? = some x.Nets[i] := List.getElem?_eq_getElem hi
        have hb2 := bk_get hx
        rw [bk_Net, bk_str] at hb2
        have hlp := bk_len x.Nets[i].Pins
        rw [idx_at hx, bnd_some, ref_IsPath_eq (by omega) hN, bnd_some, ord_eq Net.Name hx (by omega)]
        unfold netErr
        rw [hx]
        dsimp only
        cases isPath x.Nets[i].Name
        · rfl
        simp only [Bool.not_true, cond_false, Bool.true_eq_false, if_false]
        by_cases h4 : x.Nets[i].Pins.length = 0
        · rw [if_pos h4, h4]; rfl
        have e4 : (((x.Nets[i].Pins.length : Nat) : Int) == 0) = false := by rw [beq_eq_false_iff_ne]; omega
        rw [if_neg h4, e4, cond_false]
        by_cases h5 : 500 < x.Nets[i].Pins.length
        · rw [if_pos h5, decide_eq_true (by omega)]; rfl
        rw [if_neg h5, decide_eq_false (by omega), cond_false]
        rw [rng_unit (npErr t x i x.Nets[i].Pins) (by omega) (fun k hk _ => by
          have hy : x.Nets[i].Pins[k]? = some x.Nets[i].Pins[k] := List.getElem?_eq_getElem hk
          rw [idx_at hy, bnd_some, ref_HasPin_eq hp.typed hbt hbx, bnd_some, pinOrd_eq (f := fun x522 => (etchhouseref2_before N x522 x.Nets[i].Pins[k]).bind fun x526 => some (!x526)) (fun y => rfl) hy (by omega), bnd_some, slc_take _ i (by omega), bnd_some, inNets_eq (by have := bk_take x.Nets i; omega), bnd_some]
          unfold npErr
          rw [hy]
          dsimp only
          cases hasPin t x.Parts x.Nets[i].Pins[k]
          · rfl
          · cases pinOrd x.Nets[i].Pins k
            · cases inNets (x.Nets.take i) x.Nets[i].Pins[k] <;> rfl
            · rfl), bnd_some, rtgo_cs]
        cases fst? x.Nets[i].Pins.length (npErr t x i x.Nets[i].Pins) with
        | some r => rfl
        | none =>
          simp only [Option.elim_none, Option.none_or]
          by_cases h7 : 0 < x.Nets[i].Ports.length
          · rw [if_pos h7, decide_eq_true (by omega)]; rfl
          · rw [if_neg h7, decide_eq_false (by omega)]
            cases ordBad Net.Name x.Nets i <;> rfl), bnd_some, rtgo_int]
theorem ref_CheckList_eq {t : List PartType} {x : Netlist} (hbt : bk t ≤ 1048576) (hbx : bk x ≤ 1048576) (hN : 4194304 ≤ N) : etchhouseref2_CheckList N t x = some (checkList t x) := by
  unfold etchhouseref2_CheckList checkList
  rw [ref_CheckTypes_eq hbt, bnd_some, ref_checkList_eq hbt hbx hN, bnd_some]
  by_cases h1 : checkTypes t = 0
  · rw [h1]; rfl
  · have e : (checkTypes t != 0) = true := by rw [bne_iff_ne]; exact h1
    rw [e, if_pos h1]; rfl
end
end Go.Gk
