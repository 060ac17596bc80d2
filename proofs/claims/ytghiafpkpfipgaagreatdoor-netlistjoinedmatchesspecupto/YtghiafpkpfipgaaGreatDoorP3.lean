/-
  Plain laws: types of parts, lists: what program and reference check is one and the same. No statement of the seed is proved here.
-/
import Derived.Test.YtghiafpkpfipgaaGreatDoorP2
set_option linter.unusedVariables false
set_option linter.unusedSimpArgs false
set_option linter.unusedSectionVars false
namespace Go.Gk
open Go

/-! ### Maps -/
section
variable {κ ν : Type} [DecidableEq κ]
theorem mget_mput (m : List (κ × ν)) (k k' : κ) (x z : ν) : mget (mput m k x) k' z = if k' = k then x else mget m k' z := by
  induction m with
  | nil => unfold mput mget; by_cases h : k' = k <;> simp [h]
  | cons p m ih =>
    unfold mput
    by_cases h : k = p.1
    · rw [if_pos h]
      by_cases h' : k' = k
      · subst h'; simp [mget]
      · simp only [mget, List.find?_cons, if_neg h', decide_eq_false h']
        rw [decide_eq_false (fun e => h' (e.trans h.symm))]
    · rw [if_neg h]
      by_cases h' : k' = p.1
      · have : k' ≠ k := fun e => h (e.symm.trans h')
        simp only [mget, List.find?_cons, decide_eq_true h', if_neg this]
      · unfold mget at ih ⊢
        simp only [List.find?_cons, decide_eq_false h']
        exact ih
/-- Some keys put with one value. -/
def mputs (m : List (κ × ν)) (l : List κ) (x : ν) : List (κ × ν) := l.foldl (fun m k => mput m k x) m
theorem mget_mputs (l : List κ) (x z : ν) (k : κ) : ∀ (m : List (κ × ν)), mget (mputs m l x) k z = if k ∈ l then x else mget m k z := by
  induction l with
  | nil => intro m; simp [mputs]
  | cons a l ih =>
    intro m
    show mget (mputs (mput m a x) l x) k z = _
    rw [ih, mget_mput]
    by_cases h1 : k ∈ l <;> by_cases h2 : k = a <;> simp [h1, h2]
theorem fld_mputs {l : List κ} {m : List (κ × ν)} (x : ν) (hl : l.length ≤ 4611686018427387904) :
    fld l.length (fun (k : Nat) (s : List (κ × ν)) => ((idx l ((k : Nat) : Int)).bind fun (y : κ) => some (mput s y x) : Option (List (κ × ν)))) m = some (mputs m l x) := by
  rw [fld_fun (s := m) (fun k => mputs m (l.take k) x) hl rfl (fun k hk => by
    rw [idx_nat l k hk, bnd_some]
    congr 1
    unfold mputs
    rw [List.take_succ_eq_append_getElem hk, List.foldl_append]; rfl), List.take_length]
end

section
variable {N : Nat}
/-! ### Types of parts -/
def pinErr (l : List PinType) (k : Nat) : Option Int :=
  match l[k]? with
  | none => none
  | some p => if isWord p.Name = false then some 5 else if (decide (p.Kind < 1) || decide (p.Kind > 7)) = true then some 4 else if (decide (p.Group < 0) || decide (p.Group > 200)) = true then some 1 else if ordBad PinType.Name l k = true then some 8 else none
def grpBad (p q : PinType) : Bool := decide (p.Group > 0) && (q.Group == p.Group) && (q.Kind != p.Kind)
def grpErr (l : List PinType) (k : Nat) : Option Int :=
  match l[k]? with
  | none => none
  | some p => if (l.take k).any (grpBad p) = true then some 12 else none
def checkPins (l : List PinType) : Int := if l.length = 0 then 9 else if 200 < l.length then 2 else ((fst? l.length (pinErr l)).or (fst? l.length (grpErr l))).getD 0
def typeErr (t : List PartType) (k : Nat) : Option Int :=
  match t[k]? with
  | none => none
  | some x => if isWord x.Name = false then some 5 else if checkPins x.Pins ≠ 0 then some (checkPins x.Pins) else if ordBad PartType.Name t k = true then some 8 else none
def checkTypes (t : List PartType) : Int := if 200 < t.length then 2 else (fst? t.length (typeErr t)).getD 0

theorem rtgo_cs {R β : Type} (o : Option R) (f : Unit → Option β) (g : R → Option β) : (rtgo o ()).cs f g = o.elim (f ()) g := by cases o <;> rfl
theorem rtgo_int (o : Option Int) : (rtgo o ()).cs (fun _ => some (0 : Int)) (fun r => some r) = some (o.getD 0) := by cases o <;> rfl
theorem getD_or (a b : Option Int) : (a.elim (some (b.getD 0)) fun r => some r) = some ((a.or b).getD 0) := by cases a <;> rfl

theorem netlist_checkPins_eq {l : List PinType} (h : bk l ≤ 1048576) : netlist_checkPins N l = some (checkPins l) := by
  have hlen := bk_len l
  unfold netlist_checkPins checkPins
  by_cases h0 : l.length = 0
  · rw [if_pos h0, h0]; rfl
  · have e0 : (((l.length : Nat) : Int) == 0) = false := by rw [beq_eq_false_iff_ne]; omega
    rw [if_neg h0, e0, cond_false]
    by_cases h1 : 200 < l.length
    · rw [if_pos h1, decide_eq_true (by omega), cond_true]
    · rw [if_neg h1, decide_eq_false (by omega), cond_false]
      rw [rng_unit (pinErr l) (by omega) (fun k hk _ => by
        have hx : l[k]? = some l[k] := List.getElem?_eq_getElem hk
        have hb := bk_get hx
        rw [bk_PinType, bk_str] at hb
        rw [idx_at hx, bnd_some, netlist_IsWord_eq (by omega), bnd_some, ord_eq PinType.Name hx (by omega)]
        unfold pinErr
        rw [hx]
        dsimp only
        cases isWord l[k].Name
        · rfl
        · cases decide (l[k].Kind < 1) || decide (l[k].Kind > 7)
          · cases decide (l[k].Group < 0) || decide (l[k].Group > 200)
            · cases ordBad PinType.Name l k <;> rfl
            · rfl
          · rfl), bnd_some]
      rw [rtgo_cs]
      rw [rng_unit (grpErr l) (by omega) (fun k hk _ => by
        have hx : l[k]? = some l[k] := List.getElem?_eq_getElem hk
        rw [idx_at hx, bnd_some, slc_take l k (by omega), bnd_some]
        have e := gContainsFunc_eq (l := l.take k) (φ := fun y0 => netlist_checkPins_c1 N y0 l[k]) (grpBad l[k]) (by rw [List.length_take]; omega) (fun q _ => by
          unfold netlist_checkPins_c1 grpBad
          cases decide (l[k].Group > 0)
          · rfl
          · cases q.Group == l[k].Group <;> rfl)
        have e2 : slices_ContainsFunc_PinType N (l.take k) (fun y0 => netlist_checkPins_c1 N y0 l[k]) = gContainsFunc (l.take k) (fun y0 => netlist_checkPins_c1 N y0 l[k]) := rfl
        rw [e2, e, bnd_some]
        unfold grpErr
        rw [hx]
        dsimp only
        cases (l.take k).any (grpBad l[k]) <;> rfl), bnd_some, rtgo_int]
      exact getD_or _ _
theorem netlist_CheckTypes_eq {t : List PartType} (h : bk t ≤ 1048576) : netlist_CheckTypes N t = some (checkTypes t) := by
  have hlen := bk_len t
  unfold netlist_CheckTypes checkTypes
  by_cases h1 : 200 < t.length
  · rw [if_pos h1, decide_eq_true (by omega), cond_true]
  · rw [if_neg h1, decide_eq_false (by omega), cond_false]
    rw [rng_unit (typeErr t) (by omega) (fun k hk _ => by
      have hx : t[k]? = some t[k] := List.getElem?_eq_getElem hk
      have hb := bk_get hx
      rw [bk_PartType] at hb
      have hb2 := bk_str t[k].Name
      rw [idx_at hx, bnd_some, netlist_IsWord_eq (by omega), bnd_some, netlist_checkPins_eq (by omega), bnd_some, ord_eq PartType.Name hx (by omega)]
      unfold typeErr
      rw [hx]
      dsimp only
      cases isWord t[k].Name
      · rfl
      · by_cases hc : checkPins t[k].Pins = 0
        · rw [hc]; cases ordBad PartType.Name t k <;> rfl
        · have : (checkPins t[k].Pins != 0) = true := by rw [bne_iff_ne]; exact hc
          rw [this]; simp [hc, rtnx]), bnd_some, rtgo_int]
theorem ref_within_eq (a b c : Int) : etchhouseref2_within N a b c = some (!(decide (a < b) || decide (a > c))) := by
  unfold etchhouseref2_within
  congr 1
  rw [Bool.eq_iff_iff]; simp
theorem ref_checkType_eq {x : PartType} (h : bk x ≤ 1048576) : etchhouseref2_checkType N x = some (if isWord x.Name = false then 5 else checkPins x.Pins) := by
  rw [bk_PartType] at h
  have hs := bk_str x.Name
  have hlen := bk_len x.Pins
  unfold etchhouseref2_checkType
  rw [ref_IsWord_eq (by omega), bnd_some]
  cases isWord x.Name
  · rfl
  simp only [Bool.not_true, cond_false, Bool.true_eq_false, if_false]
  unfold checkPins
  generalize hl : x.Pins = l at *
  by_cases h0 : l.length = 0
  · rw [if_pos h0, h0]; rfl
  · have e0 : (((l.length : Nat) : Int) == 0) = false := by rw [beq_eq_false_iff_ne]; omega
    rw [if_neg h0, e0, cond_false]
    by_cases h1 : 200 < l.length
    · rw [if_pos h1, decide_eq_true (by omega), cond_true]
    · rw [if_neg h1, decide_eq_false (by omega), cond_false]
      rw [rng_unit (pinErr l) (by omega) (fun k hk _ => by
        have hx : l[k]? = some l[k] := List.getElem?_eq_getElem hk
        have hb := bk_get hx
        rw [bk_PinType, bk_str] at hb
        rw [idx_at hx, bnd_some, ref_IsWord_eq (by omega), bnd_some, ref_within_eq, bnd_some, ref_within_eq, bnd_some, ord_eq PinType.Name hx (by omega)]
        unfold pinErr
        rw [hx]
        dsimp only
        cases isWord l[k].Name
        · rfl
        · cases decide (l[k].Kind < 1) || decide (l[k].Kind > 7)
          · cases decide (l[k].Group < 0) || decide (l[k].Group > 200)
            · cases ordBad PinType.Name l k <;> rfl
            · rfl
          · rfl), bnd_some]
      rw [rtgo_cs]
      rw [rng_unit (grpErr l) (by omega) (fun k hk _ => by
        have hx : l[k]? = some l[k] := List.getElem?_eq_getElem hk
        rw [idx_at hx, bnd_some, slc_take l k (by omega), bnd_some]
        rw [rng_any (grpBad l[k]) (12 : Int) (by rw [List.length_take]; omega) (fun j q hq => by
          rw [idx_at hq, bnd_some]
          have e : ((decide (l[k].Group > 0) && (l[k].Group == q.Group)) && (l[k].Kind != q.Kind)) = grpBad l[k] q := by
            unfold grpBad
            rw [Bool.eq_iff_iff]; simp; omega
          rw [e]; cases grpBad l[k] q <;> rfl), bnd_some]
        unfold grpErr
        rw [hx]
        dsimp only
        cases (l.take k).any (grpBad l[k]) <;> rfl), bnd_some, rtgo_int]
      exact getD_or _ _
theorem ref_CheckTypes_eq {t : List PartType} (h : bk t ≤ 1048576) : etchhouseref2_CheckTypes N t = some (checkTypes t) := by
  have hlen := bk_len t
  unfold etchhouseref2_CheckTypes checkTypes
  by_cases h1 : 200 < t.length
  · rw [if_pos h1, decide_eq_true (by omega), cond_true]
  · rw [if_neg h1, decide_eq_false (by omega), cond_false]
    rw [rng_unit (typeErr t) (by omega) (fun k hk _ => by
      have hx : t[k]? = some t[k] := List.getElem?_eq_getElem hk
      have hb := bk_get hx
      rw [idx_at hx, bnd_some, ref_checkType_eq (by omega), bnd_some, ord_eq PartType.Name hx (by omega)]
      unfold typeErr
      rw [hx]
      dsimp only
      cases isWord t[k].Name
      · rfl
      · simp only [Bool.true_eq_false, if_false]
        by_cases hc : checkPins t[k].Pins = 0
        · rw [hc]; cases ordBad PartType.Name t k <;> rfl
        · have : (checkPins t[k].Pins != 0) = true := by rw [bne_iff_ne]; exact hc
          rw [this]; simp [hc, rtnx]), bnd_some, rtgo_int]

/-! ### What right types are -/
structure TypesOk (t : List PartType) : Prop where
  sorted : Sorted PartType.Name t
  pins : ∀ x ∈ t, Sorted PinType.Name x.Pins
theorem getD_zero {e : Nat → Option Int} {m : Nat} (hz : ∀ k r, e k = some r → r ≠ 0) (h : (fst? m e).getD 0 = 0) : ∀ k, k < m → e k = none := by
  cases hx : fst? m e with
  | none => exact fst?_none.1 hx
  | some r =>
    obtain ⟨k, _, hk, _⟩ := fst?_some.1 hx
    rw [hx] at h; exact absurd h (hz k r hk)
theorem pinErr_ne {l : List PinType} {k : Nat} {r : Int} (h : pinErr l k = some r) : r ≠ 0 := by
  unfold pinErr at h
  repeat' split at h
  all_goals first | (injection h with h; omega) | cases h
theorem checkPins_ok {l : List PinType} (h : checkPins l = 0) : Sorted PinType.Name l := by
  unfold checkPins at h
  split at h
  · cases h
  split at h
  · cases h
  refine sorted_of_ord fun k hk => ?_
  cases hx : fst? l.length (pinErr l) with
  | some r =>
    obtain ⟨j, _, hj, _⟩ := fst?_some.1 hx
    rw [hx] at h; exact absurd h (pinErr_ne hj)
  | none =>
    have := fst?_none.1 hx k hk
    unfold pinErr at this
    rw [List.getElem?_eq_getElem hk] at this
    dsimp only at this
    repeat' split at this
    all_goals first | (simp at this; done) | simp_all
theorem checkTypes_ok {t : List PartType} (h : checkTypes t = 0) : TypesOk t := by
  unfold checkTypes at h
  split at h
  · cases h
  have hz : ∀ k r, typeErr t k = some r → r ≠ 0 := by
    intro k r hk
    unfold typeErr at hk
    repeat' split at hk
    all_goals first | (injection hk with hk; subst hk; first | assumption | omega) | cases hk
  have hn := getD_zero hz h
  have key : ∀ k (hk : k < t.length), checkPins t[k].Pins = 0 ∧ ordBad PartType.Name t k = false := by
    intro k hk
    have := hn k hk
    unfold typeErr at this
    rw [List.getElem?_eq_getElem hk] at this
    dsimp only at this
    repeat' split at this
    all_goals first | (simp at this; done) | simp_all
  refine ⟨sorted_of_ord fun k hk => (key k hk).2, fun x hx => ?_⟩
  obtain ⟨k, hk⟩ := List.getElem?_of_mem hx
  obtain ⟨hlt, rfl⟩ := List.getElem?_eq_some_iff.1 hk
  exact checkPins_ok (key k hlt).1
end
end Go.Gk
