/-
  Plain laws: functions of slices and strings that many printed functions call. No statement of the seed is proved here.
-/
import Derived.Test.YtfkpknhicijjbaaP0
set_option linter.unusedVariables false
set_option linter.unusedSimpArgs false
set_option linter.unusedSectionVars false
namespace Go.Gk
open Go

/-! ### How much a datum holds -/
class Bk (α : Type) where
  bk : α → Nat
  pos : ∀ x, 1 ≤ bk x
def bk {α : Type} [Bk α] (x : α) : Nat := Bk.bk x
theorem bk_pos {α : Type} [Bk α] (x : α) : 1 ≤ bk x := Bk.pos x
instance : Bk Str := ⟨fun s => s.toL.length + 1, fun _ => by omega⟩
instance : Bk Int := ⟨fun _ => 1, fun _ => by omega⟩
instance : Bk Bool := ⟨fun _ => 1, fun _ => by omega⟩
instance {α : Type} [Bk α] : Bk (List α) := ⟨fun l => (l.map bk).sum + 1, fun _ => by omega⟩
theorem bk_nil {α : Type} [Bk α] : bk ([] : List α) = 1 := rfl
theorem bk_cons {α : Type} [Bk α] (x : α) (l : List α) : bk (x :: l) = bk x + bk l := by
  show (List.map bk (x :: l)).sum + 1 = bk x + ((List.map bk l).sum + 1)
  simp; omega
theorem bk_mem {α : Type} [Bk α] : ∀ {l : List α} {x : α}, x ∈ l → bk x + 1 ≤ bk l
  | y :: l, x, h => by
    rw [bk_cons]
    rcases List.mem_cons.1 h with h | h
    · subst h; have := bk_pos l; omega
    · have := bk_mem h; omega
theorem bk_get {α : Type} [Bk α] {l : List α} {k : Nat} {x : α} (h : l[k]? = some x) : bk x + 1 ≤ bk l := bk_mem (List.mem_of_getElem? h)
theorem bk_len {α : Type} [Bk α] : ∀ (l : List α), l.length + 1 ≤ bk l
  | [] => by rw [bk_nil]; simp
  | x :: l => by rw [bk_cons, List.length_cons]; have := bk_len l; have := bk_pos x; omega
theorem bk_str (s : Str) : bk s = s.toL.length + 1 := rfl
theorem bk_take {α : Type} [Bk α] : ∀ (l : List α) (k : Nat), bk (l.take k) ≤ bk l
  | [], k => by simp
  | x :: l, 0 => by rw [List.take_zero, bk_nil]; exact bk_pos _
  | x :: l, k + 1 => by rw [List.take_succ_cons, bk_cons, bk_cons]; have := bk_take l k; omega
theorem bk_drop {α : Type} [Bk α] : ∀ (l : List α) (k : Nat), bk (l.drop k) ≤ bk l
  | [], k => by simp
  | x :: l, 0 => by simp
  | x :: l, k + 1 => by rw [List.drop_succ_cons, bk_cons]; have := bk_drop l k; have := bk_pos x; omega
theorem bk_append {α : Type} [Bk α] : ∀ (l m : List α), bk (l ++ m) + 1 = bk l + bk m
  | [], m => by rw [List.nil_append, bk_nil]; omega
  | x :: l, m => by rw [List.cons_append, bk_cons, bk_cons]; have := bk_append l m; omega

/-! ### Loops over a list -/
section
variable {α R : Type}
theorem fst?_list {l : List α} {e : Nat → Option R} (f : α → Option R) (h : ∀ k x, l[k]? = some x → e k = f x) : fst? l.length e = l.findSome? f := by
  cases hx : fst? l.length e with
  | none =>
    refine (List.findSome?_eq_none_iff.2 fun x hm => ?_).symm
    obtain ⟨k, hk⟩ := List.getElem?_of_mem hm
    rw [← h k x hk]; exact fst?_none.1 hx k (List.getElem?_eq_some_iff.1 hk).1
  | some r =>
    obtain ⟨k, hk, he, hn⟩ := fst?_some.1 hx
    refine (List.findSome?_eq_some_iff.2 ⟨l.take k, l[k], l.drop (k + 1), ?_, ?_, fun y hy => ?_⟩).symm
    · rw [← List.drop_eq_getElem_cons hk, List.take_append_drop]
    · rw [← h k l[k] (List.getElem?_eq_getElem hk)]; exact he
    · obtain ⟨j, hj⟩ := List.getElem?_of_mem hy
      have hjk : j < k := by have := (List.getElem?_eq_some_iff.1 hj).1; rw [List.length_take] at this; omega
      rw [List.getElem?_take_of_lt hjk] at hj
      rw [← h j y hj]; exact hn j hjk
theorem findSome?_if (l : List α) (p : α → Bool) (r : R) : l.findSome? (fun x => if p x = true then some r else none) = if l.any p = true then some r else none := by
  induction l with
  | nil => simp
  | cons x l ih =>
    rw [List.findSome?_cons, List.any_cons]
    cases h : p x <;> simp [ih]
/-- A range over a list whose rounds only may return. -/
theorem rng_list {l : List α} {body : Nat → Unit → Option (Fl Unit R)} (f : α → Option R) (hl : l.length ≤ 4611686018427387904)
    (h : ∀ k x, l[k]? = some x → body k () = some (rtnx (f x) ())) : rng l.length body () = some (rtgo (l.findSome? f) ()) := by
  have h2 := rng_unit (body := body) (m := l.length) (fun k => (l[k]?).bind f) hl (fun k hk _ => by
    rw [h k l[k] (List.getElem?_eq_getElem hk), List.getElem?_eq_getElem hk]; rfl)
  rw [h2, fst?_list f (fun k x hx => by rw [hx]; rfl)]
theorem rng_any {l : List α} {body : Nat → Unit → Option (Fl Unit R)} (p : α → Bool) (r : R) (hl : l.length ≤ 4611686018427387904)
    (h : ∀ k x, l[k]? = some x → body k () = some (if p x = true then .rt r else .nx ())) : rng l.length body () = some (if l.any p = true then .rt r else .go ()) := by
  rw [rng_list (fun x => if p x = true then some r else none) hl (fun k x hx => by rw [h k x hx]; cases p x <;> rfl), findSome?_if]
  cases l.any p <;> rfl
end
theorem bif_opt {β : Type} (b : Bool) (x y : β) : (bif b then some x else some y) = some (bif b then x else y) := by cases b <;> rfl

/-! ### Functions of the library, for any type -/
section
variable {α β : Type}
/-- The place of the first element that fits, or -1. -/
def at? (l : List α) (p : α → Bool) : Int := match l.findIdx? p with | some k => ((k : Nat) : Int) | none => -1
theorem at?_none {l : List α} {p : α → Bool} (h : l.any p = false) : at? l p = -1 := by
  unfold at?
  rw [List.findIdx?_eq_none_iff.2]
  intro x hx
  rw [← Bool.not_eq_true]
  intro hp
  rw [← Bool.not_eq_true] at h
  exact h (List.any_eq_true.2 ⟨x, hx, hp⟩)
theorem at?_some {l : List α} {p : α → Bool} {k : Nat} {x : α} (hk : l[k]? = some x) (hp : p x = true) (hn : ∀ j y, j < k → l[j]? = some y → p y = false) : at? l p = ((k : Nat) : Int) := by
  unfold at?
  have hlt := (List.getElem?_eq_some_iff.1 hk).1
  have : l.findIdx? p = some k := by
    rw [List.findIdx?_eq_some_iff_getElem]
    refine ⟨hlt, ?_, fun j hj => ?_⟩
    · have := List.getElem?_eq_getElem hlt; rw [hk] at this; injection this with this; rw [← this]; exact hp
    · have := hn j l[j] hj (List.getElem?_eq_getElem (by omega)); simpa using this
  rw [this]
theorem at?_cases (l : List α) (p : α → Bool) : (at? l p = -1 ∧ ∀ x ∈ l, p x = false) ∨ ∃ k x, at? l p = ((k : Nat) : Int) ∧ l[k]? = some x ∧ p x = true ∧ ∀ j y, j < k → l[j]? = some y → p y = false := by
  unfold at?
  cases h : l.findIdx? p with
  | none => exact .inl ⟨rfl, fun x hx => by have := List.findIdx?_eq_none_iff.1 h x hx; simpa using this⟩
  | some k =>
    obtain ⟨hk, hp, hn⟩ := List.findIdx?_eq_some_iff_getElem.1 h
    refine .inr ⟨k, l[k], rfl, List.getElem?_eq_getElem hk, hp, fun j y hj hy => ?_⟩
    have := hn j hj
    rw [List.getElem?_eq_getElem (by omega)] at hy
    injection hy with hy
    subst hy; simpa using this
theorem at?_ge (l : List α) (p : α → Bool) : decide (at? l p ≥ 0) = l.any p := by
  rcases at?_cases l p with ⟨h, hn⟩ | ⟨k, x, h, hx, hp, _⟩
  · rw [h, List.any_eq_false.2 (fun x hx => by rw [hn x hx]; decide)]; decide
  · rw [h, List.any_eq_true.2 ⟨x, List.mem_of_getElem? hx, hp⟩]; simp
theorem at?_lt (l : List α) (p : α → Bool) : decide (at? l p < 0) = !l.any p := by
  rw [← at?_ge, ← decide_not]; congr 1; rw [eq_iff_iff]; omega

def gIndexFunc (p0 : List α) (p1 : α → Option Bool) : Option Int :=
  (rng p0.length (fun (k1 : Nat) (_ : Unit) => ((idx p0 ((k1 : Nat) : Int)).bind fun (x7 : α) => (p1 x7).bind fun (x10 : Bool) => bif x10 then (some (.rt ((k1 : Nat) : Int))) else (some (.nx ())) : Option (Fl (Unit) Int))) ()).bind fun (o11 : Fo (Unit) Int) => o11.cs (fun (_ : Unit) => some (-1)) (fun r => some r)
theorem gIndexFunc_eq {l : List α} {φ : α → Option Bool} (p : α → Bool) (hl : l.length ≤ 4611686018427387904) (h : ∀ x ∈ l, φ x = some (p x)) : gIndexFunc l φ = some (at? l p) := by
  unfold gIndexFunc
  rw [rng_unit (fun k => (l[k]?).bind fun x => if p x = true then some ((k : Nat) : Int) else none) hl (fun k hk _ => by
    rw [idx_nat l k hk, bnd_some, h _ (List.getElem_mem hk), bnd_some, List.getElem?_eq_getElem hk]
    cases hp : p l[k] <;> simp [rtnx, hp]), bnd_some]
  rcases at?_cases l p with ⟨h1, h2⟩ | ⟨k, x, h1, h2, h3, h4⟩
  · rw [fst?_none.2 (fun k hk => by rw [List.getElem?_eq_getElem hk]; simp [h2 _ (List.getElem_mem hk)])]
    simp [rtgo, Fo.cs, h1]
  · rw [(fst?_some (r := ((k : Nat) : Int))).2 ⟨k, (List.getElem?_eq_some_iff.1 h2).1, by rw [h2]; simp [h3], fun j hj => by
      cases hy : l[j]? with
      | none => rfl
      | some y => simp [h4 j y hj hy]⟩]
    simp [rtgo, Fo.cs, h1]
def gContainsFunc (p0 : List α) (p1 : α → Option Bool) : Option Bool :=
  (gIndexFunc p0 p1).bind fun (x1 : Int) => some (decide (x1 ≥ 0))
theorem gContainsFunc_eq {l : List α} {φ : α → Option Bool} (p : α → Bool) (hl : l.length ≤ 4611686018427387904) (h : ∀ x ∈ l, φ x = some (p x)) : gContainsFunc l φ = some (l.any p) := by
  unfold gContainsFunc
  rw [gIndexFunc_eq p hl h, bnd_some, at?_ge]
def gIndex [DecidableEq α] (p0 : List α) (p1 : α) : Option Int :=
  (rng p0.length (fun (k2 : Nat) (_ : Unit) => ((idx p0 ((k2 : Nat) : Int)).bind fun (x12 : α) => bif (decide (p1 = x12)) then (some (.rt ((k2 : Nat) : Int))) else (some (.nx ())) : Option (Fl (Unit) Int))) ()).bind fun (o18 : Fo (Unit) Int) => o18.cs (fun (_ : Unit) => some (-1)) (fun r => some r)
theorem gIndex_eq [DecidableEq α] {l : List α} {a : α} (hl : l.length ≤ 4611686018427387904) : gIndex l a = some (at? l (fun x => decide (a = x))) := by
  have := gIndexFunc_eq (l := l) (φ := fun x => some (decide (a = x))) (fun x => decide (a = x)) hl (fun _ _ => rfl)
  rw [← this]; rfl
def gContains [DecidableEq α] (p0 : List α) (p1 : α) : Option Bool := (gIndex p0 p1).bind fun (x3 : Int) => some (decide (x3 ≥ 0))
theorem gContains_eq [DecidableEq α] {l : List α} {a : α} (hl : l.length ≤ 4611686018427387904) : gContains l a = some (decide (a ∈ l)) := by
  unfold gContains
  rw [gIndex_eq hl, bnd_some, at?_ge, Option.some.injEq, Bool.eq_iff_iff]
  simp
def gEqual [DecidableEq α] (p0 p1 : List α) : Option Bool :=
  bif (((p0.length : Nat) : Int) != ((p1.length : Nat) : Int)) then (some false) else ((rng p0.length (fun (k1 : Nat) (_ : Unit) => ((idx p0 ((k1 : Nat) : Int)).bind fun (x13 : α) => (idx p1 ((k1 : Nat) : Int)).bind fun (x16 : α) => bif (!(decide (x13 = x16))) then (some (.rt false)) else (some (.nx ())) : Option (Fl (Unit) Bool))) ()).bind fun (o23 : Fo (Unit) Bool) => o23.cs (fun (_ : Unit) => some true) (fun r => some r))
theorem gEqual_eq [DecidableEq α] {l m : List α} (hl : l.length ≤ 4611686018427387904) : gEqual l m = some (decide (l = m)) := by
  unfold gEqual
  by_cases h : l.length = m.length
  · have e : (((l.length : Nat) : Int) != ((m.length : Nat) : Int)) = false := by rw [h]; simp
    rw [e, cond_false]
    rw [rng_unit (fun k => if l[k]? = m[k]? then none else some false) hl (fun k hk _ => by
      rw [idx_nat l k hk, bnd_some, idx_nat m k (by omega), bnd_some, List.getElem?_eq_getElem hk, List.getElem?_eq_getElem (by omega : k < m.length)]
      by_cases hx : l[k] = m[k] <;> simp [rtnx, hx]), bnd_some]
    by_cases hx : l = m
    · subst hx; rw [fst?_none.2 (fun k _ => if_pos rfl)]; simp [rtgo, Fo.cs]
    · have : ∃ r, fst? l.length (fun k => if l[k]? = m[k]? then none else some false) = some r := by
        cases hf : fst? l.length (fun k => if l[k]? = m[k]? then none else some false) with
        | some r => exact ⟨r, rfl⟩
        | none =>
          exfalso; refine hx (List.ext_getElem? fun i => ?_)
          by_cases hi : i < l.length
          · have := fst?_none.1 hf i hi
            by_cases h6 : l[i]? = m[i]?
            · exact h6
            · rw [if_neg h6] at this; cases this
          · rw [List.getElem?_eq_none (by omega), List.getElem?_eq_none (by omega)]
      obtain ⟨r, hr⟩ := this
      have hr2 : r = false := by
        obtain ⟨k, _, hk, _⟩ := fst?_some.1 hr
        split at hk
        · cases hk
        · injection hk with hk; exact hk.symm
      rw [hr, hr2]; simp [rtgo, Fo.cs, hx]
  · have e : (((l.length : Nat) : Int) != ((m.length : Nat) : Int)) = true := by simp; omega
    rw [e, cond_true, decide_eq_false (fun h' => h (by rw [h']))]

/-! ### Sorted lists, binary search -/
def Sorted (key : α → Str) (l : List α) : Prop := ∀ (i j : Nat) (x y : α), i < j → l[i]? = some x → l[j]? = some y → Str.lt (key x) (key y)
theorem sorted_of {key : α → Str} {l : List α} (h : ∀ k x y, l[k]? = some x → l[k + 1]? = some y → Str.lt (key x) (key y)) : Sorted key l := by
  intro i j
  induction j with
  | zero => intro x y hij; omega
  | succ j ih =>
    intro x y hij hx hy
    by_cases e : i = j
    · subst e; exact h i x y hx hy
    · have hj : j < l.length := by have := (List.getElem?_eq_some_iff.1 hy).1; omega
      exact Str.lt_trans (ih x l[j] (by omega) hx (List.getElem?_eq_getElem hj)) (h j l[j] y (List.getElem?_eq_getElem hj) hy)
theorem Sorted.inj {key : α → Str} {l : List α} (h : Sorted key l) {i j : Nat} {x y : α} (hx : l[i]? = some x) (hy : l[j]? = some y) (e : key x = key y) : i = j := by
  rcases Nat.lt_trichotomy i j with h1 | h1 | h1
  · exact absurd e (Str.lt_ne (h i j x y h1 hx hy))
  · exact h1
  · exact absurd e.symm (Str.lt_ne (h j i y x h1 hy hx))
/-- The place of the element that is called so, or -1. -/
def nat? (key : α → Str) (l : List α) (s : Str) : Int := at? l (fun x => (key x).eqb s)
def gBSF (N : Nat) (p0 : List α) (p1 : β) (p2 : α → β → Option Int) : Option (Int × Bool) :=
  (itr (fun (s2 : Int × Int) => (bif (decide (s2.1 < s2.2)) then ((idx p0 (IntKind.wrap .i64 (Int.fdiv (IntKind.wrap .u64 (IntKind.wrap .i64 (s2.1 + s2.2))) 2))).bind fun (x13 : α) => (p2 x13 p1).bind fun (x16 : Int) => (bif (decide (x16 < 0)) then (some ((IntKind.wrap .i64 ((IntKind.wrap .i64 (Int.fdiv (IntKind.wrap .u64 (IntKind.wrap .i64 (s2.1 + s2.2))) 2)) + 1)), s2.2)) else (some (s2.1, (IntKind.wrap .i64 (Int.fdiv (IntKind.wrap .u64 (IntKind.wrap .i64 (s2.1 + s2.2))) 2))))).bind fun (s17 : Int × Int) => some (.nx (s17.1, s17.2))) else (some (.br (s2.1, s2.2))) : Option (Fl (Int × Int) Empty))) N (0, ((p0.length : Nat) : Int))).bind fun (o29 : Fo (Int × Int) Empty) => o29.cs (fun (s2 : Int × Int) => (bif (decide (s2.1 < ((p0.length : Nat) : Int))) then ((idx p0 s2.1).bind fun (x25 : α) => (p2 x25 p1).bind fun (x28 : Int) => some (x28 == 0)) else (some false)).bind fun (s23 : Bool) => some (s2.1, s23)) (fun r => r.elim)
theorem wrap_half {a b : Nat} (h : a < b) (hb : b ≤ 4611686018427387904) : IntKind.wrap .i64 (Int.fdiv (IntKind.wrap .u64 (IntKind.wrap .i64 (((a : Nat) : Int) + ((b : Nat) : Int)))) 2) = (((a + b) / 2 : Nat) : Int) := by
  rw [wrap_in (x := ((a : Nat) : Int) + ((b : Nat) : Int)) (by omega) (by omega)]
  have e : IntKind.wrap .u64 (((a : Nat) : Int) + ((b : Nat) : Int)) = ((a + b : Nat) : Int) := by
    show ((a : Int) + b) % 18446744073709551616 = _
    omega
  rw [e, Int.fdiv_eq_ediv_of_nonneg _ (by omega), wrap_in (by omega) (by omega)]
  omega
theorem gBSF_eq {N : Nat} {key : α → Str} {l : List α} {s : Str} {φ : α → Str → Option Int} (hφ : ∀ x, φ x s = some (Lib.compareBytes (key x).toL s.toL)) (hs : Sorted key l)
    (hl : l.length ≤ 1048576) (hN : 4194304 ≤ N) : ∃ r, gBSF N l s φ = some r ∧ (bif (!r.2) then (some (-1)) else (some r.1)) = some (nat? key l s) := by
  unfold gBSF
  have h := itr_inv (S := Int × Int) (R := Empty)
    (body := (fun (s2 : Int × Int) => (bif (decide (s2.1 < s2.2)) then ((idx l (IntKind.wrap .i64 (Int.fdiv (IntKind.wrap .u64 (IntKind.wrap .i64 (s2.1 + s2.2))) 2))).bind fun (x13 : α) => (φ x13 s).bind fun (x16 : Int) => (bif (decide (x16 < 0)) then (some ((IntKind.wrap .i64 ((IntKind.wrap .i64 (Int.fdiv (IntKind.wrap .u64 (IntKind.wrap .i64 (s2.1 + s2.2))) 2)) + 1)), s2.2)) else (some (s2.1, (IntKind.wrap .i64 (Int.fdiv (IntKind.wrap .u64 (IntKind.wrap .i64 (s2.1 + s2.2))) 2))))).bind fun (s17 : Int × Int) => some (.nx (s17.1, s17.2))) else (some (.br (s2.1, s2.2))) : Option (Fl (Int × Int) Empty))))
    (fun st => ∃ a b : Nat, st = (((a : Nat) : Int), ((b : Nat) : Int)) ∧ a ≤ b ∧ b ≤ l.length ∧ (∀ j x, j < a → l[j]? = some x → Str.lt (key x) s) ∧ (∀ j x, b ≤ j → l[j]? = some x → ¬ Str.lt (key x) s))
    (fun st => (st.2 - st.1).toNat)
    (fun st => ∃ a : Nat, st.1 = ((a : Nat) : Int) ∧ a ≤ l.length ∧ (∀ j x, j < a → l[j]? = some x → Str.lt (key x) s) ∧ (∀ j x, a ≤ j → l[j]? = some x → ¬ Str.lt (key x) s))
    (fun _ => True) (by
      rintro st ⟨a, b, rfl, hab, hb, h1, h2⟩
      by_cases hlt : a < b
      · have hm : (a + b) / 2 < l.length := by omega
        have hd : decide (((a : Nat) : Int) < ((b : Nat) : Int)) = true := by rw [decide_eq_true_eq]; omega
        simp only [hd, cond_true, wrap_half hlt (by omega : b ≤ 4611686018427387904), idx_nat l _ hm, bnd_some, hφ]
        by_cases hc : Lib.compareBytes (key l[(a + b) / 2]).toL s.toL < 0
        · have hc' : Str.lt (key l[(a + b) / 2]) s := (compare_lt _ _).1 hc
          simp only [hc, decide_true, cond_true, bnd_some]
          refine ⟨_, rfl, ⟨(a + b) / 2 + 1, b, ?_, by omega, hb, fun j x hj hx => ?_, h2⟩, ?_⟩
          · rw [wrap_in (by omega) (by omega)]; simp
          · by_cases e : j = (a + b) / 2
            · subst e; rw [List.getElem?_eq_getElem hm] at hx; injection hx with hx; subst hx; exact hc'
            · exact Str.lt_trans (hs j _ x _ (by omega) hx (List.getElem?_eq_getElem hm)) hc'
          · rw [wrap_in (by omega) (by omega)]; simp only; omega
        · have hc' : ¬ Str.lt (key l[(a + b) / 2]) s := fun h => hc ((compare_lt _ _).2 h)
          simp only [hc, decide_false, cond_false, bnd_some]
          refine ⟨_, rfl, ⟨a, (a + b) / 2, rfl, by omega, by omega, h1, fun j x hj hx => ?_⟩, by simp only; omega⟩
          by_cases e : j = (a + b) / 2
          · subst e; rw [List.getElem?_eq_getElem hm] at hx; injection hx with hx; subst hx; exact hc'
          · exact fun h3 => hc' (Str.lt_trans (hs _ j _ x (by omega) (List.getElem?_eq_getElem hm) hx) h3)
      · have hd : decide (((a : Nat) : Int) < ((b : Nat) : Int)) = false := by rw [decide_eq_false_iff_not]; omega
        simp only [hd, cond_false]
        exact ⟨_, rfl, a, rfl, by omega, h1, fun j x hj hx => h2 j x (by omega) hx⟩)
    N (0, ((l.length : Nat) : Int)) ⟨0, l.length, rfl, by omega, Nat.le_refl _, fun j x hj => by omega, fun j x hj hx => by have := (List.getElem?_eq_some_iff.1 hx).1; omega⟩ (by simp only; omega)
  obtain ⟨o, ho, hc⟩ := h
  rw [ho, bnd_some]
  cases o with
  | rt r => exact r.elim
  | go st =>
    obtain ⟨a, ha, hle, h1, h2⟩ := hc
    simp only [Fo.cs, ha]
    by_cases hlt : a < l.length
    · have hd : decide (((a : Nat) : Int) < ((l.length : Nat) : Int)) = true := by rw [decide_eq_true_eq]; omega
      simp only [hd, cond_true, idx_nat l _ hlt, bnd_some, hφ]
      refine ⟨_, rfl, ?_⟩
      by_cases he : key l[a] = s
      · have e0 : Lib.compareBytes (key l[a]).toL s.toL = 0 := (compare_eq _ _).2 (by rw [he])
        simp only [e0, BEq.rfl, Bool.not_true, cond_false]
        unfold nat?
        rw [at?_some (List.getElem?_eq_getElem hlt) (eqb_iff.2 he) (fun j y hj hy => by rw [eqb_false]; exact Str.lt_ne (h1 j y hj hy))]
      · have e0 : (Lib.compareBytes (key l[a]).toL s.toL == 0) = false := by
          rw [beq_eq_false_iff_ne]; intro h; exact he (Str.ext' ((compare_eq _ _).1 h))
        simp only [e0, Bool.not_false, cond_true]
        unfold nat?
        rw [at?_none]
        rw [List.any_eq_false]
        intro x hx
        rw [Bool.not_eq_true, eqb_false]
        obtain ⟨j, hj⟩ := List.getElem?_of_mem hx
        intro hk
        by_cases hja : j < a
        · exact Str.lt_ne (h1 j x hja hj) hk
        · by_cases e : j = a
          · subst e; rw [List.getElem?_eq_getElem hlt] at hj; injection hj with hj; subst hj; exact he hk
          · have h3 := hs a j _ x (by omega) (List.getElem?_eq_getElem hlt) hj
            rw [hk] at h3
            exact h2 a _ (Nat.le_refl _) (List.getElem?_eq_getElem hlt) h3
    · have hd : decide (((a : Nat) : Int) < ((l.length : Nat) : Int)) = false := by rw [decide_eq_false_iff_not]; omega
      simp only [hd, cond_false, bnd_some]
      refine ⟨_, rfl, ?_⟩
      simp only [Bool.not_false, cond_true]
      unfold nat?
      rw [at?_none]
      rw [List.any_eq_false]
      intro x hx
      rw [Bool.not_eq_true, eqb_false]
      obtain ⟨j, hj⟩ := List.getElem?_of_mem hx
      have := (List.getElem?_eq_some_iff.1 hj).1
      exact Str.lt_ne (h1 j x (by omega) hj)
/-- A search one by one. -/
def gScan (key : α → Str) (p0 : List α) (p1 : Str) : Option Int :=
  (rng p0.length (fun (k1 : Nat) (_ : Unit) => ((idx p0 ((k1 : Nat) : Int)).bind fun (x7 : α) => bif ((key x7).eqb p1) then (some (.rt ((k1 : Nat) : Int))) else (some (.nx ())) : Option (Fl (Unit) Int))) ()).bind fun (o11 : Fo (Unit) Int) => o11.cs (fun (_ : Unit) => some (-1)) (fun r => some r)
theorem gScan_eq {key : α → Str} {l : List α} {s : Str} (hl : l.length ≤ 4611686018427387904) : gScan key l s = some (nat? key l s) := by
  have := gIndexFunc_eq (l := l) (φ := fun x => some ((key x).eqb s)) (fun x => (key x).eqb s) hl (fun _ _ => rfl)
  unfold nat?
  rw [← this]; rfl
/-- Element k is not greater than the one before it. -/
def ordBad (key : α → Str) (l : List α) (k : Nat) : Bool := match l[k]?, l[k - 1]? with | some x, some y => decide (0 < k) && ((key x).ltb (key y) || (key x).eqb (key y)) | _, _ => false
theorem ord_eq (key : α → Str) {l : List α} {k : Nat} {x : α} (hx : l[k]? = some x) (hl : l.length ≤ 1048576) :
    (bif (decide (((k : Nat) : Int) > 0)) then ((idx l (IntKind.wrap .i64 (((k : Nat) : Int) - 1))).bind fun (y : α) => some ((key x).ltb (key y) || (key x).eqb (key y))) else (some false)) = some (ordBad key l k) := by
  have hk := (List.getElem?_eq_some_iff.1 hx).1
  unfold ordBad
  by_cases h0 : 0 < k
  · rw [decide_eq_true (by omega), cond_true, wrap_pred h0 (by omega), idx_nat l _ (by omega), bnd_some, hx, List.getElem?_eq_getElem (by omega : k - 1 < l.length)]
    simp [h0]
  · have : k = 0 := by omega
    subst this
    rw [hx]; simp
theorem sorted_of_ord {key : α → Str} {l : List α} (h : ∀ k, k < l.length → ordBad key l k = false) : Sorted key l := sorted_of fun k x y hx hy => by
  have hk := (List.getElem?_eq_some_iff.1 hy).1
  have := h (k + 1) hk
  unfold ordBad at this
  rw [hy, Nat.add_sub_cancel, hx] at this
  simp only [Nat.zero_lt_succ, decide_true, Bool.true_and] at this
  exact le_test.1 this
end
end Go.Gk
