/-
  Plain laws of the loops and lists that printed functions use. No statement of the seed is proved here.
-/
import Derived.Test.YtfkpknhicijjbaaK11
set_option linter.unusedVariables false
set_option linter.unusedSimpArgs false
set_option linter.unusedSectionVars false
namespace Go.Gk
open Go

/-! ### The first of some numbers at which there is something -/
def fst? {R : Type} (m : Nat) (e : Nat → Option R) : Option R := (List.range m).findSome? e
theorem fst?_none {R : Type} {m : Nat} {e : Nat → Option R} : fst? m e = none ↔ ∀ k, k < m → e k = none := by
  simp [fst?]
theorem fst?_some {R : Type} {m : Nat} {e : Nat → Option R} {r : R} : fst? m e = some r ↔ ∃ k, k < m ∧ e k = some r ∧ ∀ j, j < k → e j = none := by
  constructor
  · intro h
    obtain ⟨l1, a, l2, hl, ha, hn⟩ := List.findSome?_eq_some_iff.1 h
    have hlen : l1.length < m := by have := congrArg List.length hl; simp at this; omega
    have hget : ∀ i, i < l1.length → l1[i]? = some i := fun i hi => by
      have := congrArg (·[i]?) hl
      simp only [List.getElem?_append_left hi, List.getElem?_range (show i < m by omega)] at this
      exact this.symm
    have hat : a = l1.length := by
      have := congrArg (·[l1.length]?) hl
      simp [List.getElem?_range hlen] at this
      exact this.symm
    refine ⟨a, by omega, ha, fun j hj => hn j ?_⟩
    exact List.mem_of_getElem? (hget j (by omega))
  · rintro ⟨k, hk, he, hn⟩
    refine List.findSome?_eq_some_iff.2 ⟨List.range k, k, (List.range (m - k - 1)).map (· + (k + 1)), ?_, he, fun x hx => hn x (List.mem_range.1 hx)⟩
    refine List.ext_getElem? fun i => ?_
    by_cases h1 : i < k
    · rw [List.getElem?_append_left (by simpa using h1), List.getElem?_range (by omega), List.getElem?_range h1]
    · rw [List.getElem?_append_right (by simpa using h1), List.length_range]
      by_cases h2 : i = k
      · subst h2; simp [List.getElem?_range hk]
      · obtain ⟨d, rfl⟩ : ∃ d, i = k + 1 + d := ⟨i - (k + 1), by omega⟩
        rw [show k + 1 + d - k = d + 1 by omega, List.getElem?_cons_succ, List.getElem?_map]
        by_cases h3 : k + 1 + d < m
        · rw [List.getElem?_range h3, List.getElem?_range (by omega)]; simp; omega
        · rw [List.getElem?_eq_none (by simp; omega), List.getElem?_eq_none (by simp; omega)]; rfl
theorem fst?_congr {R : Type} {m : Nat} {e e' : Nat → Option R} (h : ∀ k, k < m → (∀ j, j < k → e j = none) → (∀ j, j < k → e' j = none) → e k = e' k) : fst? m e = fst? m e' := by
  have key : ∀ k, k ≤ m → (∀ j, j < k → e j = none) → ∀ j, j < k → e' j = none := by
    intro k
    induction k with
    | zero => intro _ _ j hj; omega
    | succ k ih =>
      intro hk he j hj
      have ih' := ih (by omega) (fun j hj => he j (by omega))
      by_cases e1 : j < k
      · exact ih' j e1
      · have : j = k := by omega
        subst this
        rw [← h j (by omega) (fun i hi => he i (by omega)) ih']; exact he j hj
  have key' : ∀ k, k ≤ m → (∀ j, j < k → e' j = none) → ∀ j, j < k → e j = none := by
    intro k
    induction k with
    | zero => intro _ _ j hj; omega
    | succ k ih =>
      intro hk he j hj
      have ih' := ih (by omega) (fun j hj => he j (by omega))
      by_cases e1 : j < k
      · exact ih' j e1
      · have : j = k := by omega
        subst this
        rw [h j (by omega) ih' (fun i hi => he i (by omega))]; exact he j hj
  cases hx : fst? m e with
  | none =>
    refine (fst?_none.2 ?_).symm
    exact key m (Nat.le_refl _) (fst?_none.1 hx)
  | some r =>
    obtain ⟨k, hk, he, hn⟩ := fst?_some.1 hx
    refine (fst?_some.2 ⟨k, hk, ?_, key k (by omega) hn⟩).symm
    rw [← h k hk hn (key k (by omega) hn)]; exact he
theorem fst?_map {R R' : Type} {m : Nat} {e : Nat → Option R} (f : R → R') : (fst? m e).map f = fst? m (fun k => (e k).map f) := by
  cases hx : fst? m e with
  | none => exact (fst?_none.2 fun k hk => by rw [fst?_none.1 hx k hk]; rfl).symm
  | some r =>
    obtain ⟨k, hk, he, hn⟩ := fst?_some.1 hx
    exact (fst?_some.2 ⟨k, hk, by rw [he]; rfl, fun j hj => by rw [hn j hj]; rfl⟩).symm

/-! ### Loops -/
section
variable {S R : Type}
def rtnx (o : Option R) (s : S) : Fl S R := match o with | some r => .rt r | none => .nx s
def rtgo (o : Option R) (s : S) : Fo S R := match o with | some r => .rt r | none => .go s
theorem rngA_fun {body : Nat → S → Option (Fl S R)} (F : Nat → S) (e : Nat → Option R) (m : Nat) : ∀ (n k : Nat), k + n = m →
    (∀ j, k ≤ j → j < m → (∀ i, k ≤ i → i < j → e i = none) → body j (F j) = some (rtnx (e j) (F (j + 1)))) →
    ∃ o, rngA body n k (F k) = some o ∧ ((∀ j, k ≤ j → j < m → e j = none) ∧ o = .go (F m) ∨ ∃ j r, k ≤ j ∧ j < m ∧ e j = some r ∧ (∀ i, k ≤ i → i < j → e i = none) ∧ o = .rt r)
  | 0, k, hk, _ => ⟨_, rfl, .inl ⟨fun j h1 h2 => by omega, by rw [show k = m by omega]⟩⟩
  | n + 1, k, hk, h => by
    have hb := h k (Nat.le_refl _) (by omega) (fun i h1 h2 => by omega)
    unfold rngA
    rw [hb]
    cases hx : e k with
    | some r => exact ⟨_, rfl, .inr ⟨k, r, Nat.le_refl _, by omega, hx, fun i h1 h2 => by omega, rfl⟩⟩
    | none =>
      obtain ⟨o, ho, hc⟩ := rngA_fun F e m n (k + 1) (by omega) (fun j h1 h2 h3 => h j (by omega) h2 fun i h4 h5 => by
        by_cases h6 : i = k
        · subst h6; exact hx
        · exact h3 i (by omega) h5)
      refine ⟨o, ho, ?_⟩
      rcases hc with ⟨h1, h2⟩ | ⟨j, r, h1, h2, h3, h4, h5⟩
      · refine .inl ⟨fun j h3 h4 => ?_, h2⟩
        by_cases h6 : j = k
        · subst h6; exact hx
        · exact h1 j (by omega) h4
      · refine .inr ⟨j, r, by omega, h2, h3, fun i h6 h7 => ?_, h5⟩
        by_cases h8 : i = k
        · subst h8; exact hx
        · exact h4 i (by omega) h7
/-- A range whose state before round k is F k, and whose rounds return where e tells. -/
theorem rng_fun {body : Nat → S → Option (Fl S R)} {m : Nat} {s : S} (F : Nat → S) (e : Nat → Option R) (hm : m ≤ 4611686018427387904) (hs : F 0 = s)
    (h : ∀ k, k < m → (∀ i, i < k → e i = none) → body k (F k) = some (rtnx (e k) (F (k + 1)))) : rng m body s = some (rtgo (fst? m e) (F m)) := by
  subst hs
  unfold rng
  rw [if_pos hm]
  obtain ⟨o, ho, hc⟩ := rngA_fun F e m m 0 (by omega) (fun j _ h2 h3 => h j h2 fun i hi => h3 i (Nat.zero_le _) hi)
  rw [ho]
  rcases hc with ⟨h1, h2⟩ | ⟨j, r, _, h2, h3, h4, h5⟩
  · rw [fst?_none.2 fun k hk => h1 k (Nat.zero_le _) hk, h2]; rfl
  · rw [fst?_some.2 ⟨j, h2, h3, fun i hi => h4 i (Nat.zero_le _) hi⟩, h5]; rfl
/-- The same without a state. -/
theorem rng_unit {body : Nat → Unit → Option (Fl Unit R)} {m : Nat} (e : Nat → Option R) (hm : m ≤ 4611686018427387904)
    (h : ∀ k, k < m → (∀ i, i < k → e i = none) → body k () = some (rtnx (e k) ())) : rng m body () = some (rtgo (fst? m e) ()) :=
  rng_fun (fun _ => ()) e hm rfl h
theorem fldA_fun {body : Nat → S → Option S} (F : Nat → S) : ∀ (n k : Nat), (∀ j, k ≤ j → j < k + n → body j (F j) = some (F (j + 1))) → fldA body n k (F k) = some (F (k + n))
  | 0, _, _ => rfl
  | n + 1, k, h => by
    unfold fldA
    rw [h k (Nat.le_refl _) (by omega)]
    have := fldA_fun F n (k + 1) (fun j h1 h2 => h j (by omega) (by omega))
    rw [show k + (n + 1) = k + 1 + n by omega]
    exact this
/-- A range whose state before round k is F k. -/
theorem fld_fun {body : Nat → S → Option S} {m : Nat} {s : S} (F : Nat → S) (hm : m ≤ 4611686018427387904) (hs : F 0 = s)
    (h : ∀ k, k < m → body k (F k) = some (F (k + 1))) : fld m body s = some (F m) := by
  subst hs
  unfold fld
  rw [if_pos hm]
  have := fldA_fun F m 0 (fun j _ h2 => h j (by omega))
  rwa [Nat.zero_add] at this
/-- A loop that goes down by a measure. -/
theorem itr_inv {body : S → Option (Fl S R)} (Inv : S → Prop) (μ : S → Nat) (Go : S → Prop) (Rt : R → Prop)
    (h : ∀ s, Inv s → ∃ fl, body s = some fl ∧ match fl with | .nx s' => Inv s' ∧ μ s' < μ s | .br s' => Go s' | .rt r => Rt r) :
    ∀ (N : Nat) (s : S), Inv s → μ s < N → ∃ o, itr body N s = some o ∧ match o with | .go s' => Go s' | .rt r => Rt r
  | 0, s, _, hn => by omega
  | N + 1, s, hi, hn => by
    obtain ⟨fl, hb, hf⟩ := h s hi
    unfold itr
    rw [hb]
    cases fl with
    | nx s' => exact itr_inv Inv μ Go Rt h N s' hf.1 (by have := hf.2; omega)
    | br s' => exact ⟨_, rfl, hf⟩
    | rt r => exact ⟨_, rfl, hf⟩
theorem rngA_inv {body : Nat → S → Option (Fl S R)} (Inv : Nat → S → Prop) (Go : S → Prop) (Rt : R → Prop) (m : Nat)
    (h : ∀ k s, k < m → Inv k s → ∃ fl, body k s = some fl ∧ match fl with | .nx s' => Inv (k + 1) s' | .br s' => Go s' | .rt r => Rt r) (hg : ∀ s, Inv m s → Go s) :
    ∀ (n k : Nat) (s : S), k + n = m → Inv k s → ∃ o, rngA body n k s = some o ∧ match o with | .go s' => Go s' | .rt r => Rt r
  | 0, k, s, hk, hi => ⟨_, rfl, hg s (by rw [← hk]; exact hi)⟩
  | n + 1, k, s, hk, hi => by
    obtain ⟨fl, hb, hf⟩ := h k s (by omega) hi
    unfold rngA
    rw [hb]
    cases fl with
    | nx s' => exact rngA_inv Inv Go Rt m h hg n (k + 1) s' (by omega) hf
    | br s' => exact ⟨_, rfl, hf⟩
    | rt r => exact ⟨_, rfl, hf⟩
theorem rng_inv {body : Nat → S → Option (Fl S R)} {m : Nat} {s : S} (Inv : Nat → S → Prop) (Go : S → Prop) (Rt : R → Prop) (hm : m ≤ 4611686018427387904) (h0 : Inv 0 s)
    (h : ∀ k s, k < m → Inv k s → ∃ fl, body k s = some fl ∧ match fl with | .nx s' => Inv (k + 1) s' | .br s' => Go s' | .rt r => Rt r) (hg : ∀ s, Inv m s → Go s) :
    ∃ o, rng m body s = some o ∧ match o with | .go s' => Go s' | .rt r => Rt r := by
  unfold rng
  rw [if_pos hm]
  exact rngA_inv Inv Go Rt m h hg m 0 s (by omega) h0
theorem fldA_inv {body : Nat → S → Option S} (Inv : Nat → S → Prop) (m : Nat) (h : ∀ k s, k < m → Inv k s → ∃ s', body k s = some s' ∧ Inv (k + 1) s') :
    ∀ (n k : Nat) (s : S), k + n = m → Inv k s → ∃ s', fldA body n k s = some s' ∧ Inv m s'
  | 0, k, s, hk, hi => ⟨_, rfl, by rw [← hk]; exact hi⟩
  | n + 1, k, s, hk, hi => by
    obtain ⟨s', hb, hf⟩ := h k s (by omega) hi
    unfold fldA
    rw [hb]
    exact fldA_inv Inv m h n (k + 1) s' (by omega) hf
theorem fld_inv {body : Nat → S → Option S} {m : Nat} {s : S} (Inv : Nat → S → Prop) (hm : m ≤ 4611686018427387904) (h0 : Inv 0 s)
    (h : ∀ k s, k < m → Inv k s → ∃ s', body k s = some s' ∧ Inv (k + 1) s') : ∃ s', fld m body s = some s' ∧ Inv m s' := by
  unfold fld
  rw [if_pos hm]
  exact fldA_inv Inv m h m 0 s (by omega) h0
end

/-! ### Single operations -/
section
variable {α β : Type}
theorem bnd_some (x : α) (f : α → Option β) : (some x).bind f = f x := rfl
theorem idx_nat (l : List α) (k : Nat) (h : k < l.length) : idx l ((k : Nat) : Int) = some l[k] := by
  unfold idx; rw [if_pos (by omega), Int.toNat_natCast, List.getElem?_eq_getElem h]
theorem idx_at {l : List α} {k : Nat} {x : α} (h : l[k]? = some x) : idx l ((k : Nat) : Int) = some x := by
  unfold idx; rw [if_pos (by omega), Int.toNat_natCast, h]
theorem sidx_nat (s : Str) (k : Nat) (h : k < s.toL.length) : sidx s ((k : Nat) : Int) = some s.toL[k] := by
  unfold sidx; rw [if_pos (by omega), Int.toNat_natCast, List.getElem?_eq_getElem h]
theorem wrap_pred {k : Nat} (h : 0 < k) (hk : k ≤ 4611686018427387904) : IntKind.wrap .i64 (((k : Nat) : Int) - 1) = ((k - 1 : Nat) : Int) := by
  rw [wrap_in (by omega) (by omega)]; omega
theorem slc_take (l : List α) (k : Nat) (h : k ≤ l.length) : slc l 0 ((k : Nat) : Int) = some (l.take k) := by
  unfold slc; rw [if_pos ⟨by omega, by omega, by omega⟩]
  simp only [Int.toNat_zero, List.drop_zero, Int.sub_zero, Int.toNat_natCast]
theorem slc_drop (l : List α) (k : Nat) (h : k ≤ l.length) : slc l ((k : Nat) : Int) ((l.length : Nat) : Int) = some (l.drop k) := by
  unfold slc; rw [if_pos ⟨by omega, by omega, by omega⟩]
  simp only [Int.toNat_natCast, Option.some.injEq]
  rw [List.take_of_length_le]; rw [List.length_drop]; omega
theorem app_some {b : Nat} {l ys : List α} (h : (l.length + ys.length) * b ≤ 140737488355328) : app b l ys = some (l ++ ys) := by unfold app; rw [if_pos h]
theorem mk_some {b : Nat} (z : α) {n : Nat} (h : n * b ≤ 140737488355328) : mk b z ((n : Nat) : Int) = some (List.replicate n z) := by
  unfold mk
  have e : ((n : Nat) : Int) * ((b : Nat) : Int) = ((n * b : Nat) : Int) := (Int.natCast_mul n b).symm
  rw [e]
  generalize n * b = q at h ⊢
  rw [if_pos ⟨by omega, by omega⟩, Int.toNat_natCast]
end

/-! ### Strings -/
theorem Str.ext' {a b : Str} (h : a.toL = b.toL) : a = b := by cases a; cases b; simp at h; rw [h]
theorem eqb_iff {a b : Str} : a.eqb b = true ↔ a = b := by
  unfold Str.eqb; rw [beq_iff_eq]; exact ⟨Str.ext', fun h => by rw [h]⟩
theorem eqb_false {a b : Str} : a.eqb b = false ↔ a ≠ b := by rw [← Bool.not_eq_true, eqb_iff]
theorem eqb_dec (a b : Str) : a.eqb b = decide (a = b) := by rw [Bool.eq_iff_iff, eqb_iff]; simp
theorem eqb_refl (a : Str) : a.eqb a = true := eqb_iff.2 rfl
theorem less_irrefl : ∀ (a : List UInt8), Op.bytesLess a a = false
  | [] => rfl
  | a :: l => by
    unfold Op.bytesLess
    rw [less_irrefl l]; simp
theorem less_trans : ∀ {a b c : List UInt8}, Op.bytesLess a b = true → Op.bytesLess b c = true → Op.bytesLess a c = true
  | [], [], _, h, _ => by simp [Op.bytesLess] at h
  | [], _ :: _, [], _, h => by simp [Op.bytesLess] at h
  | [], _ :: _, _ :: _, _, _ => rfl
  | _ :: _, [], _, h, _ => by simp [Op.bytesLess] at h
  | _ :: _, _ :: _, [], _, h => by simp [Op.bytesLess] at h
  | a :: l, b :: m, c :: n, h1, h2 => by
    unfold Op.bytesLess at h1 h2 ⊢
    simp only [Bool.or_eq_true, Bool.and_eq_true, decide_eq_true_eq, beq_iff_eq] at h1 h2 ⊢
    rcases h1 with h1 | ⟨rfl, h1⟩
    · rcases h2 with h2 | ⟨rfl, h2⟩
      · exact .inl (UInt8.lt_trans h1 h2)
      · exact .inl h1
    · rcases h2 with h2 | ⟨rfl, h2⟩
      · exact .inl h2
      · exact .inr ⟨rfl, less_trans h1 h2⟩
theorem less_total : ∀ (a b : List UInt8), Op.bytesLess a b = true ∨ a = b ∨ Op.bytesLess b a = true
  | [], [] => .inr (.inl rfl)
  | [], _ :: _ => .inl rfl
  | _ :: _, [] => .inr (.inr rfl)
  | a :: l, b :: m => by
    unfold Op.bytesLess
    simp only [Bool.or_eq_true, Bool.and_eq_true, decide_eq_true_eq, beq_iff_eq]
    by_cases h1 : a < b
    · exact .inl (.inl h1)
    · by_cases h2 : b < a
      · exact .inr (.inr (.inl h2))
      · have e : a = b := by
          simp only [UInt8.lt_iff_toNat_lt] at h1 h2
          exact UInt8.toNat_inj.1 (by omega)
        subst e
        rcases less_total l m with h | h | h
        · exact .inl (.inr ⟨rfl, h⟩)
        · exact .inr (.inl (by rw [h]))
        · exact .inr (.inr (.inr ⟨rfl, h⟩))
theorem compare_lt : ∀ (a b : List UInt8), Lib.compareBytes a b < 0 ↔ Op.bytesLess a b = true
  | [], [] => by simp [Lib.compareBytes, Op.bytesLess]
  | [], _ :: _ => by simp [Lib.compareBytes, Op.bytesLess]
  | _ :: _, [] => by simp [Lib.compareBytes, Op.bytesLess]
  | a :: l, b :: m => by
    unfold Lib.compareBytes Op.bytesLess
    simp only [Bool.or_eq_true, Bool.and_eq_true, decide_eq_true_eq, beq_iff_eq]
    split
    · simp_all
    · rename_i h1
      split
      · rename_i h2
        have h3 : a ≠ b := fun e => by subst e; exact h1 h2
        simp [h1, h3]
      · rename_i h2
        have e : a = b := by
          simp only [UInt8.lt_iff_toNat_lt] at h1 h2
          exact UInt8.toNat_inj.1 (by omega)
        subst e
        rw [compare_lt l m]; simp [h1]
theorem compare_eq : ∀ (a b : List UInt8), Lib.compareBytes a b = 0 ↔ a = b
  | [], [] => by simp [Lib.compareBytes]
  | [], _ :: _ => by simp [Lib.compareBytes]
  | _ :: _, [] => by simp [Lib.compareBytes]
  | a :: l, b :: m => by
    unfold Lib.compareBytes
    split
    · rename_i h1
      have h3 : a ≠ b := fun e => by subst e; exact absurd h1 (by simp)
      simp [h3]
    · rename_i h1
      split
      · rename_i h2
        have h3 : a ≠ b := fun e => by subst e; exact h1 h2
        simp [h3]
      · rename_i h2
        have e : a = b := by
          simp only [UInt8.lt_iff_toNat_lt] at h1 h2
          exact UInt8.toNat_inj.1 (by omega)
        subst e
        rw [compare_eq l m]; simp
/-- Go's order of strings. -/
def Str.lt (a b : Str) : Prop := a.ltb b = true
theorem Str.lt_irrefl (a : Str) : ¬ Str.lt a a := by unfold Str.lt Str.ltb; rw [less_irrefl]; decide
theorem Str.lt_trans {a b c : Str} (h1 : Str.lt a b) (h2 : Str.lt b c) : Str.lt a c := less_trans h1 h2
theorem Str.lt_total (a b : Str) : Str.lt a b ∨ a = b ∨ Str.lt b a := by
  rcases less_total a.toL b.toL with h | h | h
  · exact .inl h
  · exact .inr (.inl (Str.ext' h))
  · exact .inr (.inr h)
theorem Str.lt_ne {a b : Str} (h : Str.lt a b) : a ≠ b := fun e => by subst e; exact Str.lt_irrefl a h
theorem Str.lt_asymm {a b : Str} (h : Str.lt a b) : ¬ Str.lt b a := fun h' => Str.lt_irrefl a (Str.lt_trans h h')
theorem le_test {a b : Str} : (a.ltb b || a.eqb b) = false ↔ Str.lt b a := by
  rw [Bool.or_eq_false_iff, eqb_false]
  constructor
  · rintro ⟨h1, h2⟩
    rcases Str.lt_total a b with h | h | h
    · unfold Str.lt at h; rw [h1] at h; cases h
    · exact absurd h h2
    · exact h
  · intro h
    refine ⟨?_, fun e => Str.lt_ne h e.symm⟩
    rw [← Bool.not_eq_true]; exact fun h' => Str.lt_asymm h h'
end Go.Gk
