/-
  Plain laws: words, paths, types of parts (program and reference alike). No statement of the seed is proved here.
-/
import Derived.Test.YtghiafpkpfipgaaGreatDoorB
set_option linter.unusedVariables false
set_option linter.unusedSimpArgs false
set_option linter.unusedSectionVars false
namespace Go.Gk
open Go

section
variable {N : Nat}
/-! ### Words -/
def wbad (c : UInt8) : Bool :=
  ((((decide (((c.toNat : Nat) : Int) < 65)) || (decide (((c.toNat : Nat) : Int) > 90))) && ((decide (((c.toNat : Nat) : Int) < 97)) || (decide (((c.toNat : Nat) : Int) > 122)))) && ((decide (((c.toNat : Nat) : Int) < 48)) || (decide (((c.toNat : Nat) : Int) > 57)))) && decide (Lib.indexByte [95, 43, 45, 35] c < 0)
def isWord (s : Str) : Bool := !s.toL.any wbad && (decide (1 ≤ s.toL.length) && decide (s.toL.length ≤ 40))
theorem indexByte_eq (s : Str) (c : UInt8) : strings_IndexByte N s ((c.toNat : Nat) : Int) = some (Lib.indexByte s.toL c) := by
  show some (Lib.indexByte s.toL (Int.toNat ((c.toNat : Nat) : Int)).toUInt8) = _
  rw [Int.toNat_natCast]; simp
theorem word_round {R : Type} (b1 : Bool) (c : UInt8) (r : R) :
    ((bif b1 then ((strings_IndexByte N (⟨[95, 43, 45, 35]⟩) ((c.toNat : Nat) : Int)).bind fun (x14 : Int) => some (decide (x14 < 0))) else (some false)).bind fun (s12 : Bool) => bif s12 then (some (.rt r)) else (some (.nx ())) : Option (Fl Unit R)) = some (if (b1 && decide (Lib.indexByte [95, 43, 45, 35] c < 0)) = true then .rt r else .nx ()) := by
  rw [indexByte_eq, bnd_some]
  cases b1
  · rfl
  · rw [cond_true, bnd_some, Bool.true_and]
    cases decide (Lib.indexByte [95, 43, 45, 35] c < 0) <;> rfl
theorem netlist_IsWord_eq {s : Str} (h : s.toL.length ≤ 1048576) : netlist_IsWord N s = some (isWord s) := by
  unfold netlist_IsWord
  rw [rng_any wbad false (by omega) (fun k x hx => by
    have hk := (List.getElem?_eq_some_iff.1 hx).1
    have e : sidx s ((k : Nat) : Int) = some x := by rw [sidx_nat s k hk, ← List.getElem?_eq_getElem hk, hx]
    rw [e, bnd_some]
    exact word_round (R := Bool) _ x false), bnd_some]
  unfold isWord
  cases s.toL.any wbad
  · simp only [Fo.cs, Bool.not_false, Bool.true_and, Bool.false_eq_true, if_false, Option.some.injEq]
    rw [Bool.eq_iff_iff, Bool.and_eq_true, Bool.and_eq_true]
    simp only [decide_eq_true_eq]
    omega
  · simp [Fo.cs]
theorem ref_IsWord_eq {s : Str} (h : s.toL.length ≤ 1048576) : etchhouseref2_IsWord N s = some (isWord s) := by
  unfold etchhouseref2_IsWord
  rw [rng_any wbad false (by omega) (fun k x hx => by
    have hk := (List.getElem?_eq_some_iff.1 hx).1
    have e : sidx s ((k : Nat) : Int) = some x := by rw [sidx_nat s k hk, ← List.getElem?_eq_getElem hk, hx]
    rw [e, bnd_some]
    refine (word_round (R := Bool) _ x false).trans ?_
    unfold wbad
    rw [Bool.and_comm (_ || _) (_ || _)]), bnd_some]
  unfold isWord etchhouseref2_within
  cases s.toL.any wbad
  · simp only [Fo.cs, bnd_some, Bool.not_false, Bool.true_and, Bool.false_eq_true, if_false, Option.some.injEq]
    rw [Bool.eq_iff_iff, Bool.and_eq_true, Bool.and_eq_true]
    simp only [decide_eq_true_eq]
    omega
  · simp [Fo.cs]

/-! ### Splitting -/
def cutAt (c : UInt8) : List UInt8 → List (List UInt8)
  | [] => [[]]
  | b :: l => if b == c then [] :: cutAt c l else match cutAt c l with | h :: t => (b :: h) :: t | [] => [[b]]
theorem cutAt_none {c : UInt8} : ∀ {l : List UInt8}, c ∉ l → cutAt c l = [l]
  | [], _ => rfl
  | b :: l, h => by
    unfold cutAt
    have hb : (b == c) = false := by rw [beq_eq_false_iff_ne]; rintro rfl; exact h (by simp)
    rw [hb, cutAt_none (fun h' => h (by simp [h']))]; rfl
theorem cutAt_at {c : UInt8} : ∀ {a : List UInt8} {b : List UInt8}, c ∉ a → cutAt c (a ++ c :: b) = a :: cutAt c b
  | [], b, _ => by rw [List.nil_append]; show (if (c == c) = true then _ else _) = _; simp
  | x :: a, b, h => by
    have hb : (x == c) = false := by rw [beq_eq_false_iff_ne]; rintro rfl; exact h (by simp)
    have ih := cutAt_at (c := c) (a := a) (b := b) (fun h' => h (by simp [h']))
    show (if (x == c) = true then [] :: cutAt c (a ++ c :: b) else match cutAt c (a ++ c :: b) with | h :: t => (x :: h) :: t | [] => [[x]]) = _
    rw [hb, ih]; rfl
theorem indexByte_spec : ∀ (l : List UInt8) (c : UInt8), (Lib.indexByte l c = -1 ∧ c ∉ l) ∨ ∃ a b, l = a ++ c :: b ∧ c ∉ a ∧ Lib.indexByte l c = ((a.length : Nat) : Int)
  | [], c => .inl ⟨rfl, by simp⟩
  | x :: l, c => by
    unfold Lib.indexByte
    by_cases hx : x = c
    · subst hx; exact .inr ⟨[], l, rfl, by simp, by simp⟩
    · have hb : (x == c) = false := by rw [beq_eq_false_iff_ne]; exact hx
      rcases indexByte_spec l c with ⟨h1, h2⟩ | ⟨a, b, h1, h2, h3⟩
      · left; rw [hb, h1]; refine ⟨by simp, ?_⟩; simp [h2]; exact fun h => hx h.symm
      · right
        refine ⟨x :: a, b, by rw [h1]; rfl, by simp [h2]; exact fun h => hx h.symm, ?_⟩
        rw [hb, h3]
        have : (((a.length : Nat) : Int) == -1) = false := by rw [beq_eq_false_iff_ne]; omega
        rw [this]; simp
theorem Index_eq (s : Str) (c : UInt8) : strings_Index N s ⟨[c]⟩ = some (Lib.indexByte s.toL c) := by
  show (stringslite_Index N s ⟨[c]⟩).bind _ = _
  unfold stringslite_Index
  by_cases h : Str.eqb ⟨[c]⟩ s = true
  · have : s = ⟨[c]⟩ := (eqb_iff.1 h).symm
    subst this
    rw [h]; simp [Lib.indexByte]
  · rw [Bool.not_eq_true] at h
    rw [h]
    show ((stringslite_IndexByte N s ((c.toNat : Nat) : Int)).bind _).bind _ = _
    have := indexByte_eq (N := N) s c
    simp only [strings_IndexByte] at this
    rw [this]; rfl
theorem Count_eq (s : Str) (c : UInt8) : strings_Count N s ⟨[c]⟩ = some ((s.toL.count c : Nat) : Int) := by
  unfold strings_Count
  show (some _ : Option Int) = _
  simp [Lib.countByte]
theorem scut_take {s : Str} {k : Nat} (h : k ≤ s.toL.length) : scut s 0 ((k : Nat) : Int) = some ⟨s.toL.take k⟩ := by
  unfold scut; rw [if_pos ⟨by omega, by omega, by omega⟩]
  simp only [Int.toNat_zero, List.drop_zero, Int.sub_zero, Int.toNat_natCast]
theorem scut_drop {s : Str} {k : Nat} (h : k ≤ s.toL.length) : scut s ((k : Nat) : Int) ((s.toL.length : Nat) : Int) = some ⟨s.toL.drop k⟩ := by
  unfold scut; rw [if_pos ⟨by omega, by omega, by omega⟩]
  simp only [Int.toNat_natCast]
  rw [List.take_of_length_le]; rw [List.length_drop]; omega
def splitS (s : Str) (c : UInt8) : List Str := (cutAt c s.toL).map Str.mk
theorem Split_eq {s : Str} (c : UInt8) (h : s.toL.length ≤ 1048576) (hN : 4194304 ≤ N) : strings_Split N s ⟨[c]⟩ = some (splitS s c) := by
  have hc : s.toL.count c ≤ s.toL.length := List.count_le_length
  unfold strings_Split strings_genSplit
  rw [show ((-1 : Int) == 0) = false by decide, cond_false, show Str.eqb ⟨[c]⟩ ⟨[]⟩ = false by simp [Str.eqb], cond_false, Count_eq, bnd_some]
  rw [wrap_in (x := ((s.toL.count c : Nat) : Int) + 1) (by omega) (by omega), show decide ((-1 : Int) < 0) = true by decide, cond_true, bnd_some]
  rw [wrap_in (x := ((s.toL.length : Nat) : Int) + 1) (by omega) (by omega)]
  have e1 : (if ((s.toL.length : Nat) : Int) + 1 < ((s.toL.count c : Nat) : Int) + 1 then ((s.toL.length : Nat) : Int) + 1 else ((s.toL.count c : Nat) : Int) + 1) = ((s.toL.count c + 1 : Nat) : Int) := by
    rw [if_neg (by omega)]; omega
  rw [e1, mk_some _ (by omega), bnd_some]
  rw [wrap_in (x := ((s.toL.count c + 1 : Nat) : Int) - 1) (by omega) (by omega)]
  have key := itr_inv (S := Str × List Str × Int) (R := Empty) (body := (fun (s7 : Str × (List Str) × Int) => (bif (decide (s7.2.2 < ((s.toL.count c + 1 : Nat) : Int) - 1)) then ((strings_Index N s7.1 ⟨[c]⟩).bind fun (x23 : Int) => bif (decide (x23 < 0)) then (some (.br (s7.1, s7.2.1, s7.2.2))) else ((scut s7.1 0 (IntKind.wrap .i64 (x23 + 0))).bind fun (x24 : Str) => (idx s7.2.1 s7.2.2).bind fun (x25 : Str) => (scut s7.1 (IntKind.wrap .i64 (x23 + (((⟨[c]⟩ : Str).toL.length : Nat) : Int))) ((s7.1.toL.length : Nat) : Int)).bind fun (x27 : Str) => some (.nx (x27, (s7.2.1.set (Int.toNat s7.2.2) x24), (IntKind.wrap .i64 (s7.2.2 + 1)))))) else (some (.br (s7.1, s7.2.1, s7.2.2))) : Option (Fl (Str × (List Str) × Int) Empty))))
    (fun st => ∃ ws : List (List UInt8), st.2.2 = ((ws.length : Nat) : Int) ∧ cutAt c s.toL = ws ++ cutAt c st.1.toL ∧ ws.length + st.1.toL.count c = s.toL.count c ∧ st.1.toL.length ≤ s.toL.length ∧ st.2.1 = ws.map Str.mk ++ List.replicate (s.toL.count c + 1 - ws.length) ⟨[]⟩)
    (fun st => s.toL.count c + 1 - st.2.2.toNat)
    (fun st => ∃ ws : List (List UInt8), st.2.2 = ((ws.length : Nat) : Int) ∧ cutAt c s.toL = ws ++ [st.1.toL] ∧ ws.length = s.toL.count c ∧ st.2.1 = ws.map Str.mk ++ [⟨[]⟩])
    (fun _ => True) (by
      rintro ⟨r, arr, i⟩ ⟨ws, h1, h2, h3, h4, h5⟩
      simp only at h1 h2 h3 h4 h5
      subst h1 h5
      by_cases hlt : ws.length < s.toL.count c
      · have hd : decide (((ws.length : Nat) : Int) < ((s.toL.count c + 1 : Nat) : Int) - 1) = true := by rw [decide_eq_true_eq]; omega
        simp only [hd, cond_true, Index_eq, bnd_some]
        rcases indexByte_spec r.toL c with ⟨_, hn⟩ | ⟨a, b, hr, ha, hi⟩
        · rw [List.count_eq_zero_of_not_mem hn] at h3; omega
        · have hrl : r.toL.length = a.length + (b.length + 1) := by rw [hr]; simp
          rw [hi, decide_eq_false (by omega), cond_false]
          rw [show ((a.length : Nat) : Int) + 0 = ((a.length : Nat) : Int) by omega, wrap_in (x := ((a.length : Nat) : Int)) (by omega) (by omega), scut_take (by omega), bnd_some]
          rw [idx_nat _ _ (by simp; omega), bnd_some]
          rw [show ((a.length : Nat) : Int) + (((⟨[c]⟩ : Str).toL.length : Nat) : Int) = ((a.length + 1 : Nat) : Int) by simp, wrap_in (x := ((a.length + 1 : Nat) : Int)) (by omega) (by omega), scut_drop (by omega), bnd_some]
          refine ⟨_, rfl, ⟨ws ++ [a], ?_, ?_, ?_, ?_, ?_⟩, ?_⟩
          · simp only; rw [wrap_in (by omega) (by omega)]; simp
          · simp only
            rw [h2, hr, cutAt_at ha]; simp
          · simp only
            rw [hr] at h3 ⊢
            simp [List.count_eq_zero_of_not_mem ha] at h3 ⊢; omega
          · simp; omega
          · simp only [Int.toNat_natCast]
            rw [List.set_append_right _ _ (by simp)]
            simp only [List.length_map, Nat.sub_self]
            obtain ⟨d, hd'⟩ : ∃ d, s.toL.count c + 1 - ws.length = d + 1 := ⟨s.toL.count c - ws.length, by omega⟩
            rw [hd', List.replicate_succ, List.set_cons_zero, show s.toL.count c + 1 - (ws ++ [a]).length = d by simp; omega]
            simp [hr]
          · simp only; rw [wrap_in (by omega) (by omega)]; omega
      · have hd : decide (((ws.length : Nat) : Int) < ((s.toL.count c + 1 : Nat) : Int) - 1) = false := by rw [decide_eq_false_iff_not]; omega
        simp only [hd, cond_false]
        refine ⟨_, rfl, ws, rfl, ?_, by omega, ?_⟩
        · have h0 : r.toL.count c = 0 := by omega
          rw [h2, cutAt_none (List.count_eq_zero.1 h0)]
        · rw [show s.toL.count c + 1 - ws.length = 1 by omega]; rfl)
    N (s, List.replicate (s.toL.count c + 1) ⟨[]⟩, 0) ⟨[], rfl, rfl, by simp, Nat.le_refl _, by simp⟩ (by simp only; omega)
  obtain ⟨o, ho, hgo⟩ := key
  rw [ho, bnd_some]
  cases o with
  | rt r => exact r.elim
  | go st =>
    obtain ⟨r, arr, i⟩ := st
    obtain ⟨ws, h1, h2, h3, h4⟩ := hgo
    simp only at h1 h2 h3 h4
    subst h1 h4
    simp only [Fo.cs]
    rw [idx_nat _ _ (by simp), bnd_some, wrap_in (by omega) (by omega)]
    rw [show ((ws.length : Nat) : Int) + 1 = ((ws.length + 1 : Nat) : Int) by omega, slc_take _ _ (by simp), bnd_some, bnd_some]
    unfold splitS
    rw [h2]
    rw [Int.toNat_natCast, List.set_append_right _ _ (by simp), List.take_of_length_le (by simp)]
    simp

/-! ### Paths -/
def isPath (s : Str) : Bool := decide (s.toL.length ≤ 200) && (splitS s 47).all isWord
theorem cutAt_len {c : UInt8} : ∀ {l : List UInt8} {x : List UInt8}, x ∈ cutAt c l → x.length ≤ l.length
  | [], x, h => by simp [cutAt] at h; subst h; simp
  | b :: l, x, h => by
    unfold cutAt at h
    split at h
    · rcases List.mem_cons.1 h with h | h
      · subst h; simp
      · have := cutAt_len h; simp; omega
    · split at h
      · rename_i t e
        rcases List.mem_cons.1 h with h | h
        · subst h; have := cutAt_len (c := c) (l := l) (by rw [e]; exact List.mem_cons_self); simp; omega
        · have := cutAt_len (c := c) (l := l) (by rw [e]; exact List.mem_cons_of_mem _ h); simp; omega
      · simp at h; subst h; simp
theorem cutAt_num (c : UInt8) : ∀ (l : List UInt8), (cutAt c l).length ≤ l.length + 1
  | [] => by simp [cutAt]
  | b :: l => by
    have := cutAt_num c l
    unfold cutAt
    split
    · simp; omega
    · split
      · rename_i e; rw [e] at this; simp at this ⊢; omega
      · simp
theorem split_len {s x : Str} {c : UInt8} (h : x ∈ splitS s c) : x.toL.length ≤ s.toL.length := by
  obtain ⟨y, hy, rfl⟩ := List.mem_map.1 h
  exact cutAt_len hy
theorem split_num (s : Str) (c : UInt8) : (splitS s c).length ≤ s.toL.length + 1 := by unfold splitS; rw [List.length_map]; exact cutAt_num c _
theorem netlist_IsPath_eq {s : Str} (h : s.toL.length ≤ 1048576) (hN : 4194304 ≤ N) : netlist_IsPath N s = some (isPath s) := by
  unfold netlist_IsPath isPath
  by_cases hl : s.toL.length ≤ 200
  · rw [decide_eq_true (by omega), cond_true, Split_eq 47 h hN, bnd_some]
    have e := gContainsFunc_eq (l := splitS s 47) (φ := netlist_IsPath_c1 N) (fun x => !isWord x) (by have := split_num s 47; omega) (fun x hx => by
      unfold netlist_IsPath_c1
      rw [netlist_IsWord_eq (by have := split_len hx; omega)]; rfl)
    have e2 : slices_ContainsFunc_string N (splitS s 47) (netlist_IsPath_c1 N) = gContainsFunc (splitS s 47) (netlist_IsPath_c1 N) := rfl
    rw [e2, e, bnd_some, bnd_some, decide_eq_true hl, Bool.true_and]
    congr 1
    rw [Bool.eq_iff_iff]
    simp
  · rw [decide_eq_false (by omega), cond_false, bnd_some, decide_eq_false hl, Bool.false_and]
theorem ref_IsPath_eq {s : Str} (h : s.toL.length ≤ 1048576) (hN : 4194304 ≤ N) : etchhouseref2_IsPath N s = some (isPath s) := by
  unfold etchhouseref2_IsPath
  rw [Split_eq 47 h hN, bnd_some, rng_any (fun x => !isWord x) false (by have := split_num s 47; omega) (fun k x hx => by
    rw [idx_at hx, bnd_some, ref_IsWord_eq (by have := split_len (List.mem_of_getElem? hx); omega), bnd_some]
    cases isWord x <;> rfl), bnd_some]
  unfold isPath
  have e : (splitS s 47).any (fun x => !isWord x) = !(splitS s 47).all isWord := by rw [Bool.eq_iff_iff]; simp
  rw [e]
  cases (splitS s 47).all isWord
  · simp [Fo.cs]
  · simp only [Bool.not_true, Bool.false_eq_true, if_false, Fo.cs, Bool.and_true]
    congr 1; rw [Bool.eq_iff_iff]; simp only [decide_eq_true_eq]; omega
end
end Go.Gk
