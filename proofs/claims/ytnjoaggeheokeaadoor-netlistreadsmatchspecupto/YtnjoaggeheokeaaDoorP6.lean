/-
  Plain laws: reading a list: program and reference do the same. No statement of the seed is proved here.
-/
import Derived.Test.YtnjoaggeheokeaaDoorP5
set_option linter.unusedVariables false
set_option linter.unusedSimpArgs false
set_option linter.unusedSectionVars false
namespace Go.Gk
open Go
section
variable {N : Nat}
/-! ### Cut -/
def cutS (s : Str) (c : UInt8) : Str × Str × Bool := if c ∈ s.toL then (⟨s.toL.take (Lib.indexByte s.toL c).toNat⟩, ⟨s.toL.drop ((Lib.indexByte s.toL c).toNat + 1)⟩, true) else (s, ⟨[]⟩, false)
theorem lIndex_eq (s : Str) (c : UInt8) : stringslite_Index N s ⟨[c]⟩ = some (Lib.indexByte s.toL c) := by
  have := Index_eq (N := N) s c
  unfold strings_Index at this
  cases h : stringslite_Index N s ⟨[c]⟩ with
  | none => rw [h] at this; cases this
  | some x => rw [h] at this; exact this
theorem Cut_eq {s : Str} (c : UInt8) (h : s.toL.length ≤ 1048576) : strings_Cut N s ⟨[c]⟩ = some (cutS s c) := by
  unfold strings_Cut stringslite_Cut cutS
  rw [lIndex_eq, bnd_some]
  rcases indexByte_spec s.toL c with ⟨h1, h2⟩ | ⟨a, b, h1, h2, h3⟩
  · rw [h1, if_neg h2]; rfl
  · have hl : s.toL.length = a.length + (b.length + 1) := by rw [h1]; simp
    have hm : c ∈ s.toL := by rw [h1]; simp
    rw [if_pos hm, h3, decide_eq_true (by omega), cond_true, scut_take (by omega), bnd_some]
    rw [show ((a.length : Nat) : Int) + (((⟨[c]⟩ : Str).toL.length : Nat) : Int) = ((a.length + 1 : Nat) : Int) by simp, wrap_in (x := ((a.length + 1 : Nat) : Int)) (by omega) (by omega), scut_drop (by omega), bnd_some, bnd_some]
    rfl
theorem cutS_len (s : Str) (c : UInt8) : (cutS s c).1.toL.length ≤ s.toL.length ∧ (cutS s c).2.1.toL.length ≤ s.toL.length := by
  unfold cutS
  split
  · simp only [List.length_take, List.length_drop]; omega
  · simp
theorem cutS_lt {s : Str} {c : UInt8} (h : (cutS s c).2.2 = true) : (cutS s c).1.toL.length + (cutS s c).2.1.toL.length + 1 = s.toL.length := by
  unfold cutS at h ⊢
  split
  · rename_i hm
    rcases indexByte_spec s.toL c with ⟨_, h2⟩ | ⟨a, b, h1, _, h3⟩
    · exact absurd hm h2
    · have hl : s.toL.length = a.length + (b.length + 1) := by rw [h1]; simp
      rw [h3]; simp only [Int.toNat_natCast, List.length_take, List.length_drop]; omega
  · rename_i hm; rw [if_neg hm] at h; cases h

/-! ### Names in a text -/
def pbad (c : UInt8) : Bool := decide (((c.toNat : Nat) : Int) < 33) || (decide (((c.toNat : Nat) : Int) > 126) || ((c.toNat : Nat) : Int) == 46)
def plainS (s : Str) : Bool := !s.eqb ⟨[]⟩ && !s.toL.any pbad
theorem isListWord_eq {s : Str} (h : s.toL.length ≤ 1048576) : etchhouseref2_isListWord N s = some (plainS s) := by
  unfold etchhouseref2_isListWord
  rw [rng_any pbad false (by omega) (fun k x hx => by
    have hk := (List.getElem?_eq_some_iff.1 hx).1
    have e : sidx s ((k : Nat) : Int) = some x := by rw [sidx_nat s k hk, ← List.getElem?_eq_getElem hk, hx]
    simp only [e, bnd_some]
    unfold pbad
    cases decide (((x.toNat : Nat) : Int) < 33)
    · cases decide (((x.toNat : Nat) : Int) > 126)
      · cases ((x.toNat : Nat) : Int) == 46 <;> rfl
      · rfl
    · rfl), bnd_some]
  unfold plainS
  cases s.toL.any pbad
  · simp [Fo.cs]
  · simp [Fo.cs]
theorem get_bs {s : Str} {i : Nat} (h : i < s.toL.length) : (bs s).get! i = s.toL[i] := by
  unfold bs ByteArray.get!
  simp [h]
theorem decode_small {s : Str} {i : Nat} (h : i < s.toL.length) (hb : s.toL[i].toNat < 128) : Utf8.decode (bs s) i = (s.toL[i].toNat, 1) := by
  unfold Utf8.decode
  simp only [Nat.add_zero, get_bs h]
  rw [if_pos (by omega)]
theorem decode_great {s : Str} {i : Nat} (h : i < s.toL.length) (hb : 128 ≤ s.toL[i].toNat) : 128 ≤ (Utf8.decode (bs s) i).1 := by
  unfold Utf8.decode
  simp only [Nat.add_zero, get_bs h]
  rw [if_neg (by omega)]
  unfold Utf8.runeError
  repeat' split
  all_goals first | (simp only; omega) | (simp_all; omega)
theorem pbad_great {c : UInt8} (h : 128 ≤ c.toNat) : pbad c = true := by
  unfold pbad
  have : decide (((c.toNat : Nat) : Int) > 126) = true := by rw [decide_eq_true_eq]; omega
  rw [this]; simp
theorem isPlain_c1_eq (n : Int) : netlist_isPlain_c1 N n = some (decide (n < 33) || (decide (n > 126) || n == 46)) := by
  unfold netlist_isPlain_c1
  rw [Bool.or_assoc]
theorem indexFunc_eq {s : Str} (h : s.toL.length ≤ 1048576) (hN : 4194304 ≤ N) : ∃ r, strings_indexFunc N s (fun y0 => netlist_isPlain_c1 N y0.n) true = some r ∧ decide (r ≥ 0) = s.toL.any pbad := by
  unfold strings_indexFunc
  have key := itr_inv (S := Nat) (R := Int) (body := (fun (s3 : Nat) => (bif (decide (s3 < s.toL.length)) then ((netlist_isPlain_c1 N (⟨(((Utf8.decode (bs s) s3).1 : Nat) : Int)⟩ : R32).n).bind fun (x9 : Bool) => bif (x9 == true) then (some (.rt ((s3 : Nat) : Int))) else (some (.nx (s3 + (Utf8.decode (bs s) s3).2)))) else (some (.br s3)) : Option (Fl (Nat) Int))))
    (fun k => k ≤ s.toL.length ∧ ∀ j x, j < k → s.toL[j]? = some x → pbad x = false) (fun k => s.toL.length - k) (fun _ => s.toL.any pbad = false) (fun r => 0 ≤ r ∧ s.toL.any pbad = true) (by
      rintro k ⟨hk, hb⟩
      by_cases hlt : k < s.toL.length
      · have hg : s.toL[k]? = some s.toL[k] := List.getElem?_eq_getElem hlt
        simp only [hlt, decide_true, cond_true, isPlain_c1_eq, bnd_some]
        by_cases hs : s.toL[k].toNat < 128
        · rw [decode_small hlt hs]
          have e : (decide (((s.toL[k].toNat : Nat) : Int) < 33) || (decide (((s.toL[k].toNat : Nat) : Int) > 126) || ((s.toL[k].toNat : Nat) : Int) == 46)) = pbad s.toL[k] := rfl
          simp only [e]
          cases hp : pbad s.toL[k]
          · refine ⟨_, rfl, ⟨by omega, fun j x hj hx => ?_⟩, by omega⟩
            by_cases hjk : j = k
            · subst hjk; rw [hg] at hx; injection hx with hx; subst hx; exact hp
            · exact hb j x (by omega) hx
          · exact ⟨_, rfl, by omega, List.any_eq_true.2 ⟨_, List.getElem_mem hlt, hp⟩⟩
        · have hd := decode_great hlt (by omega)
          have e : decide ((((Utf8.decode (bs s) k).1 : Nat) : Int) > 126) = true := by rw [decide_eq_true_eq]; omega
          simp only [e, Bool.true_or, Bool.or_true]
          exact ⟨_, rfl, by omega, List.any_eq_true.2 ⟨_, List.getElem_mem hlt, pbad_great (by omega)⟩⟩
      · simp only [hlt, decide_false, cond_false]
        refine ⟨_, rfl, ?_⟩
        rw [List.any_eq_false]
        intro x hx
        obtain ⟨j, hj⟩ := List.getElem?_of_mem hx
        have := (List.getElem?_eq_some_iff.1 hj).1
        rw [hb j x (by omega) hj]; decide)
    N 0 ⟨Nat.zero_le _, fun j x hj => by omega⟩ (by omega)
  obtain ⟨o, ho, hc⟩ := key
  rw [ho, bnd_some]
  cases o with
  | go k => exact ⟨_, rfl, by rw [hc]; decide⟩
  | rt r => exact ⟨_, rfl, by rw [hc.2]; simp [hc.1]⟩
theorem isPlain_eq {s : Str} (h : s.toL.length ≤ 1048576) (hN : 4194304 ≤ N) : netlist_isPlain N s = some (plainS s) := by
  unfold netlist_isPlain plainS strings_ContainsFunc strings_IndexFunc
  obtain ⟨r, h1, h2⟩ := indexFunc_eq (N := N) h hN
  rw [h1]
  simp only [bnd_some, h2]
  cases s.eqb ⟨[]⟩ <;> rfl

/-! ### Two loops at once -/
theorem itr_two {S R : Type} {b1 b2 : S → Option (Fl S R)} (Inv : S → Prop) (μ : S → Nat) (Go : S → Prop) (Rt : R → Prop)
    (h : ∀ s, Inv s → ∃ fl, b1 s = some fl ∧ b2 s = some fl ∧ match fl with | .nx s' => Inv s' ∧ μ s' < μ s | .br s' => Go s' | .rt r => Rt r) :
    ∀ (N : Nat) (s : S), Inv s → μ s < N → ∃ o, itr b1 N s = some o ∧ itr b2 N s = some o ∧ match o with | .go s' => Go s' | .rt r => Rt r
  | 0, s, _, hn => by omega
  | N + 1, s, hi, hn => by
    obtain ⟨fl, h1, h2, hf⟩ := h s hi
    unfold itr
    rw [h1, h2]
    cases fl with
    | nx s' => exact itr_two Inv μ Go Rt h N s' hf.1 (by have := hf.2; omega)
    | br s' => exact ⟨_, rfl, rfl, hf⟩
    | rt r => exact ⟨_, rfl, rfl, hf⟩

/-! ### Lines -/
def pinBad (s : Str) : Bool := !((cutS s 46).2.2 && plainS (cutS s 46).1 && plainS (cutS s 46).2.1)
def pinS (s : Str) : Pin := ⟨(cutS s 46).1, (cutS s 46).2.1⟩
/-- A line that is right, put behind what there is. -/
def lineS (ps : List Part) (ns : List Net) (line : Str) : Option (List Part × List Net) :=
  let w := splitS line 32
  if w.headD ⟨[]⟩ = ⟨[112, 97, 114, 116]⟩ ∧ w.length = 3 ∧ ns = [] then
    if plainS (w.getD 1 ⟨[]⟩) = true ∧ plainS (w.getD 2 ⟨[]⟩) = true then some (ps ++ [⟨w.getD 1 ⟨[]⟩, w.getD 2 ⟨[]⟩⟩], ns) else none
  else if w.headD ⟨[]⟩ = ⟨[110, 101, 116]⟩ ∧ 2 ≤ w.length then
    if (w.drop 2).any pinBad = false ∧ plainS (w.getD 1 ⟨[]⟩) = true then some (ps, ns ++ [⟨w.getD 1 ⟨[]⟩, (w.drop 2).map pinS, []⟩]) else none
  else none
theorem pin_round {f : Str → Option Bool} {s : Str} (hf : ∀ t : Str, t.toL.length ≤ 1048576 → f t = some (plainS t)) (h : s.toL.length ≤ 1048576) :
    (bif (!(cutS s 46).2.2) then (some true) else ((f (cutS s 46).1).bind fun (x358 : Bool) => bif (!x358) then (some true) else ((f (cutS s 46).2.1).bind fun (x360 : Bool) => some (!x360)))) = some (pinBad s) := by
  have hc := cutS_len s 46
  rw [hf _ (by omega), bnd_some, hf _ (by omega), bnd_some]
  unfold pinBad
  cases (cutS s 46).2.2
  · rfl
  · cases plainS (cutS s 46).1
    · rfl
    · cases plainS (cutS s 46).2.1 <;> rfl
/-- The pins of a line: where the first bad one stands, or all of them. -/
theorem pins_loop {R : Type} {f : Str → Option Bool} {l : List Str} {r : List Pin → R} (hf : ∀ t : Str, t.toL.length ≤ 1048576 → f t = some (plainS t)) (hl : l.length ≤ 1048577) (hs : ∀ x ∈ l, x.toL.length ≤ 1048576) :
    ∃ o, rng l.length (fun (k304 : Nat) (s305 : List Pin) => ((idx l ((k304 : Nat) : Int)).bind fun (x347 : Str) => (strings_Cut N x347 (⟨[46]⟩)).bind fun (x349 : Str × Str × Bool) => (bif (!x349.2.2) then (some true) else ((f x349.1).bind fun (x358 : Bool) => bif (!x358) then (some true) else ((f x349.2.1).bind fun (x360 : Bool) => some (!x360)))).bind fun (s356 : Bool) => bif s356 then (some (.rt (r s305))) else ((app 32 s305 ([(⟨x349.1, x349.2.1⟩ : Pin)] : (List Pin))).bind fun (x363 : (List Pin)) => some (.nx x363)) : Option (Fl (List Pin) R))) ([] : List Pin) = some o ∧
      if l.any pinBad = true then ∃ q, o = .rt (r q) else o = .go (l.map pinS) := by
  rw [rng_fun (s := ([] : List Pin)) (fun k => (l.take k).map pinS) (fun k => (l[k]?).bind fun x => if pinBad x = true then some (r ((l.take k).map pinS)) else none) (by omega) rfl (fun k hk _ => by
    have hx : l[k]? = some l[k] := List.getElem?_eq_getElem hk
    have hxs := hs _ (List.getElem_mem hk)
    rw [idx_at hx, bnd_some, Cut_eq 46 hxs, bnd_some]
    rw [pin_round hf hxs, bnd_some, hx]
    simp only [Option.bind_some]
    cases pinBad l[k]
    · rw [cond_false, app_some (by simp only [List.length_map, List.length_take, List.length_cons, List.length_nil]; omega), bnd_some, List.take_succ_eq_append_getElem hk, List.map_append]; rfl
    · rfl)]
  refine ⟨_, rfl, ?_⟩
  by_cases h : l.any pinBad = true
  · rw [if_pos h]
    cases hf2 : fst? l.length (fun k => (l[k]?).bind fun x => if pinBad x = true then some (r ((l.take k).map pinS)) else none) with
    | some q =>
      obtain ⟨k, hk, he, _⟩ := fst?_some.1 hf2
      rw [List.getElem?_eq_getElem hk, Option.bind_some] at he
      split at he
      · injection he with he; exact ⟨_, by rw [← he]; rfl⟩
      · cases he
    | none =>
      exfalso
      obtain ⟨x, hx, hp⟩ := List.any_eq_true.1 h
      obtain ⟨k, hk⟩ := List.getElem?_of_mem hx
      have := fst?_none.1 hf2 k (List.getElem?_eq_some_iff.1 hk).1
      rw [hk, Option.bind_some, if_pos hp] at this; cases this
  · rw [if_neg h, fst?_none.2 (fun k hk => by
      rw [List.getElem?_eq_getElem hk, Option.bind_some, if_neg]
      intro hp; exact h (List.any_eq_true.2 ⟨_, List.getElem_mem hk, hp⟩)), List.take_length]; rfl
theorem splitS_ne (s : Str) (c : UInt8) : splitS s c ≠ [] := by
  unfold splitS; intro h; exact cutAt_ne c s.toL (List.map_eq_nil_iff.1 h)
theorem idx_lit {α : Type} {l : List α} {k : Nat} {d : α} (h : k < l.length) : idx l ((k : Nat) : Int) = some (l.getD k d) := by
  rw [idx_nat l k h, List.getD_eq_getElem?_getD, List.getElem?_eq_getElem h]; rfl
theorem readLine_eq {ps : List Part} {ns : List Net} {line : Str} (hl : line.toL.length ≤ 1048576) (hp : ps.length ≤ 1048576) (hn : ns.length ≤ 1048576) (hN : 4194304 ≤ N) :
    ∃ r, netlist_readLine N ps ns line = some r ∧ match lineS ps ns line with | some q => r = (true, q.1, q.2) | none => r.1 = false := by
  have hw1 := split_num line 32
  have hne := splitS_ne line 32
  have hsl : ∀ x ∈ splitS line 32, x.toL.length ≤ 1048576 := fun x hx => by have := split_len hx; omega
  unfold netlist_readLine lineS
  rw [Split_eq 32 hl hN, bnd_some]
  simp only
  generalize splitS line 32 = w at *
  have h0 : 0 < w.length := List.length_pos_iff.2 hne
  have e0 : idx w 0 = some (w.headD ⟨[]⟩) := by
    have := idx_lit (l := w) (k := 0) (d := (⟨[]⟩ : Str)) h0
    rw [List.headD_eq_head?_getD, List.head?_eq_getElem?]; rw [List.getD_eq_getElem?_getD] at this; exact this
  rw [e0, bnd_some, bnd_some]
  have hdl : ∀ k, k < w.length → (w.getD k ⟨[]⟩).toL.length ≤ 1048576 := fun k hk => by
    rw [List.getD_eq_getElem?_getD, List.getElem?_eq_getElem hk]; exact hsl _ (List.getElem_mem hk)
  have ec : (bif (w.headD ⟨[]⟩).eqb ⟨[112, 97, 114, 116]⟩ then (bif (((w.length : Nat) : Int) == 3) then (some (((ns.length : Nat) : Int) == 0)) else (some false)) else (some false)) = some (decide (w.headD ⟨[]⟩ = ⟨[112, 97, 114, 116]⟩ ∧ w.length = 3 ∧ ns = [])) := by
    rw [eqb_dec]
    by_cases h1 : w.headD ⟨[]⟩ = ⟨[112, 97, 114, 116]⟩
    · rw [decide_eq_true h1, cond_true]
      by_cases h2 : w.length = 3
      · have : (((w.length : Nat) : Int) == 3) = true := by rw [beq_iff_eq]; omega
        rw [this, cond_true]
        congr 1
        rw [Bool.eq_iff_iff, beq_iff_eq, decide_eq_true_eq]
        constructor
        · intro h; exact ⟨h1, h2, List.length_eq_zero_iff.1 (by omega)⟩
        · intro h; rw [h.2.2]; rfl
      · have : (((w.length : Nat) : Int) == 3) = false := by rw [beq_eq_false_iff_ne]; omega
        rw [this, cond_false, decide_eq_false (fun h => h2 h.2.1)]
    · rw [decide_eq_false h1, cond_false, decide_eq_false (fun h => h1 h.1)]
  rw [ec, bnd_some]
  by_cases hA : w.headD ⟨[]⟩ = ⟨[112, 97, 114, 116]⟩ ∧ w.length = 3 ∧ ns = []
  · rw [decide_eq_true hA, cond_true, if_pos hA]
    have i1 : idx w 1 = some (w.getD 1 ⟨[]⟩) := idx_lit (k := 1) (by omega)
    have i2 : idx w 2 = some (w.getD 2 ⟨[]⟩) := idx_lit (k := 2) (by omega)
    rw [i1, bnd_some, i2, bnd_some, app_some (by simp; omega), bnd_some, bnd_some, isPlain_eq (hdl 1 (by omega)) hN, bnd_some, bnd_some, isPlain_eq (hdl 2 (by omega)) hN, bnd_some]
    cases plainS (w.getD 1 ⟨[]⟩)
    · exact ⟨_, rfl, by simp⟩
    · cases plainS (w.getD 2 ⟨[]⟩)
      · exact ⟨_, rfl, by simp⟩
      · exact ⟨_, rfl, by simp⟩
  · rw [decide_eq_false hA, cond_false, if_neg hA]
    have ed : (bif (w.headD ⟨[]⟩).eqb ⟨[110, 101, 116]⟩ then (some (decide (((w.length : Nat) : Int) ≥ 2))) else (some false)) = some (decide (w.headD ⟨[]⟩ = ⟨[110, 101, 116]⟩ ∧ 2 ≤ w.length)) := by
      rw [eqb_dec]
      by_cases h1 : w.headD ⟨[]⟩ = ⟨[110, 101, 116]⟩
      · rw [decide_eq_true h1, cond_true]; congr 1; rw [decide_eq_decide]; constructor
        · intro h; exact ⟨h1, by omega⟩
        · intro h; have := h.2; omega
      · rw [decide_eq_false h1, cond_false, decide_eq_false (fun h => h1 h.1)]
    rw [ed, bnd_some]
    by_cases hB : w.headD ⟨[]⟩ = ⟨[110, 101, 116]⟩ ∧ 2 ≤ w.length
    · rw [decide_eq_true hB, cond_true, if_pos hB]
      have hB2 := hB.2
      have i1 : idx w 1 = some (w.getD 1 ⟨[]⟩) := idx_lit (k := 1) (by omega)
      have hs : slc w 2 ((w.length : Nat) : Int) = some (w.drop 2) := slc_drop w 2 hB.2
      rw [i1, bnd_some, hs, bnd_some]
      obtain ⟨o, ho, hc⟩ := pins_loop (N := N) (R := Bool × List Part × List Net) (f := netlist_isPlain N) (l := w.drop 2) (r := fun _ => (false, ps, ns)) (fun t ht => isPlain_eq ht hN) (by rw [List.length_drop]; omega) (fun x hx => hsl x (List.mem_of_mem_drop hx))
      rw [ho, bnd_some]
      by_cases hb : (w.drop 2).any pinBad = true
      · rw [if_pos hb] at hc
        obtain ⟨q, rfl⟩ := hc
        rw [if_neg (fun h => by rw [hb] at h; cases h.1)]
        exact ⟨_, rfl, rfl⟩
      · rw [if_neg hb] at hc
        rw [hc]
        simp only [Fo.cs]
        rw [app_some (by simp; omega), bnd_some, bnd_some, isPlain_eq (hdl 1 (by omega)) hN]
        simp only [bnd_some]
        refine ⟨_, rfl, ?_⟩
        rw [Bool.not_eq_true] at hb
        cases plainS (w.getD 1 ⟨[]⟩)
        · simp
        · simp [hb]
    · rw [decide_eq_false hB, cond_false, if_neg hB]
      exact ⟨_, rfl, rfl⟩
theorem readNet_eq {w : List Str} (h0 : 0 < w.length) (hw : w.length ≤ 1048577) (hs : ∀ x ∈ w, x.toL.length ≤ 1048576) :
    ∃ n ok, etchhouseref2_readNet N w = some (n, ok) ∧ if (w.drop 1).any pinBad = false ∧ plainS (w.getD 0 ⟨[]⟩) = true then n = ⟨w.getD 0 ⟨[]⟩, (w.drop 1).map pinS, []⟩ ∧ ok = true else ok = false := by
  have i0 : idx w 0 = some (w.getD 0 ⟨[]⟩) := idx_lit (k := 0) h0
  have h1 : slc w 1 ((w.length : Nat) : Int) = some (w.drop 1) := slc_drop w 1 h0
  unfold etchhouseref2_readNet
  rw [i0, bnd_some, h1, bnd_some]
  have hg0 : (w.getD 0 ⟨[]⟩).toL.length ≤ 1048576 := by
    rw [List.getD_eq_getElem?_getD, List.getElem?_eq_getElem h0]; exact hs _ (List.getElem_mem h0)
  obtain ⟨o, ho, hc⟩ := pins_loop (N := N) (R := Net × Bool) (f := etchhouseref2_isListWord N) (l := w.drop 1) (r := fun q => ((⟨w.getD 0 ⟨[]⟩, q, []⟩ : Net), false)) (fun t ht => isListWord_eq ht) (by rw [List.length_drop]; omega) (fun x hx => hs x (List.mem_of_mem_drop hx))
  rw [ho, bnd_some]
  by_cases hb : (w.drop 1).any pinBad = true
  · rw [if_pos hb] at hc
    obtain ⟨q, rfl⟩ := hc
    refine ⟨_, _, rfl, ?_⟩
    rw [if_neg (fun h => by rw [hb] at h; cases h.1)]
  · rw [if_neg hb] at hc
    rw [hc]
    simp only [Fo.cs]
    rw [bnd_some, isListWord_eq hg0, bnd_some]
    rw [Bool.not_eq_true] at hb
    refine ⟨_, _, rfl, ?_⟩
    cases hp : plainS (w.getD 0 ⟨[]⟩)
    · rw [if_neg (fun h => by cases h.2)]
    · rw [if_pos ⟨hb, rfl⟩]; exact ⟨rfl, rfl⟩
/-- What the reference does with a line. -/
theorem refLine_eq {ps : List Part} {ns : List Net} {line : Str} (hl : line.toL.length ≤ 1048576) (hp : ps.length ≤ 1048576) (hn : ns.length ≤ 1048576) (hN : 4194304 ≤ N) :
    ∃ r : List Part × List Net × Bool, ((strings_Split N line (⟨[32]⟩)).bind fun (x241 : List Str) => ((idx x241 0).bind fun (x250 : Str) => bif (x250.eqb (⟨[112, 97, 114, 116]⟩)) then (bif ((x241.length : Int) == 3) then (some ((ns.length : Int) == 0)) else (some false)) else (some false)).bind fun (s249 : Bool) => (bif s249 then (((idx x241 1).bind fun (x312 : Str) => (etchhouseref2_isListWord N x312).bind fun (x313 : Bool) => bif x313 then ((idx x241 2).bind fun (x315 : Str) => (etchhouseref2_isListWord N x315).bind fun (x316 : Bool) => some x316) else (some false)).bind fun (s311 : Bool) => (idx x241 1).bind fun (x317 : Str) => (idx x241 2).bind fun (x318 : Str) => (app 32 ps ([(⟨x317, x318⟩ : Part)] : (List Part))).bind fun (x321 : (List Part)) => some (x321, ns, s311)) else (((idx x241 0).bind fun (x330 : Str) => bif (x330.eqb (⟨[110, 101, 116]⟩)) then (some (decide ((x241.length : Int) > 1))) else (some false)).bind fun (s329 : Bool) => (bif s329 then ((slc x241 1 (x241.length : Int)).bind fun (x344 : (List Str)) => (etchhouseref2_readNet N x344).bind fun (x346 : Net × Bool) => (app 64 ns ([x346.1] : (List Net))).bind fun (x350 : (List Net)) => some (x350, x346.2)) else (some (ns, false))).bind fun (s341 : (List Net) × Bool) => some (ps, s341.1, s341.2)))) = some r ∧
      match lineS ps ns line with | some q => r = (q.1, q.2, true) | none => r.2.2 = false := by
  have hw1 := split_num line 32
  have hne := splitS_ne line 32
  have hsl : ∀ x ∈ splitS line 32, x.toL.length ≤ 1048576 := fun x hx => by have := split_len hx; omega
  unfold lineS
  rw [Split_eq 32 hl hN, bnd_some]
  simp only
  generalize splitS line 32 = w at *
  have h0 : 0 < w.length := List.length_pos_iff.2 hne
  have e0 : idx w 0 = some (w.headD ⟨[]⟩) := by
    have := idx_lit (l := w) (k := 0) (d := (⟨[]⟩ : Str)) h0
    rw [List.headD_eq_head?_getD, List.head?_eq_getElem?]; rw [List.getD_eq_getElem?_getD] at this; exact this
  rw [e0, bnd_some, bnd_some]
  have hdl : ∀ k, k < w.length → (w.getD k ⟨[]⟩).toL.length ≤ 1048576 := fun k hk => by
    rw [List.getD_eq_getElem?_getD, List.getElem?_eq_getElem hk]; exact hsl _ (List.getElem_mem hk)
  have ec : (bif (w.headD ⟨[]⟩).eqb ⟨[112, 97, 114, 116]⟩ then (bif (((w.length : Nat) : Int) == 3) then (some (((ns.length : Nat) : Int) == 0)) else (some false)) else (some false)) = some (decide (w.headD ⟨[]⟩ = ⟨[112, 97, 114, 116]⟩ ∧ w.length = 3 ∧ ns = [])) := by
    rw [eqb_dec]
    by_cases h1 : w.headD ⟨[]⟩ = ⟨[112, 97, 114, 116]⟩
    · rw [decide_eq_true h1, cond_true]
      by_cases h2 : w.length = 3
      · have : (((w.length : Nat) : Int) == 3) = true := by rw [beq_iff_eq]; omega
        rw [this, cond_true]
        congr 1
        rw [Bool.eq_iff_iff, beq_iff_eq, decide_eq_true_eq]
        constructor
        · intro h; exact ⟨h1, h2, List.length_eq_zero_iff.1 (by omega)⟩
        · intro h; rw [h.2.2]; rfl
      · have : (((w.length : Nat) : Int) == 3) = false := by rw [beq_eq_false_iff_ne]; omega
        rw [this, cond_false, decide_eq_false (fun h => h2 h.2.1)]
    · rw [decide_eq_false h1, cond_false, decide_eq_false (fun h => h1 h.1)]
  rw [ec, bnd_some]
  by_cases hA : w.headD ⟨[]⟩ = ⟨[112, 97, 114, 116]⟩ ∧ w.length = 3 ∧ ns = []
  · rw [decide_eq_true hA, cond_true, if_pos hA]
    have i1 : idx w 1 = some (w.getD 1 ⟨[]⟩) := idx_lit (k := 1) (by omega)
    have i2 : idx w 2 = some (w.getD 2 ⟨[]⟩) := idx_lit (k := 2) (by omega)
    rw [i1, bnd_some, i2]
    simp only [bnd_some]
    rw [isListWord_eq (hdl 1 (by omega)), bnd_some, isListWord_eq (hdl 2 (by omega)), app_some (by simp; omega)]
    simp only [bnd_some]
    cases plainS (w.getD 1 ⟨[]⟩)
    · exact ⟨_, rfl, by simp⟩
    · cases plainS (w.getD 2 ⟨[]⟩)
      · exact ⟨_, rfl, by simp⟩
      · exact ⟨_, rfl, by simp⟩
  · rw [decide_eq_false hA, cond_false, if_neg hA]
    have ed : (bif (w.headD ⟨[]⟩).eqb ⟨[110, 101, 116]⟩ then (some (decide (((w.length : Nat) : Int) > 1))) else (some false)) = some (decide (w.headD ⟨[]⟩ = ⟨[110, 101, 116]⟩ ∧ 2 ≤ w.length)) := by
      rw [eqb_dec]
      by_cases h1 : w.headD ⟨[]⟩ = ⟨[110, 101, 116]⟩
      · rw [decide_eq_true h1, cond_true]; congr 1; rw [decide_eq_decide]; constructor
        · intro h; exact ⟨h1, by omega⟩
        · intro h; have := h.2; omega
      · rw [decide_eq_false h1, cond_false, decide_eq_false (fun h => h1 h.1)]
    rw [ed, bnd_some]
    by_cases hB : w.headD ⟨[]⟩ = ⟨[110, 101, 116]⟩ ∧ 2 ≤ w.length
    · rw [decide_eq_true hB, cond_true, if_pos hB]
      have hB2 := hB.2
      have hs : slc w 1 ((w.length : Nat) : Int) = some (w.drop 1) := slc_drop w 1 (by omega)
      rw [hs, bnd_some]
      obtain ⟨n, ok, h1, h2⟩ := readNet_eq (N := N) (w := w.drop 1) (by rw [List.length_drop]; omega) (by rw [List.length_drop]; omega) (fun x hx => hsl x (List.mem_of_mem_drop hx))
      rw [h1, bnd_some, app_some (by simp; omega), bnd_some, bnd_some]
      have e1 : (w.drop 1).drop 1 = w.drop 2 := by rw [List.drop_drop]
      have e2 : (w.drop 1).getD 0 ⟨[]⟩ = w.getD 1 ⟨[]⟩ := by rw [List.getD_eq_getElem?_getD, List.getD_eq_getElem?_getD, List.getElem?_drop]
      rw [e1, e2] at h2
      refine ⟨_, rfl, ?_⟩
      by_cases hq : (w.drop 2).any pinBad = false ∧ plainS (w.getD 1 ⟨[]⟩) = true
      · rw [if_pos hq] at h2 ⊢
        rw [h2.1, h2.2]
      · rw [if_neg hq] at h2 ⊢
        exact h2
    · rw [decide_eq_false hB, cond_false, if_neg hB]
      exact ⟨_, rfl, rfl⟩
theorem lineS_len {ps : List Part} {ns : List Net} {line : Str} {q : List Part × List Net} (h : lineS ps ns line = some q) :
    q.1.length ≤ ps.length + 1 ∧ q.2.length ≤ ns.length + 1 ∧ ∀ n ∈ q.2, n ∈ ns ∨ n.Pins.length ≤ line.toL.length + 1 ∧ n.Ports = [] := by
  have hw1 := split_num line 32
  unfold lineS at h
  simp only at h
  split at h
  · split at h
    · injection h with h; subst h; exact ⟨by simp, by simp, fun n hn => .inl hn⟩
    · cases h
  · split at h
    · split at h
      · injection h with h; subst h
        refine ⟨by simp, by simp, fun n hn => ?_⟩
        rcases List.mem_append.1 hn with h' | h'
        · exact .inl h'
        · right
          rw [List.mem_singleton] at h'
          subst h'
          refine ⟨?_, rfl⟩
          simp only [List.length_map, List.length_drop]; omega
      · cases h
    · cases h
theorem two_fin {S R T : Type} {b1 b2 : S → Option (Fl S R)} {f1 f2 : Fo S R → Option T} {s : S} {P : T → Prop} (Inv : S → Prop) (μ : S → Nat) (Go : S → Prop) (Rt : R → Prop) (h0 : Inv s) (hμ : μ s < N)
    (h : ∀ s, Inv s → ∃ fl, b1 s = some fl ∧ b2 s = some fl ∧ match fl with | .nx s' => Inv s' ∧ μ s' < μ s | .br s' => Go s' | .rt r => Rt r)
    (hg : ∀ s, Go s → ∃ r, f1 (.go s) = some r ∧ f2 (.go s) = some r ∧ P r) (hr : ∀ q, Rt q → ∃ r, f1 (.rt q) = some r ∧ f2 (.rt q) = some r ∧ P r) :
    ∃ r, (itr b1 N s).bind f1 = some r ∧ (itr b2 N s).bind f2 = some r ∧ P r := by
  obtain ⟨o, h1, h2, hc⟩ := itr_two Inv μ Go Rt h N s h0 hμ
  rw [h1, h2, bnd_some, bnd_some]
  cases o with
  | go s => exact hg s hc
  | rt q => exact hr q hc
/-- What both readings come to. -/
theorem Reads_two {s : Str} (hs : s.toL.length ≤ 1048575) (hN : 4194304 ≤ N) : ∃ r, netlist_Read N s = some r ∧ etchhouseref2_Read N s = some r ∧ (r.1.Parts.length ≤ 1048576 ∧ r.1.Nets.length ≤ 1048576 ∧ ∀ n ∈ r.1.Nets, n.Pins.length ≤ 1048576 ∧ n.Ports = []) := by
  unfold netlist_Read etchhouseref2_Read
  rw [decide_eq_false (by omega), cond_false, cond_false]
  refine two_fin (fun st => st.1.toL.length + st.2.1.length ≤ 1048575 ∧ st.1.toL.length + st.2.2.1.length ≤ 1048575 ∧ ∀ n ∈ st.2.2.1, n.Pins.length ≤ 1048576 ∧ n.Ports = [])
    (fun st => st.1.toL.length)
    (fun st => st.2.1.length ≤ 1048576 ∧ st.2.2.1.length ≤ 1048576 ∧ ∀ n ∈ st.2.2.1, n.Pins.length ≤ 1048576 ∧ n.Ports = [])
    (fun r => r.1.Parts = [] ∧ r.1.Nets = []) ⟨by simp; omega, by simp; omega, fun n hn => by cases hn⟩ (by simp only; omega) ?_ ?_ ?_
  · rintro ⟨rest, ps, ns, ln⟩ ⟨i1, i2, i3⟩
    simp only at i1 i2 i3 ⊢
    by_cases he : rest.eqb ⟨[]⟩ = true
    · simp only [he, Bool.not_true, cond_false]; exact ⟨_, rfl, rfl, by simp only; omega, by simp only; omega, i3⟩
    · rw [Bool.not_eq_true] at he
      simp only [he, Bool.not_false, cond_true, Cut_eq 10 (show rest.toL.length ≤ 1048576 by omega), bnd_some]
      have hc := cutS_len rest 10
      obtain ⟨r, h3, h4⟩ := readLine_eq (N := N) (ps := ps) (ns := ns) (line := (cutS rest 10).1) (by omega) (by omega) (by omega) hN
      obtain ⟨r', h5, h6⟩ := refLine_eq (N := N) (ps := ps) (ns := ns) (line := (cutS rest 10).1) (by omega) (by omega) (by omega) hN
      have h7 : ∀ (f : List Part × List Net × Bool → Option (Fl (Str × List Part × List Net × Int) (Netlist × Int × Int))), f r' = ((strings_Split N (cutS rest 10).1 (⟨[32]⟩)).bind fun (x241 : List Str) => ((idx x241 0).bind fun (x250 : Str) => bif (x250.eqb (⟨[112, 97, 114, 116]⟩)) then (bif ((x241.length : Int) == 3) then (some ((ns.length : Int) == 0)) else (some false)) else (some false)).bind fun (s249 : Bool) => (bif s249 then (((idx x241 1).bind fun (x312 : Str) => (etchhouseref2_isListWord N x312).bind fun (x313 : Bool) => bif x313 then ((idx x241 2).bind fun (x315 : Str) => (etchhouseref2_isListWord N x315).bind fun (x316 : Bool) => some x316) else (some false)).bind fun (s311 : Bool) => (idx x241 1).bind fun (x317 : Str) => (idx x241 2).bind fun (x318 : Str) => (app 32 ps ([(⟨x317, x318⟩ : Part)] : (List Part))).bind fun (x321 : (List Part)) => some (x321, ns, s311)) else (((idx x241 0).bind fun (x330 : Str) => bif (x330.eqb (⟨[110, 101, 116]⟩)) then (some (decide ((x241.length : Int) > 1))) else (some false)).bind fun (s329 : Bool) => (bif s329 then ((slc x241 1 (x241.length : Int)).bind fun (x344 : (List Str)) => (etchhouseref2_readNet N x344).bind fun (x346 : Net × Bool) => (app 64 ns ([x346.1] : (List Net))).bind fun (x350 : (List Net)) => some (x350, x346.2)) else (some (ns, false))).bind fun (s341 : (List Net) × Bool) => some (ps, s341.1, s341.2)))).bind f := fun f => by rw [h5]; rfl
      have h8 := h7 (fun s301 => bif (!s301.2.2 || !(cutS rest 10).2.2) then some (Fl.rt ((⟨[], []⟩ : Netlist), ln, 10)) else some (Fl.nx ((cutS rest 10).2.1, s301.1, s301.2.1, IntKind.wrap .i64 (ln + 1))))
      simp only [Option.bind_assoc] at h8 ⊢
      rw [← h8, h3]
      cases hcut : (cutS rest 10).2.2
      · simp only [Bool.not_false, Bool.or_true, cond_true, bnd_some]
        exact ⟨_, rfl, rfl, rfl, rfl⟩
      · have hlt := cutS_lt hcut
        simp only [Bool.not_true, Bool.or_false, cond_false, bnd_some]
        cases hq : lineS ps ns (cutS rest 10).1 with
        | none =>
          rw [hq] at h4 h6
          simp only at h4 h6
          rw [h4, h6]
          exact ⟨_, rfl, rfl, rfl, rfl⟩
        | some q =>
          rw [hq] at h4 h6
          simp only at h4 h6
          have hl := lineS_len hq
          rw [h4, h6]
          refine ⟨_, rfl, rfl, ⟨by simp only; omega, by simp only; omega, fun n hn => ?_⟩, by simp only; omega⟩
          rcases hl.2.2 n hn with h | h
          · exact i3 n h
          · exact ⟨by omega, h.2⟩
  · rintro ⟨rest, ps, ns, ln⟩ ⟨i1, i2, i3⟩
    exact ⟨_, rfl, rfl, i1, i2, i3⟩
  · rintro ⟨x, ln, f⟩ ⟨h1, h2⟩
    simp only at h1 h2
    exact ⟨_, rfl, rfl, by simp only [h1]; simp, by simp only [h2]; simp, by simp only [h2]; intro n hn; cases hn⟩
theorem Same_refl {x : Netlist} (h1 : x.Parts.length ≤ 1048576) (h2 : x.Nets.length ≤ 1048576) (h3 : ∀ n ∈ x.Nets, n.Pins.length ≤ 1048576 ∧ n.Ports.length ≤ 1048576) : etchhouseref2_Same N x x = some true := by
  unfold etchhouseref2_Same
  have e1 : slices_Equal_Part N x.Parts x.Parts = some true := by
    have := gEqual_eq (l := x.Parts) (m := x.Parts) (by omega)
    rw [decide_eq_true rfl] at this
    exact this
  rw [e1, bnd_some]
  simp only [Bool.not_true, cond_false, bne_self_eq_false, bnd_some]
  rw [rng_unit (fun _ => none) (by omega) (fun k hk _ => by
    have hx : x.Nets[k]? = some x.Nets[k] := List.getElem?_eq_getElem hk
    obtain ⟨h4, h5⟩ := h3 _ (List.getElem_mem hk)
    have e2 : slices_Equal_Pin N x.Nets[k].Pins x.Nets[k].Pins = some true := by
      have := gEqual_eq (l := x.Nets[k].Pins) (m := x.Nets[k].Pins) (by omega)
      rw [decide_eq_true rfl] at this
      exact this
    have e3 : slices_Equal_string N x.Nets[k].Ports x.Nets[k].Ports = some true := by
      have := gEqual_eq (l := x.Nets[k].Ports) (m := x.Nets[k].Ports) (by omega)
      rw [decide_eq_true rfl] at this
      refine Eq.trans ?_ this
      unfold slices_Equal_string gEqual
      simp only [eqb_dec]
    simp only [idx_at hx, bnd_some, eqb_refl, e2, e3, Bool.not_true, cond_false]
    rfl), bnd_some, fst?_none.2 (fun _ _ => rfl)]
  rfl
theorem NetlistReadsMatchSpec_eq {s : Str} (hs : bk s ≤ 1048576) (hN : 4194304 ≤ N) : etchhouselaw2_NetlistReadsMatchSpec N s = some true := by
  rw [bk_str] at hs
  obtain ⟨r, h1, h2, h3, h4, h5⟩ := Reads_two (N := N) (s := s) (by omega) hN
  unfold etchhouselaw2_NetlistReadsMatchSpec
  rw [h1, bnd_some, h2, bnd_some]
  simp only [BEq.rfl, Bool.and_self, cond_true]
  rw [Same_refl h3 h4 (fun n hn => ⟨(h5 n hn).1, by rw [(h5 n hn).2]; simp⟩), bnd_some, cond_true, awake_eq hN]
  rfl
end
end Go.Gk
