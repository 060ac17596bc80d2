/-
  Plain laws: findings. No statement of the seed is proved here.
-/
import Derived.Test.YtnjoaggeheokeaaDoorP5
set_option linter.unusedVariables false
set_option linter.unusedSimpArgs false
set_option linter.unusedSectionVars false
namespace Go.Gk
open Go
section
variable {N : Nat}
/-! ### The kind of a pin -/
def kindS (t : List PartType) (x : Netlist) (p : Pin) : Int :=
  match x.Parts.find? (fun q => q.Name.eqb p.Part) with
  | none => 0
  | some q => match t.find? (fun y => y.Name.eqb q.Type_) with
    | none => 0
    | some y => match y.Pins.find? (fun z => z.Name.eqb p.Pin) with
      | none => 0
      | some z => z.Kind
theorem kind_core {t : List PartType} {x : Netlist} {p : Pin} (hp : hasPin t x.Parts p = true) {fp : Option Int} {ft : Str → Option Int} {fq : PartType → Option Int}
    (h1 : fp = some (nat? Part.Name x.Parts p.Part)) (h2 : ∀ s, ft s = some (nat? PartType.Name t s)) (h3 : ∀ y ∈ t, fq y = some (nat? PinType.Name y.Pins p.Pin)) :
    (fp.bind fun (x35 : Int) => (idx x.Parts x35).bind fun (x36 : Part) => (ft x36.Type_).bind fun (x39 : Int) => (idx t x39).bind fun (x40 : PartType) => (fq x40).bind fun (x53 : Int) => (idx x40.Pins x53).bind fun (x54 : PinType) => some x54.Kind) = some (kindS t x p) := by
  unfold hasPin at hp
  unfold kindS
  rw [h1, bnd_some]
  rcases nat?_cases Part.Name x.Parts p.Part with ⟨h4, _⟩ | ⟨k, q, h4, h5, h6⟩
  · rw [find_none h4] at hp; cases hp
  · rw [find_at h4 h5] at hp ⊢
    dsimp only at hp ⊢
    rw [h4, idx_at h5, bnd_some, h2, bnd_some]
    rcases nat?_cases PartType.Name t q.Type_ with ⟨h8, _⟩ | ⟨j, y, h8, h9, _⟩
    · rw [find_none h8] at hp; cases hp
    · rw [find_at h8 h9] at hp ⊢
      dsimp only at hp ⊢
      rw [h8, idx_at h9, bnd_some, h3 y (List.mem_of_getElem? h9), bnd_some]
      rcases nat?_cases PinType.Name y.Pins p.Pin with ⟨h10, h11⟩ | ⟨i, z, h10, h11, _⟩
      · obtain ⟨w, hw, hw2⟩ := List.any_eq_true.1 hp
        exact absurd (eqb_iff.1 hw2) (h11 w hw)
      · rw [find_at h10 h11]
        dsimp only
        rw [h10, idx_at h11, bnd_some]
theorem pins_len {t : List PartType} (hbt : bk t ≤ 1048576) {y : PartType} (hy : y ∈ t) : y.Pins.length ≤ 1048576 := by
  have h1 := bk_mem hy; rw [bk_PartType] at h1; have h2 := bk_len y.Pins; omega
theorem fc1_eq {t : List PartType} {x : Netlist} {p : Pin} (ok : ListOk t x) (hbt : bk t ≤ 1048576) (hN : 4194304 ≤ N) (hp : hasPin t x.Parts p = true) : netlist_Findings_c1 N p t x = some (kindS t x p) := by
  have := ok.few
  exact kind_core hp (partAt_eq ok.parts.sorted (by omega) hN) (fun s => TypeAt_eq ok.types.sorted hbt hN) (fun y hy => PinAt_eq (ok.types.pins y hy) (pins_len hbt hy) hN)
theorem kindOf_eq {t : List PartType} {x : Netlist} {p : Pin} (ok : ListOk t x) (hbt : bk t ≤ 1048576) (hp : hasPin t x.Parts p = true) : etchhouseref2_kindOf N t x p = some (kindS t x p) := by
  have := ok.few
  have := bk_len t
  exact kind_core hp (partOf_eq (by omega)) (fun s => typeOf_eq (by omega)) (fun y hy => pinOf_eq (pins_len hbt hy))
theorem loose_has {t : List PartType} {x : Netlist} (ok : ListOk t x) {q : Pin} (hq : q ∈ looseOf t x) : hasPin t x.Parts q = true := by
  unfold looseOf at hq
  obtain ⟨p, hp, hq⟩ := List.mem_flatMap.1 hq
  have hq := (List.mem_filter.1 hq).1
  unfold pinsOf at hq
  obtain ⟨y, hy, rfl⟩ := List.mem_map.1 hq
  obtain ⟨i, hi⟩ := List.getElem?_of_mem hp
  unfold hasPin
  rcases nat?_cases Part.Name x.Parts p.Name with ⟨h4, h5⟩ | ⟨k, q', h4, h5, h6⟩
  · exact absurd rfl (h5 p hp)
  · have hk := ok.parts.sorted.inj h5 hi h6
    subst hk
    rw [hi] at h5; injection h5 with h5; subst h5
    have hf := find_at h4 hi
    rw [hf]
    dsimp only
    obtain ⟨j, hj, hj2⟩ := typeFor_at (ok.parts.typed p hp)
    have hf2 := find_at hj hj2
    rw [hf2]
    exact List.any_eq_true.2 ⟨y, hy, eqb_refl _⟩

/-! ### What is not right with a net -/
def ofK (K : Pin → Int) (P : List Pin) (k : Int) : List Pin := P.filter (fun p => decide (K p = k))
def drv (K : Pin → Int) (P : List Pin) : List Pin := P.filter (fun p => (K p == 2) || (K p == 5))
def pt1 (b : Bool) (f : Finding) : List Finding := if b = true then [f] else []
def netF (K : Pin → Int) (n : Net) : List Finding :=
  pt1 (decide (1 < (ofK K n.Pins 2).length) || (decide (0 < (ofK K n.Pins 2).length) && decide (0 < (ofK K n.Pins 5).length))) ⟨1, n.Name, drv K n.Pins⟩ ++
  pt1 (decide (0 < (ofK K n.Pins 1).length) && decide ((drv K n.Pins).length + (ofK K n.Pins 3).length + (ofK K n.Pins 6).length = 0)) ⟨2, n.Name, ofK K n.Pins 1⟩ ++
  pt1 (decide (0 < (ofK K n.Pins 4).length) && decide ((ofK K n.Pins 5).length = 0)) ⟨3, n.Name, ofK K n.Pins 4⟩ ++
  pt1 (decide (0 < (ofK K n.Pins 7).length)) ⟨4, n.Name, ofK K n.Pins 7⟩ ++
  pt1 (decide (n.Pins.length = 1) && decide ((ofK K n.Pins 7).length = 0)) ⟨5, n.Name, n.Pins⟩
theorem ofK_len (K : Pin → Int) (P : List Pin) (k : Int) : (ofK K P k).length ≤ P.length := List.length_filter_le _ _
theorem drv_len (K : Pin → Int) (P : List Pin) : (drv K P).length ≤ P.length := List.length_filter_le _ _
theorem pt1_len (b : Bool) (f : Finding) : (pt1 b f).length ≤ 1 := by unfold pt1; split <;> simp
theorem netF_len (K : Pin → Int) (n : Net) : (netF K n).length ≤ 5 := by
  unfold netF
  simp only [List.length_append]
  have h1 := pt1_len; have := h1 (decide (1 < (ofK K n.Pins 2).length) || (decide (0 < (ofK K n.Pins 2).length) && decide (0 < (ofK K n.Pins 5).length))) ⟨1, n.Name, drv K n.Pins⟩
  have := h1 (decide (0 < (ofK K n.Pins 1).length) && decide ((drv K n.Pins).length + (ofK K n.Pins 3).length + (ofK K n.Pins 6).length = 0)) ⟨2, n.Name, ofK K n.Pins 1⟩
  have := h1 (decide (0 < (ofK K n.Pins 4).length) && decide ((ofK K n.Pins 5).length = 0)) ⟨3, n.Name, ofK K n.Pins 4⟩
  have := h1 (decide (0 < (ofK K n.Pins 7).length)) ⟨4, n.Name, ofK K n.Pins 7⟩
  have := h1 (decide (n.Pins.length = 1) && decide ((ofK K n.Pins 7).length = 0)) ⟨5, n.Name, n.Pins⟩
  omega
theorem clone_eq {P : List Pin} (h : P.length ≤ 1048576) : slices_Clone_Pin N P = some P := by
  unfold slices_Clone_Pin
  rw [app_some (by simp; omega)]; rfl
theorem put_eq {b : Bool} {k : Int} {P : List Pin} {l : List Finding} {n : Net} (hP : P.length ≤ 1048576) (hl : l.length ≤ 2000000000) : netlist_Findings_c3 N b k P l n = some (l ++ pt1 b ⟨k, n.Name, P⟩) := by
  unfold netlist_Findings_c3 pt1
  cases b
  · simp [bnd_some]
  · rw [cond_true, clone_eq hP, bnd_some, app_some (by simp; omega)]; rfl
theorem ofK_snoc (K : Pin → Int) (P : List Pin) (p : Pin) (k : Int) : ofK K (P ++ [p]) k = if K p = k then ofK K P k ++ [p] else ofK K P k := by
  unfold ofK
  rw [List.filter_append]
  by_cases h : K p = k
  · rw [if_pos h]; simp [h]
  · rw [if_neg h]; simp [h]
theorem drv_snoc (K : Pin → Int) (P : List Pin) (p : Pin) : drv K (P ++ [p]) = if ((K p == 2) || (K p == 5)) = true then drv K P ++ [p] else drv K P := by
  unfold drv
  rw [List.filter_append]
  cases h : ((K p == 2) || (K p == 5)) <;> simp [h]
theorem byLoop {t : List PartType} {x : Netlist} (ok : ListOk t x) (hbt : bk t ≤ 1048576) (hN : 4194304 ≤ N) {n : Net} (hn : n ∈ x.Nets) :
    ∃ m, fld n.Pins.length (fun (k531 : Nat) (s532 : (List (Int × (List Pin))) × (List Pin)) => ((idx n.Pins (k531 : Int)).bind fun (x589 : Pin) => (netlist_Findings_c1 N x589 t x).bind fun (x594 : Int) => (app 32 (mget s532.1 x594 ([] : List Pin)) ([x589] : (List Pin))).bind fun (x597 : (List Pin)) => (bif ((x594 == 2) || (x594 == 5)) then ((app 32 s532.2 ([x589] : (List Pin))).bind fun (x610 : (List Pin)) => some x610) else (some s532.2)).bind fun (s606 : (List Pin)) => some ((mput s532.1 x594 x597), s606) : Option ((List (Int × (List Pin))) × (List Pin)))) (([] : (List (Int × (List Pin)))), ([] : (List Pin))) = some (m, drv (kindS t x) n.Pins) ∧ ∀ k, mget m k [] = ofK (kindS t x) n.Pins k := by
  have hp := (ok.fewPins n hn).2
  obtain ⟨s', h1, h2⟩ := fld_inv (m := n.Pins.length) (s := (([] : (List (Int × (List Pin)))), ([] : (List Pin)))) (body := fun (k531 : Nat) (s532 : (List (Int × (List Pin))) × (List Pin)) => ((idx n.Pins (k531 : Int)).bind fun (x589 : Pin) => (netlist_Findings_c1 N x589 t x).bind fun (x594 : Int) => (app 32 (mget s532.1 x594 ([] : List Pin)) ([x589] : (List Pin))).bind fun (x597 : (List Pin)) => (bif ((x594 == 2) || (x594 == 5)) then ((app 32 s532.2 ([x589] : (List Pin))).bind fun (x610 : (List Pin)) => some x610) else (some s532.2)).bind fun (s606 : (List Pin)) => some ((mput s532.1 x594 x597), s606) : Option ((List (Int × (List Pin))) × (List Pin))))
    (fun j s => (∀ k, mget s.1 k [] = ofK (kindS t x) (n.Pins.take j) k) ∧ s.2 = drv (kindS t x) (n.Pins.take j)) (by omega) ⟨fun k => rfl, rfl⟩ (fun j s hj ⟨i1, i2⟩ => by
      obtain ⟨m, d⟩ := s
      dsimp only at i1 i2 ⊢
      subst i2
      have hy : n.Pins[j]? = some n.Pins[j] := List.getElem?_eq_getElem hj
      have hk := ofK_len (kindS t x) (n.Pins.take j) (kindS t x n.Pins[j])
      have hd := drv_len (kindS t x) (n.Pins.take j)
      rw [List.length_take] at hk hd
      rw [idx_at hy, bnd_some, fc1_eq ok hbt hN (ok.pin n hn _ (List.mem_of_getElem? hy)), bnd_some, i1, app_some (by simp; omega), bnd_some, List.take_succ_eq_append_getElem hj]
      refine ⟨_, by
        rw [show (bif ((kindS t x n.Pins[j] == 2) || (kindS t x n.Pins[j] == 5)) then ((app 32 (drv (kindS t x) (n.Pins.take j)) ([n.Pins[j]] : (List Pin))).bind fun (x610 : (List Pin)) => some x610) else (some (drv (kindS t x) (n.Pins.take j)))) = some (drv (kindS t x) (n.Pins.take j ++ [n.Pins[j]])) by
          rw [drv_snoc, app_some (by simp; omega)]
          cases ((kindS t x n.Pins[j] == 2) || (kindS t x n.Pins[j] == 5)) <;> rfl, bnd_some], fun k => ?_, rfl⟩
      dsimp only
      rw [mget_mput, ofK_snoc]
      by_cases h : kindS t x n.Pins[j] = k
      · rw [if_pos h, if_pos h.symm, h]
      · rw [if_neg h, if_neg (fun e => h e.symm), i1])
  rw [List.take_length] at h2
  obtain ⟨m, d⟩ := s'
  refine ⟨m, ?_, h2.1⟩
  rw [h1, ← h2.2]
theorem w_small {a b : Nat} (ha : a ≤ 1000000) (hb : b ≤ 1000000) : IntKind.wrap .i64 (((a : Nat) : Int) + ((b : Nat) : Int)) = ((a + b : Nat) : Int) := by rw [IntKind.wrap_i64]; omega
theorem c2_eq (k : Int) (m : List (Int × List Pin)) : netlist_Findings_c2 N k m = some (((mget m k ([] : List Pin)).length : Nat) : Int) := rfl
theorem dgt (a : Nat) : decide (((a : Nat) : Int) > 0) = decide (0 < a) := by rw [Bool.eq_iff_iff]; simp
theorem dgt1 (a : Nat) : decide (((a : Nat) : Int) > 1) = decide (1 < a) := by rw [Bool.eq_iff_iff]; simp; omega
theorem deq0 (a : Nat) : (((a : Nat) : Int) == 0) = decide (a = 0) := by rw [Bool.eq_iff_iff]; simp
theorem deq1 (a : Nat) : (((a : Nat) : Int) == 1) = decide (a = 1) := by rw [Bool.eq_iff_iff]; simp; omega
theorem kinds4 (K : Pin → Int) (P : List Pin) : (P.filter (fun p => decide (K p ∈ [(2 : Int), 3, 6, 5]))).length = (drv K P).length + (ofK K P 3).length + (ofK K P 6).length := by
  induction P with
  | nil => rfl
  | cons p P ih =>
    unfold drv ofK at ih ⊢
    simp only [List.filter_cons]
    by_cases h2 : K p = 2
    · simp [h2] at ih ⊢; omega
    · by_cases h5 : K p = 5
      · simp [h5] at ih ⊢; omega
      · by_cases h3 : K p = 3
        · simp [h3] at ih ⊢; omega
        · by_cases h6 : K p = 6
          · simp [h6] at ih ⊢; omega
          · simp [h2, h3, h5, h6] at ih ⊢; exact ih
theorem contains_int {l : List Int} {k : Int} (hl : l.length ≤ 1048576) : slices_Contains_int N l k = some (decide (k ∈ l)) := by
  have := gContains_eq (l := l) (a := k) (by omega)
  rw [← this]
  unfold slices_Contains_int slices_Index_int gContains gIndex
  rfl
theorem ofKinds_eq {t : List PartType} {x : Netlist} (ok : ListOk t x) (hbt : bk t ≤ 1048576) {n : Net} (hn : n ∈ x.Nets) {ks : List Int} (hk : ks.length ≤ 1048576) : etchhouseref2_ofKinds N t x n ks = some (n.Pins.filter (fun p => decide (kindS t x p ∈ ks))) := by
  have hp := (ok.fewPins n hn).2
  unfold etchhouseref2_ofKinds
  rw [fld_fun (s := ([] : List Pin)) (fun j => (n.Pins.take j).filter (fun p => decide (kindS t x p ∈ ks))) (by omega) rfl (fun j hj => by
    have hy : n.Pins[j]? = some n.Pins[j] := List.getElem?_eq_getElem hj
    have hl := List.length_filter_le (fun p => decide (kindS t x p ∈ ks)) (n.Pins.take j)
    rw [List.length_take] at hl
    rw [idx_at hy, bnd_some, kindOf_eq ok hbt (ok.pin n hn _ (List.mem_of_getElem? hy)), bnd_some, contains_int hk, bnd_some, List.take_succ_eq_append_getElem hj, List.filter_append, app_some (by simp; omega)]
    cases h : decide (kindS t x n.Pins[j] ∈ ks)
    · simp [h, bnd_some]
    · simp [h, bnd_some]), bnd_some, List.take_length]
theorem f_one (K : Pin → Int) (P : List Pin) (k : Int) : P.filter (fun p => decide (K p ∈ [k])) = ofK K P k := by unfold ofK; congr 1; funext p; simp
theorem f_drv (K : Pin → Int) (P : List Pin) : P.filter (fun p => decide (K p ∈ [(2 : Int), 5])) = drv K P := by
  unfold drv; congr 1; funext p; rw [Bool.eq_iff_iff]; simp
theorem bif_pt {b : Bool} {l : List Finding} {f : Finding} (hl : l.length ≤ 2000000000) : (bif b then ((app 48 l ([f] : (List Finding))).bind fun (x74 : (List Finding)) => some x74) else (some l)) = some (l ++ pt1 b f) := by
  unfold pt1
  cases b
  · simp
  · rw [cond_true, app_some (by simp; omega)]; rfl
theorem netFindings_eq {t : List PartType} {x : Netlist} (ok : ListOk t x) (hbt : bk t ≤ 1048576) {n : Net} (hn : n ∈ x.Nets) : etchhouseref2_netFindings N t x n = some (netF (kindS t x) n) := by
  have hp := (ok.fewPins n hn).2
  unfold etchhouseref2_netFindings netF
  rw [ofKinds_eq ok hbt hn (by simp), bnd_some, ofKinds_eq ok hbt hn (by simp), bnd_some, f_one, f_one]
  rw [show (bif (decide ((((ofK (kindS t x) n.Pins 2).length : Nat) : Int) > 1)) then (some true) else (bif (decide ((((ofK (kindS t x) n.Pins 2).length : Nat) : Int) > 0)) then (some (decide ((((ofK (kindS t x) n.Pins 5).length : Nat) : Int) > 0))) else (some false))) = some (decide (1 < (ofK (kindS t x) n.Pins 2).length) || (decide (0 < (ofK (kindS t x) n.Pins 2).length) && decide (0 < (ofK (kindS t x) n.Pins 5).length))) by
    rw [dgt1, dgt, dgt]
    cases decide (1 < (ofK (kindS t x) n.Pins 2).length) <;> cases decide (0 < (ofK (kindS t x) n.Pins 2).length) <;> rfl, bnd_some]
  rw [ofKinds_eq ok hbt hn (by simp), bnd_some, f_drv, bif_pt (by simp), bnd_some, List.nil_append]
  generalize hA : pt1 (decide (1 < (ofK (kindS t x) n.Pins 2).length) || (decide (0 < (ofK (kindS t x) n.Pins 2).length) && decide (0 < (ofK (kindS t x) n.Pins 5).length))) ⟨1, n.Name, drv (kindS t x) n.Pins⟩ = A
  have lA : A.length ≤ 1 := by rw [← hA]; exact pt1_len _ _
  rw [ofKinds_eq ok hbt hn (by simp), bnd_some, f_one]
  rw [show (bif (decide ((((ofK (kindS t x) n.Pins 1).length : Nat) : Int) > 0)) then ((etchhouseref2_ofKinds N t x n ([2, 3, 6, 5] : (List Int))).bind fun (x99 : (List Pin)) => some (((x99.length : Nat) : Int) == 0)) else (some false)) = some (decide (0 < (ofK (kindS t x) n.Pins 1).length) && decide ((drv (kindS t x) n.Pins).length + (ofK (kindS t x) n.Pins 3).length + (ofK (kindS t x) n.Pins 6).length = 0)) by
    rw [ofKinds_eq ok hbt hn (by simp), bnd_some, deq0, kinds4, dgt]
    cases decide (0 < (ofK (kindS t x) n.Pins 1).length) <;> rfl, bnd_some, bif_pt (by omega), bnd_some]
  generalize hB : pt1 (decide (0 < (ofK (kindS t x) n.Pins 1).length) && decide ((drv (kindS t x) n.Pins).length + (ofK (kindS t x) n.Pins 3).length + (ofK (kindS t x) n.Pins 6).length = 0)) ⟨2, n.Name, ofK (kindS t x) n.Pins 1⟩ = B
  have lB : B.length ≤ 1 := by rw [← hB]; exact pt1_len _ _
  rw [ofKinds_eq ok hbt hn (by simp), bnd_some, f_one, dgt, deq0, bif_opt]
  rw [show (bif decide (0 < (ofK (kindS t x) n.Pins 4).length) then decide ((ofK (kindS t x) n.Pins 5).length = 0) else false) = (decide (0 < (ofK (kindS t x) n.Pins 4).length) && decide ((ofK (kindS t x) n.Pins 5).length = 0)) by cases decide (0 < (ofK (kindS t x) n.Pins 4).length) <;> rfl, bnd_some, bif_pt (by rw [List.length_append]; omega), bnd_some]
  generalize hC : pt1 (decide (0 < (ofK (kindS t x) n.Pins 4).length) && decide ((ofK (kindS t x) n.Pins 5).length = 0)) ⟨3, n.Name, ofK (kindS t x) n.Pins 4⟩ = C
  have lC : C.length ≤ 1 := by rw [← hC]; exact pt1_len _ _
  rw [ofKinds_eq ok hbt hn (by simp), bnd_some, f_one, dgt]
  rw [show (bif decide (0 < (ofK (kindS t x) n.Pins 7).length) then ((app 48 (A ++ B ++ C) ([(⟨4, n.Name, ofK (kindS t x) n.Pins 7⟩ : Finding)] : (List Finding))).bind fun (x143 : (List Finding)) => some (x143, ofK (kindS t x) n.Pins 7)) else (some (A ++ B ++ C, ofK (kindS t x) n.Pins 7))) = some (A ++ B ++ C ++ pt1 (decide (0 < (ofK (kindS t x) n.Pins 7).length)) ⟨4, n.Name, ofK (kindS t x) n.Pins 7⟩, ofK (kindS t x) n.Pins 7) by
    have := bif_pt (b := decide (0 < (ofK (kindS t x) n.Pins 7).length)) (l := A ++ B ++ C) (f := ⟨4, n.Name, ofK (kindS t x) n.Pins 7⟩) (by simp only [List.length_append]; omega)
    cases hd : decide (0 < (ofK (kindS t x) n.Pins 7).length)
    · simp [pt1]
    · rw [hd, cond_true] at this
      rw [cond_true]
      cases h : app 48 (A ++ B ++ C) ([(⟨4, n.Name, ofK (kindS t x) n.Pins 7⟩ : Finding)] : (List Finding)) with
      | none => rw [h] at this; cases this
      | some z => rw [h] at this; injection this with this; rw [bnd_some, this], bnd_some]
  dsimp only
  generalize hD : pt1 (decide (0 < (ofK (kindS t x) n.Pins 7).length)) ⟨4, n.Name, ofK (kindS t x) n.Pins 7⟩ = D
  have lD : D.length ≤ 1 := by rw [← hD]; exact pt1_len _ _
  rw [deq1, deq0, bif_opt]
  rw [show (bif decide (n.Pins.length = 1) then decide ((ofK (kindS t x) n.Pins 7).length = 0) else false) = (decide (n.Pins.length = 1) && decide ((ofK (kindS t x) n.Pins 7).length = 0)) by cases decide (n.Pins.length = 1) <;> rfl, bnd_some, clone_eq (by omega), bnd_some, bif_pt (by simp only [List.length_append]; omega)]
  rfl
theorem netPart {t : List PartType} {x : Netlist} (ok : ListOk t x) (hbt : bk t ≤ 1048576) (hN : 4194304 ≤ N) {n : Net} (hn : n ∈ x.Nets) {m : List (Int × List Pin)} (hm : ∀ k, mget m k [] = ofK (kindS t x) n.Pins k) {l : List Finding} (hl : l.length ≤ 1900000000) :
    ((netlist_Findings_c2 N 2 m).bind fun (x634 : Int) => bif (decide (x634 > 1)) then ((netlist_Findings_c3 N true 1 (drv (kindS t x) n.Pins) l (⟨n.Name, n.Pins, n.Ports⟩ : Net)).bind fun (x636 : (List Finding)) => some (x636, drv (kindS t x) n.Pins)) else ((netlist_Findings_c2 N 2 m).bind fun (x638 : Int) => bif (decide (x638 > 0)) then ((netlist_Findings_c2 N 5 m).bind fun (x640 : Int) => (netlist_Findings_c3 N (decide (x640 > 0)) 1 (drv (kindS t x) n.Pins) l (⟨n.Name, n.Pins, n.Ports⟩ : Net)).bind fun (x641 : (List Finding)) => some (x641, drv (kindS t x) n.Pins)) else ((netlist_Findings_c3 N false 1 (drv (kindS t x) n.Pins) l (⟨n.Name, n.Pins, n.Ports⟩ : Net)).bind fun (x643 : (List Finding)) => some (x643, drv (kindS t x) n.Pins))))
      = some (l ++ pt1 (decide (1 < (ofK (kindS t x) n.Pins 2).length) || (decide (0 < (ofK (kindS t x) n.Pins 2).length) && decide (0 < (ofK (kindS t x) n.Pins 5).length))) ⟨1, n.Name, drv (kindS t x) n.Pins⟩, drv (kindS t x) n.Pins) := by
  have hp := (ok.fewPins n hn).2
  have hd := drv_len (kindS t x) n.Pins
  simp only [c2_eq, bnd_some, hm]
  rw [dgt1, dgt, dgt, put_eq (by omega) (by omega), put_eq (by omega) (by omega), put_eq (by omega) (by omega)]
  cases decide (1 < (ofK (kindS t x) n.Pins 2).length) <;> cases decide (0 < (ofK (kindS t x) n.Pins 2).length) <;> rfl
def findS (t : List PartType) (x : Netlist) : List Finding := x.Nets.flatMap (netF (kindS t x)) ++ (looseOf t x).flatMap (fun p => if ((kindS t x p != 7) && (kindS t x p != 6)) = true then [⟨6, ⟨[]⟩, [p]⟩] else [])
theorem looseF {t : List PartType} {x : Netlist} (ok : ListOk t x) {l : List Finding} (hl : l.length ≤ 5000) (hll : (looseOf t x).length ≤ 1048576000) {kf : Pin → Option Int} (hk : ∀ p ∈ looseOf t x, kf p = some (kindS t x p)) :
    fld (looseOf t x).length (fun (k765 : Nat) (s766 : (List Finding)) => ((idx (looseOf t x) (k765 : Int)).bind fun (x810 : Pin) => (kf x810).bind fun (x814 : Int) => (bif ((x814 != 7) && (x814 != 6)) then ((app 48 s766 ([(⟨6, ⟨[]⟩, ([x810] : (List Pin))⟩ : Finding)] : (List Finding))).bind fun (x827 : (List Finding)) => some x827) else (some s766)).bind fun (s821 : (List Finding)) => some s821 : Option ((List Finding)))) l = some (l ++ (looseOf t x).flatMap (fun p => if ((kindS t x p != 7) && (kindS t x p != 6)) = true then [⟨6, ⟨[]⟩, [p]⟩] else [])) :=
  fld_flat _ (by omega) (fun k p hp => by
    have h1 := flatMap_take_len (fun p => if ((kindS t x p != 7) && (kindS t x p != 6)) = true then [(⟨6, ⟨[]⟩, [p]⟩ : Finding)] else []) 1 (looseOf t x) k (fun p _ => by split <;> simp)
    rw [idx_at hp, bnd_some, hk p (List.mem_of_getElem? hp), bnd_some, app_some (by simp only [List.length_append, List.length_cons, List.length_nil]; omega)]
    cases ((kindS t x p != 7) && (kindS t x p != 6)) <;> simp [bnd_some])
theorem nets_flat {t : List PartType} {x : Netlist} (ok : ListOk t x) (k : Nat) : ((x.Nets.take k).flatMap (netF (kindS t x))).length ≤ 5000 := by
  have := flatMap_take_len (netF (kindS t x)) 5 x.Nets k (fun n _ => netF_len _ n)
  have := ok.fewNets
  omega
theorem nFindings_right {t : List PartType} {x : Netlist} (hbt : bk t ≤ 1048576) (hbx : bk x ≤ 1048576) (hN : 4194304 ≤ N) (h1 : checkList t x = 0) : netlist_Findings N t x = some (findS t x, 0) := by
  have ok := checkList_ok h1
  have hfn := ok.fewNets
  have hll := looseS_len (x := x) hbt
  unfold looseS at hll
  rw [if_neg (by rw [h1]; simp)] at hll
  have hnl := nets_flat ok x.Nets.length
  rw [List.take_length] at hnl
  unfold netlist_Findings
  rw [netlist_CheckList_eq hbt hbx hN, bnd_some, h1, show ((0 : Int) != 0) = false by decide, cond_false]
  rw [fld_flat (s0 := ([] : List Finding)) (netF (kindS t x)) (by omega) (fun k n hn => by
    have hm := List.mem_of_getElem? hn
    have hp := (ok.fewPins n hm).2
    have hlk := nets_flat ok k
    have hd := drv_len (kindS t x) n.Pins
    have hK := ofK_len (kindS t x) n.Pins
    have k1 := hK 1; have k3 := hK 3; have k4 := hK 4; have k6 := hK 6; have k7 := hK 7
    obtain ⟨m, b1, b2⟩ := byLoop (N := N) ok hbt hN hm
    rw [List.nil_append]
    generalize (x.Nets.take k).flatMap (netF (kindS t x)) = l at hlk ⊢
    rw [idx_at hn, bnd_some, b1, bnd_some]
    dsimp only
    rw [netPart ok hbt hN hm b2 (by omega), bnd_some]
    dsimp only
    generalize hA : pt1 (decide (1 < (ofK (kindS t x) n.Pins 2).length) || (decide (0 < (ofK (kindS t x) n.Pins 2).length) && decide (0 < (ofK (kindS t x) n.Pins 5).length))) ⟨1, n.Name, drv (kindS t x) n.Pins⟩ = A
    have lA : A.length ≤ 1 := by rw [← hA]; exact pt1_len _ _
    rw [c2_eq, bnd_some, c2_eq, bnd_some, c2_eq, bnd_some, b2, b2, b2, w_small (by omega) (by omega), w_small (by omega) (by omega), deq0, dgt]
    rw [put_eq (by omega) (by rw [List.length_append]; omega), put_eq (by omega) (by rw [List.length_append]; omega)]
    rw [show ∀ (a b : Bool) (f : Finding) (l : List Finding), (bif a then ((some (l ++ pt1 b f)).bind fun (x667 : (List Finding)) => some x667) else ((some (l ++ pt1 false f)).bind fun (x672 : (List Finding)) => some x672)) = some (l ++ pt1 (a && b) f) from fun a b f l => by cases a <;> rfl, bnd_some]
    generalize hB : pt1 (decide (0 < (ofK (kindS t x) n.Pins 1).length) && decide ((drv (kindS t x) n.Pins).length + (ofK (kindS t x) n.Pins 3).length + (ofK (kindS t x) n.Pins 6).length = 0)) ⟨2, n.Name, ofK (kindS t x) n.Pins 1⟩ = B
    have lB : B.length ≤ 1 := by rw [← hB]; exact pt1_len _ _
    rw [c2_eq, bnd_some, c2_eq, bnd_some, b2, b2, dgt, deq0]
    rw [put_eq (by omega) (by simp only [List.length_append]; omega), put_eq (by omega) (by simp only [List.length_append]; omega)]
    rw [show ∀ (a b : Bool) (f : Finding) (l : List Finding), (bif a then ((some (l ++ pt1 b f)).bind fun (x667 : (List Finding)) => some x667) else ((some (l ++ pt1 false f)).bind fun (x672 : (List Finding)) => some x672)) = some (l ++ pt1 (a && b) f) from fun a b f l => by cases a <;> rfl, bnd_some]
    generalize hC : pt1 (decide (0 < (ofK (kindS t x) n.Pins 4).length) && decide ((ofK (kindS t x) n.Pins 5).length = 0)) ⟨3, n.Name, ofK (kindS t x) n.Pins 4⟩ = C
    have lC : C.length ≤ 1 := by rw [← hC]; exact pt1_len _ _
    rw [c2_eq, bnd_some, b2, dgt, put_eq (by omega) (by simp only [List.length_append]; omega), bnd_some]
    generalize hD : pt1 (decide (0 < (ofK (kindS t x) n.Pins 7).length)) ⟨4, n.Name, ofK (kindS t x) n.Pins 7⟩ = D
    have lD : D.length ≤ 1 := by rw [← hD]; exact pt1_len _ _
    rw [bnd_some, deq1, deq0]
    rw [put_eq (by omega) (by simp only [List.length_append]; omega), put_eq (by omega) (by simp only [List.length_append]; omega)]
    rw [show ∀ (a b : Bool) (f : Finding) (l : List Finding), (bif a then ((some (l ++ pt1 b f)).bind fun (x667 : (List Finding)) => some x667) else ((some (l ++ pt1 false f)).bind fun (x672 : (List Finding)) => some x672)) = some (l ++ pt1 (a && b) f) from fun a b f l => by cases a <;> rfl, bnd_some]
    unfold netF
    rw [hA, hB, hC, hD]
    simp only [List.append_assoc]), bnd_some, List.nil_append]
  rw [LooseOf_eq hbt hbx ok hN, bnd_some, looseF ok hnl hll (kf := fun p => netlist_Findings_c1 N p t x) (fun p hp => fc1_eq ok hbt hN (loose_has ok hp)), bnd_some]
  rfl
theorem rFindings_right {t : List PartType} {x : Netlist} (hbt : bk t ≤ 1048576) (hbx : bk x ≤ 1048576) (hN : 4194304 ≤ N) (h1 : checkList t x = 0) : etchhouseref2_Findings N t x = some (findS t x, 0) := by
  have ok := checkList_ok h1
  have hfn := ok.fewNets
  have hll := looseS_len (x := x) hbt
  unfold looseS at hll
  rw [if_neg (by rw [h1]; simp)] at hll
  have hnl := nets_flat ok x.Nets.length
  rw [List.take_length] at hnl
  unfold etchhouseref2_Findings
  rw [ref_CheckList_eq hbt hbx hN, bnd_some, h1, show ((0 : Int) != 0) = false by decide, cond_false]
  rw [fld_flat (s0 := ([] : List Finding)) (netF (kindS t x)) (by omega) (fun k n hn => by
    have hm := List.mem_of_getElem? hn
    have hlk := nets_flat ok k
    have := netF_len (kindS t x) n
    rw [idx_at hn, bnd_some, netFindings_eq ok hbt hm, bnd_some, List.nil_append, app_some (by omega), bnd_some]), bnd_some, List.nil_append]
  rw [ref_loose_eq hbt hbx ok, bnd_some, looseF ok hnl hll (kf := fun p => etchhouseref2_kindOf N t x p) (fun p hp => kindOf_eq ok hbt (loose_has ok hp)), bnd_some]
  rfl
theorem SameFindings_self {l : List Finding} (hl : l.length ≤ 2000000000) (h2 : ∀ f ∈ l, f.Pins.length ≤ 1048576) : etchhouseref2_SameFindings N l l = some true := by
  unfold etchhouseref2_SameFindings
  rw [show ((((l.length : Nat) : Int) != ((l.length : Nat) : Int)) = false) by simp, cond_false]
  rw [rng_unit (R := Bool) (fun _ => none) (by omega) (fun k hk _ => by
    have hx : l[k]? = some l[k] := List.getElem?_eq_getElem hk
    have e : slices_Equal_Pin N l[k].Pins l[k].Pins = gEqual l[k].Pins l[k].Pins := rfl
    rw [idx_at hx]
    simp only [bnd_some, bne_self_eq_false, cond_false, eqb_refl, Bool.not_true]
    rw [e, gEqual_eq (by have := h2 _ (List.getElem_mem hk); omega), bnd_some, decide_eq_true rfl]; rfl), bnd_some, fst?_none.2 (fun _ _ => rfl)]
  rfl
theorem NetlistFindingsMatchSpec_eq {t : List PartType} {x : Netlist} (hbt : bk t ≤ 1048576) (hbx : bk x ≤ 1048576) (hN : 4194304 ≤ N) : etchhouselaw2_NetlistFindingsMatchSpec N t x = some true := by
  unfold etchhouselaw2_NetlistFindingsMatchSpec
  by_cases h1 : checkList t x ≠ 0
  · have e : (checkList t x != 0) = true := by rw [bne_iff_ne]; exact h1
    have e1 : netlist_Findings N t x = some ([], checkList t x) := by unfold netlist_Findings; rw [netlist_CheckList_eq hbt hbx hN, bnd_some, e, cond_true]
    have e2 : etchhouseref2_Findings N t x = some ([], checkList t x) := by unfold etchhouseref2_Findings; rw [ref_CheckList_eq hbt hbx hN, bnd_some, e, cond_true]
    rw [e1, bnd_some, e2, bnd_some, SameFindings_self (by simp) (fun f hf => by simp at hf), bnd_some, awake_eq hN]
    simp [bnd_some]
  replace h1 := Decidable.not_not.1 h1
  have ok := checkList_ok h1
  have hll := looseS_len (x := x) hbt
  unfold looseS at hll
  rw [if_neg (by rw [h1]; simp)] at hll
  replace hll : (looseOf t x).length ≤ 1048576000 := hll
  have hnl := nets_flat ok x.Nets.length
  rw [List.take_length] at hnl
  have hlo := flatMap_len (fun p => if ((kindS t x p != 7) && (kindS t x p != 6)) = true then [(⟨6, ⟨[]⟩, [p]⟩ : Finding)] else []) 1 (looseOf t x) (fun p _ => by split <;> simp)
  rw [nFindings_right hbt hbx hN h1, bnd_some, rFindings_right hbt hbx hN h1, bnd_some, SameFindings_self (by unfold findS; rw [List.length_append]; omega) (fun f hf => by
    unfold findS at hf
    rcases List.mem_append.1 hf with hf | hf
    · obtain ⟨n, hn, hf⟩ := List.mem_flatMap.1 hf
      have hp := (ok.fewPins n hn).2
      have hd := drv_len (kindS t x) n.Pins
      have hK := ofK_len (kindS t x) n.Pins
      have k1 := hK 1; have k4 := hK 4; have k7 := hK 7
      have hpt : ∀ (b : Bool) (g : Finding), f ∈ pt1 b g → f = g := fun b g h => by unfold pt1 at h; split at h <;> simp at h; exact h
      unfold netF at hf
      simp only [List.mem_append] at hf
      rcases hf with (((h | h) | h) | h) | h <;> (rw [hpt _ _ h]; dsimp only; omega)
    · obtain ⟨p, _, hf⟩ := List.mem_flatMap.1 hf
      split at hf <;> simp at hf
      subst hf; simp), bnd_some, awake_eq hN]
  simp [bnd_some]
end
end Go.Gk
