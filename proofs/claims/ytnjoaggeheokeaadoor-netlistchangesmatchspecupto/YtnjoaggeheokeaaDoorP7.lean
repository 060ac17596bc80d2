/-
  Plain laws: changes of lists. No statement of the seed is proved here.
-/
import Derived.Test.YtnjoaggeheokeaaDoorP5
set_option linter.unusedVariables false
set_option linter.unusedSimpArgs false
set_option linter.unusedSectionVars false
namespace Go.Gk
open Go
section
variable {N : Nat}
theorem name_ne {n : Net} (h : isPath n.Name = true) : n.Name ≠ ⟨[]⟩ := fun e => by rw [e] at h; revert h; decide
def nmOf (x : Netlist) (p : Pin) : Str := match x.Nets.find? (fun n => decide (p ∈ n.Pins)) with | some n => n.Name | none => ⟨[]⟩
theorem nmOf_cases (x : Netlist) (p : Pin) : (netOf x p = -1 ∧ nmOf x p = ⟨[]⟩) ∨ ∃ (k : Nat) (n : Net), netOf x p = ((k : Nat) : Int) ∧ x.Nets[k]? = some n ∧ nmOf x p = n.Name := by
  unfold netOf nmOf
  rcases at?_cases x.Nets (fun n => decide (p ∈ n.Pins)) with ⟨h1, _⟩ | ⟨k, n, h1, h2, h3, _⟩
  · exact .inl ⟨h1, by rw [find_none h1]⟩
  · exact .inr ⟨k, n, h1, h2, by rw [find_at h1 h2]⟩
theorem netName_eq {x : Netlist} {p : Pin} (hb : bk x ≤ 1048576) : etchhouseref2_netName N x p = some (nmOf x p) := by
  unfold etchhouseref2_netName
  rw [ref_netOf_eq hb, bnd_some]
  rcases nmOf_cases x p with ⟨h1, h2⟩ | ⟨k, n, h1, h2, h3⟩
  · rw [h1, h2]; rfl
  · rw [h1, h3, decide_eq_true (by omega), cond_true, idx_at h2]; rfl
theorem nets_differ {t : List PartType} {a b : Netlist} (oka : ListOk t a) (okb : ListOk t b) (y : Pin) :
    (bif ((mhas (netMap a a.Nets.length) y) != (mhas (netMap b b.Nets.length) y)) then (some true) else (bif (mhas (netMap a a.Nets.length) y) then ((idx a.Nets (mget (netMap a a.Nets.length) y (0 : Int))).bind fun (x614 : Net) => (idx b.Nets (mget (netMap b b.Nets.length) y (0 : Int))).bind fun (x618 : Net) => some (!x614.Name.eqb x618.Name)) else (some false)))
    = some (!(nmOf a y).eqb (nmOf b y)) := by
  rw [(netOf_map oka y).1, (netOf_map okb y).1]
  rcases nmOf_cases a y with ⟨h1, h2⟩ | ⟨k, n, h1, h2, h3⟩ <;> rcases nmOf_cases b y with ⟨g1, g2⟩ | ⟨j, m, g1, g2, g3⟩
  · rw [h1, h2, g1, g2]; rfl
  · rw [h1, h2, g1, g3, decide_eq_true (show ((j : Nat) : Int) ≥ 0 by omega)]
    have := name_ne (okb.path m (List.mem_of_getElem? g2))
    rw [eqb_false.2 (fun e => this e.symm)]; rfl
  · rw [h1, h3, g1, g2, decide_eq_true (show ((k : Nat) : Int) ≥ 0 by omega)]
    have := name_ne (oka.path n (List.mem_of_getElem? h2))
    rw [eqb_false.2 this]; rfl
  · rw [(netOf_map oka y).2 (by omega), (netOf_map okb y).2 (by omega), h1, g1, h3, g3, decide_eq_true (show ((k : Nat) : Int) ≥ 0 by omega), decide_eq_true (show ((j : Nat) : Int) ≥ 0 by omega), idx_at h2, idx_at g2]; rfl

/-! ### The changes -/
def newS (a : Netlist) (p : Part) : List ListChange := if nat? Part.Name a.Parts p.Name < 0 then [⟨1, p.Name, ⟨[]⟩⟩] else []
def goneS (b : Netlist) (p : Part) : List ListChange := if nat? Part.Name b.Parts p.Name < 0 then [⟨2, p.Name, ⟨[]⟩⟩] else []
def typS (b : Netlist) (p : Part) : List ListChange := match b.Parts.find? (fun q => q.Name.eqb p.Name) with | some q => if q.Type_.eqb p.Type_ = true then [] else [⟨3, p.Name, ⟨[]⟩⟩] | none => []
def pinD (a b : Netlist) (y : Pin) : List ListChange := if (nmOf a y).eqb (nmOf b y) = true then [] else [⟨4, y.Part, y.Pin⟩]
def pinsS (t : List PartType) (a b : Netlist) (p : Part) : List ListChange := match b.Parts.find? (fun q => q.Name.eqb p.Name) with | some q => if q.Type_.eqb p.Type_ = true then (pinsOf t p).flatMap (pinD a b) else [] | none => []
def changesS (t : List PartType) (a b : Netlist) : List ListChange := b.Parts.flatMap (newS a) ++ a.Parts.flatMap (goneS b) ++ a.Parts.flatMap (typS b) ++ a.Parts.flatMap (pinsS t a b)
theorem newS_len (a : Netlist) (p : Part) : (newS a p).length ≤ 1 := by unfold newS; split <;> simp
theorem goneS_len (a : Netlist) (p : Part) : (goneS a p).length ≤ 1 := by unfold goneS; split <;> simp
theorem typS_len (a : Netlist) (p : Part) : (typS a p).length ≤ 1 := by unfold typS; split; split <;> simp; simp
theorem pinD_len (a b : Netlist) (y : Pin) : (pinD a b y).length ≤ 1 := by unfold pinD; split <;> simp
theorem pinsS_len {t : List PartType} {a b : Netlist} {p : Part} (hbt : bk t ≤ 1048576) (h : 0 ≤ nat? PartType.Name t p.Type_) : (pinsS t a b p).length ≤ 1048576 := by
  unfold pinsS
  split
  · split
    · have := flatMap_len (pinD a b) 1 (pinsOf t p) (fun y _ => pinD_len a b y)
      have h2 := typeFor_pins hbt h
      have h3 : (pinsOf t p).length = (typeFor t p).Pins.length := by unfold pinsOf; rw [List.length_map]
      omega
    · simp
  · simp
theorem c1_eq {k : Int} {s : Str} {l : List ListChange} (h : l.length ≤ 2000000000) : netlist_Changes_c1 N k s l = some (l ++ [⟨k, s, ⟨[]⟩⟩]) := by
  unfold netlist_Changes_c1
  rw [app_some (by simp only [List.length_cons, List.length_nil]; omega)]; rfl
theorem part_find (l : List Part) (s : Str) : (nat? Part.Name l s = -1 ∧ l.find? (fun q => q.Name.eqb s) = none) ∨ ∃ (k : Nat) (q : Part), nat? Part.Name l s = ((k : Nat) : Int) ∧ l[k]? = some q ∧ l.find? (fun q => q.Name.eqb s) = some q := by
  rcases nat?_cases Part.Name l s with ⟨h1, _⟩ | ⟨k, q, h1, h2, _⟩
  · exact .inl ⟨h1, find_none h1⟩
  · exact .inr ⟨k, q, h1, h2, find_at h1 h2⟩
theorem pinLoop {t : List PartType} {a b : Netlist} {p : Part} {body : Nat → List ListChange → Option (List ListChange)} {s : List ListChange} (hl : (pinsOf t p).length ≤ 1048576)
    (hs : s.length ≤ 1500000000) (h : ∀ k y s', (pinsOf t p)[k]? = some y → s'.length ≤ 2000000000 → body k s' = some (s' ++ pinD a b y)) : fld (pinsOf t p).length body s = some (s ++ (pinsOf t p).flatMap (pinD a b)) :=
  fld_flat (pinD a b) (by omega) (fun k y hy => h k y _ hy (by
    have := flatMap_take_len (pinD a b) 1 (pinsOf t p) k (fun y _ => pinD_len a b y)
    rw [List.length_append]; omega))
theorem netlist_diff {t : List PartType} {a b : Netlist} (hbt : bk t ≤ 1048576) (hba : bk a ≤ 1048576) (hbb : bk b ≤ 1048576) (oka : ListOk t a) (okb : ListOk t b) (hN : 4194304 ≤ N)
    (h1 : checkList t a = 0) (h2 : checkList t b = 0) : netlist_Changes N t a b = some (changesS t a b, 0) := by
  have hpa := bk_Netlist a
  have hpb := bk_Netlist b
  have hla := bk_len a.Parts
  have hlb := bk_len b.Parts
  have e2 : netlist_checkTwo N t a b = some 0 := by
    unfold netlist_checkTwo
    rw [netlist_CheckList_eq hbt hba hN, bnd_some, h1, netlist_CheckList_eq hbt hbb hN, bnd_some, h2]; rfl
  have L1 : (b.Parts.flatMap (newS a)).length ≤ 1000 := by have := flatMap_len (newS a) 1 b.Parts (fun p _ => newS_len a p); have := okb.few; omega
  have L2 : ∀ k, ((a.Parts.take k).flatMap (goneS b)).length ≤ 1000 := fun k => by have := flatMap_take_len (goneS b) 1 a.Parts k (fun p _ => goneS_len b p); have := oka.few; omega
  have L3 : ∀ k, ((a.Parts.take k).flatMap (typS b)).length ≤ 1000 := fun k => by have := flatMap_take_len (typS b) 1 a.Parts k (fun p _ => typS_len b p); have := oka.few; omega
  have L4 : ∀ k, ((a.Parts.take k).flatMap (pinsS t a b)).length ≤ 1048576000 := fun k => by
    have := flatMap_take_len (pinsS t a b) 1048576 a.Parts k (fun p hp => pinsS_len hbt (oka.parts.typed p hp)); have := oka.few; omega
  have L2' := L2 a.Parts.length
  have L3' := L3 a.Parts.length
  have L4' := L4 a.Parts.length
  rw [List.take_length] at L2' L3' L4'
  unfold netlist_Changes
  rw [e2, bnd_some, show ((0 : Int) != 0) = false by decide, cond_false, Nets_eq hba, bnd_some, Nets_eq hbb, bnd_some]
  rw [fld_flat (s0 := ([] : List ListChange)) (newS a) (by omega) (fun k p hp => by
    have := flatMap_take_len (newS a) 1 b.Parts k (fun p _ => newS_len a p)
    rw [idx_at hp, bnd_some, partAt_eq oka.parts.sorted (by omega) hN, bnd_some, List.nil_append]
    unfold newS at this ⊢
    rw [c1_eq (by omega)]
    by_cases hc : nat? Part.Name a.Parts p.Name < 0
    · rw [decide_eq_true hc, if_pos hc]; rfl
    · rw [decide_eq_false hc, if_neg hc, List.append_nil]; rfl), bnd_some, List.nil_append]
  rw [fld_flat (goneS b) (by omega) (fun k p hp => by
    have := L2 k
    rw [idx_at hp, bnd_some, partAt_eq okb.parts.sorted (by omega) hN, bnd_some]
    rw [c1_eq (by rw [List.length_append]; omega)]
    unfold goneS
    by_cases hc : nat? Part.Name b.Parts p.Name < 0
    · rw [decide_eq_true hc, if_pos hc]; rfl
    · rw [decide_eq_false hc, if_neg hc, List.append_nil]; rfl), bnd_some]
  rw [fld_fun (s := (b.Parts.flatMap (newS a) ++ a.Parts.flatMap (goneS b), ([] : List ListChange))) (fun k => (b.Parts.flatMap (newS a) ++ a.Parts.flatMap (goneS b) ++ (a.Parts.take k).flatMap (typS b), (a.Parts.take k).flatMap (pinsS t a b))) (by omega) (by simp) (fun k hk => by
    have hx : a.Parts[k]? = some a.Parts[k] := List.getElem?_eq_getElem hk
    have hm := List.mem_of_getElem? hx
    have l3 := L3 k
    have l4 := L4 k
    rw [List.take_succ_eq_append_getElem hk, List.flatMap_append, List.flatMap_append]
    simp only [List.flatMap_cons, List.flatMap_nil, List.append_nil]
    rw [idx_at hx, bnd_some, partAt_eq okb.parts.sorted (by omega) hN, bnd_some]
    generalize a.Parts[k] = p at hm ⊢
    have hty := oka.parts.typed p hm
    have hpl : (pinsOf t p).length ≤ 1048576 := by unfold pinsOf; rw [List.length_map]; exact typeFor_pins hbt hty
    rcases part_find b.Parts p.Name with ⟨g1, g2⟩ | ⟨j, q, g1, g2, g3⟩
    · rw [g1]
      have e1 : typS b p = [] := by unfold typS; rw [g2]
      have e2 : pinsS t a b p = [] := by unfold pinsS; rw [g2]
      rw [e1, e2, List.append_nil, List.append_nil]; rfl
    · rw [g1, decide_eq_false (by omega), cond_false, idx_at g2, bnd_some]
      by_cases hq : q.Type_.eqb p.Type_ = true
      · have e1 : typS b p = [] := by unfold typS; rw [g3]; simp only [hq]; rfl
        have e2 : pinsS t a b p = (pinsOf t p).flatMap (pinD a b) := by unfold pinsS; rw [g3]; simp only [hq]; rfl
        rw [hq, Bool.not_true, cond_false, pinsOf_eq oka.types.sorted hbt hty hN, bnd_some, e1, e2, List.append_nil]
        rw [pinLoop (a := a) (b := b) hpl (by omega) (fun j y s' hy hs' => by
          rw [idx_at hy, bnd_some, nets_differ oka okb, bnd_some]
          unfold pinD
          cases (nmOf a y).eqb (nmOf b y)
          · rw [Bool.not_false, cond_true, app_some (by simp only [List.length_cons, List.length_nil]; omega)]; rfl
          · simp)]; rfl
      · replace hq : q.Type_.eqb p.Type_ = false := by simpa using hq
        have e1 : typS b p = [⟨3, p.Name, ⟨[]⟩⟩] := by unfold typS; rw [g3]; simp only [hq]; rfl
        have e2 : pinsS t a b p = [] := by unfold pinsS; rw [g3]; simp only [hq]; rfl
        rw [hq, Bool.not_false, cond_true, c1_eq (by simp only [List.length_append]; omega), e1, e2, List.append_nil, List.append_assoc]; simp), bnd_some]
  dsimp only
  rw [List.take_length, app_some (by simp only [List.length_append]; omega)]; rfl

/-! ### The reference -/
theorem Grow_eq {n : Nat} (h : n ≤ 2000000000) : slices_Grow_ListChange_nil N ((n : Nat) : Int) = some [] := by
  unfold slices_Grow_ListChange_nil
  have w1 : IntKind.wrap .i64 (((0 : Nat) : Int) - ((0 : Nat) : Int)) = 0 := by decide
  have w2 : IntKind.wrap .i64 (((n : Nat) : Int) - 0) = ((n : Nat) : Int) := by rw [IntKind.wrap_i64]; omega
  rw [decide_eq_false (by omega), cond_false, w1, w2]
  by_cases hn : n = 0
  · subst hn; rfl
  · rw [decide_eq_true (by omega), cond_true]
    unfold appz
    rw [if_pos ⟨by omega, by omega⟩, bnd_some]
    have := slc_take (List.replicate n (⟨0, ⟨[]⟩, ⟨[]⟩⟩ : ListChange)) 0 (Nat.zero_le _)
    rw [Int.toNat_natCast, this]; rfl
theorem Concat_eq {ll : List (List ListChange)} (hn : ll.length ≤ 1048576) (h : ll.flatten.length ≤ 2000000000) : slices_Concat_ListChange N ll = some ll.flatten := by
  have hk : ∀ k, ((ll.take k).flatten).length ≤ ll.flatten.length := fun k => by
    have := congrArg List.length (congrArg List.flatten (List.take_append_drop k ll))
    rw [List.flatten_append, List.length_append] at this; omega
  have hs : ∀ k, k < ll.length → ((ll.take (k + 1)).flatten) = (ll.take k).flatten ++ ll[k]! := fun k hk => by
    rw [List.take_succ_eq_append_getElem hk, List.flatten_append, getElem!_pos ll k hk]; simp
  unfold slices_Concat_ListChange
  rw [fld_fun (s := (0 : Int)) (fun k => ((((ll.take k).flatten).length : Nat) : Int)) (by omega) (by simp) (fun k hk' => by
    have h1 := hk (k + 1)
    rw [hs k hk', List.length_append] at h1
    rw [idx_nat _ _ hk', bnd_some, hs k hk', List.length_append, getElem!_pos ll k hk']
    rw [getElem!_pos ll k hk'] at h1
    have w : IntKind.wrap .i64 (((((ll.take k).flatten).length : Nat) : Int) + ((ll[k].length : Nat) : Int)) = ((((ll.take k).flatten).length + ll[k].length : Nat) : Int) := by rw [IntKind.wrap_i64]; omega
    rw [w, decide_eq_false (by omega)]; rfl), bnd_some, List.take_length, Grow_eq h, bnd_some]
  rw [fld_fun (s := ([] : List ListChange)) (fun k => (ll.take k).flatten) (by omega) (by simp) (fun k hk' => by
    have h1 := hk (k + 1)
    rw [hs k hk', List.length_append, getElem!_pos ll k hk'] at h1
    rw [idx_nat _ _ hk', bnd_some, app_some (by omega), bnd_some, hs k hk', getElem!_pos ll k hk']), bnd_some, List.take_length]
theorem ref_diff {t : List PartType} {a b : Netlist} (hbt : bk t ≤ 1048576) (hba : bk a ≤ 1048576) (hbb : bk b ≤ 1048576) (oka : ListOk t a) (okb : ListOk t b) (hN : 4194304 ≤ N)
    (h1 : checkList t a = 0) (h2 : etchhouseref2_checkList N t b = some 0) : etchhouseref2_Changes N t a b = some (changesS t a b, 0) := by
  have hpa := bk_Netlist a
  have hpb := bk_Netlist b
  have hla := bk_len a.Parts
  have hlb := bk_len b.Parts
  have hlt := bk_len t
  have L1 : (b.Parts.flatMap (newS a)).length ≤ 1000 := by have := flatMap_len (newS a) 1 b.Parts (fun p _ => newS_len a p); have := okb.few; omega
  have L2 : ∀ k, ((a.Parts.take k).flatMap (goneS b)).length ≤ 1000 := fun k => by have := flatMap_take_len (goneS b) 1 a.Parts k (fun p _ => goneS_len b p); have := oka.few; omega
  have L3 : ∀ k, ((a.Parts.take k).flatMap (typS b)).length ≤ 1000 := fun k => by have := flatMap_take_len (typS b) 1 a.Parts k (fun p _ => typS_len b p); have := oka.few; omega
  have L4 : ∀ k, ((a.Parts.take k).flatMap (pinsS t a b)).length ≤ 1048576000 := fun k => by
    have := flatMap_take_len (pinsS t a b) 1048576 a.Parts k (fun p hp => pinsS_len hbt (oka.parts.typed p hp)); have := oka.few; omega
  have L2' := L2 a.Parts.length
  have L3' := L3 a.Parts.length
  have L4' := L4 a.Parts.length
  rw [List.take_length] at L2' L3' L4'
  unfold etchhouseref2_Changes
  rw [ref_CheckList_eq hbt hba hN, bnd_some, h1, show ((0 : Int) != 0) = false by decide, cond_false, h2, bnd_some, show ((0 : Int) != 0) = false by decide, cond_false]
  rw [fld_flat (s0 := ([] : List ListChange)) (newS a) (by omega) (fun k p hp => by
    have := flatMap_take_len (newS a) 1 b.Parts k (fun p _ => newS_len a p)
    rw [idx_at hp, bnd_some, partOf_eq (by omega), bnd_some, List.nil_append]
    unfold newS at this ⊢
    rw [app_some (by simp only [List.length_cons, List.length_nil]; omega), bnd_some]
    by_cases hc : nat? Part.Name a.Parts p.Name < 0
    · rw [decide_eq_true hc, if_pos hc]; rfl
    · rw [decide_eq_false hc, if_neg hc, List.append_nil]; rfl), bnd_some, List.nil_append]
  rw [fld_fun (s := (([] : List ListChange), ([] : List ListChange), ([] : List ListChange))) (fun k => ((a.Parts.take k).flatMap (goneS b), (a.Parts.take k).flatMap (typS b), (a.Parts.take k).flatMap (pinsS t a b))) (by omega) (by simp) (fun k hk => by
    have hx : a.Parts[k]? = some a.Parts[k] := List.getElem?_eq_getElem hk
    have hm := List.mem_of_getElem? hx
    have l2 := L2 k
    have l3 := L3 k
    have l4 := L4 k
    rw [List.take_succ_eq_append_getElem hk, List.flatMap_append, List.flatMap_append, List.flatMap_append]
    simp only [List.flatMap_cons, List.flatMap_nil, List.append_nil]
    rw [idx_at hx, bnd_some, partOf_eq (by omega), bnd_some]
    generalize a.Parts[k] = p at hm ⊢
    have hty := oka.parts.typed p hm
    have hpl : (pinsOf t p).length ≤ 1048576 := by unfold pinsOf; rw [List.length_map]; exact typeFor_pins hbt hty
    rcases part_find b.Parts p.Name with ⟨g1, g2⟩ | ⟨j, q, g1, g2, g3⟩
    · have e0 : goneS b p = [⟨2, p.Name, ⟨[]⟩⟩] := by unfold goneS; rw [g1]; rfl
      have e1 : typS b p = [] := by unfold typS; rw [g2]
      have e2 : pinsS t a b p = [] := by unfold pinsS; rw [g2]
      rw [g1, e0, e1, e2, List.append_nil, List.append_nil, decide_eq_true (by omega), cond_true, app_some (by simp only [List.length_cons, List.length_nil]; omega)]; rfl
    · have e0 : goneS b p = [] := by unfold goneS; rw [g1, if_neg (by omega)]
      rw [g1, e0, List.append_nil, decide_eq_false (by omega), cond_false, idx_at g2, bnd_some]
      by_cases hq : q.Type_.eqb p.Type_ = true
      · have e1 : typS b p = [] := by unfold typS; rw [g3]; simp only [hq]; rfl
        have e2 : pinsS t a b p = (pinsOf t p).flatMap (pinD a b) := by unfold pinsS; rw [g3]; simp only [hq]; rfl
        obtain ⟨i, i1, i2⟩ := typeFor_at hty
        have hpo : (pinsOf t p).length = (typeFor t p).Pins.length := by unfold pinsOf; rw [List.length_map]
        rw [hq, Bool.not_true, cond_false, typeOf_eq (by omega), bnd_some, i1, idx_at i2, bnd_some, e1, e2, List.append_nil, ← hpo]
        rw [pinLoop (a := a) (b := b) hpl (by omega) (fun j y s' hy hs' => by
          have hy2 : (typeFor t p).Pins[j]?.map (fun z => (⟨p.Name, z.Name⟩ : Pin)) = some y := by unfold pinsOf at hy; rw [List.getElem?_map] at hy; exact hy
          cases hz : (typeFor t p).Pins[j]? with
          | none => rw [hz] at hy2; cases hy2
          | some z =>
            rw [hz] at hy2
            injection hy2 with hy2
            subst hy2
            rw [idx_at hz, bnd_some, netName_eq hba, bnd_some, netName_eq hbb, bnd_some]
            unfold pinD
            cases (nmOf a ⟨p.Name, z.Name⟩).eqb (nmOf b ⟨p.Name, z.Name⟩)
            · rw [Bool.not_false, cond_true, app_some (by simp only [List.length_cons, List.length_nil]; omega)]; rfl
            · simp)]; rfl
      · replace hq : q.Type_.eqb p.Type_ = false := by simpa using hq
        have e1 : typS b p = [⟨3, p.Name, ⟨[]⟩⟩] := by unfold typS; rw [g3]; simp only [hq]; rfl
        have e2 : pinsS t a b p = [] := by unfold pinsS; rw [g3]; simp only [hq]; rfl
        rw [hq, Bool.not_false, cond_true, app_some (by simp only [List.length_cons, List.length_nil]; omega), e1, e2, List.append_nil]; rfl), bnd_some]
  dsimp only
  rw [List.take_length, Concat_eq (by simp) (by simp only [List.flatten_cons, List.flatten_nil, List.length_append, List.length_nil]; omega)]
  unfold changesS
  simp
def changesR (t : List PartType) (a b : Netlist) : List ListChange × Int := if checkList t a ≠ 0 then ([], checkList t a) else if checkList t b ≠ 0 then ([], checkList t b) else (changesS t a b, 0)
theorem netlist_Changes_eq {t : List PartType} {a b : Netlist} (hbt : bk t ≤ 1048576) (hba : bk a ≤ 1048576) (hbb : bk b ≤ 1048576) (hN : 4194304 ≤ N) : netlist_Changes N t a b = some (changesR t a b) := by
  unfold changesR
  by_cases h1 : checkList t a ≠ 0
  · rw [if_pos h1]
    unfold netlist_Changes netlist_checkTwo
    have e : (checkList t a != 0) = true := by rw [bne_iff_ne]; exact h1
    rw [netlist_CheckList_eq hbt hba hN, bnd_some, e, cond_true, bnd_some, e, cond_true]
  rw [if_neg h1]
  replace h1 := Decidable.not_not.1 h1
  by_cases h2 : checkList t b ≠ 0
  · rw [if_pos h2]
    unfold netlist_Changes netlist_checkTwo
    have e : (checkList t b != 0) = true := by rw [bne_iff_ne]; exact h2
    rw [netlist_CheckList_eq hbt hba hN, bnd_some, h1, show ((0 : Int) != 0) = false by decide, cond_false, netlist_CheckList_eq hbt hbb hN, bnd_some, bnd_some, e, cond_true]
  rw [if_neg h2]
  replace h2 := Decidable.not_not.1 h2
  exact netlist_diff hbt hba hbb (checkList_ok h1) (checkList_ok h2) hN h1 h2
theorem ref_Changes_eq {t : List PartType} {a b : Netlist} (hbt : bk t ≤ 1048576) (hba : bk a ≤ 1048576) (hbb : bk b ≤ 1048576) (hN : 4194304 ≤ N) : etchhouseref2_Changes N t a b = some (changesR t a b) := by
  unfold changesR
  by_cases h1 : checkList t a ≠ 0
  · rw [if_pos h1]
    unfold etchhouseref2_Changes
    have e : (checkList t a != 0) = true := by rw [bne_iff_ne]; exact h1
    rw [ref_CheckList_eq hbt hba hN, bnd_some, e, cond_true]
  rw [if_neg h1]
  replace h1 := Decidable.not_not.1 h1
  have e3 := ref_CheckList_eq (N := N) (t := t) (x := b) hbt hbb hN
  unfold etchhouseref2_CheckList at e3
  have ht : checkTypes t = 0 := by
    unfold checkList at h1
    by_cases h : checkTypes t ≠ 0
    · rw [if_pos h] at h1; exact h1
    · exact Decidable.not_not.1 h
  rw [ref_CheckTypes_eq hbt, bnd_some, ht, show ((0 : Int) != 0) = false by decide, cond_false] at e3
  have e4 : etchhouseref2_checkList N t b = some (checkList t b) := by
    cases h : etchhouseref2_checkList N t b with
    | none => rw [h] at e3; cases e3
    | some r => rw [h] at e3; exact e3
  by_cases h2 : checkList t b ≠ 0
  · rw [if_pos h2]
    unfold etchhouseref2_Changes
    have e : (checkList t b != 0) = true := by rw [bne_iff_ne]; exact h2
    rw [ref_CheckList_eq hbt hba hN, bnd_some, h1, show ((0 : Int) != 0) = false by decide, cond_false, e4, bnd_some, e, cond_true]
  rw [if_neg h2]
  replace h2 := Decidable.not_not.1 h2
  exact ref_diff hbt hba hbb (checkList_ok h1) (checkList_ok h2) hN h1 (by rw [e4, h2])
theorem changesR_len {t : List PartType} {a b : Netlist} (hbt : bk t ≤ 1048576) : (changesR t a b).1.length ≤ 2000000000 := by
  unfold changesR
  by_cases h1 : checkList t a ≠ 0
  · rw [if_pos h1]; simp
  rw [if_neg h1]
  by_cases h2 : checkList t b ≠ 0
  · rw [if_pos h2]; simp
  rw [if_neg h2]
  have oka := checkList_ok (Decidable.not_not.1 h1)
  have okb := checkList_ok (Decidable.not_not.1 h2)
  have l1 := flatMap_len (newS a) 1 b.Parts (fun p _ => newS_len a p)
  have l2 := flatMap_len (goneS b) 1 a.Parts (fun p _ => goneS_len b p)
  have l3 := flatMap_len (typS b) 1 a.Parts (fun p _ => typS_len b p)
  have l4 := flatMap_len (pinsS t a b) 1048576 a.Parts (fun p hp => pinsS_len hbt (oka.parts.typed p hp))
  have := oka.few
  have := okb.few
  unfold changesS
  simp only [List.length_append]
  omega
theorem changes_self {t : List PartType} {a : Netlist} (h : (changesR t a a).2 = 0) : (changesR t a a).1 = [] := by
  unfold changesR at h ⊢
  by_cases h1 : checkList t a ≠ 0
  · rw [if_pos h1]
  rw [if_neg h1, if_neg h1]
  have ok := checkList_ok (Decidable.not_not.1 h1)
  have hf : ∀ p ∈ a.Parts, a.Parts.find? (fun q => q.Name.eqb p.Name) = some p ∧ ¬ nat? Part.Name a.Parts p.Name < 0 := fun p hp => by
    obtain ⟨i, hi⟩ := List.getElem?_of_mem hp
    rcases nat?_cases Part.Name a.Parts p.Name with ⟨g1, g2⟩ | ⟨k, q, g1, g2, g3⟩
    · exact absurd rfl (g2 p hp)
    · have := ok.parts.sorted.inj g2 hi g3
      subst this
      rw [hi] at g2; injection g2 with g2; subst g2
      exact ⟨find_at g1 hi, by omega⟩
  unfold changesS
  simp only [List.append_eq_nil_iff, List.flatMap_eq_nil_iff]
  refine ⟨⟨⟨fun p hp => ?_, fun p hp => ?_⟩, fun p hp => ?_⟩, fun p hp => ?_⟩
  · unfold newS; rw [if_neg (hf p hp).2]
  · unfold goneS; rw [if_neg (hf p hp).2]
  · unfold typS; rw [(hf p hp).1]; simp [eqb_refl]
  · unfold pinsS; rw [(hf p hp).1]; simp [eqb_refl, pinD]
theorem NetlistChangesMatchSpec_eq {t : List PartType} {a b : Netlist} (hbt : bk t ≤ 1048576) (hba : bk a ≤ 1048576) (hbb : bk b ≤ 1048576) (hN : 4194304 ≤ N) : etchhouselaw2_NetlistChangesMatchSpec N t a b = some true := by
  have h1 := changesR_len (t := t) (a := a) (b := b) hbt
  unfold etchhouselaw2_NetlistChangesMatchSpec
  rw [netlist_Changes_eq hbt hba hbb hN, bnd_some, ref_Changes_eq hbt hba hbb hN, bnd_some, netlist_Changes_eq hbt hba hba hN, bnd_some]
  have e : slices_Equal_ListChange N (changesR t a b).1 (changesR t a b).1 = gEqual (changesR t a b).1 (changesR t a b).1 := rfl
  rw [e, gEqual_eq (by omega), bnd_some, awake_eq hN]
  simp only [bne_self_eq_false, cond_false, decide_true, Bool.not_true, bnd_some]
  by_cases hz : (changesR t a a).2 = 0
  · rw [changes_self hz, hz]; rfl
  · have e : ((changesR t a a).2 != 0) = true := by rw [bne_iff_ne]; exact hz
    rw [e]; rfl
end
end Go.Gk
