/-
  Plain laws: islands. No statement of the seed is proved here.
-/
import Derived.Test.YtnjoaggeheokeaaDoorP5
import Derived.Test.YtnjoaggeheokeaaDoorQ2
set_option linter.unusedVariables false
set_option linter.unusedSimpArgs false
set_option linter.unusedSectionVars false
namespace Go.Gk
open Go
section
variable {N : Nat}
/-! ### Names in order -/
def namesErr (l : List Str) (most : Nat) (b : Str → Bool) : Int :=
  if most < l.length then 2 else (fst? (R := Int) l.length (fun k => match l[k]? with | some s => if b s = false then some 9 else if ordBad (fun x => x) l k = true then some 8 else none | none => none)).getD 0
theorem ord_str {l : List Str} {k : Nat} {x : Str} (hx : l[k]? = some x) (hl : l.length ≤ 1048576) :
    (bif (decide (((k : Nat) : Int) > 0)) then ((idx l (IntKind.wrap .i64 (((k : Nat) : Int) - 1))).bind fun (x51 : Str) => some (x.ltb x51 || x.eqb x51)) else (some false)) = some (ordBad (fun x => x) l k) := ord_eq (fun x => x) hx hl
theorem checkNames_eq {l : List Str} {most : Nat} {φ : Str → Option Bool} {b : Str → Bool} (hφ : ∀ s ∈ l, φ s = some (b s)) (hl : l.length ≤ 1048576) :
    netlist_checkNames N l ((most : Nat) : Int) φ = some (namesErr l most b) := by
  unfold netlist_checkNames namesErr
  by_cases h : most < l.length
  · rw [decide_eq_true (by omega), cond_true, if_pos h]
  · rw [decide_eq_false (by omega), cond_false, if_neg h]
    rw [rng_unit (R := Int) (fun k => match l[k]? with | some s => if b s = false then some 9 else if ordBad (fun x => x) l k = true then some 8 else none | none => none) (by omega) (fun k hk _ => by
      have hx : l[k]? = some l[k] := List.getElem?_eq_getElem hk
      rw [idx_at hx, bnd_some, hφ _ (List.getElem_mem hk), bnd_some, hx]
      dsimp only
      cases hb : b l[k]
      · rfl
      · rw [Bool.not_true, cond_false, ord_str hx hl, bnd_some]
        cases ordBad (fun x => x) l k <;> rfl), bnd_some]
    exact rtgo_int _
theorem names_ok {l : List Str} {most : Nat} {b : Str → Bool} (h : namesErr l most b = 0) : l.length ≤ most ∧ Sorted (fun x => x) l ∧ ∀ s ∈ l, b s = true := by
  unfold namesErr at h
  by_cases h1 : most < l.length
  · rw [if_pos h1] at h; cases h
  rw [if_neg h1] at h
  have hk := getD_zero (fun k r hk => by
    split at hk
    · split at hk
      · injection hk with hk; omega
      · split at hk
        · injection hk with hk; omega
        · cases hk
    · cases hk) h
  refine ⟨by omega, sorted_of_ord fun k hk' => ?_, fun s hs => ?_⟩
  · have := hk k hk'
    rw [List.getElem?_eq_getElem hk'] at this
    dsimp only at this
    split at this
    · cases this
    · split at this
      · cases this
      · rename_i h2; simpa using h2
  · obtain ⟨k, hk'⟩ := List.getElem?_of_mem hs
    obtain ⟨hlt, rfl⟩ := List.getElem?_eq_some_iff.1 hk'
    have := hk k hlt
    rw [hk'] at this
    dsimp only at this
    split at this
    · cases this
    · rename_i h2; simpa using h2
theorem NetAt_eq {x : Netlist} {s : Str} (hs : Sorted Net.Name x.Nets) (hl : x.Nets.length ≤ 1048576) (hN : 4194304 ≤ N) : netlist_NetAt N x s = some (nat? Net.Name x.Nets s) := by
  obtain ⟨r, h1, h2⟩ := gBSF_eq (N := N) (key := Net.Name) (l := x.Nets) (s := s) (φ := netlist_NetAt_c1 N) (fun y => rfl) hs hl hN
  unfold netlist_NetAt
  rw [← h2]
  show (gBSF N x.Nets s (netlist_NetAt_c1 N)).bind _ = _
  rw [h1]; rfl
theorem netNamed_eq {x : Netlist} {s : Str} (hl : x.Nets.length ≤ 1048576) : etchhouseref2_netNamed N x s = some (nat? Net.Name x.Nets s) := gScan_eq (by omega)
def isNet (x : Netlist) (s : Str) : Bool := x.Nets.any (fun n => n.Name.eqb s)
theorem checkNetNames_eq {x : Netlist} {l : List Str} (hx : x.Nets.length ≤ 1048576) (hl : l.length ≤ 1048576) : etchhouseref2_checkNetNames N x l = some (namesErr l 1000 (isNet x)) := by
  unfold etchhouseref2_checkNetNames namesErr
  by_cases h : 1000 < l.length
  · rw [decide_eq_true (by omega), cond_true, if_pos h]
  · rw [decide_eq_false (by omega), cond_false, if_neg h]
    rw [rng_unit (R := Int) (fun k => match l[k]? with | some s => if isNet x s = false then some 9 else if ordBad (fun x => x) l k = true then some 8 else none | none => none) (by omega) (fun k hk _ => by
      have hx' : l[k]? = some l[k] := List.getElem?_eq_getElem hk
      rw [idx_at hx', bnd_some, netNamed_eq hx, bnd_some, hx']
      dsimp only
      have : decide (nat? Net.Name x.Nets l[k] < 0) = !isNet x l[k] := at?_lt _ _
      rw [this]
      cases hb : isNet x l[k]
      · rfl
      · rw [Bool.not_true, cond_false, ord_str hx' hl, bnd_some]
        cases ordBad (fun x => x) l k <;> rfl), bnd_some]
    exact rtgo_int _
/-- slices.BinarySearch in a row of names -/
theorem has_eq {l : List Str} {s : Str} (hs : Sorted (fun x => x) l) (hl : l.length ≤ 1048576) (hN : 4194304 ≤ N) : netlist_has N l s = some (decide (s ∈ l)) := by
  unfold netlist_has slices_BinarySearch_string
  have h := itr_inv (S := Int × Int) (R := Empty)
    (body := fun (s32 : Int × Int) => (bif (decide (s32.1 < s32.2)) then ((idx l (IntKind.wrap .i64 (Int.fdiv (IntKind.wrap .u64 (IntKind.wrap .i64 (s32.1 + s32.2))) 2))).bind fun (x41 : Str) => (cmp_Less_string N x41 s).bind fun (x43 : Bool) => (bif x43 then (some ((IntKind.wrap .i64 ((IntKind.wrap .i64 (Int.fdiv (IntKind.wrap .u64 (IntKind.wrap .i64 (s32.1 + s32.2))) 2)) + 1)), s32.2)) else (some (s32.1, (IntKind.wrap .i64 (Int.fdiv (IntKind.wrap .u64 (IntKind.wrap .i64 (s32.1 + s32.2))) 2))))).bind fun (s44 : Int × Int) => some (.nx (s44.1, s44.2))) else (some (.br (s32.1, s32.2))) : Option (Fl (Int × Int) Empty)))
    (fun st => ∃ a b : Nat, st = (((a : Nat) : Int), ((b : Nat) : Int)) ∧ a ≤ b ∧ b ≤ l.length ∧ (∀ j x, j < a → l[j]? = some x → Str.lt x s) ∧ (∀ j x, b ≤ j → l[j]? = some x → ¬ Str.lt x s))
    (fun st => (st.2 - st.1).toNat)
    (fun st => ∃ a : Nat, st.1 = ((a : Nat) : Int) ∧ a ≤ l.length ∧ (∀ j x, j < a → l[j]? = some x → Str.lt x s) ∧ (∀ j x, a ≤ j → l[j]? = some x → ¬ Str.lt x s))
    (fun _ => True) (by
      rintro st ⟨a, b, rfl, hab, hb, h1, h2⟩
      by_cases hlt : a < b
      · have hm : (a + b) / 2 < l.length := by omega
        have hd : decide (((a : Nat) : Int) < ((b : Nat) : Int)) = true := by rw [decide_eq_true_eq]; omega
        have hless : cmp_Less_string N l[(a + b) / 2] s = some (l[(a + b) / 2].ltb s) := by
          unfold cmp_Less_string cmp_isNaN_string
          cases h : (l[(a + b) / 2].ltb s) <;> simp [h, eqb_refl]
        simp only [hd, cond_true, wrap_half hlt (by omega : b ≤ 4611686018427387904), idx_nat l _ hm, bnd_some, hless]
        by_cases hc' : Str.lt l[(a + b) / 2] s
        · have hc : l[(a + b) / 2].ltb s = true := hc'
          simp only [hc, cond_true, bnd_some]
          refine ⟨_, rfl, ⟨(a + b) / 2 + 1, b, ?_, by omega, hb, fun j x hj hx => ?_, h2⟩, ?_⟩
          · rw [wrap_in (by omega) (by omega)]; simp
          · by_cases e : j = (a + b) / 2
            · subst e; rw [List.getElem?_eq_getElem hm] at hx; injection hx with hx; subst hx; exact hc'
            · exact Str.lt_trans (hs j _ x _ (by omega) hx (List.getElem?_eq_getElem hm)) hc'
          · rw [wrap_in (by omega) (by omega)]; simp only; omega
        · have hc : l[(a + b) / 2].ltb s = false := by unfold Str.lt at hc'; simpa using hc'
          simp only [hc, cond_false, bnd_some]
          refine ⟨_, rfl, ⟨a, (a + b) / 2, rfl, by omega, by omega, h1, fun j x hj hx => ?_⟩, by simp only; omega⟩
          by_cases e : j = (a + b) / 2
          · subst e; rw [List.getElem?_eq_getElem hm] at hx; injection hx with hx; subst hx; exact hc'
          · exact fun h3 => hc' (Str.lt_trans (hs _ j _ x (by omega) (List.getElem?_eq_getElem hm) hx) h3)
      · have hd : decide (((a : Nat) : Int) < ((b : Nat) : Int)) = false := by rw [decide_eq_false_iff_not]; omega
        simp only [hd, cond_false]
        exact ⟨_, rfl, a, rfl, by omega, h1, fun j x hj hx => h2 j x (by omega) hx⟩)
    N (0, ((l.length : Nat) : Int)) ⟨0, l.length, rfl, by omega, Nat.le_refl _, fun j x hj => by omega, fun j x hj hx => by have := (List.getElem?_eq_some_iff.1 hx).1; omega⟩ (by simp only; omega)
  obtain ⟨o, ho, hc⟩ := h
  rw [ho, bnd_some]
  cases o with
  | rt r => exact r.elim
  | go st =>
    obtain ⟨a, ha, hle, h1, h2⟩ := hc
    have hnan : ∀ z, slices_isNaN_string N z = some false := fun z => by unfold slices_isNaN_string; rw [eqb_refl]; rfl
    simp only [Fo.cs, ha]
    by_cases hlt : a < l.length
    · have hd : decide (((a : Nat) : Int) < ((l.length : Nat) : Int)) = true := by rw [decide_eq_true_eq]; omega
      simp only [hd, cond_true, idx_nat l _ hlt, bnd_some, hnan, cond_false]
      by_cases he : l[a] = s
      · rw [he, eqb_refl, cond_true, bnd_some, bnd_some, decide_eq_true (by rw [← he]; exact List.getElem_mem hlt)]
      · rw [eqb_false.2 he, cond_false, bnd_some, bnd_some]
        congr 1
        symm
        rw [decide_eq_false_iff_not]
        intro hx
        obtain ⟨j, hj⟩ := List.getElem?_of_mem hx
        by_cases hja : j < a
        · exact Str.lt_irrefl _ (h1 j _ hja hj)
        · by_cases e : j = a
          · subst e; rw [List.getElem?_eq_getElem hlt] at hj; injection hj with hj; exact he hj
          · exact h2 a _ (Nat.le_refl _) (List.getElem?_eq_getElem hlt) (hs a j _ s (by omega) (List.getElem?_eq_getElem hlt) hj)
    · have hd : decide (((a : Nat) : Int) < ((l.length : Nat) : Int)) = false := by rw [decide_eq_false_iff_not]; omega
      simp only [hd, cond_false, bnd_some]
      congr 1
      symm
      rw [decide_eq_false_iff_not]
      intro hx
      obtain ⟨j, hj⟩ := List.getElem?_of_mem hx
      have := (List.getElem?_eq_some_iff.1 hj).1
      exact Str.lt_irrefl _ (h1 j _ (by omega) hj)

/-! ### The parts of pins -/
def ixP (x : Netlist) (p : Pin) : Nat := (nat? Part.Name x.Parts p.Part).toNat
theorem ix_ok {t : List PartType} {x : Netlist} (ok : ListOk t x) {n : Net} (hn : n ∈ x.Nets) {p : Pin} (hp : p ∈ n.Pins) : nat? Part.Name x.Parts p.Part = ((ixP x p : Nat) : Int) ∧ ixP x p < x.Parts.length := by
  have h := ok.pin n hn p hp
  unfold ixP
  rcases nat?_cases Part.Name x.Parts p.Part with ⟨h1, h2⟩ | ⟨k, q, h1, h2, _⟩
  · unfold hasPin at h
    have : x.Parts.find? (fun y => y.Name.eqb p.Part) = none := find_none h1
    rw [this] at h; cases h
  · rw [h1]; exact ⟨by simp, by simpa using (List.getElem?_eq_some_iff.1 h2).1⟩
def netE (x : Netlist) (W : List Str) (n : Net) : List (Nat × Nat) := if n.Name ∈ W then [] else n.Pins.map (fun p => (ixP x p, ixP x (n.Pins.headD default)))
def allE (x : Netlist) (W : List Str) (k : Nat) : List (Nat × Nat) := (x.Nets.take k).flatMap (netE x W)
def UE (n : Nat) (up : List Int) (E : List (Nat × Nat)) : Prop := ∃ r, UF n up r ∧ Coarse r E ∧ Fine n r E
theorem netLoop {t : List PartType} {x : Netlist} {W : List Str} (ok : ListOk t x) (hW : Sorted (fun x => x) W) (hWl : W.length ≤ 1048576) (hN : 4194304 ≤ N) {up : List Int} (h0 : UE x.Parts.length up []) :
    ∃ up', fld x.Nets.length (fun (k42 : Nat) (s43 : (List Int)) => ((idx x.Nets (k42 : Int)).bind fun (x223 : Net) => (netlist_has N W x223.Name).bind fun (x227 : Bool) => bif x227 then (some s43) else ((fld x223.Pins.length (fun (k229 : Nat) (s230 : (List Int)) => ((idx x223.Pins (k229 : Int)).bind fun (x284 : Pin) => (netlist_partAt N x.Parts x284.Part).bind fun (x290 : Int) => (idx x223.Pins 0).bind fun (x294 : Pin) => (netlist_partAt N x.Parts x294.Part).bind fun (x297 : Int) => (netlist_Union_Join N s230 x290 x297).bind fun (x298 : (List Int)) => some x298 : Option ((List Int)))) s43).bind fun (s230 : (List Int)) => some s230) : Option ((List Int)))) up = some up' ∧ UE x.Parts.length up' (allE x W x.Nets.length) := by
  have hfew := ok.few
  have hfn := ok.fewNets
  refine fld_inv (fun k up => UE x.Parts.length up (allE x W k)) (by omega) (by unfold allE; exact h0) (fun k up hk hu => ?_)
  have hx : x.Nets[k]? = some x.Nets[k] := List.getElem?_eq_getElem hk
  have hm := List.mem_of_getElem? hx
  have hE : allE x W (k + 1) = allE x W k ++ netE x W x.Nets[k] := by unfold allE; rw [List.take_succ_eq_append_getElem hk, List.flatMap_append]; simp
  rw [hE]
  rw [idx_at hx, bnd_some, has_eq hW hWl hN, bnd_some]
  generalize x.Nets[k] = n at hm hE ⊢
  clear hE
  by_cases hc : n.Name ∈ W
  · rw [decide_eq_true hc, cond_true]
    refine ⟨up, rfl, ?_⟩
    unfold netE; rw [if_pos hc, List.append_nil]; exact hu
  · rw [decide_eq_false hc, cond_false]
    obtain ⟨hp0, hp1⟩ := ok.fewPins n hm
    have hfirst : n.Pins[0]? = some (n.Pins.headD default) := by
      cases hpp : n.Pins with
      | nil => rw [hpp] at hp0; simp at hp0
      | cons a l => rfl
    have hfm := List.mem_of_getElem? hfirst
    obtain ⟨f1, f2⟩ := ix_ok ok hm hfm
    have := fld_inv (m := n.Pins.length) (s := up) (body := fun (k229 : Nat) (s230 : (List Int)) => ((idx n.Pins (k229 : Int)).bind fun (x284 : Pin) => (netlist_partAt N x.Parts x284.Part).bind fun (x290 : Int) => (idx n.Pins 0).bind fun (x294 : Pin) => (netlist_partAt N x.Parts x294.Part).bind fun (x297 : Int) => (netlist_Union_Join N s230 x290 x297).bind fun (x298 : (List Int)) => some x298 : Option ((List Int))))
      (fun j up => UE x.Parts.length up (allE x W k ++ (n.Pins.take j).map (fun p => (ixP x p, ixP x (n.Pins.headD default))))) (by omega) (by simpa using hu) (fun j up hj hu => by
        have hy : n.Pins[j]? = some n.Pins[j] := List.getElem?_eq_getElem hj
        have hym := List.mem_of_getElem? hy
        obtain ⟨g1, g2⟩ := ix_ok ok hm hym
        obtain ⟨r, u1, u2, u3⟩ := hu
        obtain ⟨up', j1, j2⟩ := Join_eq (N := N) u1 g2 f2 (by omega)
        refine ⟨up', ?_, ?_⟩
        · rw [idx_at hy, bnd_some, partAt_eq ok.parts.sorted (by omega) hN, bnd_some, show (0 : Int) = ((0 : Nat) : Int) from rfl, idx_at hfirst, bnd_some, partAt_eq ok.parts.sorted (by omega) hN, bnd_some, f1, g1, j1, bnd_some]
        · rw [List.take_succ_eq_append_getElem hj, List.map_append, ← List.append_assoc]
          exact ⟨_, j2, u2.join _ _ (u1.rr _ g2), u3.join g2 f2⟩)
    obtain ⟨up', a1, a2⟩ := this
    refine ⟨up', ?_, ?_⟩
    · rw [a1, bnd_some]
    · rw [List.take_length] at a2
      unfold netE; rw [if_neg hc]; exact a2
def nmP (x : Netlist) (i : Nat) : Str := (x.Parts.getD i default).Name
def islesS (x : Netlist) (r : Nat → Nat) : List (List Str) := (heads x.Parts.length r).map (fun k => (cls x.Parts.length r k).map (nmP x))
theorem nm_at {x : Netlist} {i : Nat} (h : i < x.Parts.length) : x.Parts[i]? = some (x.Parts.getD i default) := by
  rw [List.getD_eq_getElem?_getD, List.getElem?_eq_getElem h]; rfl
theorem Islands_eq {t : List PartType} {x : Netlist} {W : List Str} (hbt : bk t ≤ 1048576) (hbx : bk x ≤ 1048576) (hbW : bk W ≤ 1048576) (hN : 4194304 ≤ N)
    (h1 : checkList t x = 0) (h2 : namesErr W 1000 (isNet x) = 0) : ∃ (r : Nat → Nat) (up : List Int), UF x.Parts.length up r ∧ Coarse r (allE x W x.Nets.length) ∧ Fine x.Parts.length r (allE x W x.Nets.length) ∧
      netlist_Islands N t x W = some (islesS x r, 0) := by
  have ok := checkList_ok h1
  have hWl := bk_len W
  have hxb := bk_Netlist x
  have hxn := bk_len x.Nets
  have hxp := bk_len x.Parts
  have hfew := ok.few
  have hcn : netlist_checkNames N W 1000 (fun y0 => netlist_Islands_c1 N y0 x) = some 0 := by
    have := checkNames_eq (N := N) (l := W) (most := 1000) (φ := fun y0 => netlist_Islands_c1 N y0 x) (b := isNet x) (fun s _ => by
      show netlist_Islands_c1 N s x = _
      unfold netlist_Islands_c1
      rw [NetAt_eq ok.nets (by omega) hN, bnd_some]
      congr 1
      exact at?_ge _ _) (by omega)
    rw [h2] at this; exact this
  obtain ⟨hw1, hw2, hw3⟩ := names_ok h2
  obtain ⟨u0, a1, a2⟩ := NewUnion_eq (N := N) (n := x.Parts.length) (by omega)
  obtain ⟨u1, b1, r, b2, b3, b4⟩ := netLoop (N := N) ok hw2 (by omega) hN ⟨_, a2, Coarse.id, Fine.id _⟩
  obtain ⟨u2, c1, c2⟩ := Sets_eq (N := N) b2 (by omega) (by omega)
  refine ⟨r, u2, c2, b3, b4, ?_⟩
  unfold netlist_Islands
  rw [netlist_CheckList_eq hbt hbx hN, bnd_some, h1, show ((0 : Int) != 0) = false by decide, cond_false, hcn, bnd_some, show ((0 : Int) != 0) = false by decide, cond_false, a1, bnd_some, b1, bnd_some, c1, bnd_some]
  dsimp only
  have hsl : (setsS x.Parts.length r).length = (heads x.Parts.length r).length := by unfold setsS; simp
  have hhl := heads_len x.Parts.length r
  rw [fld_fun (s := ([] : List (List Str))) (fun k => ((heads x.Parts.length r).take k).map (fun k => (cls x.Parts.length r k).map (nmP x))) (by omega) rfl (fun k hk => by
    rw [hsl] at hk
    have hh : (heads x.Parts.length r)[k]? = some (heads x.Parts.length r)[k] := List.getElem?_eq_getElem hk
    have hs : (setsS x.Parts.length r)[k]? = some ((cls x.Parts.length r (heads x.Parts.length r)[k]).map (fun i => ((i : Nat) : Int))) := by unfold setsS; rw [List.getElem?_map, hh]; rfl
    have hcl := cls_len x.Parts.length r (heads x.Parts.length r)[k]
    rw [idx_at hs, bnd_some]
    rw [fld_fun (s := ([] : List Str)) (fun j => ((cls x.Parts.length r (heads x.Parts.length r)[k]).take j).map (nmP x)) (by rw [List.length_map]; omega) rfl (fun j hj => by
      rw [List.length_map] at hj
      have hm : (cls x.Parts.length r (heads x.Parts.length r)[k])[j] ∈ cls x.Parts.length r (heads x.Parts.length r)[k] := List.getElem_mem hj
      have hlt : (cls x.Parts.length r (heads x.Parts.length r)[k])[j] < x.Parts.length := by
        have : ∀ a ∈ cls x.Parts.length r (heads x.Parts.length r)[k], a < x.Parts.length := fun a ha => by unfold cls at ha; exact List.mem_range.1 (List.mem_filter.1 ha).1
        exact this _ hm
      rw [idx_at (x := (((cls x.Parts.length r (heads x.Parts.length r)[k])[j] : Nat) : Int)) (by rw [List.getElem?_map, List.getElem?_eq_getElem hj]; rfl), bnd_some, idx_at (nm_at hlt), bnd_some, app_some (by simp; omega), bnd_some, List.take_succ_eq_append_getElem hj, List.map_append]
      rfl), bnd_some, app_some (by simp; omega), bnd_some, List.take_succ_eq_append_getElem hk, List.map_append, List.length_map, List.take_length]
    rfl), bnd_some, hsl, List.take_length]
  rfl

/-! ### The reference -/
def cF0 (l : List Bool) : Nat := l.count false
theorem cF_set : ∀ (l : List Bool) (i : Nat), l[i]? = some false → cF0 (l.set i true) + 1 = cF0 l
  | [], i, h => by simp at h
  | b :: l, 0, h => by simp at h; subst h; simp [cF0]
  | b :: l, i + 1, h => by
    have := cF_set l i (by simpa using h)
    unfold cF0 at this ⊢
    simp only [List.set_cons_succ, List.count_cons]
    omega
/-- what is seen grows -/
def Grows (a b : List Bool) : Prop := a.length = b.length ∧ ∀ (i : Nat), a[i]? = some true → b[i]? = some true
theorem Grows.refl (a : List Bool) : Grows a a := ⟨rfl, fun _ h => h⟩
theorem Grows.trans {a b c : List Bool} (h : Grows a b) (k : Grows b c) : Grows a c := ⟨h.1.trans k.1, fun i hi => k.2 i (h.2 i hi)⟩
theorem Grows.set (a : List Bool) (i : Nat) : Grows a (a.set i true) := ⟨by simp, fun j hj => by
  rw [List.getElem?_set]
  split
  · rename_i e; subst e; rw [if_pos (List.getElem?_eq_some_iff.1 hj).1]
  · exact hj⟩
theorem Contains_str {l : List Str} {s : Str} (hl : l.length ≤ 1048576) : slices_Contains_string N l s = some (decide (s ∈ l)) := by
  unfold slices_Contains_string
  have e : slices_Index_string N l s = some (at? l (fun y => s.eqb y)) := by
    unfold slices_Index_string
    have := gIndexFunc_eq (l := l) (φ := fun y => some (s.eqb y)) (fun y => s.eqb y) (by omega) (fun _ _ => rfl)
    rw [← this]
    rfl
  rw [e, bnd_some, at?_ge]
  congr 1
  rw [Bool.eq_iff_iff, decide_eq_true_eq, List.any_eq_true]
  constructor
  · rintro ⟨y, hy, h⟩; rw [eqb_iff.1 h]; exact hy
  · intro h; exact ⟨s, h, eqb_refl s⟩

/-- one net, while the island of k is looked for -/
def hitB (x : Netlist) (n : Net) (seen : List Bool) : Bool := n.Pins.any (fun p => seen.getD (ixP x p) false)
theorem getD_true {l : List Bool} {i : Nat} : l.getD i false = true ↔ l[i]? = some true := by
  rw [List.getD_eq_getElem?_getD]
  cases l[i]? with
  | none => simp
  | some b => cases b <;> simp
theorem get_of_lt {l : List Bool} {i : Nat} (h : i < l.length) : l[i]? = some (l.getD i false) := by
  rw [List.getD_eq_getElem?_getD, List.getElem?_eq_getElem h]; rfl
theorem hitLoop {t : List PartType} {x : Netlist} (ok : ListOk t x) {n : Net} (hn : n ∈ x.Nets) {seen : List Bool} (hs : seen.length = x.Parts.length) :
    fld n.Pins.length (fun (k783 : Nat) (s784 : Bool) => ((idx n.Pins (k783 : Int)).bind fun (x808 : Pin) => (bif s784 then (some true) else ((etchhouseref2_partOf N x.Parts x808.Part).bind fun (x819 : Int) => (idx seen x819).bind fun (x820 : Bool) => some x820)).bind fun (s816 : Bool) => some s816 : Option (Bool))) false = some (hitB x n seen) := by
  have hp := (ok.fewPins n hn).2
  have hfew := ok.few
  rw [fld_fun (s := false) (fun k => (n.Pins.take k).any (fun p => seen.getD (ixP x p) false)) (by omega) rfl (fun k hk => by
    have hy : n.Pins[k]? = some n.Pins[k] := List.getElem?_eq_getElem hk
    obtain ⟨g1, g2⟩ := ix_ok ok hn (List.mem_of_getElem? hy)
    rw [idx_at hy, bnd_some, List.take_succ_eq_append_getElem hk, List.any_append, partOf_eq (by omega), bnd_some, g1, idx_at (get_of_lt (by omega)), bnd_some]
    cases (n.Pins.take k).any (fun p => seen.getD (ixP x p) false) <;> simp [bnd_some]), List.take_length]
  rfl
theorem pinPass {t : List PartType} {x : Netlist} (ok : ListOk t x) {n : Net} (hn : n ∈ x.Nets) {hit : Bool} {seen : List Bool} {ch : Bool} (hs : seen.length = x.Parts.length) :
    ∃ s', fld n.Pins.length (fun (k822 : Nat) (s823 : (List Bool) × Bool) => ((idx n.Pins (k822 : Int)).bind fun (x852 : Pin) => (etchhouseref2_partOf N x.Parts x852.Part).bind fun (x857 : Int) => (bif hit then ((idx s823.1 x857).bind fun (x862 : Bool) => some (!x862)) else (some false)).bind fun (s860 : Bool) => (bif s860 then ((idx s823.1 x857).bind fun (x865 : Bool) => some ((s823.1.set (Int.toNat x857) true), true)) else (some (s823.1, s823.2))).bind fun (s864 : (List Bool) × Bool) => some (s864.1, s864.2) : Option ((List Bool) × Bool))) (seen, ch) = some s' ∧
      Grows seen s'.1 ∧ (∀ i : Nat, s'.1[i]? = some true → seen[i]? = some true ∨ (hit = true ∧ ∃ p ∈ n.Pins, ixP x p = i)) ∧ (hit = true → ∀ p ∈ n.Pins, s'.1[ixP x p]? = some true) ∧
      ((s' = (seen, ch)) ∨ (s'.2 = true ∧ cF0 s'.1 < cF0 seen)) := by
  have hp := (ok.fewPins n hn).2
  have hfew := ok.few
  obtain ⟨s', h1, h2⟩ := fld_inv (m := n.Pins.length) (s := (seen, ch)) (body := fun (k822 : Nat) (s823 : (List Bool) × Bool) => ((idx n.Pins (k822 : Int)).bind fun (x852 : Pin) => (etchhouseref2_partOf N x.Parts x852.Part).bind fun (x857 : Int) => (bif hit then ((idx s823.1 x857).bind fun (x862 : Bool) => some (!x862)) else (some false)).bind fun (s860 : Bool) => (bif s860 then ((idx s823.1 x857).bind fun (x865 : Bool) => some ((s823.1.set (Int.toNat x857) true), true)) else (some (s823.1, s823.2))).bind fun (s864 : (List Bool) × Bool) => some (s864.1, s864.2) : Option ((List Bool) × Bool)))
    (fun k s' => Grows seen s'.1 ∧ (∀ i : Nat, s'.1[i]? = some true → seen[i]? = some true ∨ (hit = true ∧ ∃ p ∈ n.Pins, ixP x p = i)) ∧ (hit = true → ∀ p ∈ n.Pins.take k, s'.1[ixP x p]? = some true) ∧
      ((s' = (seen, ch)) ∨ (s'.2 = true ∧ cF0 s'.1 < cF0 seen))) (by omega) ⟨Grows.refl _, fun i h => .inl h, fun _ p hp => by simp at hp, .inl rfl⟩ (fun k s hk ⟨i1, i2, i3, i4⟩ => by
      obtain ⟨l, c⟩ := s
      dsimp only at i1 i2 i3 i4 ⊢
      have hy : n.Pins[k]? = some n.Pins[k] := List.getElem?_eq_getElem hk
      have hym := List.mem_of_getElem? hy
      obtain ⟨g1, g2⟩ := ix_ok ok hn hym
      have hll : l.length = x.Parts.length := i1.1.symm.trans hs
      have hget : l[ixP x n.Pins[k]]? = some (l.getD (ixP x n.Pins[k]) false) := get_of_lt (by omega)
      rw [idx_at hy, bnd_some, partOf_eq (by omega), bnd_some, g1, List.take_succ_eq_append_getElem hk]
      cases hit with
      | false =>
        rw [cond_false, bnd_some, cond_false, bnd_some]
        exact ⟨_, rfl, i1, i2, fun h => (by cases h), i4⟩
      | true =>
        rw [cond_true, idx_at hget, bnd_some, bnd_some, Int.toNat_natCast]
        cases hv : l.getD (ixP x n.Pins[k]) false with
        | true =>
          rw [Bool.not_true, cond_false, bnd_some]
          refine ⟨_, rfl, i1, i2, fun _ p hp => ?_, i4⟩
          rcases List.mem_append.1 hp with h | h
          · exact i3 rfl p h
          · simp at h; subst h; rw [hget, hv]
        | false =>
          rw [Bool.not_false, cond_true, bnd_some, bnd_some]
          refine ⟨_, rfl, i1.trans (Grows.set _ _), fun i hi => ?_, fun _ p hp => ?_, .inr ⟨rfl, ?_⟩⟩
          · dsimp only at hi
            rw [List.getElem?_set] at hi
            split at hi
            · rename_i e; exact .inr ⟨rfl, _, hym, e⟩
            · exact i2 i hi
          · dsimp only
            rcases List.mem_append.1 hp with h | h
            · exact (Grows.set _ _).2 _ (i3 rfl p h)
            · simp at h; subst h; rw [List.getElem?_set, if_pos rfl, if_pos (by omega)]
          · dsimp only
            have := cF_set l (ixP x n.Pins[k]) (by rw [hget, hv])
            rcases i4 with h | h
            · injection h with h _; subst h; omega
            · have := h.2; omega)
  refine ⟨s', h1, h2.1, h2.2.1, fun hh p hp => ?_, h2.2.2.2⟩
  exact h2.2.2.1 hh p (by rw [List.take_length]; exact hp)
/-- closed under a net -/
def ClosedN (x : Netlist) (W : List Str) (seen : List Bool) (n : Net) : Prop := n.Name ∉ W → ∀ p ∈ n.Pins, seen[ixP x p]? = some true → ∀ q ∈ n.Pins, seen[ixP x q]? = some true
theorem netPass {t : List PartType} {x : Netlist} {W : List Str} (ok : ListOk t x) (hWl : W.length ≤ 1048576) {r : Nat → Nat} (hco : ∀ n ∈ x.Nets, n.Name ∉ W → ∀ p ∈ n.Pins, ∀ q ∈ n.Pins, r (ixP x p) = r (ixP x q)) {a : Nat}
    {seen : List Bool} (hs : seen.length = x.Parts.length) (hr : ∀ i : Nat, seen[i]? = some true → r i = a) :
    ∃ s', fld x.Nets.length (fun (k593 : Nat) (s594 : (List Bool) × Bool) => ((idx x.Nets (k593 : Int)).bind fun (x777 : Net) => (slices_Contains_string N W x777.Name).bind fun (x781 : Bool) => bif x781 then (some (s594.1, s594.2)) else ((fld x777.Pins.length (fun (k783 : Nat) (s784 : Bool) => ((idx x777.Pins (k783 : Int)).bind fun (x808 : Pin) => (bif s784 then (some true) else ((etchhouseref2_partOf N x.Parts x808.Part).bind fun (x819 : Int) => (idx s594.1 x819).bind fun (x820 : Bool) => some x820)).bind fun (s816 : Bool) => some s816 : Option (Bool))) false).bind fun (s784 : Bool) => (fld x777.Pins.length (fun (k822 : Nat) (s823 : (List Bool) × Bool) => ((idx x777.Pins (k822 : Int)).bind fun (x852 : Pin) => (etchhouseref2_partOf N x.Parts x852.Part).bind fun (x857 : Int) => (bif s784 then ((idx s823.1 x857).bind fun (x862 : Bool) => some (!x862)) else (some false)).bind fun (s860 : Bool) => (bif s860 then ((idx s823.1 x857).bind fun (x865 : Bool) => some ((s823.1.set (Int.toNat x857) true), true)) else (some (s823.1, s823.2))).bind fun (s864 : (List Bool) × Bool) => some (s864.1, s864.2) : Option ((List Bool) × Bool))) (s594.1, s594.2)).bind fun (s823 : (List Bool) × Bool) => some (s823.1, s823.2)) : Option ((List Bool) × Bool))) (seen, false) = some s' ∧
      Grows seen s'.1 ∧ (∀ i : Nat, s'.1[i]? = some true → r i = a) ∧ ((s'.2 = true ∧ cF0 s'.1 < cF0 seen) ∨ (s' = (seen, false) ∧ ∀ n ∈ x.Nets, ClosedN x W seen n)) := by
  have hfew := ok.few
  have hfn := ok.fewNets
  obtain ⟨s', h1, h2⟩ := fld_inv (m := x.Nets.length) (s := (seen, false)) (body := fun (k593 : Nat) (s594 : (List Bool) × Bool) => ((idx x.Nets (k593 : Int)).bind fun (x777 : Net) => (slices_Contains_string N W x777.Name).bind fun (x781 : Bool) => bif x781 then (some (s594.1, s594.2)) else ((fld x777.Pins.length (fun (k783 : Nat) (s784 : Bool) => ((idx x777.Pins (k783 : Int)).bind fun (x808 : Pin) => (bif s784 then (some true) else ((etchhouseref2_partOf N x.Parts x808.Part).bind fun (x819 : Int) => (idx s594.1 x819).bind fun (x820 : Bool) => some x820)).bind fun (s816 : Bool) => some s816 : Option (Bool))) false).bind fun (s784 : Bool) => (fld x777.Pins.length (fun (k822 : Nat) (s823 : (List Bool) × Bool) => ((idx x777.Pins (k822 : Int)).bind fun (x852 : Pin) => (etchhouseref2_partOf N x.Parts x852.Part).bind fun (x857 : Int) => (bif s784 then ((idx s823.1 x857).bind fun (x862 : Bool) => some (!x862)) else (some false)).bind fun (s860 : Bool) => (bif s860 then ((idx s823.1 x857).bind fun (x865 : Bool) => some ((s823.1.set (Int.toNat x857) true), true)) else (some (s823.1, s823.2))).bind fun (s864 : (List Bool) × Bool) => some (s864.1, s864.2) : Option ((List Bool) × Bool))) (s594.1, s594.2)).bind fun (s823 : (List Bool) × Bool) => some (s823.1, s823.2)) : Option ((List Bool) × Bool)))
    (fun k s' => Grows seen s'.1 ∧ (∀ i : Nat, s'.1[i]? = some true → r i = a) ∧ ((s'.2 = true ∧ cF0 s'.1 < cF0 seen) ∨ (s' = (seen, false) ∧ ∀ n ∈ x.Nets.take k, ClosedN x W seen n))) (by omega) ⟨Grows.refl _, hr, .inr ⟨rfl, fun n hn => by simp at hn⟩⟩ (fun k s hk ⟨i1, i2, i3⟩ => by
      obtain ⟨l, c⟩ := s
      dsimp only at i1 i2 i3 ⊢
      have hx : x.Nets[k]? = some x.Nets[k] := List.getElem?_eq_getElem hk
      have hm := List.mem_of_getElem? hx
      have hll : l.length = x.Parts.length := i1.1.symm.trans hs
      rw [List.take_succ_eq_append_getElem hk, idx_at hx, bnd_some, Contains_str hWl, bnd_some]
      generalize x.Nets[k] = n at hm ⊢
      by_cases hc : n.Name ∈ W
      · rw [decide_eq_true hc, cond_true]
        refine ⟨_, rfl, i1, i2, ?_⟩
        rcases i3 with h | ⟨h, h'⟩
        · exact .inl h
        · refine .inr ⟨h, fun m hm' => ?_⟩
          rcases List.mem_append.1 hm' with g | g
          · exact h' m g
          · simp at g; subst g; exact fun h => absurd hc h
      · rw [decide_eq_false hc, cond_false, hitLoop ok hm hll, bnd_some]
        obtain ⟨s', a1, a2, a3, a4, a5⟩ := pinPass (N := N) ok hm (hit := hitB x n l) (ch := c) hll
        rw [a1, bnd_some]
        refine ⟨_, rfl, i1.trans a2, fun i hi => ?_, ?_⟩
        · rcases a3 i hi with h | ⟨h, p, hp, rfl⟩
          · exact i2 i h
          · unfold hitB at h
            obtain ⟨q, hq, hq2⟩ := List.any_eq_true.1 h
            rw [hco n hm hc p hp q hq]
            exact i2 _ (getD_true.1 hq2)
        · rcases a5 with rfl | ⟨h5, h6⟩
          · dsimp only
            rcases i3 with h | ⟨h, h'⟩
            · exact .inl h
            · refine .inr ⟨h, fun m hm' => ?_⟩
              injection h with h h0; subst h
              rcases List.mem_append.1 hm' with g | g
              · exact h' m g
              · simp at g; subst g
                intro _ p hp hp2 q hq
                exact a4 (by unfold hitB; exact List.any_eq_true.2 ⟨p, hp, getD_true.2 hp2⟩) q hq
          · refine .inl ⟨h5, ?_⟩
            rcases i3 with ⟨_, h⟩ | ⟨h, _⟩
            · exact Nat.lt_trans h6 h
            · injection h with h h0; subst h; exact h6)
  refine ⟨s', h1, h2.1, h2.2.1, ?_⟩
  rw [List.take_length] at h2
  exact h2.2.2
theorem idx_bool {l : List Bool} {k : Nat} (h : k < l.length) : idx l ((k : Nat) : Int) = some (l.getD k false) := idx_at (get_of_lt h)
theorem island_eq {t : List PartType} {x : Netlist} {W : List Str} (ok : ListOk t x) (hWl : W.length ≤ 1048576) {r : Nat → Nat} (hC : Coarse r (allE x W x.Nets.length)) (hF : Fine x.Parts.length r (allE x W x.Nets.length)) {k : Nat} (hk : k < x.Parts.length) (hN : 4194304 ≤ N) :
    etchhouseref2_island N x W ((k : Nat) : Int) = some ((cls x.Parts.length r (r k)).map (fun i => ((i : Nat) : Int))) := by
  have hfew := ok.few
  have hfirst : ∀ n ∈ x.Nets, n.Name ∉ W → ∀ p ∈ n.Pins, (ixP x p, ixP x (n.Pins.headD default)) ∈ allE x W x.Nets.length := fun n hn hw p hp => by
    unfold allE
    rw [List.take_length]
    refine List.mem_flatMap.2 ⟨n, hn, ?_⟩
    unfold netE
    rw [if_neg hw]
    exact List.mem_map.2 ⟨p, hp, rfl⟩
  have hco : ∀ n ∈ x.Nets, n.Name ∉ W → ∀ p ∈ n.Pins, ∀ q ∈ n.Pins, r (ixP x p) = r (ixP x q) := fun n hn hw p hp q hq => (hC _ (hfirst n hn hw p hp)).trans (hC _ (hfirst n hn hw q hq)).symm
  unfold etchhouseref2_island
  rw [mk_some false (by omega), bnd_some, idx_nat _ _ (by simp; exact hk), bnd_some, Int.toNat_natCast]
  have h0l : ((List.replicate x.Parts.length false).set k true).length = x.Parts.length := by simp
  have h0k : ((List.replicate x.Parts.length false).set k true)[k]? = some true := by rw [List.getElem?_set, if_pos rfl, if_pos (by simp; exact hk)]
  obtain ⟨o, h1, h2⟩ := itr_inv (S := (List Bool) × Bool) (R := Empty) (body := fun (s37 : (List Bool) × Bool) => (bif s37.2 then ((fld x.Nets.length (fun (k593 : Nat) (s594 : (List Bool) × Bool) => ((idx x.Nets (k593 : Int)).bind fun (x777 : Net) => (slices_Contains_string N W x777.Name).bind fun (x781 : Bool) => bif x781 then (some (s594.1, s594.2)) else ((fld x777.Pins.length (fun (k783 : Nat) (s784 : Bool) => ((idx x777.Pins (k783 : Int)).bind fun (x808 : Pin) => (bif s784 then (some true) else ((etchhouseref2_partOf N x.Parts x808.Part).bind fun (x819 : Int) => (idx s594.1 x819).bind fun (x820 : Bool) => some x820)).bind fun (s816 : Bool) => some s816 : Option (Bool))) false).bind fun (s784 : Bool) => (fld x777.Pins.length (fun (k822 : Nat) (s823 : (List Bool) × Bool) => ((idx x777.Pins (k822 : Int)).bind fun (x852 : Pin) => (etchhouseref2_partOf N x.Parts x852.Part).bind fun (x857 : Int) => (bif s784 then ((idx s823.1 x857).bind fun (x862 : Bool) => some (!x862)) else (some false)).bind fun (s860 : Bool) => (bif s860 then ((idx s823.1 x857).bind fun (x865 : Bool) => some ((s823.1.set (Int.toNat x857) true), true)) else (some (s823.1, s823.2))).bind fun (s864 : (List Bool) × Bool) => some (s864.1, s864.2) : Option ((List Bool) × Bool))) (s594.1, s594.2)).bind fun (s823 : (List Bool) × Bool) => some (s823.1, s823.2)) : Option ((List Bool) × Bool))) (s37.1, false)).bind fun (s594 : (List Bool) × Bool) => some (.nx (s594.1, s594.2))) else (some (.br (s37.1, s37.2))) : Option (Fl ((List Bool) × Bool) Empty)))
    (fun s => s.1.length = x.Parts.length ∧ s.1[k]? = some true ∧ (∀ i : Nat, s.1[i]? = some true → r i = r k) ∧ (s.2 = false → ∀ n ∈ x.Nets, ClosedN x W s.1 n))
    (fun s => 2 * cF0 s.1 + (if s.2 = true then 1 else 0))
    (fun s => s.1.length = x.Parts.length ∧ s.1[k]? = some true ∧ (∀ i : Nat, s.1[i]? = some true → r i = r k) ∧ (∀ n ∈ x.Nets, ClosedN x W s.1 n))
    (fun _ => True) (fun s ⟨i1, i2, i3, i4⟩ => by
      obtain ⟨l, c⟩ := s
      dsimp only at i1 i2 i3 i4 ⊢
      cases c with
      | false => exact ⟨.br (l, false), by rw [cond_false], i1, i2, i3, i4 rfl⟩
      | true =>
        obtain ⟨s', a1, a2, a3, a4⟩ := netPass (N := N) ok hWl hco i1 i3
        refine ⟨.nx (s'.1, s'.2), by rw [cond_true, a1, bnd_some], ⟨a2.1.symm.trans i1, a2.2 _ i2, a3, fun h => ?_⟩, ?_⟩
        · dsimp only at h
          rcases a4 with ⟨h4, _⟩ | ⟨h4, h5⟩
          · rw [h4] at h; cases h
          · rw [h4]; exact h5
        · dsimp only
          rcases a4 with ⟨h4, h5⟩ | ⟨h4, h5⟩
          · rw [h4]; simp only [if_true]; omega
          · rw [h4]; simp)
    N ((List.replicate x.Parts.length false).set k true, true) ⟨h0l, h0k, fun i hi => by
      dsimp only at hi
      rw [List.getElem?_set] at hi
      split at hi
      · rename_i e; rw [e]
      · rw [List.getElem?_replicate] at hi
        split at hi <;> simp at hi, fun h => by cases h⟩ (by
      have : cF0 ((List.replicate x.Parts.length false).set k true) ≤ ((List.replicate x.Parts.length false).set k true).length := List.count_le_length
      rw [h0l] at this
      simp only [if_true]; omega)
  rw [h1, bnd_some]
  cases o with
  | rt r => exact r.elim
  | go s =>
    obtain ⟨l, c⟩ := s
    obtain ⟨i1, i2, i3, i4⟩ := h2
    dsimp only at i1 i2 i3 i4
    simp only [Fo.cs]
    have hS : ∀ i, i < x.Parts.length → (l.getD i false = decide (r i = r k)) := fun i hi => by
      rw [Bool.eq_iff_iff, getD_true, decide_eq_true_eq]
      constructor
      · exact i3 i
      · intro h
        refine hF (fun j => l[j]? = some true) (fun p hp => ?_) k i hk hi h.symm i2
        unfold allE at hp
        rw [List.take_length] at hp
        obtain ⟨n, hn, hp⟩ := List.mem_flatMap.1 hp
        unfold netE at hp
        split at hp
        · simp at hp
        · rename_i hw
          obtain ⟨q, hq, rfl⟩ := List.mem_map.1 hp
          have hhead : n.Pins.headD default ∈ n.Pins := by
            cases hpp : n.Pins with
            | nil => rw [hpp] at hq; simp at hq
            | cons a l => simp
          exact ⟨fun h => i4 n hn hw q hq h _ hhead, fun h => i4 n hn hw _ hhead h q hq⟩
    rw [i1]
    rw [fld_fun (s := ([] : List Int)) (fun j => (cls j r (r k)).map (fun i => ((i : Nat) : Int))) (by omega) rfl (fun j hj => by
      have hcl := cls_len j r (r k)
      rw [idx_bool (by omega), bnd_some, hS j hj, cls_succ]
      by_cases h : r j = r k
      · rw [decide_eq_true h, cond_true, if_pos h, app_some (by simp; omega), bnd_some, bnd_some, List.map_append]; rfl
      · rw [decide_eq_false h, cond_false, if_neg h, bnd_some]), bnd_some]
theorem cls_mem {n k i : Nat} {r : Nat → Nat} : i ∈ cls n r k ↔ i < n ∧ r i = k := by unfold cls; simp
theorem refIslands_eq {t : List PartType} {x : Netlist} {W : List Str} (hbt : bk t ≤ 1048576) (hbx : bk x ≤ 1048576) (hbW : bk W ≤ 1048576) (hN : 4194304 ≤ N)
    (h1 : checkList t x = 0) (h2 : namesErr W 1000 (isNet x) = 0) {r : Nat → Nat} {up : List Int} (hu : UF x.Parts.length up r) (hC : Coarse r (allE x W x.Nets.length)) (hF : Fine x.Parts.length r (allE x W x.Nets.length)) :
      etchhouseref2_Islands N t x W = some (islesS x r, 0) := by
  have ok := checkList_ok h1
  have hWl := bk_len W
  have hxb := bk_Netlist x
  have hxn := bk_len x.Nets
  have hxp := bk_len x.Parts
  have hfew := ok.few
  have hle := hu.le
  have hrr := hu.rr
  unfold etchhouseref2_Islands
  rw [ref_CheckList_eq hbt hbx hN, bnd_some, h1, show ((0 : Int) != 0) = false by decide, cond_false, checkNetNames_eq (by omega) (by omega), bnd_some, h2, show ((0 : Int) != 0) = false by decide, cond_false,
    mk_some false (by omega), bnd_some]
  obtain ⟨s', a1, a2⟩ := fld_inv (m := x.Parts.length) (s := (List.replicate x.Parts.length false, ([] : (List (List Str))))) (body := fun (k40 : Nat) (s41 : (List Bool) × (List (List Str))) => ((idx s41.1 (k40 : Int)).bind fun (x133 : Bool) => bif x133 then (some (s41.1, s41.2)) else ((etchhouseref2_island N x W (k40 : Int)).bind fun (x135 : (List Int)) => (fld x135.length (fun (k137 : Nat) (s138 : (List Bool) × (List Str)) => ((idx x135 (k137 : Int)).bind fun (x162 : Int) => (idx s138.1 x162).bind fun (x163 : Bool) => (idx x.Parts x162).bind fun (x165 : Part) => (app 16 s138.2 ([x165.Name] : (List Str))).bind fun (x169 : (List Str)) => some ((s138.1.set (Int.toNat x162) true), x169) : Option ((List Bool) × (List Str)))) (s41.1, ([] : (List Str)))).bind fun (s138 : (List Bool) × (List Str)) => (app 24 s41.2 ([s138.2] : (List (List Str)))).bind fun (x173 : (List (List Str))) => some (s138.1, x173)) : Option ((List Bool) × (List (List Str)))))
    (fun k s => s.1.length = x.Parts.length ∧ (∀ i, i < x.Parts.length → s.1.getD i false = decide (r i < k)) ∧ s.2 = (heads k r).map (fun k => (cls x.Parts.length r k).map (nmP x))) (by omega) ⟨by simp, fun i hi => by
      rw [List.getD_eq_getElem?_getD, List.getElem?_replicate, if_pos hi]; simp, rfl⟩ (fun k s hk ⟨i1, i2, i3⟩ => by
      obtain ⟨l, out⟩ := s
      dsimp only at i1 i2 i3 ⊢
      subst i3
      have hhl := heads_len k r
      rw [idx_bool (by omega), bnd_some, i2 k hk]
      have hlk := hle k hk
      by_cases h : r k < k
      · rw [decide_eq_true h, cond_true]
        refine ⟨_, rfl, i1, fun i hi => ?_, ?_⟩
        · rw [i2 i hi, Bool.eq_iff_iff, decide_eq_true_eq, decide_eq_true_eq]
          constructor
          · intro h'; omega
          · intro h'
            have := hrr i hi
            by_cases e : r i = k
            · rw [e] at this; omega
            · omega
        · dsimp only; rw [heads_succ, if_neg (by omega)]
      · have hrk : r k = k := by omega
        rw [decide_eq_false h, cond_false, island_eq ok (by omega) hC hF hk hN, bnd_some, hrk, List.length_map]
        have hcl := cls_len x.Parts.length r k
        obtain ⟨s2, b1, b2⟩ := fld_inv (m := (cls x.Parts.length r k).length) (s := (l, ([] : (List Str)))) (body := fun (k137 : Nat) (s138 : (List Bool) × (List Str)) => ((idx ((cls x.Parts.length r k).map (fun i => ((i : Nat) : Int))) (k137 : Int)).bind fun (x162 : Int) => (idx s138.1 x162).bind fun (x163 : Bool) => (idx x.Parts x162).bind fun (x165 : Part) => (app 16 s138.2 ([x165.Name] : (List Str))).bind fun (x169 : (List Str)) => some ((s138.1.set (Int.toNat x162) true), x169) : Option ((List Bool) × (List Str))))
          (fun j s2 => s2.1.length = x.Parts.length ∧ (∀ i, i < x.Parts.length → s2.1.getD i false = (decide (r i < k) || decide (i ∈ (cls x.Parts.length r k).take j))) ∧ s2.2 = ((cls x.Parts.length r k).take j).map (nmP x)) (by omega) ⟨i1, fun i hi => by rw [i2 i hi]; simp, rfl⟩ (fun j s2 hj ⟨j1, j2, j3⟩ => by
            obtain ⟨l2, o2⟩ := s2
            dsimp only at j1 j2 j3 ⊢
            subst j3
            have hm : (cls x.Parts.length r k)[j] ∈ cls x.Parts.length r k := List.getElem_mem hj
            have hlt := (cls_mem.1 hm).1
            rw [idx_at (x := (((cls x.Parts.length r k)[j] : Nat) : Int)) (by rw [List.getElem?_map, List.getElem?_eq_getElem hj]; rfl), bnd_some, idx_bool (by omega), bnd_some, idx_at (nm_at hlt), bnd_some, app_some (by simp; omega), bnd_some, Int.toNat_natCast, List.take_succ_eq_append_getElem hj, List.map_append]
            refine ⟨_, rfl, by simp [j1], fun i hi => ?_, rfl⟩
            dsimp only
            rw [List.getD_eq_getElem?_getD, List.getElem?_set]
            split
            · rename_i e; rw [if_pos (by omega)]; subst e; rw [decide_eq_true (List.mem_append_right _ (List.mem_singleton.2 rfl)), Bool.or_true]; rfl
            · rename_i e
              rw [← List.getD_eq_getElem?_getD, j2 i hi]
              congr 1
              rw [Bool.eq_iff_iff, decide_eq_true_eq, decide_eq_true_eq, List.mem_append]
              simp; intro h; exact absurd h.symm e)
        rw [b1, bnd_some]
        obtain ⟨l2, o2⟩ := s2
        dsimp only at b2 ⊢
        obtain ⟨b3, b4, b5⟩ := b2
        rw [List.take_length] at b4 b5
        subst b5
        rw [app_some (by simp; omega), bnd_some]
        refine ⟨_, rfl, b3, fun i hi => ?_, ?_⟩
        · rw [b4 i hi, Bool.eq_iff_iff, Bool.or_eq_true, decide_eq_true_eq, decide_eq_true_eq, decide_eq_true_eq, cls_mem]
          omega
        · rw [heads_succ, if_pos hrk, List.map_append]; rfl)
  rw [a1, bnd_some]
  obtain ⟨l, out⟩ := s'
  dsimp only at a2 ⊢
  rw [a2.2.2]; rfl

/-! ### The law -/
theorem Equal_str {l m : List Str} (hl : l.length ≤ 4611686018427387904) : slices_Equal_string N l m = some (decide (l = m)) := by
  have h := gEqual_eq (l := l) (m := m) hl
  have e : slices_Equal_string N l m = gEqual l m := by
    unfold slices_Equal_string gEqual
    simp only [eqb_dec]
  rw [e, h]
theorem SameRows_self {l : List (List Str)} (hl : l.length ≤ 1048576) (h2 : ∀ y ∈ l, y.length ≤ 1048576) : etchhouseref2_SameRows N l l = some true := by
  unfold etchhouseref2_SameRows
  rw [show ((((l.length : Nat) : Int) != ((l.length : Nat) : Int)) = false) by simp, cond_false]
  rw [rng_unit (R := Bool) (fun _ => none) (by omega) (fun k hk _ => by
    have hx : l[k]? = some l[k] := List.getElem?_eq_getElem hk
    rw [idx_at hx, bnd_some, bnd_some, Equal_str (by have := h2 _ (List.getElem_mem hk); omega), bnd_some, decide_eq_true rfl]; rfl), bnd_some, fst?_none.2 (fun _ _ => rfl)]
  rfl
theorem NetlistIslandsMatchSpec_eq {t : List PartType} {x : Netlist} {W : List Str} (hbt : bk t ≤ 1048576) (hbx : bk x ≤ 1048576) (hbW : bk W ≤ 1048576) (hN : 4194304 ≤ N) : etchhouselaw2_NetlistIslandsMatchSpec N t x W = some true := by
  have hWl := bk_len W
  have hxb := bk_Netlist x
  have hxn := bk_len x.Nets
  unfold etchhouselaw2_NetlistIslandsMatchSpec
  have fin : ∀ (l : List (List Str)) (c : Int), l.length ≤ 1048576 → (∀ y ∈ l, y.length ≤ 1048576) → netlist_Islands N t x W = some (l, c) → etchhouseref2_Islands N t x W = some (l, c) →
      ((netlist_Islands N t x W).bind fun (x33 : ((List (List Str)) × Int)) => (etchhouseref2_Islands N t x W).bind fun (x36 : ((List (List Str)) × Int)) => (bif (x33.2 == x36.2) then ((etchhouseref2_SameRows N x33.1 x36.1).bind fun (x46 : Bool) => bif x46 then ((etchhouselaw2_awake N ).bind fun (x48 : Bool) => some x48) else (some false)) else (some false)).bind fun (s44 : Bool) => some s44) = some true := fun l c hl h2 e1 e2 => by
    rw [e1, bnd_some, e2, bnd_some]
    dsimp only
    rw [SameRows_self hl h2, bnd_some, awake_eq hN]
    simp [bnd_some]
  by_cases h1 : checkList t x ≠ 0
  · have e : (checkList t x != 0) = true := by rw [bne_iff_ne]; exact h1
    refine fin [] (checkList t x) (by simp) (fun y hy => by simp at hy) ?_ ?_
    · unfold netlist_Islands; rw [netlist_CheckList_eq hbt hbx hN, bnd_some, e, cond_true]
    · unfold etchhouseref2_Islands; rw [ref_CheckList_eq hbt hbx hN, bnd_some, e, cond_true]
  replace h1 := Decidable.not_not.1 h1
  have ok := checkList_ok h1
  have hfew := ok.few
  have hcn : netlist_checkNames N W 1000 (fun y0 => netlist_Islands_c1 N y0 x) = some (namesErr W 1000 (isNet x)) :=
    checkNames_eq (N := N) (l := W) (most := 1000) (φ := fun y0 => netlist_Islands_c1 N y0 x) (b := isNet x) (fun s _ => by
      show netlist_Islands_c1 N s x = _
      unfold netlist_Islands_c1
      rw [NetAt_eq ok.nets (by omega) hN, bnd_some]
      congr 1
      exact at?_ge _ _) (by omega)
  by_cases h2 : namesErr W 1000 (isNet x) ≠ 0
  · have e : (namesErr W 1000 (isNet x) != 0) = true := by rw [bne_iff_ne]; exact h2
    refine fin [] (namesErr W 1000 (isNet x)) (by simp) (fun y hy => by simp at hy) ?_ ?_
    · unfold netlist_Islands; rw [netlist_CheckList_eq hbt hbx hN, bnd_some, h1, show ((0 : Int) != 0) = false by decide, cond_false, hcn, bnd_some, e, cond_true]
    · unfold etchhouseref2_Islands; rw [ref_CheckList_eq hbt hbx hN, bnd_some, h1, show ((0 : Int) != 0) = false by decide, cond_false, checkNetNames_eq (by omega) (by omega), bnd_some, e, cond_true]
  replace h2 := Decidable.not_not.1 h2
  obtain ⟨r, up, u1, u2, u3, u4⟩ := Islands_eq (N := N) hbt hbx hbW hN h1 h2
  have hhl := heads_len x.Parts.length r
  refine fin (islesS x r) 0 (by unfold islesS; simp; omega) (fun y hy => ?_) u4 (refIslands_eq hbt hbx hbW hN h1 h2 u1 u2 u3)
  unfold islesS at hy
  obtain ⟨k, _, rfl⟩ := List.mem_map.1 hy
  have := cls_len x.Parts.length r k
  simp; omega
end
end Go.Gk
