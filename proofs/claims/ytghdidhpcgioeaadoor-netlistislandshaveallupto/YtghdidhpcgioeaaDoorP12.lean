/-
  Plain laws: islands have all. No statement of the seed is proved here.
-/
import Derived.Test.YtghdidhpcgioeaaDoorP9
import Derived.Test.YtghdidhpcgioeaaDoorQ7
set_option linter.unusedVariables false
set_option linter.unusedSimpArgs false
set_option linter.unusedSectionVars false
namespace Go.Gk
open Go
section
variable {N : Nat}
theorem flat_take_len (L : List (List Str)) (k : Nat) : (L.take k).flatten.length ≤ L.flatten.length := by
  conv => rhs; rw [← List.take_append_drop k L, List.flatten_append, List.length_append]
  omega
theorem Grow_nil_eq {n : Nat} (hn : n ≤ 1048576) : slices_Grow_string_nil N ((n : Nat) : Int) = some [] := by
  unfold slices_Grow_string_nil
  rw [decide_eq_false (by omega), cond_false]
  have e1 : IntKind.wrap .i64 (((n : Nat) : Int) - (IntKind.wrap .i64 (((0 : Nat) : Int) - ((0 : Nat) : Int)))) = ((n : Nat) : Int) := by
    have : IntKind.wrap .i64 (((0 : Nat) : Int) - ((0 : Nat) : Int)) = 0 := by rw [wrap_in (by omega) (by omega)]; rfl
    rw [this, wrap_in (by omega) (by omega)]; omega
  rw [e1]
  by_cases h : 0 < n
  · rw [decide_eq_true (by omega), cond_true]
    have : appz 16 (⟨[]⟩ : Str) ((n : Nat) : Int) = some (List.replicate n ⟨[]⟩) := by
      unfold appz; rw [if_pos (by omega)]; rfl
    rw [this, bnd_some, slc_take _ _ (by omega), bnd_some, bnd_some]
    rfl
  · rw [decide_eq_false (by omega), cond_false, bnd_some]
theorem ConcatS_eq {L : List (List Str)} (h1 : L.length ≤ 1048576) (h2 : L.flatten.length ≤ 1048576) : slices_Concat_string N L = some L.flatten := by
  unfold slices_Concat_string
  have hlen : ∀ k, k ≤ L.length → (L.take k).flatten.length ≤ 1048576 := fun k _ => Nat.le_trans (flat_take_len L k) h2
  rw [fld_fun (s := (0 : Int)) (fun k => (((L.take k).flatten.length : Nat) : Int)) (by omega) rfl (fun k hk => by
    have hx : L[k]? = some L[k] := List.getElem?_eq_getElem hk
    have h3 := hlen (k + 1) hk
    rw [List.take_succ_eq_append_getElem hk, List.flatten_append, List.length_append, List.flatten_singleton] at h3
    rw [idx_at hx, bnd_some, List.take_succ_eq_append_getElem hk, List.flatten_append, List.length_append, List.flatten_singleton]
    have e : IntKind.wrap .i64 ((((L.take k).flatten.length : Nat) : Int) + ((L[k].length : Nat) : Int)) = (((L.take k).flatten.length + L[k].length : Nat) : Int) := by rw [wrap_in (by omega) (by omega)]; omega
    rw [e, decide_eq_false (by omega), cond_false]), bnd_some, List.take_length, Grow_nil_eq h2, bnd_some]
  rw [fld_fun (s := ([] : List Str)) (fun k => (L.take k).flatten) (by omega) rfl (fun k hk => by
    have hx : L[k]? = some L[k] := List.getElem?_eq_getElem hk
    have h3 := hlen (k + 1) hk
    rw [List.take_succ_eq_append_getElem hk, List.flatten_append, List.length_append, List.flatten_singleton] at h3
    rw [idx_at hx, bnd_some, app_some (by omega), bnd_some, List.take_succ_eq_append_getElem hk, List.flatten_append, List.flatten_singleton]), bnd_some, List.take_length]
theorem isles_flat (x : Netlist) (r : Nat → Nat) : (islesS x r).flatten = ((heads x.Parts.length r).flatMap (cls x.Parts.length r)).map (nmP x) := by
  unfold islesS
  rw [List.map_flatMap]; rfl
theorem names_range (x : Netlist) : (List.range x.Parts.length).map (nmP x) = x.Parts.map Part.Name := by
  apply List.ext_getElem?
  intro i
  rw [List.getElem?_map, List.getElem?_map]
  by_cases h : i < x.Parts.length
  · rw [List.getElem?_range h, List.getElem?_eq_getElem h]
    unfold nmP
    rw [Option.map_some, Option.map_some, List.getD_eq_getElem?_getD, List.getElem?_eq_getElem h]; rfl
  · rw [List.getElem?_eq_none (by simp; omega), List.getElem?_eq_none (by omega)]; rfl
theorem Sorted.map_names {α : Type} {key : α → Str} {l : List α} (h : Sorted key l) : Sorted (fun x => x) (l.map key) := by
  rw [sorted_iff] at h ⊢
  rw [List.pairwise_map]; exact h
theorem NetlistIslandsHaveAll_eq {t : List PartType} {x : Netlist} {W : List Str} (hbt : bk t ≤ 1048576) (hbx : bk x ≤ 1048576) (hbW : bk W ≤ 1048576) (hN : 4194304 ≤ N) : etchhouselaw2_NetlistIslandsHaveAll N t x W = some true := by
  have hWl := bk_len W
  unfold etchhouselaw2_NetlistIslandsHaveAll
  have bad : ∀ c : Int, c ≠ 0 → netlist_Islands N t x W = some (([] : List (List Str)), c) → ∀ g : Option Bool, ((netlist_Islands N t x W).bind fun (x33 : (List (List Str)) × Int) => bif (x33.2 != 0) then ((bif ((x33.1.length : Int) == 0) then ((etchhouselaw2_awake N ).bind fun (x44 : Bool) => some x44) else (some false)).bind fun (s42 : Bool) => some s42) else g) = some true := fun c hc e g => by
    rw [e, bnd_some]
    have : (c != 0) = true := by rw [bne_iff_ne]; exact hc
    dsimp only
    rw [this, cond_true, awake_eq hN]; rfl
  by_cases h1 : checkList t x ≠ 0
  · have e : (checkList t x != 0) = true := by rw [bne_iff_ne]; exact h1
    have e2 : netlist_Islands N t x W = some (([] : List (List Str)), checkList t x) := by unfold netlist_Islands; rw [netlist_CheckList_eq hbt hbx hN, bnd_some, e, cond_true]
    rw [e2, bnd_some]; dsimp only; rw [e, cond_true, awake_eq hN]; rfl
  replace h1 := Decidable.not_not.1 h1
  have ok := checkList_ok h1
  have hfew := ok.few
  have hfn := ok.fewNets
  have hcn : netlist_checkNames N W 1000 (fun y0 => netlist_Islands_c1 N y0 x) = some (namesErr W 1000 (isNet x)) :=
    checkNames_eq (N := N) (l := W) (most := 1000) (φ := fun y0 => netlist_Islands_c1 N y0 x) (b := isNet x) (fun s _ => by
      show netlist_Islands_c1 N s x = _
      unfold netlist_Islands_c1
      rw [NetAt_eq ok.nets (by omega) hN, bnd_some]
      congr 1
      exact at?_ge _ _) (by omega)
  by_cases h2 : namesErr W 1000 (isNet x) ≠ 0
  · have e : (namesErr W 1000 (isNet x) != 0) = true := by rw [bne_iff_ne]; exact h2
    have e2 : netlist_Islands N t x W = some (([] : List (List Str)), namesErr W 1000 (isNet x)) := by unfold netlist_Islands; rw [netlist_CheckList_eq hbt hbx hN, bnd_some, h1, show ((0 : Int) != 0) = false by decide, cond_false, hcn, bnd_some, e, cond_true]
    rw [e2, bnd_some]; dsimp only; rw [e, cond_true, awake_eq hN]; rfl
  replace h2 := Decidable.not_not.1 h2
  obtain ⟨r, up, u1, u2, u3, u4⟩ := Islands_eq (N := N) hbt hbx (by omega) hN h1 h2
  have hper : (islesS x r).flatten.Perm (x.Parts.map Part.Name) := by
    rw [isles_flat, ← names_range]
    exact (isles_perm u1.le u1.rr).map _
  have hfl : (islesS x r).flatten.length = x.Parts.length := by rw [hper.length_eq, List.length_map]
  have hil : (islesS x r).length ≤ x.Parts.length := by unfold islesS; rw [List.length_map]; exact heads_len _ _
  rw [u4, bnd_some]
  dsimp only
  rw [show ((0 : Int) != 0) = false by decide, cond_false, ConcatS_eq (by omega) (by omega), bnd_some, sortS_of_perm hper ok.parts.sorted.map_names (by omega), bnd_some, List.length_map]
  rw [show (((x.Parts.length : Nat) : Int) != ((x.Parts.length : Nat) : Int)) = false by simp, cond_false]
  rw [rng_unit (R := Bool) (fun _ => none) (by omega) (fun k hk _ => by
    have hx : x.Parts[k]? = some x.Parts[k] := List.getElem?_eq_getElem hk
    have hy : (x.Parts.map Part.Name)[k]? = some x.Parts[k].Name := by rw [List.getElem?_map, hx]; rfl
    rw [idx_at hx, bnd_some, idx_at hy, bnd_some, eqb_refl, Bool.not_true, cond_false]; rfl), bnd_some, fst?_none.2 (fun _ _ => rfl)]
  simp only [rtgo, Fo.cs]
  rw [fld_fun (s := ([] : List Str)) (fun k => (x.Nets.take k).map Net.Name) (by omega) rfl (fun k hk => by
    have hx : x.Nets[k]? = some x.Nets[k] := List.getElem?_eq_getElem hk
    rw [idx_at hx, bnd_some, app_some (by simp; omega), bnd_some, List.take_succ_eq_append_getElem hk, List.map_append]; rfl), bnd_some, List.take_length]
  have h3 : namesErr (x.Nets.map Net.Name) 1000 (isNet x) = 0 := names_of (by rw [List.length_map]; exact hfn) ok.nets.map_names (fun s hs => by
    obtain ⟨n, hn, rfl⟩ := List.mem_map.1 hs
    exact List.any_eq_true.2 ⟨n, hn, eqb_refl _⟩)
  obtain ⟨r', up', v1, v2, v3, v4⟩ := Islands_eq (N := N) (W := x.Nets.map Net.Name) hbt hbx (by rw [List.length_map]; omega) hN h1 h3
  have hE : allE x (x.Nets.map Net.Name) x.Nets.length = [] := by
    unfold allE
    rw [List.take_length, List.flatMap_eq_nil_iff]
    intro n hn
    unfold netE
    rw [if_pos (List.mem_map_of_mem hn)]
  rw [hE] at v3
  have hlen : (islesS x r').length = x.Parts.length := by
    unfold islesS
    rw [List.length_map, alone_of_fine v1.le v1.rr v3, List.length_range]
  rw [v4, bnd_some]
  dsimp only
  rw [hlen, awake_eq hN]
  simp [bnd_some]
end
end Go.Gk
