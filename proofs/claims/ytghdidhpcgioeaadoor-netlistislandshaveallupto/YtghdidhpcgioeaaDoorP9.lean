/-
  Plain laws: islands. No statement of the seed is proved here.
-/
import Derived.Test.YtghdidhpcgioeaaDoorP5
import Derived.Test.YtghdidhpcgioeaaDoorQ2
import Derived.Test.YtghdidhpcgioeaaDoorQ3
set_option linter.unusedVariables false
set_option linter.unusedSimpArgs false
set_option linter.unusedSectionVars false
namespace Go.Gk
open Go
section
variable {N : Nat}
/-! ### The parts of pins -/
def ixP (x : Netlist) (p : Pin) : Nat := (nat? Part.Name x.Parts p.Part).toNat
theorem ix_ok {t : List PartType} {x : Netlist} (ok : ListOk t x) {n : Net} (hn : n ∈ x.Nets) {p : Pin} (hp : p ∈ n.Pins) : nat? Part.Name x.Parts p.Part = ((ixP x p : Nat) : Int) ∧ ixP x p < x.Parts.length := by
  have h := ok.pin n hn p hp
  unfold ixP
  rcases nat?_cases Part.Name x.Parts p.Part with ⟨h1, h2⟩ | ⟨k, q, h1, h2, _⟩
  · unfold hasPin at h
    have : x.Parts.find? (fun y => y.Name.eqb p.Part) = none := find_none h1
    rw [this] at h; cases h
  · rw [h1]; exact ⟨by simp, by simpa using (List.getElem?_eq_some_iff.1 h2).1⟩
def netE (x : Netlist) (W : List Str) (n : Net) : List (Nat × Nat) := if n.Name ∈ W then [] else n.Pins.map (fun p => (ixP x p, ixP x (n.Pins.headD default)))
def allE (x : Netlist) (W : List Str) (k : Nat) : List (Nat × Nat) := (x.Nets.take k).flatMap (netE x W)
def UE (n : Nat) (up : List Int) (E : List (Nat × Nat)) : Prop := ∃ r, UF n up r ∧ Coarse r E ∧ Fine n r E
theorem netLoop {t : List PartType} {x : Netlist} {W : List Str} (ok : ListOk t x) (hW : Sorted (fun x => x) W) (hWl : W.length ≤ 1048576) (hN : 4194304 ≤ N) {up : List Int} (h0 : UE x.Parts.length up []) :
    ∃ up', fld x.Nets.length (fun (k42 : Nat) (s43 : (List Int)) => ((idx x.Nets (k42 : Int)).bind fun (x223 : Net) => (netlist_has N W x223.Name).bind fun (x227 : Bool) => bif x227 then (some s43) else ((fld x223.Pins.length (fun (k229 : Nat) (s230 : (List Int)) => ((idx x223.Pins (k229 : Int)).bind fun (x284 : Pin) => (netlist_partAt N x.Parts x284.Part).bind fun (x290 : Int) => (idx x223.Pins 0).bind fun (x294 : Pin) => (netlist_partAt N x.Parts x294.Part).bind fun (x297 : Int) => (netlist_Union_Join N s230 x290 x297).bind fun (x298 : (List Int)) => some x298 : Option ((List Int)))) s43).bind fun (s230 : (List Int)) => some s230) : Option ((List Int)))) up = some up' ∧ UE x.Parts.length up' (allE x W x.Nets.length) := by
  have hfew := ok.few
  have hfn := ok.fewNets
  refine fld_inv (fun k up => UE x.Parts.length up (allE x W k)) (by omega) (by unfold allE; exact h0) (fun k up hk hu => ?_)
  have hx : x.Nets[k]? = some x.Nets[k] := List.getElem?_eq_getElem hk
  have hm := List.mem_of_getElem? hx
  have hE : allE x W (k + 1) = allE x W k ++ netE x W x.Nets[k] := by unfold allE; rw [List.take_succ_eq_append_getElem hk, List.flatMap_append]; simp
  rw [hE]
  rw [idx_at hx, bnd_some, has_eq hW hWl hN, bnd_some]
  generalize x.Nets[k] = n at hm hE ⊢
  clear hE
  by_cases hc : n.Name ∈ W
  · rw [decide_eq_true hc, cond_true]
    refine ⟨up, rfl, ?_⟩
    unfold netE; rw [if_pos hc, List.append_nil]; exact hu
  · rw [decide_eq_false hc, cond_false]
    obtain ⟨hp0, hp1⟩ := ok.fewPins n hm
    have hfirst : n.Pins[0]? = some (n.Pins.headD default) := by
      cases hpp : n.Pins with
      | nil => rw [hpp] at hp0; simp at hp0
      | cons a l => rfl
    have hfm := List.mem_of_getElem? hfirst
    obtain ⟨f1, f2⟩ := ix_ok ok hm hfm
    have := fld_inv (m := n.Pins.length) (s := up) (body := fun (k229 : Nat) (s230 : (List Int)) => ((idx n.Pins (k229 : Int)).bind fun (x284 : Pin) => (netlist_partAt N x.Parts x284.Part).bind fun (x290 : Int) => (idx n.Pins 0).bind fun (x294 : Pin) => (netlist_partAt N x.Parts x294.Part).bind fun (x297 : Int) => (netlist_Union_Join N s230 x290 x297).bind fun (x298 : (List Int)) => some x298 : Option ((List Int))))
      (fun j up => UE x.Parts.length up (allE x W k ++ (n.Pins.take j).map (fun p => (ixP x p, ixP x (n.Pins.headD default))))) (by omega) (by simpa using hu) (fun j up hj hu => by
        have hy : n.Pins[j]? = some n.Pins[j] := List.getElem?_eq_getElem hj
        have hym := List.mem_of_getElem? hy
        obtain ⟨g1, g2⟩ := ix_ok ok hm hym
        obtain ⟨r, u1, u2, u3⟩ := hu
        obtain ⟨up', j1, j2⟩ := Join_eq (N := N) u1 g2 f2 (by omega)
        refine ⟨up', ?_, ?_⟩
        · rw [idx_at hy, bnd_some, partAt_eq ok.parts.sorted (by omega) hN, bnd_some, show (0 : Int) = ((0 : Nat) : Int) from rfl, idx_at hfirst, bnd_some, partAt_eq ok.parts.sorted (by omega) hN, bnd_some, f1, g1, j1, bnd_some]
        · rw [List.take_succ_eq_append_getElem hj, List.map_append, ← List.append_assoc]
          exact ⟨_, j2, u2.join _ _ (u1.rr _ g2), u3.join g2 f2⟩)
    obtain ⟨up', a1, a2⟩ := this
    refine ⟨up', ?_, ?_⟩
    · rw [a1, bnd_some]
    · rw [List.take_length] at a2
      unfold netE; rw [if_neg hc]; exact a2
def nmP (x : Netlist) (i : Nat) : Str := (x.Parts.getD i default).Name
def islesS (x : Netlist) (r : Nat → Nat) : List (List Str) := (heads x.Parts.length r).map (fun k => (cls x.Parts.length r k).map (nmP x))
theorem nm_at {x : Netlist} {i : Nat} (h : i < x.Parts.length) : x.Parts[i]? = some (x.Parts.getD i default) := by
  rw [List.getD_eq_getElem?_getD, List.getElem?_eq_getElem h]; rfl
theorem Islands_eq {t : List PartType} {x : Netlist} {W : List Str} (hbt : bk t ≤ 1048576) (hbx : bk x ≤ 1048576) (hWl : W.length ≤ 1048576) (hN : 4194304 ≤ N)
    (h1 : checkList t x = 0) (h2 : namesErr W 1000 (isNet x) = 0) : ∃ (r : Nat → Nat) (up : List Int), UF x.Parts.length up r ∧ Coarse r (allE x W x.Nets.length) ∧ Fine x.Parts.length r (allE x W x.Nets.length) ∧
      netlist_Islands N t x W = some (islesS x r, 0) := by
  have ok := checkList_ok h1
  have hxb := bk_Netlist x
  have hxn := bk_len x.Nets
  have hxp := bk_len x.Parts
  have hfew := ok.few
  have hcn : netlist_checkNames N W 1000 (fun y0 => netlist_Islands_c1 N y0 x) = some 0 := by
    have := checkNames_eq (N := N) (l := W) (most := 1000) (φ := fun y0 => netlist_Islands_c1 N y0 x) (b := isNet x) (fun s _ => by
      show netlist_Islands_c1 N s x = _
      unfold netlist_Islands_c1
      rw [NetAt_eq ok.nets (by omega) hN, bnd_some]
      congr 1
      exact at?_ge _ _) (by omega)
    rw [h2] at this; exact this
  obtain ⟨hw1, hw2, hw3⟩ := names_ok h2
  obtain ⟨u0, a1, a2⟩ := NewUnion_eq (N := N) (n := x.Parts.length) (by omega)
  obtain ⟨u1, b1, r, b2, b3, b4⟩ := netLoop (N := N) ok hw2 (by omega) hN ⟨_, a2, Coarse.id, Fine.id _⟩
  obtain ⟨u2, c1, c2⟩ := Sets_eq (N := N) b2 (by omega) (by omega)
  refine ⟨r, u2, c2, b3, b4, ?_⟩
  unfold netlist_Islands
  rw [netlist_CheckList_eq hbt hbx hN, bnd_some, h1, show ((0 : Int) != 0) = false by decide, cond_false, hcn, bnd_some, show ((0 : Int) != 0) = false by decide, cond_false, a1, bnd_some, b1, bnd_some, c1, bnd_some]
  dsimp only
  have hsl : (setsS x.Parts.length r).length = (heads x.Parts.length r).length := by unfold setsS; simp
  have hhl := heads_len x.Parts.length r
  rw [fld_fun (s := ([] : List (List Str))) (fun k => ((heads x.Parts.length r).take k).map (fun k => (cls x.Parts.length r k).map (nmP x))) (by omega) rfl (fun k hk => by
    rw [hsl] at hk
    have hh : (heads x.Parts.length r)[k]? = some (heads x.Parts.length r)[k] := List.getElem?_eq_getElem hk
    have hs : (setsS x.Parts.length r)[k]? = some ((cls x.Parts.length r (heads x.Parts.length r)[k]).map (fun i => ((i : Nat) : Int))) := by unfold setsS; rw [List.getElem?_map, hh]; rfl
    have hcl := cls_len x.Parts.length r (heads x.Parts.length r)[k]
    rw [idx_at hs, bnd_some]
    rw [fld_fun (s := ([] : List Str)) (fun j => ((cls x.Parts.length r (heads x.Parts.length r)[k]).take j).map (nmP x)) (by rw [List.length_map]; omega) rfl (fun j hj => by
      rw [List.length_map] at hj
      have hm : (cls x.Parts.length r (heads x.Parts.length r)[k])[j] ∈ cls x.Parts.length r (heads x.Parts.length r)[k] := List.getElem_mem hj
      have hlt : (cls x.Parts.length r (heads x.Parts.length r)[k])[j] < x.Parts.length := by
        have : ∀ a ∈ cls x.Parts.length r (heads x.Parts.length r)[k], a < x.Parts.length := fun a ha => by unfold cls at ha; exact List.mem_range.1 (List.mem_filter.1 ha).1
        exact this _ hm
      rw [idx_at (x := (((cls x.Parts.length r (heads x.Parts.length r)[k])[j] : Nat) : Int)) (by rw [List.getElem?_map, List.getElem?_eq_getElem hj]; rfl), bnd_some, idx_at (nm_at hlt), bnd_some, app_some (by simp; omega), bnd_some, List.take_succ_eq_append_getElem hj, List.map_append]
      rfl), bnd_some, app_some (by simp; omega), bnd_some, List.take_succ_eq_append_getElem hk, List.map_append, List.length_map, List.take_length]
    rfl), bnd_some, hsl, List.take_length]
  rfl

/-! ### The reference -/
def cF0 (l : List Bool) : Nat := l.count false
theorem cF_set : ∀ (l : List Bool) (i : Nat), l[i]? = some false → cF0 (l.set i true) + 1 = cF0 l
  | [], i, h => by simp at h
  | b :: l, 0, h => by simp at h; subst h; simp [cF0]
  | b :: l, i + 1, h => by
    have := cF_set l i (by simpa using h)
    unfold cF0 at this ⊢
    simp only [List.set_cons_succ, List.count_cons]
    omega
/-- what is seen grows -/
def Grows (a b : List Bool) : Prop := a.length = b.length ∧ ∀ (i : Nat), a[i]? = some true → b[i]? = some true
theorem Grows.refl (a : List Bool) : Grows a a := ⟨rfl, fun _ h => h⟩
theorem Grows.trans {a b c : List Bool} (h : Grows a b) (k : Grows b c) : Grows a c := ⟨h.1.trans k.1, fun i hi => k.2 i (h.2 i hi)⟩
theorem Grows.set (a : List Bool) (i : Nat) : Grows a (a.set i true) := ⟨by simp, fun j hj => by
  rw [List.getElem?_set]
  split
  · rename_i e; subst e; rw [if_pos (List.getElem?_eq_some_iff.1 hj).1]
  · exact hj⟩
/-- one net, while the island of k is looked for -/
def hitB (x : Netlist) (n : Net) (seen : List Bool) : Bool := n.Pins.any (fun p => seen.getD (ixP x p) false)
theorem getD_true {l : List Bool} {i : Nat} : l.getD i false = true ↔ l[i]? = some true := by
  rw [List.getD_eq_getElem?_getD]
  cases l[i]? with
  | none => simp
  | some b => cases b <;> simp
theorem get_of_lt {l : List Bool} {i : Nat} (h : i < l.length) : l[i]? = some (l.getD i false) := by
  rw [List.getD_eq_getElem?_getD, List.getElem?_eq_getElem h]; rfl
/-- closed under a net -/
def ClosedN (x : Netlist) (W : List Str) (seen : List Bool) (n : Net) : Prop := n.Name ∉ W → ∀ p ∈ n.Pins, seen[ixP x p]? = some true → ∀ q ∈ n.Pins, seen[ixP x q]? = some true
theorem idx_bool {l : List Bool} {k : Nat} (h : k < l.length) : idx l ((k : Nat) : Int) = some (l.getD k false) := idx_at (get_of_lt h)
theorem cls_mem {n k i : Nat} {r : Nat → Nat} : i ∈ cls n r k ↔ i < n ∧ r i = k := by unfold cls; simp
/-! ### The law -/
end
end Go.Gk
