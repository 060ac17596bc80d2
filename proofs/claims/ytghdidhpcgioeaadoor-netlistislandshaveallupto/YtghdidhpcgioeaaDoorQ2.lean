/-
  Plain laws: numbers that are joined (Union). No statement of the seed is proved here.
-/
import Derived.Test.YtghdidhpcgioeaaDoorB
import Derived.Test.YtghdidhpcgioeaaDoorP3
set_option linter.unusedVariables false
set_option linter.unusedSimpArgs false
set_option linter.unusedSectionVars false
namespace Go.Gk
open Go
section
variable {N : Nat}
/-- The row up tells for each number one that is not above it; r is the least one that is so reached. -/
structure UF (n : Nat) (up : List Int) (r : Nat → Nat) : Prop where
  len : up.length = n
  rt : ∀ i, i < n → ∃ u : Nat, up[i]? = some ((u : Nat) : Int) ∧ u ≤ i ∧ r u = r i ∧ (u = i ↔ r i = i)
theorem UF.le {n : Nat} {up : List Int} {r : Nat → Nat} (h : UF n up r) : ∀ i, i < n → r i ≤ i := by
  intro i
  induction i using Nat.strongRecOn with
  | ind i ih =>
    intro hi
    obtain ⟨u, _, h2, h3, h4⟩ := h.rt i hi
    by_cases e : u = i
    · rw [h4.1 e]; exact Nat.le_refl _
    · rw [← h3]; have := ih u (by omega) (by omega); omega
theorem UF.rr {n : Nat} {up : List Int} {r : Nat → Nat} (h : UF n up r) : ∀ i, i < n → r (r i) = r i := by
  intro i
  induction i using Nat.strongRecOn with
  | ind i ih =>
    intro hi
    obtain ⟨u, _, h2, h3, h4⟩ := h.rt i hi
    by_cases e : u = i
    · rw [h4.1 e, h4.1 e]
    · rw [← h3]; exact ih u (by omega) (by omega)
theorem set_int {l : List Int} {j : Nat} {v : Int} {i : Nat} (hj : j < l.length) : (l.set j v)[i]? = if i = j then some v else l[i]? := by
  rw [List.getElem?_set]
  by_cases e : j = i
  · rw [if_pos e, if_pos e.symm, if_pos hj]
  · rw [if_neg e, if_neg (fun h => e h.symm)]
theorem UF.init (n : Nat) (up : List Int) (h1 : up.length = n) (h2 : ∀ i, i < n → up[i]? = some ((i : Nat) : Int)) : UF n up (fun i => i) :=
  ⟨h1, fun i hi => ⟨i, h2 i hi, Nat.le_refl _, rfl, by simp⟩⟩
theorem NewUnion_eq {n : Nat} (hn : n ≤ 1048576000) : ∃ up, netlist_NewUnion N ((n : Nat) : Int) = some up ∧ UF n up (fun i => i) := by
  unfold netlist_NewUnion
  rw [mk_some 0 (by omega), bnd_some]
  have h0 : (List.replicate n (0 : Int)).length = n := by simp
  obtain ⟨s', h1, h2⟩ := fld_inv (m := (List.replicate n (0 : Int)).length) (s := List.replicate n (0 : Int)) (body := fun (k34 : Nat) (s35 : (List Int)) => ((idx s35 (k34 : Int)).bind fun (x38 : Int) => some (s35.set (Int.toNat (k34 : Int)) (k34 : Int)) : Option ((List Int))))
    (fun k s => s.length = n ∧ ∀ i, i < k → s[i]? = some ((i : Nat) : Int)) (by omega) ⟨h0, fun i hi => by omega⟩ (fun k s hk ⟨hs, hi⟩ => by
      refine ⟨s.set k ((k : Nat) : Int), ?_, by simp [hs], fun i hi' => ?_⟩
      · rw [idx_nat _ _ (by omega), bnd_some, Int.toNat_natCast]
      · rw [set_int (by omega)]
        split
        · rename_i e; rw [e]
        · exact hi i (by omega))
  rw [h1, bnd_some]
  exact ⟨s', rfl, UF.init n s' h2.1 (fun i hi => h2.2 i (by omega))⟩
theorem Top_eq {n : Nat} {up : List Int} {r : Nat → Nat} (h : UF n up r) {i : Nat} (hi : i < n) (hn : n < N) : ∃ up', netlist_Union_Top N up ((i : Nat) : Int) = some (((r i : Nat) : Int), up') ∧ UF n up' r := by
  unfold netlist_Union_Top
  obtain ⟨o, h1, h2⟩ := itr_inv (R := Empty) (body := fun (s32 : (List Int) × Int) => ((idx s32.1 s32.2).bind fun (x43 : Int) => bif (x43 != s32.2) then ((idx s32.1 s32.2).bind fun (x44 : Int) => (idx s32.1 x44).bind fun (x45 : Int) => (idx s32.1 s32.2).bind fun (x46 : Int) => (idx (s32.1.set (Int.toNat s32.2) x45) s32.2).bind fun (x47 : Int) => some (.nx ((s32.1.set (Int.toNat s32.2) x45), x47))) else (some (.br (s32.1, s32.2))) : Option (Fl ((List Int) × Int) Empty)))
    (fun s => UF n s.1 r ∧ ∃ j : Nat, s.2 = ((j : Nat) : Int) ∧ j < n ∧ r j = r i) (fun s => s.2.toNat) (fun s => s.2 = ((r i : Nat) : Int) ∧ UF n s.1 r) (fun _ => True) (fun s ⟨hu, j, hj, hjn, hr⟩ => by
      obtain ⟨l, y⟩ := s
      dsimp only at hu hj ⊢
      subst hj
      obtain ⟨u, a1, a2, a3, a4⟩ := hu.rt j hjn
      rw [idx_at a1, bnd_some]
      by_cases e : u = j
      · subst e
        refine ⟨.br (l, ((u : Nat) : Int)), by rw [show (((u : Nat) : Int) != ((u : Nat) : Int)) = false by simp, cond_false], ?_, hu⟩
        show ((u : Nat) : Int) = _
        rw [← hr, a4.1 rfl]
      · obtain ⟨v, b1, b2, b3, b4⟩ := hu.rt u (by omega)
        have hl := hu.len
        refine ⟨.nx (l.set j ((v : Nat) : Int), ((v : Nat) : Int)), by
          rw [show (((u : Nat) : Int) != ((j : Nat) : Int)) = true by simp; omega, cond_true, bnd_some, idx_at b1, bnd_some, bnd_some, Int.toNat_natCast,
            idx_at (x := ((v : Nat) : Int)) (by rw [set_int (by omega), if_pos rfl]), bnd_some], ⟨⟨by simp [hl], fun k hk => ?_⟩, v, rfl, by omega, ?_⟩, ?_⟩
        · rw [set_int (by omega)]
          by_cases e2 : k = j
          · subst e2
            rw [if_pos rfl]
            refine ⟨v, rfl, by omega, by rw [b3, a3], ?_⟩
            constructor
            · intro h; omega
            · intro h; exact absurd (a4.2 h) e
          · rw [if_neg e2]; exact hu.rt k hk
        · rw [b3, a3, hr]
        · simp only [Int.toNat_natCast]; omega)
    N (up, ((i : Nat) : Int)) ⟨h, i, rfl, hi, rfl⟩ (by simp only [Int.toNat_natCast]; omega)
  rw [h1, bnd_some]
  cases o with
  | go s' => exact ⟨s'.1, by rw [← h2.1]; rfl, h2.2⟩
  | rt r => exact r.elim
def joinR (r : Nat → Nat) (a b : Nat) : Nat → Nat := fun x => if r x = max a b then min a b else r x
theorem if_max (a b : Nat) : (if ((a : Nat) : Int) < ((b : Nat) : Int) then ((b : Nat) : Int) else ((a : Nat) : Int)) = ((max a b : Nat) : Int) := by
  rw [Nat.max_def]; split <;> split <;> omega
theorem if_min (a b : Nat) : (if ((b : Nat) : Int) < ((a : Nat) : Int) then ((b : Nat) : Int) else ((a : Nat) : Int)) = ((min a b : Nat) : Int) := by
  rw [Nat.min_def]; split <;> split <;> omega
theorem Join_eq {n : Nat} {up : List Int} {r : Nat → Nat} (h : UF n up r) {i k : Nat} (hi : i < n) (hk : k < n) (hn : n < N) :
    ∃ up', netlist_Union_Join N up ((i : Nat) : Int) ((k : Nat) : Int) = some up' ∧ UF n up' (joinR r (r i) (r k)) := by
  obtain ⟨u1, a1, a2⟩ := Top_eq h hi hn
  obtain ⟨u2, b1, b2⟩ := Top_eq a2 hk hn
  have hri := h.le i hi
  have hrk := h.le k hk
  have rri := h.rr i hi
  have rrk := h.rr k hk
  unfold netlist_Union_Join
  rw [a1, bnd_some, b1, bnd_some]
  dsimp only
  rw [if_max, if_min]
  have hm : max (r i) (r k) < n := by omega
  have hl := b2.len
  rw [idx_nat _ _ (by omega), bnd_some, Int.toNat_natCast]
  refine ⟨_, rfl, by simp [hl], fun x hx => ?_⟩
  have rmax : r (max (r i) (r k)) = max (r i) (r k) := by rcases Nat.le_total (r i) (r k) with e | e <;> simp [Nat.max_def] <;> split <;> omega
  have rmin : r (min (r i) (r k)) = min (r i) (r k) := by rcases Nat.le_total (r i) (r k) with e | e <;> simp [Nat.min_def] <;> split <;> omega
  rw [set_int (by omega)]
  by_cases e : x = max (r i) (r k)
  · subst e
    rw [if_pos rfl]
    refine ⟨min (r i) (r k), rfl, by omega, ?_, ?_⟩
    · unfold joinR; rw [rmin, rmax, if_pos rfl]; split <;> rfl
    · unfold joinR; rw [rmax, if_pos rfl]
  · rw [if_neg e]
    obtain ⟨u, c1, c2, c3, c4⟩ := b2.rt x hx
    refine ⟨u, c1, c2, ?_, ?_⟩
    · unfold joinR; rw [c3]
    · unfold joinR
      split
      · rename_i e2
        constructor
        · intro hu; have := c4.1 hu; omega
        · intro hu
          have h1 := b2.le x hx
          have : min (r i) (r k) = max (r i) (r k) ∨ x < max (r i) (r k) := by omega
          have h3 : x = max (r i) (r k) := by omega
          exact absurd h3 e
      · exact c4
/-- r joins all pairs of E -/
def Coarse (r : Nat → Nat) (E : List (Nat × Nat)) : Prop := ∀ p ∈ E, r p.1 = r p.2
/-- r joins nothing that E does not join -/
def Fine (n : Nat) (r : Nat → Nat) (E : List (Nat × Nat)) : Prop := ∀ S : Nat → Prop, (∀ p ∈ E, S p.1 ↔ S p.2) → ∀ i j, i < n → j < n → r i = r j → S i → S j
theorem Coarse.join {r : Nat → Nat} {E : List (Nat × Nat)} (h : Coarse r E) (i k : Nat) (_h2 : r (r i) = r i) : Coarse (joinR r (r i) (r k)) (E ++ [(i, k)]) := fun p hp => by
  rcases List.mem_append.1 hp with hp | hp
  · unfold joinR; rw [h p hp]
  · simp at hp; subst hp
    unfold joinR
    dsimp only
    split <;> split <;> omega
theorem Fine.join {n : Nat} {r : Nat → Nat} {E : List (Nat × Nat)} (h : Fine n r E) {i k : Nat} (hi : i < n) (hk : k < n) : Fine n (joinR r (r i) (r k)) (E ++ [(i, k)]) := fun S hS x y hx hy hr hSx => by
  have hE : ∀ p ∈ E, S p.1 ↔ S p.2 := fun p hp => hS p (List.mem_append_left _ hp)
  have hik : S i ↔ S k := hS (i, k) (by simp)
  have key := h S hE
  unfold joinR at hr
  by_cases h1 : r x = r y
  · exact key x y hx hy h1 hSx
  · have : (r x = r i ∧ r y = r k) ∨ (r x = r k ∧ r y = r i) := by
      split at hr <;> split at hr <;> omega
    rcases this with ⟨e1, e2⟩ | ⟨e1, e2⟩
    · exact key k y hk hy e2.symm (hik.1 (key x i hx hi e1 hSx))
    · exact key i y hi hy e2.symm (hik.2 (key x k hx hk e1 hSx))
theorem Fine.id (n : Nat) : Fine n (fun i => i) [] := fun S _ i j _ _ h hs => by
  have h : i = j := h
  subst h; exact hs
theorem Coarse.id : Coarse (fun i => i) [] := fun p hp => by simp at hp

/-! ### The sets -/
def heads (n : Nat) (r : Nat → Nat) : List Nat := (List.range n).filter (fun k => decide (r k = k))
def cls (n : Nat) (r : Nat → Nat) (k : Nat) : List Nat := (List.range n).filter (fun i => decide (r i = k))
theorem heads_succ (n : Nat) (r : Nat → Nat) : heads (n + 1) r = if r n = n then heads n r ++ [n] else heads n r := by
  unfold heads
  rw [List.range_succ, List.filter_append]
  by_cases h : r n = n
  · rw [if_pos h]; simp [h]
  · rw [if_neg h]; simp [h]
theorem cls_succ (n : Nat) (r : Nat → Nat) (k : Nat) : cls (n + 1) r k = if r n = k then cls n r k ++ [n] else cls n r k := by
  unfold cls
  rw [List.range_succ, List.filter_append]
  by_cases h : r n = k
  · rw [if_pos h]; simp [h]
  · rw [if_neg h]; simp [h]
theorem heads_len (n : Nat) (r : Nat → Nat) : (heads n r).length ≤ n := by
  have := List.length_filter_le (fun k => decide (r k = k)) (List.range n)
  rw [List.length_range] at this; exact this
theorem cls_len (n : Nat) (r : Nat → Nat) (k : Nat) : (cls n r k).length ≤ n := by
  have := List.length_filter_le (fun i => decide (r i = k)) (List.range n)
  rw [List.length_range] at this; exact this
theorem mem_heads {n k : Nat} {r : Nat → Nat} : k ∈ heads n r ↔ k < n ∧ r k = k := by unfold heads; simp
theorem heads_nodup (n : Nat) (r : Nat → Nat) : (heads n r).Nodup := List.Nodup.sublist List.filter_sublist List.nodup_range
def setsS (n : Nat) (r : Nat → Nat) : List (List Int) := (heads n r).map (fun k => (cls n r k).map (fun i => ((i : Nat) : Int)))
theorem cls_nil {n k : Nat} {r : Nat → Nat} (h : ∀ i, i < n → r i ≤ i) (hk : n ≤ k) : cls n r k = [] := by
  unfold cls
  rw [List.filter_eq_nil_iff]
  intro i hi
  have h1 := List.mem_range.1 hi
  have := h i h1
  simp; omega
theorem set_map_append {α β : Type} (f g : α → β) (l : List α) (j : Nat) (a : α) (hn : l.Nodup) (hj : l[j]? = some a) (hf : ∀ b, b ∈ l → b ≠ a → f b = g b) : (l.map f).set j (g a) = l.map g := by
  apply List.ext_getElem?
  intro i
  have hjl := (List.getElem?_eq_some_iff.1 hj).1
  rw [List.getElem?_set, List.length_map, List.getElem?_map, List.getElem?_map]
  by_cases e : j = i
  · subst e; rw [if_pos rfl, if_pos hjl, hj]; rfl
  · rw [if_neg e]
    cases hb : l[i]? with
    | none => rfl
    | some b =>
      have hne : b ≠ a := fun he => by
        subst he
        have hil := (List.getElem?_eq_some_iff.1 hb).1
        exact e ((List.getElem_inj hn).1 (by rw [(List.getElem?_eq_some_iff.1 hb).2, (List.getElem?_eq_some_iff.1 hj).2]) |>.symm)
      show some (f b) = some (g b)
      rw [hf b (List.mem_of_getElem? hb) hne]
/-- the map tells for each head its place -/
def NumOk (n : Nat) (r : Nat → Nat) (m : List (Int × Int)) : Prop := ∀ (j k : Nat), (heads n r)[j]? = some k → mget m ((k : Nat) : Int) 0 = ((j : Nat) : Int)
theorem Sets_eq {n : Nat} {up : List Int} {r : Nat → Nat} (h : UF n up r) (hn : n < N) (hn2 : n ≤ 1048576000) : ∃ up', netlist_Union_Sets N up = some (setsS n r, up') ∧ UF n up' r := by
  unfold netlist_Union_Sets
  have hlen := h.len
  have hle := h.le
  have hrr := h.rr
  obtain ⟨s', h1, h2⟩ := fld_inv (m := up.length) (s := (up, ([] : (List (List Int))), ([] : (List (Int × Int)))))
    (body := fun (k32 : Nat) (s33 : (List Int) × (List (List Int)) × (List (Int × Int))) => ((netlist_Union_Top N s33.1 (k32 : Int)).bind fun (x117 : (Int × (List Int))) => (bif (x117.1 == (k32 : Int)) then ((app 24 s33.2.1 [([] : (List Int))]).bind fun (x126 : (List (List Int))) => some (x126, (mput s33.2.2 (k32 : Int) (s33.2.1.length : Int)))) else (some (s33.2.1, s33.2.2))).bind fun (s122 : (List (List Int)) × (List (Int × Int))) => (idx s122.1 (mget s122.2 x117.1 (0 : Int))).bind fun (x128 : (List Int)) => (app 8 x128 ([(k32 : Int)] : (List Int))).bind fun (x134 : (List Int)) => (idx s122.1 (mget s122.2 x117.1 (0 : Int))).bind fun (x136 : (List Int)) => some (x117.2, (s122.1.set (Int.toNat (mget s122.2 x117.1 (0 : Int))) x134), s122.2) : Option ((List Int) × (List (List Int)) × (List (Int × Int)))))
    (fun k s => UF n s.1 r ∧ s.2.1 = setsS k r ∧ NumOk k r s.2.2) (by omega) ⟨h, rfl, fun j k hj => by simp [heads] at hj⟩ (fun k s hk ⟨hu, hs, hm⟩ => by
      obtain ⟨l, ss, m⟩ := s
      dsimp only at hu hs hm ⊢
      subst hs
      rw [hlen] at hk
      obtain ⟨u', a1, a2⟩ := Top_eq hu hk hn
      rw [a1, bnd_some]
      dsimp only
      have hhl := heads_len k r
      have hsl : (setsS k r).length = (heads k r).length := by unfold setsS; simp
      have hrk := hle k hk
      by_cases e : r k = k
      · -- a new set
        rw [show (((r k : Nat) : Int) == ((k : Nat) : Int)) = true by rw [e]; simp, cond_true, app_some (by rw [hsl]; simp; omega), bnd_some, bnd_some]
        dsimp only
        rw [e, mget_mput, if_pos rfl, hsl]
        have hi : (setsS k r ++ [([] : List Int)])[(heads k r).length]? = some [] := by rw [← hsl, List.getElem?_append_right (Nat.le_refl _), Nat.sub_self]; rfl
        rw [idx_at hi, bnd_some, app_some (by simp), bnd_some, bnd_some, Int.toNat_natCast]
        refine ⟨_, rfl, a2, ?_, fun j q hj => ?_⟩
        · dsimp only
          rw [← hsl, List.set_append_right _ _ (Nat.le_refl _), Nat.sub_self]
          unfold setsS
          rw [heads_succ, if_pos e, List.map_append]
          congr 1
          · apply List.map_congr_left
            intro a ha
            have := (mem_heads.1 ha).1
            rw [cls_succ, if_neg (by omega)]
          · simp only [List.set_cons_zero, List.map_cons, List.map_nil, List.nil_append]
            rw [cls_succ, if_pos e, cls_nil (fun i hi => hle i (by omega)) (Nat.le_refl _)]; rfl
        · dsimp only
          rw [heads_succ, if_pos e] at hj
          rw [mget_mput]
          by_cases e2 : j < (heads k r).length
          · rw [List.getElem?_append_left e2] at hj
            have := (mem_heads.1 (List.mem_of_getElem? hj)).1
            rw [if_neg (by omega)]; exact hm j q hj
          · rw [List.getElem?_append_right (by omega)] at hj
            have hj0 : j - (heads k r).length = 0 := by
              have := (List.getElem?_eq_some_iff.1 hj).1; simp at this; omega
            rw [hj0] at hj; simp at hj; subst hj
            rw [if_pos rfl]; congr 1; omega
      · rw [show (((r k : Nat) : Int) == ((k : Nat) : Int)) = false by simp; omega, cond_false, bnd_some]
        dsimp only
        have hh : r k ∈ heads k r := mem_heads.2 ⟨by omega, hrr k hk⟩
        obtain ⟨j, hj⟩ := List.getElem?_of_mem hh
        rw [hm j (r k) hj]
        have hcl := cls_len k r (r k)
        have hi : (setsS k r)[j]? = some ((cls k r (r k)).map (fun i => ((i : Nat) : Int))) := by unfold setsS; rw [List.getElem?_map, hj]; rfl
        rw [idx_at hi, bnd_some, app_some (by simp; omega), bnd_some, bnd_some, Int.toNat_natCast]
        refine ⟨_, rfl, a2, ?_, fun j' q hj' => ?_⟩
        · unfold setsS
          rw [heads_succ, if_neg e]
          have := set_map_append (fun a => (cls k r a).map (fun i => ((i : Nat) : Int))) (fun a => (cls (k + 1) r a).map (fun i => ((i : Nat) : Int))) (heads k r) j (r k) (heads_nodup k r) hj (fun b hb hne => by
            rw [cls_succ, if_neg (fun h => hne h.symm)])
          rw [cls_succ, if_pos rfl, List.map_append] at this
          exact this
        · rw [heads_succ, if_neg e] at hj'; exact hm j' q hj')
  rw [h1, bnd_some]
  obtain ⟨l, ss, m⟩ := s'
  dsimp only at h2
  rw [hlen] at h2
  refine ⟨l, ?_, h2.1⟩
  rw [← h2.2.1]
end
end Go.Gk
