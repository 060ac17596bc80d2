/-
  slices.SortFunc (the shelf's contract) in the logic of memory. No statement of the seed is proved here.
-/
import Derived.Test.YtfkpknhicijjbaaK15
import Derived.Shelf.SlSortCmp.NoneTotal
set_option linter.unusedVariables false
set_option linter.unusedSimpArgs false
set_option linter.unusedSectionVars false
namespace Go.Gk
open Go Go.Proofs Go.Sort

/-- A world's whole heap is memory that never changes. -/
def heapIs (w : World) : HP := ⟨fun M _ => ∀ b, b < w.heap.size → M b = w.heap[b]?, fun h hk b hb => by
  have := hk b hb
  rw [Array.getElem?_eq_getElem hb] at this ⊢
  exact h b _ this⟩
theorem Holds.all (w : World) : Holds w w [heapIs w] := by
  refine ⟨fun b => w.heap[b]?, fun _ => hnil, ⟨rfl, rfl, rfl, Nat.le_refl _, fun _ _ h => h, fun i P hP => ?_, fun _ _ _ _ h => (by cases h), fun _ _ _ _ h => (by cases h), fun _ _ _ _ _ _ _ h => (by cases h)⟩⟩
  cases i with
  | zero => simp at hP; subst hP; exact fun _ _ => rfl
  | succ i => simp at hP
theorem Holds.grown {w w' : World} {Γ : List HP} {i : Nat} (h : Holds w w' Γ) (hi : Γ[i]? = some (heapIs w)) : ∃ q os, w' = grow (w.drewN q) os := by
  obtain ⟨M, hs, g⟩ := h
  have hk := g.sat i _ hi
  have key : ∀ b, b < w.heap.size → w'.heap[b]? = w.heap[b]? := fun b hb => by
    have := hk b hb
    rw [Array.getElem?_eq_getElem hb] at this
    rw [g.im b _ this, Array.getElem?_eq_getElem hb]
  have hsz : w.heap.size ≤ w'.heap.size := by
    rcases Nat.lt_or_ge w'.heap.size w.heap.size with h | h
    · have := key w'.heap.size h
      rw [Array.getElem?_eq_none (Nat.le_refl _), Array.getElem?_eq_getElem h] at this
      cases this
    · exact h
  refine ⟨w'.drawn - w.drawn, w'.heap.extract w.heap.size w'.heap.size, ?_⟩
  have e1 : w'.heap = w.heap ++ w'.heap.extract w.heap.size w'.heap.size := by
    apply Array.ext_getElem?
    intro k
    rw [Array.getElem?_append]
    split
    · rename_i hk; exact key k hk
    · rename_i hk
      rw [Array.getElem?_extract]
      by_cases h2 : k < w'.heap.size
      · rw [if_pos (by omega)]; congr 1; omega
      · rw [if_neg (by omega), Array.getElem?_eq_none (by omega)]
  obtain ⟨h1, h2, h3, h4, h5⟩ := w'
  obtain ⟨k1, k2, k3, k4, k5⟩ := w
  have a1 := g.os; have a2 := g.tape; have a3 := g.out; have a4 := g.dr
  simp only at a1 a2 a3 a4 e1
  subst a1; subst a2; subst a3
  simp only [grow, World.drewN, World.mk.injEq, and_true, true_and]
  exact ⟨e1, by omega⟩

section
variable {α : Type} [GT α]
def cfI (φ : α → α → Option Int) (l : List α) (i j : Fin l.length) : Int := (φ l[i] l[j]).getD 0
def sortL (φ : α → α → Option Int) (l : List α) : List α :=
  if h : 0 < l.length then
    haveI : Inhabited (Fin l.length) := ⟨⟨0, h⟩⟩
    ((pdq (ltOf (cfI φ l)) (Array.ofFn fun i : Fin l.length => i) 0 l.length (Lib.bitLen l.length) true true).toList.map fun i => l[i])
  else l
open Classical in
noncomputable def gSort (φ : α → α → Option Int) (l : List α) : Option (List α) :=
  if ((∀ i j : Fin l.length, ∃ c, φ l[i] l[j] = some c) ∧ SWO (ltOf (cfI φ l))) ∧ l.length < 4611686018427387904 then some (sortL φ l) else none
end

/-! ### A row's world -/
section
variable {β : Type} [Inhabited β] (enc : β → List Value) (k : Nat) (w : World) (g o m : Nat) (dk : Array β) (os : Array Obj)
theorem sw_other {b : Nat} (hb : b < w.heap.size) (hg : b ≠ g) : (sortWorldK enc k w g o m dk os).heap[b]? = w.heap[b]? := by
  simp only [sortWorldK, grow, putRowK, putRow, mapBlock, Go.Sort.ahead]
  rw [Array.getElem?_append_left (by simpa using hb), Array.getElem?_modify, if_neg (fun h => hg h.symm)]
theorem sw_self {cur : Array Value} {e : TypeId} {fr : Nat × Nat} (hg : w.heap[g]? = some (.cells cur e fr)) :
    (sortWorldK enc k w g o m dk os).heap[g]? = some (.cells (putCells id o (flatK enc k dk) cur) e fr) := by
  have hb : g < w.heap.size := (Array.getElem?_eq_some_iff.1 hg).1
  simp only [sortWorldK, grow, putRowK, putRow, mapBlock, Go.Sort.ahead]
  rw [Array.getElem?_append_left (by simpa using hb), Array.getElem?_modify, if_pos rfl, hg]
  rfl
end
theorem flat_cells {β : Type} [Inhabited β] {enc : β → List Value} {k : Nat} (hk : ∀ x, (enc x).length = k) (hk0 : 0 < k) (d : Array β) (o : Nat) (cur : Array Value) (ho : o + d.size * k ≤ cur.size) (a : Nat) (ha : a < d.size) :
    (((putCells id o (flatK enc k d) cur).toList.drop o).drop (a * k)).take k = enc d[a]! := by
  apply List.ext_getElem?
  intro t
  rw [List.drop_drop, List.getElem?_take]
  by_cases ht : t < k
  · have h1 : a * k + t < d.size * k := by
      have := Nat.mul_le_mul_right k (show a + 1 ≤ d.size from ha)
      rw [Nat.add_mul, Nat.one_mul] at this; omega
    rw [if_pos ht, List.getElem?_drop, Array.getElem?_toList]
    have hsz : o + a * k + t < (putCells id o (flatK enc k d) cur).size := by simp only [putCells, Array.size_mapIdx]; omega
    rw [Array.getElem?_eq_getElem hsz]
    simp only [putCells, Array.getElem_mapIdx, size_flatK]
    rw [if_pos (by omega), List.getElem?_eq_getElem (by rw [hk]; exact ht)]
    have e1 : o + a * k + t - o = a * k + t := by omega
    rw [e1, get_flatK _ _ _ _ h1]
    have e2 : (a * k + t) / k = a := by rw [Nat.mul_comm, Nat.mul_add_div hk0, Nat.div_eq_of_lt ht, Nat.add_zero]
    have e3 : (a * k + t) % k = t := by rw [Nat.mul_comm, Nat.mul_add_mod, Nat.mod_eq_of_lt ht]
    rw [e2, e3, getElem!_pos _ t (by rw [hk]; exact ht)]
    rfl
  · rw [if_neg ht, List.getElem?_eq_none (by rw [hk]; omega)]

/-- **slices.SortFunc**: the slice holds its elements in another order. -/
theorem sort_ok {P : Program} {ρ : Shelf.Ren} (L : SlLaysF0.n6 P ρ) {α : Type} [GT α] (hag : GT.agg α = true) (aE : ∀ w, (isAgg (ρ.t 24)).run P w = .ok true w) (zE : ∀ w, (Go.sizeOf (ρ.t 24)).run P w = .ok (GT.sz α) w)
    {E w : World} {Γ : List HP} {e : TypeId} {v : Value} {l l' : List α} {gf : Nat} {φ : α → α → Option Int} (hfn : Fnc P gf)
    (hcl : ∀ {E' w' : World} {Γ' : List HP} {u u' : Value} {x x' : α} {r : Int} {i j : Nat}, Holds E' w' Γ' → Γ'[i]? = some (rd u x) → Γ'[j]? = some (rd u' x') → φ x x' = some r → Calls P gf [u, u'].toArray w' (Ret fun z w'' => z = .int .i64 r ∧ Holds E' w'' Γ'))
    (hw : Holds E w (own e v l :: Γ)) (hb : gSort φ l = some l') :
    Calls P (ρ.f 6) [v, .func (.func gf) #[] #[]].toArray w (Ret fun z w' => z = .tuple #[] ∧ Holds E w' (own e v l' :: Γ)) := by
  unfold gSort at hb
  split at hb
  case isFalse => cases hb
  rename_i hc
  obtain ⟨⟨hφ, hO⟩, hbig⟩ := hc
  injection hb with hb
  by_cases hn : 0 < l.length
  case neg =>
    have hl : l = [] := List.length_eq_zero_iff.1 (by omega)
    subst hl
    have e1 : l' = [] := by rw [← hb]; rfl
    subst e1
    obtain ⟨a, c, hv⟩ := hw.own_slice (i := 0) rfl
    subst hv
    refine Calls.mono (AnyF.slices_SortFunc_none L a c _ w) fun ex w' h => ?_
    obtain ⟨rfl, rfl⟩ := h
    exact ⟨_, rfl, rfl, hw⟩
  letI inh : Inhabited (Fin l.length) := ⟨⟨0, hn⟩⟩
  obtain ⟨M, hs, gd⟩ := hw
  rcases gd.sat 0 _ rfl with ⟨_, h2, _⟩ | ⟨g, o, cap, cur, xs, rfl, hcap, hmax, hh, hsz, hx, hcs⟩
  · rw [h2] at hn; exact absurd hn (by simp)
  have hg : w.heap[g]? = some (.cells cur e (0, 0)) := gd.le 0 g _ (by simp) (by rw [hh]; exact one_self g _)
  have hgs : g < w.heap.size := (Array.getElem?_eq_some_iff.1 hg).1
  have hMg : M g = none := gd.dm 0 g _ (by simp) (by rw [hh]; exact one_self g _)
  generalize hK : GT.sz α = k at *
  have hk0 : 0 < k := by rw [← hK]; exact GT.pos
  subst hx
  have hlen : l.length * k ≤ cap * k := Nat.mul_le_mul_right k hcap
  let enc : Fin l.length → List Value := fun i => (((cur.toList.drop o).take (l.length * k)).drop (i.val * k)).take k
  have henc : ∀ i : Fin l.length, enc i = (cur.toList.drop (o + i.val * k)).take k := fun i => by
    have := mulsz (sz := k) i.isLt
    show (((cur.toList.drop o).take (l.length * k)).drop (i.val * k)).take k = _
    rw [List.drop_take, List.take_take, List.drop_drop, Nat.min_eq_left (by omega)]
  have hlk : ∀ i, (enc i).length = k := fun i => by
    have := mulsz (sz := k) i.isLt
    rw [henc, List.length_take, List.length_drop, Array.length_toList]; omega
  have hel : ∀ i : Fin l.length, GT.ok M (enc i) l[i] := fun i => by
    have := hcs.2 i.val l[i] (List.getElem?_eq_getElem i.isLt)
    rw [hK] at this; exact this
  have hone : ∀ x, ∀ v ∈ enc x, v.oneCell' = true := fun x v hv => GT.one (hel x) v hv
  let d : Array (Fin l.length) := Array.ofFn fun i : Fin l.length => i
  have hds : d.size = l.length := by simp [d]
  have hdi : ∀ i (hi : i < l.length), d[i]! = ⟨i, hi⟩ := fun i hi => by rw [getElem!_pos d i (by rw [hds]; exact hi)]; simp [d]
  have hH : HoldsK enc k w g o d := by
    intro j hj
    rw [size_flatK, hds] at hj
    have hj2 : j / k < l.length := Nat.div_lt_of_lt_mul (by rw [Nat.mul_comm]; exact hj)
    have hjm : j % k < k := Nat.mod_lt _ hk0
    have hdm : j / k * k + j % k = j := by rw [Nat.mul_comm]; exact Nat.div_add_mod j k
    have hbd := mulsz (sz := k) hj2
    have hin : o + j < cur.size := by omega
    refine ⟨?_, ?_⟩
    · rw [get_flatK _ _ _ _ (by rw [hds]; exact hj), hdi _ hj2]
      have e1 : (enc ⟨j / k, hj2⟩)[j % k]! = cur[o + j] := by
        rw [getElem!_pos _ _ (by rw [hlk]; exact hjm)]
        apply Option.some.inj
        rw [← List.getElem?_eq_getElem, henc, List.getElem?_take, if_pos hjm, List.getElem?_drop, Array.getElem?_toList, ← Array.getElem?_eq_getElem]
        congr 1; show o + j / k * k + j % k = o + j; omega
      rw [e1]
      simp only [World.cell?, hg]
      simp [Array.getElem?_eq_getElem hin]
    · simp only [World.frozen?, hg]
      simp
  have hsort := AnyQ.slices_SortFunc_eq L k aE zE enc hlk hone (cfI φ l) hO gf #[] g o cap d w hfn.run ?_ hH hgs ?_
  case refine_2 => rw [hds]; exact hbig
  case refine_1 =>
    intro m os dk hdk x y
    have hxy : φ l[x] l[y] = some (cfI φ l x y) := by obtain ⟨c, hc⟩ := hφ x y; unfold cfI; rw [hc]; rfl
    generalize hW : sortWorldK enc k w g o m dk os = W
    have hMW : hle M (fun b => W.heap[b]?) := fun b o' hb => by
      have hbw := gd.im b o' hb
      have hne : b ≠ g := fun h => by rw [h, hMg] at hb; cases hb
      show W.heap[b]? = some o'
      rw [← hW, sw_other _ _ _ _ _ _ _ _ (Array.getElem?_eq_some_iff.1 hbw).1 hne]; exact hbw
    have h0 : Holds W W [rd (.agg (enc x).toArray) l[x], rd (.agg (enc y).toArray) l[y], heapIs W] := by
      refine ⟨fun b => W.heap[b]?, fun _ => hnil, ⟨rfl, rfl, rfl, Nat.le_refl _, fun _ _ h => h, fun i P hP => ?_, fun _ _ _ _ h => (by cases h), fun _ _ _ _ h => (by cases h), fun _ _ _ _ _ _ _ h => (by cases h)⟩⟩
      match i, hP with
      | 0, hP => simp at hP; subst hP; exact ⟨⟨_, by simp [vof, hag], GT.mono hMW (hel x)⟩, rfl⟩
      | 1, hP => simp at hP; subst hP; exact ⟨⟨_, by simp [vof, hag], GT.mono hMW (hel y)⟩, rfl⟩
      | 2, hP => simp at hP; subst hP; exact fun _ _ => rfl
      | i + 3, hP => simp at hP
    refine Calls.mono (hcl (i := 0) (j := 1) h0 rfl rfl hxy) fun ex w' h => ?_
    obtain ⟨z, rfl, rfl, h⟩ := h
    exact ⟨rfl, h.grown (i := 2) rfl⟩
  refine Calls.mono (by rw [hds] at hsort; exact hsort) fun ex w' h => ?_
  obtain ⟨rfl, n, os, rfl⟩ := h
  refine ⟨_, rfl, rfl, ?_⟩
  obtain ⟨hp, _⟩ := pdq_sorts (ltOf (cfI φ l)) hO d 0 l.length (Lib.bitLen l.length) true true (Nat.zero_le _) (by rw [hds]; exact Nat.le_refl _) (Or.inl rfl)
  have hl' : l' = (pdq (ltOf (cfI φ l)) d 0 l.length (Lib.bitLen l.length) true true).toList.map fun i => l[i] := by
    rw [← hb]; unfold sortL; rw [dif_pos hn]
  generalize hd' : pdq (ltOf (cfI φ l)) d 0 l.length (Lib.bitLen l.length) true true = d' at hp hl' ⊢
  have hds' : d'.size = l.length := by rw [hp.1, hds]
  have hll : l'.length = l.length := by rw [hl', List.length_map, Array.length_toList, hds']
  have hpc : (putCells id o (flatK enc k d') cur).size = cur.size := by simp [putCells]
  have h2 := gd.update (w' := sortWorldK enc k w g o n d' os) (P' := own e (.slice (some ⟨g, o, none⟩) l.length cap) l') (i := 0) (by simp) (Gk.one g (.cells (putCells id o (flatK enc k d') cur) e (0, 0))) ?_ rfl rfl rfl ?_ ?_ ?_ (Nat.le_add_right _ _)
  · exact ⟨M, _, h2⟩
  · refine .inr ⟨g, o, cap, _, _, by rw [hll], by rw [hll]; exact hcap, hmax, rfl, by rw [hpc, hK]; exact hsz, rfl, ?_⟩
    rw [hll, hK]
    refine ⟨?_, fun a x hx => ?_⟩
    · have e1 : (putCells id o (flatK enc k d') cur).toList.length = cur.size := by rw [Array.length_toList, hpc]
      rw [List.length_take, List.length_drop, e1, hll, hK]; omega
    · have ha : a < l.length := by rw [← hll]; exact (List.getElem?_eq_some_iff.1 hx).1
      have hax := mulsz (sz := k) ha
      rw [hK, List.drop_take, List.take_take, Nat.min_eq_left (by omega), flat_cells hlk hk0 d' o cur (by rw [hds']; omega) a (by rw [hds']; exact ha)]
      have hda : d'.toList[a]? = some d'[a]! := by rw [Array.getElem?_toList, Array.getElem?_eq_getElem (by rw [hds']; exact ha), getElem!_pos d' a (by rw [hds']; exact ha)]
      generalize d'[a]! = q at hda ⊢
      have h3 := congrArg (fun z => z[a]?) hl'
      simp only [List.getElem?_map, hda, hx, Option.map_some] at h3
      injection h3 with h3
      rw [h3]
      exact hel q
  · intro b o' hb
    obtain ⟨rfl, rfl⟩ := one_some hb
    exact sw_self _ _ _ _ _ _ _ _ hg
  · intro b o' hb
    obtain ⟨rfl, rfl⟩ := one_some hb
    exact .inl ⟨_, by rw [hh]; exact one_self b _⟩
  · intro b hb1 hb2
    refine sw_other _ _ _ _ _ _ _ _ hb2 fun h => ?_
    subst h
    rw [hh, one_self] at hb1; cases hb1
end Go.Gk
