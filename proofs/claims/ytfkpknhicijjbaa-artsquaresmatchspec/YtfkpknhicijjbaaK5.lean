/-
  Slices that a call owns: append, freezing, reading and writing their elements, literals; structs made of their parts.
  No statement of the seed is proved here.
-/
import Derived.Test.YtfkpknhicijjbaaK4
set_option linter.unusedVariables false
set_option linter.unusedSimpArgs false
set_option linter.unusedSectionVars false
namespace Go.Gk
open Go

section
variable {α β : Type} [GT α] [GT β] {M : Heap}

theorem Cells.nil : Cells M [] ([] : List α) := ⟨by simp, fun i x h => by simp at h⟩
theorem Cells.append {xs ys : List Value} {l l' : List α} (h : Cells M xs l) (h' : Cells M ys l') : Cells M (xs ++ ys) (l ++ l') := by
  refine ⟨by rw [List.length_append, List.length_append, h.1, h'.1, Nat.add_mul], fun i x hx => ?_⟩
  by_cases hi : i < l.length
  · rw [List.getElem?_append_left hi] at hx
    have hb : i * GT.sz α + GT.sz α ≤ xs.length := by
      rw [h.1]
      calc i * GT.sz α + GT.sz α = (i + 1) * GT.sz α := by rw [Nat.add_mul, Nat.one_mul]
        _ ≤ l.length * GT.sz α := Nat.mul_le_mul_right _ hi
    rw [List.drop_append_of_le_length (by omega), List.take_append_of_le_length (by rw [List.length_drop]; omega)]
    exact h.2 i x hx
  · rw [List.getElem?_append_right (by omega)] at hx
    have := h'.2 _ x hx
    obtain ⟨k, rfl⟩ : ∃ k, i = l.length + k := ⟨i - l.length, by omega⟩
    rw [Nat.add_sub_cancel_left] at this
    rw [Nat.add_mul, ← h.1, List.drop_length_add_append]
    exact this
theorem Cells.one {cs : List Value} {x : α} (h : GT.ok M cs x) : Cells M cs [x] :=
  ⟨by rw [GT.len h]; simp, fun i y hy => by
    cases i with
    | zero => simp at hy; subst hy; rw [Nat.zero_mul, List.drop_zero, List.take_of_length_le (by rw [GT.len h]; exact Nat.le_refl _)]; exact h
    | succ i => simp at hy⟩
theorem Cells.oneC {xs : List Value} {l : List α} (h : Cells M xs l) : ∀ u ∈ xs, u.oneCell' = true := by
  intro u hu
  obtain ⟨j, hj, rfl⟩ := List.getElem_of_mem hu
  have hp := GT.pos (α := α)
  have hq : j / GT.sz α < l.length := by rw [Nat.div_lt_iff_lt_mul hp, ← h.1]; exact hj
  refine GT.one (h.2 (j / GT.sz α) l[j / GT.sz α] (List.getElem?_eq_getElem hq)) _ ?_
  have hm : j % GT.sz α < GT.sz α := Nat.mod_lt _ hp
  have hd : j / GT.sz α * GT.sz α + j % GT.sz α = j := by rw [Nat.mul_comm]; exact Nat.div_add_mod j _
  refine List.mem_of_getElem? (i := j % GT.sz α) ?_
  rw [List.getElem?_take, if_pos hm, List.getElem?_drop, hd, List.getElem?_eq_getElem hj]
/-- A slice's cells, one behind the other. -/
theorem slice_cells {ad : Addr} {m cap : Nat} {l : List α} (h : sliceOk M (.slice (some ad) m cap) l) : ∃ xs, Cells M xs l ∧ At M ad xs := by
  obtain ⟨a, n', cap', hv, hn, _, _, hel⟩ := h
  injection hv with h1 h2 h3
  subst h1
  have key : ∀ k, k ≤ l.length → ∃ xs, Cells M xs (l.take k) ∧ At M ad xs := by
    intro k
    induction k with
    | zero => exact fun _ => ⟨[], by simpa using Cells.nil, fun j u hu => by simp at hu⟩
    | succ k ih =>
      intro hk
      obtain ⟨xs, hc, ha⟩ := ih (by omega)
      have hx : l[k]? = some l[k] := List.getElem?_eq_getElem (by omega)
      obtain ⟨ad', cs, e, ho, hat⟩ := hel k _ hx
      injection e with e
      subst e
      refine ⟨xs ++ cs, ?_, fun j u hu => ?_⟩
      · rw [List.take_succ_eq_append_getElem (by omega)]
        exact hc.append (Cells.one ho)
      · have hl : xs.length = k * GT.sz α := by rw [hc.1, List.length_take]; congr 1; omega
        by_cases hj : j < xs.length
        · rw [List.getElem?_append_left hj] at hu; exact ha j u hu
        · rw [List.getElem?_append_right (by omega)] at hu
          have := hat _ u hu
          rw [add_add, show k * GT.sz α + (j - xs.length) = j by omega] at this
          exact this
  have := key l.length (Nat.le_refl _)
  rwa [List.take_length] at this
theorem At.nil (a : Addr) : At M a [] := fun j u hu => by simp at hu

/-- A row that is known, as a slice of memory that never changes. -/
theorem slice_of_row {g o cap : Nat} {cur : Array Value} {e : TypeId} {fr : Nat × Nat} {xs : List Value} {l : List α} (hM : M g = some (.cells cur e fr)) (hc : Cells M xs l) (hx : (cur.toList.drop o).take (l.length * GT.sz α) = xs)
    (hl : l.length ≤ cap) (hm : cap ≤ maxLen) : sliceOk M (.slice (some ⟨g, o, none⟩) l.length cap) l := by
  refine ⟨_, _, _, rfl, rfl, hl, hm, fun i x hix => ⟨_, _, rfl, hc.2 i x hix, fun j u hu => ?_⟩⟩
  rw [List.getElem?_take] at hu
  split at hu
  · rename_i hj
    rw [List.getElem?_drop, ← hx, List.getElem?_take] at hu
    split at hu
    · rw [List.getElem?_drop] at hu
      rw [Addr.add_lit, Addr.add_lit]
      simp only [cellM, hM, Option.isSome_none]
      rw [← Array.getElem?_toList, Nat.add_assoc]
      exact hu
    · cases hu
  · cases hu
end

section
variable {α β : Type} [GT α] [GT β] {P : Program} {E w : World} {Γ : List HP} {i : Nat} {v : Value} {l : List α} {e : TypeId}
theorem own_nil (e : TypeId) (M : Heap) : ownV (α := α) e M hnil (.slice none 0 0) [] := .inl ⟨rfl, rfl, rfl⟩
/-- Nothing owns its nothing. -/
theorem Holds.own_nil (h : Holds E w Γ) (α : Type) [GT α] (e : TypeId) : Holds E w (own (α := α) e (.slice none 0 0) [] :: Γ) := h.know fun M _ _ => Gk.own_nil e M
/-- What is owned is owned no more, and never changes from here on. -/
theorem Holds.freeze (h : Holds E w Γ) (hi : Γ[i]? = some (own e v l)) : Holds E w (Γ.set i (rd v l)) := by
  obtain ⟨M, hs, g⟩ := h
  have hlt := lt_of_get hi
  have ho := g.sat i _ hi
  refine ⟨_, _, g.freeze (P' := rd v l) hlt ⟨rdV_list.2 ?_, rfl⟩⟩
  rcases ho with ⟨rfl, rfl, _⟩ | ⟨b, o, cap, cur, xs, rfl, h2, h3, h4, h5, h6, h7⟩
  · exact ⟨none, 0, 0, rfl, rfl, Nat.le_refl _, by simp [maxLen], fun i x hx => by simp at hx⟩
  · refine slice_of_row (M := hor M (hs i)) (e := e) (fr := (0, 0)) ?_ (h7.mono (hle_hor _ _)) h6 h2 h3
    have hb : hs i b = some (.cells cur e (0, 0)) := by rw [h4]; exact one_self _ _
    simp [hor, g.dm i b _ hlt hb, hb]
theorem Holds.own_slice (h : Holds E w Γ) (hi : Γ[i]? = some (own e v l)) : ∃ a cap, v = .slice a l.length cap := by
  obtain ⟨M, hs, g⟩ := h
  rcases g.sat i _ hi with ⟨rfl, rfl, _⟩ | ⟨b, o, cap, cur, xs, rfl, _⟩
  · exact ⟨none, 0, rfl⟩
  · exact ⟨_, cap, rfl⟩
theorem ownV_one {M h : Heap} (ho : ownV e M h v l) : v.oneCell' = true := by
  rcases ho with ⟨rfl, _⟩ | ⟨b, o, cap, cur, xs, rfl, _⟩ <;> rfl
end

/-- The plain append: nothing where no memory bears it. -/
def app {α : Type} (bytes : Nat) (l ys : List α) : Option (List α) := if (l.length + ys.length) * bytes ≤ 140737488355328 then some (l ++ ys) else none

structure ElT (P : Program) (t e : TypeId) (k bytes : Nat) : Prop where
  und : P.underlying t = some (.slice e)
  inf : ∃ i z, P.info? e = some i ∧ i.zero = some z ∧ i.size = k ∧ i.bytes = bytes ∧ z.cells.size = k
  pos : 0 < bytes

section
variable {α : Type} [GT α] {P : Program} {E w : World} {Γ : List HP} {i j : Nat} {v vy : Value} {l ys l' : List α} {e t ty : TypeId} {bytes : Nat}

theorem run_append_room' (i : TypeInfo) (ht : P.underlying t = some (.slice e)) (hi : P.info? e = some i)
    (g o sLen sCap : Nat) (cur : Array Value) (hg : w.heap[g]? = some (.cells cur e (0, 0)))
    (a : Addr) (m c : Nat) (news : List Value) (hl : news.length = m * i.size) (hnews : ∀ j u, news[j]? = some u → w.cell? (a.add j) = some u) (h1 : ∀ u ∈ news, u.oneCell' = true)
    (hroom : sLen + m ≤ sCap) (hfit : o + sLen * i.size + news.length ≤ cur.size) :
    (Builtin.append_ #[t, t] ty #[.slice (some ⟨g, o, none⟩) sLen sCap, .slice (some a) m c]).run P w =
      .ok (.slice (some ⟨g, o, none⟩) (sLen + m) sCap) (w.setRow g (cur.toList.take (o + sLen * i.size) ++ news ++ cur.toList.drop (o + sLen * i.size + news.length)).toArray) := by
  have hf := run_firstCells_some (P := P) w i.size m a m c news hl hnews
  have hst := run_storeCells_at P g (o + sLen * i.size) e news 0 cur w hg (by simpa using hfit) h1
  simp only [Nat.add_zero] at hst
  simp [Builtin.append_, run_underlying ht, sizeOf, typeInfo, hi, Builtin.lenOf, hroom, hf, Addr.add_lit, hst]
theorem run_append_none (i : TypeInfo) (ht : P.underlying t = some (.slice e)) (hi : P.info? e = some i) (a : Option Addr) (sLen sCap c : Nat) (hc : sLen ≤ sCap) :
    (Builtin.append_ #[t, t] ty #[.slice a sLen sCap, .slice none 0 c]).run P w = .ok (.slice a sLen sCap) w := by
  cases a <;> simp [Builtin.append_, run_underlying ht, sizeOf, typeInfo, hi, Builtin.lenOf, Builtin.firstCells, hc, storeCells]

theorem set_self {Γ : List HP} {i : Nat} {Pr : HP} (h : Γ[i]? = some Pr) : Γ.set i Pr = Γ := by
  apply List.ext_getElem?
  intro k
  rw [List.getElem?_set]
  split
  · rename_i e; subst e; rw [if_pos (lt_of_get h), h]
  · rfl
/-- append onto an owned slice. -/
theorem run_app (hw : Holds E w Γ) (hi : Γ[i]? = some (own e v l)) (hj : Γ[j]? = some (rd vy ys)) (hT : ElT P t e (GT.sz α) bytes) (hb : app bytes l ys = some l') :
    ∃ v' w', (Builtin.append_ #[t, t] ty #[v, vy]).run P w = .ok v' w' ∧ Holds E w' (Γ.set i (own e v' l')) := by
  obtain ⟨inf, z, hinf, hz, hsz, hby, hzs⟩ := hT.inf
  unfold app at hb
  split at hb
  case isFalse => cases hb
  rename_i hroom
  injection hb with hb
  subst hb
  obtain ⟨M, hs, g⟩ := hw
  have hlt := lt_of_get hi
  have ho := g.sat i _ hi
  have hle63 : l.length + ys.length ≤ 140737488355328 := Nat.le_trans (Nat.le_mul_of_pos_right _ hT.pos) hroom
  obtain ⟨a, m, c, hvy, hm, hmc, hcm, hel⟩ := rdV_list.1 (g.sat j _ hj).1
  subst hvy
  -- the appended cells
  have hcase : (ys = [] ∧ a = none) ∨ ∃ ad news, a = some ad ∧ Cells M news ys ∧ At M ad news := by
    cases a with
    | none =>
      left
      refine ⟨?_, rfl⟩
      cases ys with
      | nil => rfl
      | cons y r => obtain ⟨ad, cs, h, _⟩ := hel 0 y rfl; cases h
    | some ad =>
      right
      obtain ⟨xs, h1, h2⟩ := slice_cells (l := ys) (ad := ad) (m := m) (cap := c) ⟨_, _, _, rfl, hm, hmc, hcm, hel⟩
      exact ⟨ad, xs, rfl, h1, h2⟩
  rcases hcase with ⟨rfl, rfl⟩ | ⟨ad, news, rfl, hcn, hat⟩
  · -- nothing is appended
    simp only [List.length_nil] at hm
    subst hm
    rw [List.append_nil]
    have hset : Γ.set i (own e v l) = Γ := set_self hi
    refine ⟨v, w, ?_, by rw [hset]; exact ⟨M, hs, g⟩⟩
    rcases ho with ⟨rfl, rfl, _⟩ | ⟨b, o, cap, cur, xs, rfl, h2, h3, h4, h5, h6, h7⟩
    · exact run_append_none inf hT.und hinf none 0 0 c (Nat.le_refl _)
    · exact run_append_none inf hT.und hinf _ _ cap c h2
  · have hnews : ∀ j u, news[j]? = some u → w.cell? (ad.add j) = some u := fun j u hu => cellM_world g.im (hat j u hu)
    have hnl : news.length = m * inf.size := by rw [hcn.1, hm, hsz]
    have h1 := hcn.oneC
    have grown : ∀ (olds : List Value) (N : Nat), Cells M olds l → N = l.length + m → ∀ (old : Nat),
        Holds E (w.drew.alloc (.cells (olds.toArray ++ news.toArray ++ Builtin.zeroCells z.cells (grownCap w N old e - N)) e))
          (Γ.set i (own e (.slice (some ⟨w.heap.size, 0, none⟩) N (grownCap w N old e)) (l ++ ys))) := by
      intro olds N hol hN old
      have hge := grownCap_ge w N old e
      have hcm' : grownCap w N old e ≤ maxLen := grownCap_le_maxLen w N old e (by simp only [maxLen]; omega)
      have hNl : N = (l ++ ys).length := by rw [List.length_append, hN, hm]
      have hca := hol.append hcn
      refine ⟨M, _, g.update (w' := w.drew.alloc _) hlt (Gk.one w.heap.size (.cells (olds.toArray ++ news.toArray ++ Builtin.zeroCells z.cells (grownCap w N old e - N)) e (0, 0))) (.inr ⟨w.heap.size, 0, grownCap w N old e, _, olds ++ news, by rw [← hNl], by rw [← hNl]; exact hge, hcm', rfl, ?_, ?_, hca⟩) rfl rfl rfl (fun b o' hb => ?_) (fun b o' hb => ?_) (fun b _ hb => ?_)⟩
      · simp only [Array.size_append, List.size_toArray, size_zeroCells, hzs, Nat.zero_add]
        refine Nat.le_of_eq (Eq.symm ?_)
        rw [← List.length_append, hca.1, ← hNl, ← Nat.add_mul]
        congr 1; omega
      · simp only [Array.toList_append, List.drop_zero]
        rw [← hca.1]
        exact List.take_left
      · obtain ⟨rfl, rfl⟩ := one_some hb; exact heap_alloc_new w.drew _
      · obtain ⟨rfl, rfl⟩ := one_some hb; exact .inr (Nat.le_refl _)
      · exact heap_alloc_lt w.drew _ b hb
    rcases ho with ⟨rfl, rfl, _⟩ | ⟨b, o, cap, cur, xs, rfl, h2, h3, h4, h5, h6, h7⟩
    · by_cases hm0 : m = 0
      · subst hm0
        have hy : ys = [] := List.eq_nil_of_length_eq_zero hm.symm
        subst hy
        have hset : Γ.set i (own e (.slice none 0 0) ([] : List α)) = Γ := set_self hi
        refine ⟨.slice none 0 0, w, ?_, by rw [List.append_nil, hset]; exact ⟨M, hs, g⟩⟩
        have hf := run_firstCells_some (P := P) w inf.size 0 ad 0 c [] (by simp) (fun j u hu => by simp at hu)
        simp [Builtin.append_, run_underlying hT.und, sizeOf, typeInfo, hinf, Builtin.lenOf, hf]
      · have hr := run_append_nil (P := P) w t ty e inf z hT.und hinf hz ad m c news hnl hnews (by omega) (by simp at hle63; omega) (by rw [hby, hm]; simp at hroom; omega)
        have := grown [] m Cells.nil (by simp) 0
        simp only [Array.empty_append] at this
        exact ⟨_, _, hr, by simpa using this⟩
    · have hb := g.le i b _ hlt (by rw [h4]; exact one_self b _)
      have hxl : xs.length = l.length * GT.sz α := h7.1
      by_cases hfit : l.length + m ≤ cap
      · have hcapm : (l.length + m) * GT.sz α ≤ cap * GT.sz α := Nat.mul_le_mul_right _ hfit
        rw [Nat.add_mul] at hcapm
        have hr := run_append_room' (P := P) (ty := ty) inf hT.und hinf b o l.length cap cur hb ad m c news hnl hnews h1 hfit (by rw [hnl, hsz]; omega)
        refine ⟨_, _, hr, ?_⟩
        have := setRow_good (P' := own e (.slice (some ⟨b, o, none⟩) (l.length + m) cap) (l ++ ys)) (new := (cur.toList.take (o + l.length * inf.size) ++ news ++ cur.toList.drop (o + l.length * inf.size + news.length)).toArray) g hi h4
          (.inr ⟨b, o, cap, _, xs ++ news, by rw [List.length_append, hm], by rw [List.length_append, ← hm]; exact hfit, h3, rfl, ?_, ?_, h7.append hcn⟩)
        · exact this
        · simp only [List.size_toArray, List.length_append, List.length_take, List.length_drop, Array.length_toList, hnl, hsz]
          omega
        · rw [List.length_append, Nat.add_mul, ← hm]
          have e1 : (cur.toList.take (o + l.length * inf.size)).length = o + l.length * GT.sz α := by
            have e0 : cur.toList.length = cur.size := rfl
            rw [List.length_take, e0, hsz]; omega
          have e2 : (cur.toList.take (o + l.length * inf.size)).drop o = xs := by
            rw [hsz, List.drop_take, Nat.add_sub_cancel_left]; exact h6
          simp only [List.append_assoc]
          rw [List.drop_append_of_le_length (by omega), e2, ← List.append_assoc]
          have : l.length * GT.sz α + m * GT.sz α = (xs ++ news).length := by rw [List.length_append, hxl, hnl, hsz]
          rw [this]
          exact List.take_left
      · have holds : ∀ j u, xs[j]? = some u → w.cell? ((⟨b, o, none⟩ : Addr).add j) = some u := fun j u hu => by
          rw [Addr.add_lit, cell_of_row w b _ _ _ _ hb, ← Array.getElem?_toList]
          rw [← h6, List.getElem?_take] at hu
          split at hu
          · rw [List.getElem?_drop] at hu; exact hu
          · cases hu
        have hr := run_append_grow (P := P) w t ty e inf z hT.und hinf hz ⟨b, o, none⟩ l.length cap xs (by rw [hxl, hsz]) holds ad m c news hnl hnews (by omega) (by omega)
          (growslice_fits (by omega) (by rw [hby]; rw [hm]; exact hroom))
        exact ⟨_, _, hr, grown xs _ h7 rfl cap⟩
end

section
variable {α : Type} [GT α] {P : Program} {n : Nat} {σ : Nat → Value} {w : World} {Q : Post} {E : World} {Γ : List HP} {i j : Nat}
variable {ops : Array Oper} {rest : List Oper} {d : Nat} {ty t e : TypeId} {pos : String} {af : Array Edge} {g : Option (Nat × Bool)} {v vy : Value} {q r : Operand}
variable {x : α} {l ys l' : List α} {bytes : Nat}
theorem RL.app (hg : Wn ops σ g) (hd : Nat.blt d n = true) (hw : Holds E w Γ) (hx : ev σ q = v) (hy : ev σ r = vy) (hi : Γ[i]? = some (own e v l)) (hj : Γ[j]? = some (rd vy ys))
    (hT : ElT P t e (GT.sz α) bytes) (hb : Gk.app bytes l ys = some l') (k : ∀ v' w', Holds E w' (Γ.set i (own e v' l')) → RL P n ops rest (upd σ d v') w' Q) :
    RL P n ops (⟨some d, .call ⟨.builtin .append, #[q, r], #[t, t]⟩, ty, pos, af, g⟩ :: rest) σ w Q := by
  obtain ⟨v', w', hr, hw'⟩ := run_app (P := P) (ty := ty) hw hi hj hT hb
  refine RL.val hg hd ?_ (k v' w' hw')
  simp only [execOp, resolve, invoke, builtin, Sem.run_bind, Sem.run_pure, Result.andThen_ok, List.map_toArray, List.map_cons, List.map_nil, hx, hy, hr]
theorem RL.len_rd (hg : Wn ops σ g) (hd : Nat.blt d n = true) (hw : Holds E w Γ) (hx : ev σ q = v) (hi : Γ[i]? = some (rd v l)) (ht : P.underlying t = some (.slice e))
    (k : RL P n ops rest (upd σ d (.int .i64 (l.length : Nat))) w Q) : RL P n ops (⟨some d, .call ⟨.builtin .len, #[q], #[t]⟩, ty, pos, af, g⟩ :: rest) σ w Q := by
  obtain ⟨a, cap, rfl⟩ := hw.slice hi
  exact RL.lenl hg hd hx ht k
theorem RL.len_own {e' : TypeId} (hg : Wn ops σ g) (hd : Nat.blt d n = true) (hw : Holds E w Γ) (hx : ev σ q = v) (hi : Γ[i]? = some (own e' v l)) (ht : P.underlying t = some (.slice e))
    (k : RL P n ops rest (upd σ d (.int .i64 (l.length : Nat))) w Q) : RL P n ops (⟨some d, .call ⟨.builtin .len, #[q], #[t]⟩, ty, pos, af, g⟩ :: rest) σ w Q := by
  obtain ⟨a, cap, rfl⟩ := hw.own_slice hi
  exact RL.lenl hg hd hx ht k
end

/-! ### Made of parts -/
/-- What the parts make of some cells. -/
def Fills (M : Heap) (place : Nat → Option (Nat × Nat)) {α : Type} [GT α] (cells : Array Value) (parts : List (Nat × Value)) (y : α) : Prop :=
  ∃ cells', Instr.fill place cells parts = some cells' ∧ GT.ok M cells'.toList y
section
variable {α β : Type} [GT α] [GT β] {M : Heap} {place : Nat → Option (Nat × Nat)} {cells : Array Value} {parts : List (Nat × Value)} {x y : α} {v : Value} {z : β}
theorem Fills.nil (h : GT.ok M cells.toList x) : Fills M place cells [] x := ⟨cells, rfl, h⟩
theorem splice (vs : List Value) : ∀ (cells : Array Value) (o : Nat), o + vs.length ≤ cells.size →
    ((vs.toArray.zipIdx).foldl (fun cs (c, j) => cs.setIfInBounds (o + j) c) cells).toList = cells.toList.take o ++ vs ++ cells.toList.drop (o + vs.length) := by
  intro cells o h
  have key : ∀ (vs : List Value) (k : Nat) (cells : Array Value), o + k + vs.length ≤ cells.size →
      ((vs.zipIdx k).foldl (fun cs (p : Value × Nat) => cs.setIfInBounds (o + p.2) p.1) cells).toList = cells.toList.take (o + k) ++ vs ++ cells.toList.drop (o + k + vs.length) := by
    intro vs
    induction vs with
    | nil => intro k cells _; simp
    | cons u vs ih =>
      intro k cells h
      simp only [List.length_cons] at h
      rw [List.zipIdx_cons, List.foldl_cons, ih (k + 1) _ (by simp; omega)]
      simp only [Array.toList_setIfInBounds, List.length_cons]
      have hk : o + k < cells.toList.length := by simp; omega
      rw [show o + (k + 1) = (o + k) + 1 by omega, List.take_succ_eq_append_getElem (by simpa using hk), List.take_set_of_le (Nat.le_refl _), List.drop_set_of_lt (by omega)]
      simp only [List.getElem_set_self, List.append_assoc, List.cons_append, List.nil_append]
      congr 4; omega
  have := key vs 0 cells (by simpa using h)
  rw [← Array.foldl_toList]
  simpa using this
theorem Fills.cons {i m : Nat} {f : α → β → α} (hp : place i = some (m, GT.sz β)) (hx : GT.ok M cells.toList x) (hF : Fs m β f) (hm : m + GT.sz β ≤ GT.sz α) (hz : rdV M v z)
    (h : ∀ c, GT.ok M c.toList (f x z) → Fills M place c parts y) : Fills M place cells ((i, v) :: parts) y := by
  have hc : v.cells.size = GT.sz β := by rw [← GT.len hz.cells]; simp
  have hl : cells.size = GT.sz α := by rw [← GT.len hx]; simp
  have hs := splice v.cells.toList cells m (by simp [hc, hl, hm])
  simp only [Array.toArray_toList, Array.length_toList, hc] at hs
  obtain ⟨c', h1, h2⟩ := h (v.cells.zipIdx.foldl (fun cs (c, j) => cs.setIfInBounds (m + j) c) cells) (by rw [hs]; exact hF M _ _ x z hx hz.cells)
  refine ⟨c', ?_, h2⟩
  simp only [Instr.fill, hp]
  rw [if_neg (by simp [hc, hl]; omega)]
  exact h1
end
structure StT (P : Program) (T : TypeId) (places : List (Nat × Nat)) (z : Array Value) : Prop where
  run : ∀ parts w, (Instr.build T parts).run P w = match Instr.fill (places.toArray[·]?) z parts.toList with | some cs => .ok (.agg cs) w | none => .halt (.stuck "build: no such field, or a part of the wrong size") w
section
variable {α : Type} [GT α] {P : Program} {n : Nat} {σ : Nat → Value} {w : World} {Q : Post} {E : World} {Γ : List HP} {i j : Nat}
variable {ops : Array Oper} {rest : List Oper} {d : Nat} {T ty t e : TypeId} {pos : String} {af : Array Edge} {g : Option (Nat × Bool)} {v vy : Value} {q r : Operand}
variable {y : α} {l : List α} {bytes : Nat}
theorem RL.build {parts : Array (Nat × Operand)} {places : List (Nat × Nat)} {z : Array Value} (hg : Wn ops σ g) (hd : Nat.blt d n = true) (hw : Holds E w Γ) (vs : List (Nat × Value))
    (hvs : parts.toList.map (fun p => (p.1, ev σ p.2)) = vs) (hT : StT P T places z) (ha : GT.agg α = true) (hf : ∀ M hs, Good E w M hs Γ → Fills M (places.toArray[·]?) z vs y)
    (k : ∀ v, Holds E w (rd v y :: Γ) → RL P n ops rest (upd σ d v) w Q) : RL P n ops (⟨some d, .build T parts, ty, pos, af, g⟩ :: rest) σ w Q := by
  obtain ⟨M, hs, gd⟩ := hw
  obtain ⟨cs, h1, h2⟩ := hf M hs gd
  have e1 : parts.map (fun (i, x) => (i, ev σ x)) = vs.toArray := by rw [← hvs]; cases parts; simp
  refine RL.val (v := .agg cs) hg hd ?_ (k _ ⟨M, _, gd.cons_nil ⟨⟨cs.toList, by simp [vof, ha], h2⟩, rfl⟩⟩)
  simp only [execOp, Sem.run_bind]
  rw [e1, hT.run]
  simp only [h1, Result.andThen_ok, Sem.run_pure]
end
end Go.Gk
