/-
  Appending what another element's own slice holds. No statement of the seed is proved here.
-/
import Derived.Test.YtghiafpkpfipgaaGreatDoorK22
set_option linter.unusedVariables false
set_option linter.unusedSimpArgs false
set_option linter.unusedSectionVars false
namespace Go.Gk
open Go
/-- Data whose cells tell them whatever the memory. -/
class Flat (α : Type) [GT α] : Prop where
  fl : ∀ {M M' : Heap} {cs : List Value} {x : α}, GT.ok M cs x → GT.ok M' cs x
instance {α : Type} [Sc α] : Flat α := ⟨fun h => h⟩
instance {α β : Type} [GT α] [GT β] [Flat α] [Flat β] : Flat (α × β) := ⟨fun ⟨c, d, e, h1, h2⟩ => ⟨c, d, e, Flat.fl h1, Flat.fl h2⟩⟩
theorem Cells.flat {α : Type} [GT α] [Flat α] {M : Heap} {xs : List Value} {l : List α} (h : Cells M xs l) (M' : Heap) : Cells M' xs l := ⟨h.1, fun i x hx => Flat.fl (h.2 i x hx)⟩
section
variable {α : Type} [GT α] {P : Program} {E w : World} {Γ : List HP} {i j : Nat} {v vy : Value} {l ys l' : List α} {e t ty : TypeId} {bytes : Nat}
/-- append onto an owned slice what lies somewhere else in memory, of elements that lead nowhere. -/
theorem run_app_src [Flat α] (hw : Holds E w Γ) (hi : Γ[i]? = some (own e v l)) (hsrc : ∀ M hs, Good E w M hs Γ → ∃ Ms : Heap, (∀ b o, Ms b = some o → w.heap[b]? = some o) ∧ sliceOk Ms vy ys) (hT : ElT P t e (GT.sz α) bytes) (hb : app bytes l ys = some l') :
    ∃ v' w', (Builtin.append_ #[t, t] ty #[v, vy]).run P w = .ok v' w' ∧ Holds E w' (Γ.set i (own e v' l')) := by
  obtain ⟨inf, z, hinf, hz, hsz, hby, hzs⟩ := hT.inf
  unfold app at hb
  split at hb
  case isFalse => cases hb
  rename_i hroom
  injection hb with hb
  subst hb
  obtain ⟨M, hs, g⟩ := hw
  have hlt := lt_of_get hi
  have ho := g.sat i _ hi
  have hle63 : l.length + ys.length ≤ 140737488355328 := Nat.le_trans (Nat.le_mul_of_pos_right _ hT.pos) hroom
  obtain ⟨Ms, hMs, a, m, c, hvy, hm, hmc, hcm, hel⟩ := hsrc M hs g
  subst hvy
  -- the appended cells
  have hcase : (ys = [] ∧ a = none) ∨ ∃ ad news, a = some ad ∧ Cells M news ys ∧ At Ms ad news := by
    cases a with
    | none =>
      left
      refine ⟨?_, rfl⟩
      cases ys with
      | nil => rfl
      | cons y r => obtain ⟨ad, cs, h, _⟩ := hel 0 y rfl; cases h
    | some ad =>
      right
      obtain ⟨xs, h1, h2⟩ := slice_cells (l := ys) (ad := ad) (m := m) (cap := c) ⟨_, _, _, rfl, hm, hmc, hcm, hel⟩
      exact ⟨ad, xs, rfl, h1.flat M, h2⟩
  rcases hcase with ⟨rfl, rfl⟩ | ⟨ad, news, rfl, hcn, hat⟩
  · -- nothing is appended
    simp only [List.length_nil] at hm
    subst hm
    rw [List.append_nil]
    have hset : Γ.set i (own e v l) = Γ := set_self hi
    refine ⟨v, w, ?_, by rw [hset]; exact ⟨M, hs, g⟩⟩
    rcases ho with ⟨rfl, rfl, _⟩ | ⟨b, o, cap, cur, xs, rfl, h2, h3, h4, h5, h6, h7⟩
    · exact run_append_none inf hT.und hinf none 0 0 c (Nat.le_refl _)
    · exact run_append_none inf hT.und hinf _ _ cap c h2
  · have hnews : ∀ j u, news[j]? = some u → w.cell? (ad.add j) = some u := fun j u hu => cellM_world hMs (hat j u hu)
    have hnl : news.length = m * inf.size := by rw [hcn.1, hm, hsz]
    have h1 := hcn.oneC
    have grown : ∀ (olds : List Value) (N : Nat), Cells M olds l → N = l.length + m → ∀ (old : Nat),
        Holds E (w.drew.alloc (.cells (olds.toArray ++ news.toArray ++ Builtin.zeroCells z.cells (grownCap w N old e - N)) e))
          (Γ.set i (own e (.slice (some ⟨w.heap.size, 0, none⟩) N (grownCap w N old e)) (l ++ ys))) := by
      intro olds N hol hN old
      have hge := grownCap_ge w N old e
      have hcm' : grownCap w N old e ≤ maxLen := grownCap_le_maxLen w N old e (by simp only [maxLen]; omega)
      have hNl : N = (l ++ ys).length := by rw [List.length_append, hN, hm]
      have hca := hol.append hcn
      refine ⟨M, _, g.update (w' := w.drew.alloc _) hlt (Gk.one w.heap.size (.cells (olds.toArray ++ news.toArray ++ Builtin.zeroCells z.cells (grownCap w N old e - N)) e (0, 0))) (.inr ⟨w.heap.size, 0, grownCap w N old e, _, olds ++ news, by rw [← hNl], by rw [← hNl]; exact hge, hcm', rfl, ?_, ?_, hca⟩) rfl rfl rfl (fun b o' hb => ?_) (fun b o' hb => ?_) (fun b _ hb => ?_)⟩
      · simp only [Array.size_append, List.size_toArray, size_zeroCells, hzs, Nat.zero_add]
        refine Nat.le_of_eq (Eq.symm ?_)
        rw [← List.length_append, hca.1, ← hNl, ← Nat.add_mul]
        congr 1; omega
      · simp only [Array.toList_append, List.drop_zero]
        rw [← hca.1]
        exact List.take_left
      · obtain ⟨rfl, rfl⟩ := one_some hb; exact heap_alloc_new w.drew _
      · obtain ⟨rfl, rfl⟩ := one_some hb; exact .inr (Nat.le_refl _)
      · exact heap_alloc_lt w.drew _ b hb
    rcases ho with ⟨rfl, rfl, _⟩ | ⟨b, o, cap, cur, xs, rfl, h2, h3, h4, h5, h6, h7⟩
    · by_cases hm0 : m = 0
      · subst hm0
        have hy : ys = [] := List.eq_nil_of_length_eq_zero hm.symm
        subst hy
        have hset : Γ.set i (own e (.slice none 0 0) ([] : List α)) = Γ := set_self hi
        refine ⟨.slice none 0 0, w, ?_, by rw [List.append_nil, hset]; exact ⟨M, hs, g⟩⟩
        have hf := run_firstCells_some (P := P) w inf.size 0 ad 0 c [] (by simp) (fun j u hu => by simp at hu)
        simp [Builtin.append_, run_underlying hT.und, sizeOf, typeInfo, hinf, Builtin.lenOf, hf]
      · have hr := run_append_nil (P := P) w t ty e inf z hT.und hinf hz ad m c news hnl hnews (by omega) (by simp at hle63; omega) (by rw [hby, hm]; simp at hroom; omega)
        have := grown [] m Cells.nil (by simp) 0
        simp only [Array.empty_append] at this
        exact ⟨_, _, hr, by simpa using this⟩
    · have hb := g.le i b _ hlt (by rw [h4]; exact one_self b _)
      have hxl : xs.length = l.length * GT.sz α := h7.1
      by_cases hfit : l.length + m ≤ cap
      · have hcapm : (l.length + m) * GT.sz α ≤ cap * GT.sz α := Nat.mul_le_mul_right _ hfit
        rw [Nat.add_mul] at hcapm
        have hr := run_append_room' (P := P) (ty := ty) inf hT.und hinf b o l.length cap cur hb ad m c news hnl hnews h1 hfit (by rw [hnl, hsz]; omega)
        refine ⟨_, _, hr, ?_⟩
        have := setRow_good (P' := own e (.slice (some ⟨b, o, none⟩) (l.length + m) cap) (l ++ ys)) (new := (cur.toList.take (o + l.length * inf.size) ++ news ++ cur.toList.drop (o + l.length * inf.size + news.length)).toArray) g hi h4
          (.inr ⟨b, o, cap, _, xs ++ news, by rw [List.length_append, hm], by rw [List.length_append, ← hm]; exact hfit, h3, rfl, ?_, ?_, h7.append hcn⟩)
        · exact this
        · simp only [List.size_toArray, List.length_append, List.length_take, List.length_drop, Array.length_toList, hnl, hsz]
          omega
        · rw [List.length_append, Nat.add_mul, ← hm]
          have e1 : (cur.toList.take (o + l.length * inf.size)).length = o + l.length * GT.sz α := by
            have e0 : cur.toList.length = cur.size := rfl
            rw [List.length_take, e0, hsz]; omega
          have e2 : (cur.toList.take (o + l.length * inf.size)).drop o = xs := by
            rw [hsz, List.drop_take, Nat.add_sub_cancel_left]; exact h6
          simp only [List.append_assoc]
          rw [List.drop_append_of_le_length (by omega), e2, ← List.append_assoc]
          have : l.length * GT.sz α + m * GT.sz α = (xs ++ news).length := by rw [List.length_append, hxl, hnl, hsz]
          rw [this]
          exact List.take_left
      · have holds : ∀ j u, xs[j]? = some u → w.cell? ((⟨b, o, none⟩ : Addr).add j) = some u := fun j u hu => by
          rw [Addr.add_lit, cell_of_row w b _ _ _ _ hb, ← Array.getElem?_toList]
          rw [← h6, List.getElem?_take] at hu
          split at hu
          · rw [List.getElem?_drop] at hu; exact hu
          · cases hu
        have hr := run_append_grow (P := P) w t ty e inf z hT.und hinf hz ⟨b, o, none⟩ l.length cap xs (by rw [hxl, hsz]) holds ad m c news hnl hnews (by omega) (by omega)
          (growslice_fits (by omega) (by rw [hby]; rw [hm]; exact hroom))
        exact ⟨_, _, hr, grown xs _ h7 rfl cap⟩
end
section
variable {ρ α β : Type} [GT ρ] [GT α] [GT β] {P : Program} {n : Nat} {σ : Nat → Value} {w : World} {Q : Post} {E : World} {Γ : List HP} {i j k o b : Nat}
variable {ops : Array Oper} {rest : List Oper} {d : Nat} {ty t T e e' : TypeId} {pos : String} {af : Array Edge} {g : Option (Nat × Bool)} {v vy u p : Value} {q r : Operand}
variable {X : XT ρ α} {us : List ρ} {xs xs' : List α} {x : α} {l l' : List β} {jj : Int} {z : ρ} {bytes off : Nat} {f : ρ → RV} {fs : ρ → RV → ρ} {gg : α → List β} {gs : α → List β → α} {h0 : Option Nat}
/-- An element's own slice is looked at; it stays where it is. -/
theorem RL.load_peek (O : XO X e' off f fs gg gs) (z : ρ) (hg : Wn ops σ g) (hd : Nat.blt d n = true) (hw : Holds E w Γ) (hx : ev σ q = p) (hp : elP v jj.toNat (GT.sz ρ) off p) (hi : Γ[i]? = some (own e v us))
    (hb : Γ[b]? = some (bag X us xs h0)) (hxs : idx xs jj = some x) (hT : TyA P T false 1)
    (kk : RL P n ops rest (upd σ d (f (us.getD jj.toNat z)).v) w Q) : RL P n ops (⟨some d, .load T q, ty, pos, af, g⟩ :: rest) σ w Q :=
  RL.load_els (f := f) hg hd hw hx hp hi (rdi z (hw.bag_len hb) hxs) O.hfd hT kk
/-- .. and put behind another slice. -/
theorem RL.app_peek [Flat β] (O : XO X e' off f fs gg gs) (z : ρ) (hg : Wn ops σ g) (hd : Nat.blt d n = true) (hw : Holds E w Γ) (hx : ev σ q = v) (hy : ev σ r = (f (us.getD jj.toNat z)).v) (hi : Γ[i]? = some (own e v l))
    (hb : Γ[b]? = some (bag X us xs h0)) (hxs : idx xs jj = some x) (hne : h0 ≠ some jj.toNat) (hT : ElT P t e (GT.sz β) bytes) (ha : Gk.app bytes l (gg x) = some l')
    (kk : ∀ v' w', Holds E w' (Γ.set i (own e v' l')) → RL P n ops rest (upd σ d v') w' Q) :
    RL P n ops (⟨some d, .call ⟨.builtin .append, #[q, r], #[t, t]⟩, ty, pos, af, g⟩ :: rest) σ w Q := by
  have hl := hw.bag_len hb
  obtain ⟨v', w', hr, hw'⟩ := run_app_src (P := P) (ty := ty) (vy := (f (us.getD jj.toNat z)).v) (ys := gg x) hw hi (fun M hs gd => by
    obtain ⟨_, _, c, _, hok⟩ := gd.sat b _ hb
    have ho := O.get (hok jj.toNat _ _ hne (rdi z hl hxs) (idx_some hxs).2.1)
    refine ⟨hor M (fun q => if c q = jj.toNat then hs b q else none), fun q o hq => ?_, ownV.sl (fun q o hq => ?_) ho⟩
    · unfold hor at hq
      cases hM : M q with
      | some o' => rw [hM] at hq; injection hq with hq; subst hq; exact gd.im q _ hM
      | none =>
        rw [hM] at hq
        dsimp only at hq
        split at hq
        · exact gd.le b q o (lt_of_get hb) hq
        · cases hq
    · have hq : (if c q = jj.toNat then hs b q else none) = some o := hq
      split at hq
      · exact gd.dm b q o (lt_of_get hb) hq
      · cases hq) hT ha
  refine RL.val hg hd ?_ (kk v' w' hw')
  simp only [execOp, resolve, invoke, builtin, Sem.run_bind, Sem.run_pure, Result.andThen_ok, List.map_toArray, List.map_cons, List.map_nil, hx, hy, hr]
end
end Go.Gk
