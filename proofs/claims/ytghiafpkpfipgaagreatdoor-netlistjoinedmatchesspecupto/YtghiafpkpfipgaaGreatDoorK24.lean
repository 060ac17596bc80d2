/-
  A slice's head, looked at beside the whole; elements moved down within a row (slices.Delete). No statement of the seed is proved here.
-/
import Derived.Test.YtghiafpkpfipgaaGreatDoorK23
set_option linter.unusedVariables false
set_option linter.unusedSimpArgs false
set_option linter.unusedSectionVars false
namespace Go.Gk
open Go
/-- the value of 's[:k]' -/
def vwp (v : Value) (k : Nat) : Value := match v with | .slice a _ cap => .slice a k cap | _ => undef
/-- elements from j on moved down to i; the cells behind them stay as they were -/
def dself {α : Type} (l : List α) (i j : Int) : Option (List α) := if 0 ≤ i ∧ i ≤ j ∧ j ≤ l.length then some (l.take i.toNat ++ l.drop j.toNat ++ l.drop (l.length - (j.toNat - i.toNat))) else none
def gDelAt {α : Type} (l : List α) (i j : Int) : Option (List α) := if 0 ≤ i ∧ i ≤ j ∧ j ≤ l.length then some (l.take i.toNat ++ l.drop j.toNat) else none
def ne? (i k : Int) : Option Unit := if i.toNat = k.toNat then none else some ()
theorem ne?_some {i k : Int} {u : Unit} (h : ne? i k = some u) : some i.toNat ≠ some k.toNat := by
  unfold ne? at h
  split at h
  · cases h
  · rename_i hn; intro e; injection e with e; exact hn e
theorem dself_some {α : Type} {l l' : List α} {i j : Int} (h : dself l i j = some l') : 0 ≤ i ∧ i ≤ j ∧ j ≤ l.length ∧ l' = l.take i.toNat ++ l.drop j.toNat ++ l.drop (l.length - (j.toNat - i.toNat)) ∧ l'.length = l.length := by
  unfold dself at h
  split at h
  · rename_i hc
    injection h with h
    refine ⟨hc.1, hc.2.1, hc.2.2, h.symm, ?_⟩
    rw [← h]
    simp only [List.length_append, List.length_take, List.length_drop]
    omega
  · cases h
section
variable {α : Type} [GT α] {M : Heap} {xs : List Value} {l : List α} {k : Nat}
theorem Cells.take (h : Cells M xs l) (hk : k ≤ l.length) : Cells M (xs.take (k * GT.sz α)) (l.take k) := by
  have hx := h.1
  have hm : k * GT.sz α ≤ l.length * GT.sz α := Nat.mul_le_mul_right _ hk
  refine ⟨by rw [List.length_take, List.length_take, Nat.min_eq_left hk]; omega, fun i x hi => ?_⟩
  rw [List.getElem?_take] at hi
  split at hi
  case isFalse => cases hi
  rename_i hlt
  have hb : i * GT.sz α + GT.sz α ≤ k * GT.sz α := by
    calc i * GT.sz α + GT.sz α = (i + 1) * GT.sz α := by rw [Nat.add_mul, Nat.one_mul]
      _ ≤ k * GT.sz α := Nat.mul_le_mul_right _ hlt
  have := h.2 i x hi
  rw [List.drop_take, List.take_take, Nat.min_eq_left (by omega)]
  exact this
theorem Cells.drop (h : Cells M xs l) (hk : k ≤ l.length) : Cells M (xs.drop (k * GT.sz α)) (l.drop k) := by
  have hx := h.1
  refine ⟨by rw [List.length_drop, List.length_drop, hx, Nat.sub_mul], fun i x hi => ?_⟩
  rw [List.getElem?_drop] at hi
  have := h.2 _ x hi
  rw [List.drop_drop, ← Nat.add_mul]
  exact this
end
section
variable {α : Type} [GT α] {P : Program} {T e : TypeId} {lo hi : Int}
/-- 'x[lo:hi]' with both ends, up to the cap -/
theorem run_cut2 {a : Option Addr} {m cap : Nat} (hT : SlT P T e (GT.sz α)) (h0 : 0 ≤ lo) (h1 : lo ≤ hi) (h2 : hi ≤ cap) (w : World) :
    (Instr.sliceAt T (.slice a m cap) (some (.int .i64 lo)) (some (.int .i64 hi)) none).run P w = .ok (.slice (if cap = lo.toNat then a else a.map (·.add (lo.toNat * GT.sz α))) (hi.toNat - lo.toNat) (cap - lo.toNat)) w := by
  have eh : (Instr.sliceBounds true m cap (some (.int .i64 lo)) (some (.int .i64 hi)) none).run P w = .ok (lo.toNat, hi.toNat, cap) w := by
    unfold Instr.sliceBounds
    have e1 : ∀ (y : Nat) (c : BoundsCode), hi ≤ y → (Instr.sliceBound (.int .i64 hi) y c).run P w = .ok hi.toNat w := fun y c hy => by
      simp [Instr.sliceBound, asIntOf, show 0 ≤ hi by omega, hy]
    have e2 : ∀ (y : Nat) (c : BoundsCode), lo ≤ y → (Instr.sliceBound (.int .i64 lo) y c).run P w = .ok lo.toNat w := fun y c hy => by
      simp [Instr.sliceBound, asIntOf, h0, hy]
    simp only [Sem.run_bind, Sem.run_pure, Result.andThen_ok, e1 cap _ (by omega), e2 _ _ (show lo ≤ (hi.toNat : Nat) by omega)]
  unfold Instr.sliceAt
  simp only [Sem.run_bind, run_underlying hT.und, Result.andThen_ok]
  unfold Instr.slice
  simp only [Sem.run_bind, run_underlying hT.und, Result.andThen_ok, eh, hT.sz, Sem.run_pure]
end
section
variable {α : Type} [GT α] {P : Program} {n : Nat} {σ : Nat → Value} {w : World} {Q : Post} {E : World} {Γ : List HP} {i j k : Nat}
variable {ops : Array Oper} {rest : List Oper} {d : Nat} {ty t T e : TypeId} {pos : String} {af : Array Edge} {g : Option (Nat × Bool)} {v u : Value} {q r : Operand} {l l' : List α} {lo hi : Int} {bytes : Nat}
theorem own_cap (hw : Holds E w Γ) (hi' : Γ[i]? = some (own e v l)) : ∃ a cap, v = .slice a l.length cap ∧ l.length ≤ cap := by
  obtain ⟨M, hs, gd⟩ := hw
  rcases gd.sat i _ hi' with ⟨h1, h2, _⟩ | ⟨b, o, c, cur, xs, hv, h2, _⟩
  · exact ⟨none, 0, by rw [h1, h2]; rfl, by rw [h2]; exact Nat.le_refl _⟩
  · exact ⟨_, c, hv, h2⟩
theorem RL.pre {hip : Option Operand} (hg : Wn ops σ g) (hd : Nat.blt d n = true) (hw : Holds E w Γ) (hx : ev σ q = v) (hi' : Γ[i]? = some (own e v l)) (hT : SlT P T e (GT.sz α))
    (hh : hip.map (ev σ) = some (.int .i64 hi)) (h0 : 0 ≤ hi) (h1 : hi ≤ (l.length : Nat)) (kk : RL P n ops rest (upd σ d (vwp v hi.toNat)) w Q) :
    RL P n ops (⟨some d, .slice T q none hip none, ty, pos, af, g⟩ :: rest) σ w Q := by
  obtain ⟨a, cap, rfl, hcap⟩ := own_cap hw hi'
  refine RL.val hg hd ?_ kk
  have := run_cut (P := P) (α := α) (a := a) (m := l.length) (cap := cap) (lo := 0) (hi := hi) (lov := none) (hiv := hip.map (ev σ)) hT (.inr ⟨rfl, rfl⟩) (.inl hh) (Int.le_refl _) h0 h1 hcap w
  simp only [execOp, hx, Sem.run_bind, Option.map_none, this, Result.andThen_ok, Sem.run_pure]
  simp only [vwp, Int.toNat_zero, Nat.sub_zero, Nat.zero_mul]
  by_cases h0 : cap = 0
  · rw [if_pos h0]
  · rw [if_neg h0]; cases a <;> rfl
theorem RL.suf {lop : Option Operand} (hg : Wn ops σ g) (hd : Nat.blt d n = true) (hw : Holds E w Γ) (hx : ev σ q = v) (hi' : Γ[i]? = some (own e v l)) (hT : SlT P T e (GT.sz α))
    (hl : lop.map (ev σ) = some (.int .i64 lo)) (h0 : 0 ≤ lo) (h1 : lo ≤ (l.length : Nat)) (kk : RL P n ops rest (upd σ d (vw v lo.toNat (GT.sz α))) w Q) :
    RL P n ops (⟨some d, .slice T q lop none none, ty, pos, af, g⟩ :: rest) σ w Q := by
  obtain ⟨a, cap, rfl, hcap⟩ := own_cap hw hi'
  refine RL.val hg hd ?_ kk
  have := run_cut (P := P) (α := α) (a := a) (m := l.length) (cap := cap) (lo := lo) (hi := (l.length : Nat)) (lov := lop.map (ev σ)) (hiv := none) hT (.inl hl) (.inr ⟨rfl, rfl⟩) h0 h1 (by omega) hcap w
  simp only [execOp, hx, Sem.run_bind, Option.map_none, this, Result.andThen_ok, Sem.run_pure]
  simp only [vw, Int.toNat_natCast]
theorem RL.len_pre (hg : Wn ops σ g) (hd : Nat.blt d n = true) (hw : Holds E w Γ) (hx : ev σ q = vwp v k) (hi' : Γ[i]? = some (own e v l)) (ht : P.underlying t = some (.slice T))
    (kk : RL P n ops rest (upd σ d (.int .i64 (k : Nat))) w Q) : RL P n ops (⟨some d, .call ⟨.builtin .len, #[q], #[t]⟩, ty, pos, af, g⟩ :: rest) σ w Q := by
  obtain ⟨a, cap, rfl⟩ := hw.own_slice hi'
  exact RL.lenl hg hd hx ht kk
/-- 's[k:hi]' of a head: what lies behind it, up to the whole's end -/
theorem RL.behind {lop hip : Option Operand} (hg : Wn ops σ g) (hd : Nat.blt d n = true) (hw : Holds E w Γ) (hx : ev σ q = vwp v k) (hi' : Γ[i]? = some (own e v l)) (hT : SlT P T e (GT.sz α)) (hk : k ≤ l.length)
    (hl : lop.map (ev σ) = some (.int .i64 (k : Nat))) (hh : hip.map (ev σ) = some (.int .i64 (l.length : Nat))) (kk : RL P n ops rest (upd σ d (vw v k (GT.sz α))) w Q) :
    RL P n ops (⟨some d, .slice T q lop hip none, ty, pos, af, g⟩ :: rest) σ w Q := by
  obtain ⟨a, cap, rfl, hcap⟩ := own_cap hw hi'
  refine RL.val hg hd ?_ kk
  have hx' : ev σ q = .slice a k cap := hx
  have := run_cut2 (P := P) (α := α) (a := a) (m := k) (cap := cap) (lo := (k : Nat)) (hi := (l.length : Nat)) hT (by omega) (by omega) (by omega) w
  simp only [execOp, hx', Sem.run_bind, Option.map_none, hl, hh, this, Result.andThen_ok, Sem.run_pure]
  simp only [vw, Int.toNat_natCast]
/-- what lies from j on, put behind the head up to i, in place -/
theorem RL.app_self {t e : TypeId} {i0 j0 : Nat} (hg : Wn ops σ g) (hd : Nat.blt d n = true) (hw : Holds E w Γ) (hx : ev σ q = vwp v i0) (hy : ev σ r = vw v j0 (GT.sz α)) (hi' : Γ[i]? = some (own e v l)) (hT : ElT P t e (GT.sz α) bytes)
    (hb : dself l (i0 : Nat) (j0 : Nat) = some l') (kk : ∀ w', Holds E w' (Γ.set i (own e v l')) → RL P n ops rest (upd σ d (vwp v (i0 + (l.length - j0)))) w' Q) :
    RL P n ops (⟨some d, .call ⟨.builtin .append, #[q, r], #[t, t]⟩, ty, pos, af, g⟩ :: rest) σ w Q := by
  obtain ⟨_, hij, hjl, hl', hlen⟩ := dself_some hb
  simp only [Int.toNat_natCast] at hl'
  obtain ⟨inf, z, hinf, hz, hsz, hby, hzs⟩ := hT.inf
  obtain ⟨M, hs, gd⟩ := hw
  rcases gd.sat i _ hi' with ⟨rfl, rfl, h0⟩ | ⟨b, o, cap, cur, xs, rfl, h2, h3, h4, h5, h6, h7⟩
  · simp only [List.length_nil, Nat.le_zero] at hjl hlen
    have hj : j0 = 0 := by simp at hjl; omega
    have hi0 : i0 = 0 := by omega
    subst hj; subst hi0
    have hl0 : l' = [] := List.eq_nil_of_length_eq_zero hlen
    subst hl0
    have := kk w (by rw [set_self hi']; exact ⟨M, hs, gd⟩)
    refine RL.val hg hd ?_ this
    have hr := run_append_none (P := P) (w := w) (ty := ty) inf hT.und hinf none 0 0 0 (Nat.le_refl _)
    have e1 : ev σ q = .slice none 0 0 := hx
    have e2 : ev σ r = .slice none 0 0 := hy
    simp only [execOp, resolve, invoke, builtin, Sem.run_bind, Sem.run_pure, Result.andThen_ok, List.map_toArray, List.map_cons, List.map_nil, e1, e2, hr]
    rfl
  have hbk := gd.le i b _ (lt_of_get hi') (by rw [h4]; exact one_self b _)
  have hxl : xs.length = l.length * GT.sz α := h7.1
  have hcap : l.length * GT.sz α ≤ cap * GT.sz α := Nat.mul_le_mul_right _ h2
  have hcl : cur.toList.length = cur.size := rfl
  have hcd := h7.drop (k := j0) (by omega)
  have hct := h7.take (k := i0) (by omega)
  have hcr := h7.drop (k := l.length - (j0 - i0)) (by omega)
  have hm1 : i0 * GT.sz α ≤ j0 * GT.sz α := Nat.mul_le_mul_right _ (by omega)
  have hm2 : j0 * GT.sz α ≤ l.length * GT.sz α := Nat.mul_le_mul_right _ (by omega)
  have hm3 : (l.length - j0) * GT.sz α = l.length * GT.sz α - j0 * GT.sz α := Nat.sub_mul _ _ _
  have hm4 : (l.length - (j0 - i0)) * GT.sz α = l.length * GT.sz α - (j0 * GT.sz α - i0 * GT.sz α) := by rw [Nat.sub_mul, Nat.sub_mul]
  have hm5 : (i0 + (l.length - j0)) * GT.sz α = i0 * GT.sz α + (l.length * GT.sz α - j0 * GT.sz α) := by rw [Nat.add_mul, hm3]
  have hnl : (xs.drop (j0 * GT.sz α)).length = (l.length - j0) * inf.size := by rw [List.length_drop, hxl, hsz, hm3]
  have hxget : ∀ t u, xs[t]? = some u → w.cell? ⟨b, o + t, none⟩ = some u := fun t u hu => by
    rw [cell_of_row w b _ _ _ _ hbk, ← Array.getElem?_toList]
    rw [← h6, List.getElem?_take] at hu
    split at hu
    · rw [List.getElem?_drop] at hu; exact hu
    · cases hu
  have hxl2 : vw (.slice (some ⟨b, o, none⟩) l.length cap) j0 (GT.sz α) = .slice (some (if cap = j0 then (⟨b, o, none⟩ : Addr) else ⟨b, o + j0 * GT.sz α, none⟩)) (l.length - j0) (cap - j0) := by
    simp only [vw]
    by_cases hc : cap = j0
    · rw [if_pos hc, if_pos hc]
    · rw [if_neg hc, if_neg hc, Option.map_some, Addr.add_lit]
  have hnews : ∀ t u, (xs.drop (j0 * GT.sz α))[t]? = some u → w.cell? ((if cap = j0 then (⟨b, o, none⟩ : Addr) else ⟨b, o + j0 * GT.sz α, none⟩).add t) = some u := fun t u hu => by
    rw [List.getElem?_drop] at hu
    by_cases hc : cap = j0
    · have := (List.getElem?_eq_some_iff.1 hu).1
      have : l.length = j0 := by omega
      subst this
      omega
    · rw [if_neg hc, Addr.add_lit, Nat.add_assoc]
      exact hxget _ _ hu
  have h1 := hcd.oneC
  have hr := run_append_room' (P := P) (ty := ty) inf hT.und hinf b o i0 cap cur hbk _ (l.length - j0) (cap - j0) (xs.drop (j0 * GT.sz α)) hnl hnews h1 (by omega) (by rw [hnl, hsz, hm3]; omega)
  have e1 : ev σ q = .slice (some ⟨b, o, none⟩) i0 cap := hx
  have e2 := hy.trans hxl2
  have hgl : ∀ t, xs[t]? = if t < l.length * GT.sz α then cur.toList[o + t]? else none := fun t => by rw [← h6, List.getElem?_take, List.getElem?_drop]
  refine RL.val hg hd ?_ (kk _ (setRow_good (P' := own e (.slice (some ⟨b, o, none⟩) l.length cap) l') (new := (cur.toList.take (o + i0 * inf.size) ++ xs.drop (j0 * GT.sz α) ++ cur.toList.drop (o + i0 * inf.size + (xs.drop (j0 * GT.sz α)).length)).toArray) gd hi' h4
    (.inr ⟨b, o, cap, _, xs.take (i0 * GT.sz α) ++ xs.drop (j0 * GT.sz α) ++ xs.drop ((l.length - (j0 - i0)) * GT.sz α), by rw [hlen], by rw [hlen]; exact h2, h3, rfl, ?_, ?_, by rw [hl']; exact (hct.append hcd).append hcr⟩)))
  · simp only [execOp, resolve, invoke, builtin, Sem.run_bind, Sem.run_pure, Result.andThen_ok, List.map_toArray, List.map_cons, List.map_nil, e1, e2, hr]
    rfl
  · simp only [List.size_toArray, List.length_append, List.length_take, List.length_drop, Array.length_toList, hxl, hsz]
    omega
  · rw [hlen, hsz]
    apply List.ext_getElem?
    intro t
    have hl1 : (List.take (o + i0 * GT.sz α) cur.toList).length = o + i0 * GT.sz α := by rw [List.length_take]; omega
    have hl2 : (List.take (i0 * GT.sz α) xs).length = i0 * GT.sz α := by rw [List.length_take]; omega
    have hl3 : (xs.drop (j0 * GT.sz α)).length = l.length * GT.sz α - j0 * GT.sz α := by rw [List.length_drop, hxl]
    rw [List.getElem?_take, List.getElem?_drop, List.append_assoc, List.append_assoc]
    by_cases hA : t < i0 * GT.sz α
    · rw [if_pos (by omega), List.getElem?_append_left (by omega), List.getElem?_append_left (by omega), List.getElem?_take, if_pos (by omega), List.getElem?_take, if_pos hA, hgl t, if_pos (by omega)]
    · rw [List.getElem?_append_right (by omega : (List.take (i0 * GT.sz α) xs).length ≤ t), hl2]
      by_cases hB : t < i0 * GT.sz α + (l.length * GT.sz α - j0 * GT.sz α)
      · rw [if_pos (by omega), List.getElem?_append_right (by omega), hl1, show o + t - (o + i0 * GT.sz α) = t - i0 * GT.sz α by omega, List.getElem?_append_left (by omega), List.getElem?_append_left (by omega)]
      · rw [List.getElem?_append_right (by omega : (xs.drop (j0 * GT.sz α)).length ≤ t - i0 * GT.sz α), hl3, hm4]
        by_cases hC : t < l.length * GT.sz α
        · rw [if_pos hC, List.getElem?_append_right (by omega), hl1, show o + t - (o + i0 * GT.sz α) = t - i0 * GT.sz α by omega, List.getElem?_append_right (by omega), hl3, List.getElem?_drop, List.getElem?_drop, hgl, if_pos (by omega)]
          congr 1
          omega
        · rw [if_neg hC, List.getElem?_drop, hgl, if_neg (by omega)]
theorem own_pre {k : Nat} (hw : Holds E w Γ) (hi' : Γ[i]? = some (own e v l)) (hk : k ≤ l.length) : Holds E w (Γ.set i (own e (vwp v k) (l.take k))) := by
  obtain ⟨M, hs, gd⟩ := hw
  have hlt := lt_of_get hi'
  have hl : (l.take k).length = k := by rw [List.length_take, Nat.min_eq_left hk]
  rcases gd.sat i _ hi' with ⟨rfl, rfl, hh0⟩ | ⟨b, o, cap, cur, xs, rfl, h2, h3, h4, h5, h6, h7⟩
  · have hk0 : k = 0 := by simpa using hk
    subst hk0
    exact ⟨M, _, gd.update (P' := own e _ _) hlt hnil (.inl ⟨rfl, by rw [List.take_nil], rfl⟩) rfl rfl rfl (fun _ _ h => by cases h) (fun _ _ h => by cases h) (fun _ _ _ => rfl)⟩
  · have hxl : xs.length = l.length * GT.sz α := h7.1
    have hm : k * GT.sz α ≤ l.length * GT.sz α := Nat.mul_le_mul_right _ hk
    refine ⟨M, _, gd.update (P' := own e _ _) hlt (hs i) (.inr ⟨b, o, cap, cur, xs.take (k * GT.sz α), by rw [hl]; rfl, by rw [hl]; omega, h3, h4, h5, ?_, h7.take hk⟩) rfl rfl rfl (fun b' o' hb' => gd.le i b' o' hlt hb') (fun b' o' hb' => .inl ⟨o', hb'⟩) (fun _ _ _ => rfl)⟩
    rw [hl, ← h6, List.take_take, Nat.min_eq_left hm]
theorem RL.nilCheck_el {sz off : Nat} {p : Value} (hg : Wn ops σ g) (hd : Nat.blt d n = true) (hx : ev σ q = p) (hp : elP v k sz off p) (kk : RL P n ops rest (upd σ d p) w Q) :
    RL P n ops (⟨some d, .nilCheck q, ty, pos, af, g⟩ :: rest) σ w Q := by
  obtain ⟨a, m, c, _, rfl⟩ := hp
  exact RL.nilCheck hg hd hx kk
/-- 's[i:j:len(s)]', looked at for the bounds alone -/
theorem RL.cut3 {lop hip mx : Operand} (hg : Wn ops σ g) (hd : Nat.blt d n = true) (hw : Holds E w Γ) (hx : ev σ q = v) (hi' : Γ[i]? = some (own e v l)) (hT : SlT P T e (GT.sz α))
    (hl : ev σ lop = .int .i64 lo) (hh : ev σ hip = .int .i64 hi) (hm : ev σ mx = .int .i64 (l.length : Nat)) (h0 : 0 ≤ lo) (h1 : lo ≤ hi) (h2 : hi ≤ (l.length : Nat)) (kk : ∀ u, RL P n ops rest (upd σ d u) w Q) :
    RL P n ops (⟨some d, .slice T q (some lop) (some hip) (some mx), ty, pos, af, g⟩ :: rest) σ w Q := by
  obtain ⟨a, cap, rfl, hcap⟩ := own_cap hw hi'
  refine RL.val hg hd ?_ (kk (.slice (if l.length = lo.toNat then a else a.map (·.add (lo.toNat * GT.sz α))) (hi.toNat - lo.toNat) (l.length - lo.toNat)))
  have e0 : (Instr.sliceBound (.int .i64 ((l.length : Nat) : Int)) cap .slice3Acap).run P w = .ok l.length w := by
    simp [Instr.sliceBound, asIntOf, hcap]
  have e1 : (Instr.sliceBound (.int .i64 hi) l.length .slice3B).run P w = .ok hi.toNat w := by
    simp [Instr.sliceBound, asIntOf, show 0 ≤ hi by omega, h2]
  have e2 : (Instr.sliceBound (.int .i64 lo) hi.toNat .slice3C).run P w = .ok lo.toNat w := by
    simp [Instr.sliceBound, asIntOf, h0, show lo ≤ ((hi.toNat : Nat) : Int) by omega]
    intro h; exfalso; omega
  have eh : (Instr.sliceBounds true l.length cap (some (.int .i64 lo)) (some (.int .i64 hi)) (some (.int .i64 ((l.length : Nat) : Int)))).run P w = .ok (lo.toNat, hi.toNat, l.length) w := by
    unfold Instr.sliceBounds
    simp only [Sem.run_bind, Sem.run_pure, Result.andThen_ok, if_true, Option.isSome_some, e0, e1, e2]
  simp only [execOp, hx, Sem.run_bind, Option.map_some, hl, hh, hm, Instr.sliceAt, Instr.slice, run_underlying hT.und, Result.andThen_ok, eh, hT.sz, Sem.run_pure]
end
end Go.Gk
