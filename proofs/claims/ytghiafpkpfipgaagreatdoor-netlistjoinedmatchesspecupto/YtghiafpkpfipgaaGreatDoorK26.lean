/-
  Rows written from a place on, and what slices.Insert needs. No statement of the seed is proved here.
-/
import Derived.Test.YtghiafpkpfipgaaGreatDoorK24
import Derived.Lib.Overlaps
set_option linter.unusedVariables false
set_option linter.unusedSimpArgs false
set_option linter.unusedSectionVars false
namespace Go.Gk
open Go
/-- one element put in at a place -/
def gIns {α : Type} (bytes : Nat) (l : List α) (i : Int) (ys : List α) : Option (List α) := if 0 ≤ i ∧ i ≤ l.length ∧ ys.length = 1 ∧ (l.length + ys.length) * bytes ≤ 140737488355328 then some (l.take i.toNat ++ ys ++ l.drop i.toNat) else none
section
variable {P : Program}
theorem run_append_zeros_grow {w : World} (t u ty e : TypeId) (i : TypeInfo) (z : Value) (ht : P.underlying t = some (.slice e)) (hu : P.underlying u = some (.int .i64)) (hi : P.info? e = some i) (hz : i.zero = some z)
    (b : Addr) (sLen sCap : Nat) (olds : List Value) (hlo : olds.length = sLen * i.size) (holds : ∀ j v, olds[j]? = some v → w.cell? (b.add j) = some v) (n : Nat) (h0 : 0 < n) (hsz : 0 < i.size)
    (hg : sCap < sLen + n) (h63 : ((sLen + n : Nat) : Int) ≤ 140737488355328) (h48 : n * i.bytes ≤ 140737488355328) (hfit : Builtin.nextslicecap (sLen + n) sCap * i.bytes ≤ 281474976710656) :
    (Builtin.append_ #[t, u] ty #[.slice (some b) sLen sCap, .int .i64 (n : Int)]).run P w =
      .ok (.slice (some ⟨w.heap.size, 0, none⟩) (sLen + n) (grownCap w (sLen + n) sCap e))
        (w.drew.alloc (.cells (olds.toArray ++ Builtin.zeroCells z.cells n ++ Builtin.zeroCells z.cells (grownCap w (sLen + n) sCap e - (sLen + n))) e)) := by
  have hn : ¬ (sLen + n ≤ sCap) := by omega
  have h63' : ¬ (9223372036854775807 < ((sLen : Int) + (n : Int))) := by omega
  have h48' : ¬ (281474976710656 < Builtin.nextslicecap (sLen + n) sCap * i.bytes) := by omega
  have hw : IntKind.i64.wrap (n : Int) = (n : Int) := wrap_in (by omega) (by omega)
  have hneg : ¬ ((n : Int) < 0) := by omega
  have hbig : ¬ (281474976710656 < (n : Int) * (i.bytes : Int)) := by
    have : ((n * i.bytes : Nat) : Int) ≤ 140737488355328 := by omega
    rw [Int.natCast_mul] at this; omega
  have hs : ¬ (n = 0 ∨ i.size = 0) := by omega
  have hfo := run_firstCells_some (P := P) w.drew i.size sLen b sLen sCap olds hlo (by simpa using holds)
  simp [Builtin.append_, run_underlying ht, run_underlying hu, sizeOf, typeInfo, zeroValue, hi, hz, asInt, asIntOf, hw, hneg, hbig, hn, h63', h48', hs, Question.forced, hfo, newRow, grownCap]
  intro h
  exact absurd h (by have := Nat.mul_pos h0 hsz; omega)
theorem run_copy_at {w : World} (t ty e : TypeId) (i : TypeInfo) (ht : P.underlying t = some (.slice e)) (hi : P.info? e = some i) (g o dl dc : Nat) (cur : Array Value) (hg : w.heap[g]? = some (.cells cur e (0, 0)))
    (a : Addr) (m c n : Nat) (hn : Nat.min m dl = n) (news : List Value) (hl : news.length = n * i.size) (hnews : ∀ j u, news[j]? = some u → w.cell? (a.add j) = some u) (h1 : ∀ u ∈ news, u.oneCell' = true)
    (hfit : o + news.length ≤ cur.size) :
    (Builtin.copy_ #[t, t] ty #[.slice (some ⟨g, o, none⟩) dl dc, .slice (some a) m c]).run P w =
      .ok (goInt n) (w.setRow g (cur.toList.take o ++ news ++ cur.toList.drop (o + news.length)).toArray) := by
  have hf := run_firstCells_some (P := P) w i.size n a m c news hl hnews
  have hst := run_storeCells_at P g o e news 0 cur w hg (by simpa using hfit) h1
  simp only [Nat.add_zero] at hst
  simp [Builtin.copy_, run_underlying ht, sizeOf, typeInfo, hi, Builtin.lenOf, hn, hf, hst]
end
section
variable {α : Type} [GT α] {P : Program} {n : Nat} {σ : Nat → Value} {w : World} {Q : Post} {E : World} {Γ : List HP} {i j k : Nat}
variable {ops : Array Oper} {rest : List Oper} {d : Nat} {ty t T e u : TypeId} {pos : String} {af : Array Edge} {g : Option (Nat × Bool)} {v vy : Value} {q r : Operand} {l ys l' : List α} {lo hi : Int} {bytes b o cap m : Nat}
theorem own_row (hw : Holds E w Γ) (hi' : Γ[i]? = some (own e v l)) (h0 : 0 < l.length) : ∃ b o cap, v = .slice (some ⟨b, o, none⟩) l.length cap ∧ l.length ≤ cap ∧ cap ≤ maxLen := by
  obtain ⟨M, hs, gd⟩ := hw
  rcases gd.sat i _ hi' with ⟨h1, h2, _⟩ | ⟨b, o, c, cur, xs, hv, h2, h3, _⟩
  · subst h2; simp at h0
  · exact ⟨b, o, c, hv, h2, h3⟩
/-- a row, written from place k on -/
theorem own_write {M : Heap} {hs : Nat → Heap} (gd : Good E w M hs Γ) (hi' : Γ[i]? = some (own e (.slice (some ⟨b, o, none⟩) l.length cap) l)) {news : List Value} (hn : Cells M news ys) (hk : k ≤ l.length) (hc : k + ys.length ≤ cap) :
    ∃ cur : Array Value, w.heap[b]? = some (.cells cur e (0, 0)) ∧ o + k * GT.sz α + news.length ≤ cur.size ∧
      Holds E (w.setRow b (cur.toList.take (o + k * GT.sz α) ++ news ++ cur.toList.drop (o + k * GT.sz α + news.length)).toArray)
        (Γ.set i (own e (.slice (some ⟨b, o, none⟩) (max l.length (k + ys.length)) cap) (l.take k ++ ys ++ l.drop (k + ys.length)))) := by
  rcases gd.sat i _ hi' with ⟨h1, _⟩ | ⟨b', o', c', cur, xs, hv, h2, h3, h4, h5, h6, h7⟩
  · cases h1
  injection hv with hv1 hv2 hv3
  injection hv1 with hv1
  injection hv1 with e1 e2
  subst e1; subst e2; subst hv3
  have hb := gd.le i b _ (lt_of_get hi') (by rw [h4]; exact one_self b _)
  have hnl : news.length = ys.length * GT.sz α := hn.1
  have hxl : xs.length = l.length * GT.sz α := h7.1
  have hm1 : (k + ys.length) * GT.sz α ≤ cap * GT.sz α := Nat.mul_le_mul_right _ hc
  have hm2 : l.length * GT.sz α ≤ cap * GT.sz α := Nat.mul_le_mul_right _ h2
  have hm3 : k * GT.sz α ≤ l.length * GT.sz α := Nat.mul_le_mul_right _ hk
  have hm4 : (k + ys.length) * GT.sz α = k * GT.sz α + ys.length * GT.sz α := Nat.add_mul _ _ _
  have hcl : cur.toList.length = cur.size := rfl
  have hfit : o + k * GT.sz α + news.length ≤ cur.size := by omega
  have hlen : (l.take k ++ ys ++ l.drop (k + ys.length)).length = max l.length (k + ys.length) := by
    simp only [List.length_append, List.length_take, List.length_drop]; omega
  have hgl : ∀ t, xs[t]? = if t < l.length * GT.sz α then cur.toList[o + t]? else none := fun t => by rw [← h6, List.getElem?_take, List.getElem?_drop]
  -- what stands behind
  have htl : Cells M (xs.drop ((k + ys.length) * GT.sz α)) (l.drop (k + ys.length)) := by
    by_cases h : k + ys.length ≤ l.length
    · exact h7.drop h
    · have h8 : l.length * GT.sz α ≤ (k + ys.length) * GT.sz α := Nat.mul_le_mul_right _ (by omega)
      rw [List.drop_of_length_le (by omega), List.drop_of_length_le (by omega)]; exact Cells.nil
  refine ⟨cur, hb, hfit, setRow_good gd hi' h4 (.inr ⟨b, o, cap, _, xs.take (k * GT.sz α) ++ news ++ xs.drop ((k + ys.length) * GT.sz α), by rw [hlen], by rw [hlen]; omega, h3, rfl, ?_, ?_, ((h7.take hk).append hn).append htl⟩)⟩
  · simp only [List.size_toArray, List.length_append, List.length_take, List.length_drop, Array.length_toList]; omega
  · rw [hlen]
    have hmx : max l.length (k + ys.length) * GT.sz α = max (l.length * GT.sz α) (k * GT.sz α + ys.length * GT.sz α) := by
      rcases Nat.le_total l.length (k + ys.length) with h | h
      · have := Nat.mul_le_mul_right (GT.sz α) h
        rw [Nat.max_eq_right h, hm4]; omega
      · have := Nat.mul_le_mul_right (GT.sz α) h
        rw [Nat.max_eq_left h]; omega
    rw [hmx, hm4]
    have hl1 : (List.take (o + k * GT.sz α) cur.toList).length = o + k * GT.sz α := by rw [List.length_take]; omega
    have hl2 : (List.take (k * GT.sz α) xs).length = k * GT.sz α := by rw [List.length_take]; omega
    apply List.ext_getElem?
    intro t
    rw [List.getElem?_take, List.getElem?_drop, List.append_assoc, List.append_assoc]
    by_cases hA : t < k * GT.sz α
    · rw [if_pos (by omega), List.getElem?_append_left (by omega), List.getElem?_append_left (by omega), List.getElem?_take, if_pos (by omega), List.getElem?_take, if_pos hA, hgl t, if_pos (by omega)]
    · rw [List.getElem?_append_right (by omega : (List.take (k * GT.sz α) xs).length ≤ t), hl2]
      by_cases hB : t < k * GT.sz α + news.length
      · rw [if_pos (by omega), List.getElem?_append_right (by omega), hl1, show o + t - (o + k * GT.sz α) = t - k * GT.sz α by omega, List.getElem?_append_left (by omega), List.getElem?_append_left (by omega)]
      · rw [List.getElem?_append_right (by omega : news.length ≤ t - k * GT.sz α), List.getElem?_drop, hgl]
        by_cases hC : t < l.length * GT.sz α
        · rw [if_pos (by omega), if_pos (by omega), List.getElem?_append_right (by omega), hl1, show o + t - (o + k * GT.sz α) = t - k * GT.sz α by omega, List.getElem?_append_right (by omega), List.getElem?_drop]
          congr 1; omega
        · rw [if_neg (by omega), if_neg (by omega)]
theorem run_cutG {a : Option Addr} {m : Nat} {lov hiv : Option Value} (hT : SlT P T e (GT.sz α)) (hl : lov = some (.int .i64 lo) ∨ (lov = none ∧ lo = 0)) (hh : hiv = some (.int .i64 hi) ∨ (hiv = none ∧ hi = m))
    (h0 : 0 ≤ lo) (h1 : lo ≤ hi) (h2 : hi ≤ cap) (w : World) :
    (Instr.sliceAt T (.slice a m cap) lov hiv none).run P w = .ok (.slice (if cap = lo.toNat then a else a.map (·.add (lo.toNat * GT.sz α))) (hi.toNat - lo.toNat) (cap - lo.toNat)) w := by
  have eh : (Instr.sliceBounds true m cap lov hiv none).run P w = .ok (lo.toNat, hi.toNat, cap) w := by
    unfold Instr.sliceBounds
    have e1 : ∀ (y : Nat) (c : BoundsCode), hi ≤ y → (Instr.sliceBound (.int .i64 hi) y c).run P w = .ok hi.toNat w := fun y c hy => by
      simp [Instr.sliceBound, asIntOf, show 0 ≤ hi by omega, hy]
    have e2 : ∀ (y : Nat) (c : BoundsCode), lo ≤ y → (Instr.sliceBound (.int .i64 lo) y c).run P w = .ok lo.toNat w := fun y c hy => by
      simp [Instr.sliceBound, asIntOf, h0, hy]
    rcases hl with rfl | ⟨rfl, rfl⟩ <;> rcases hh with rfl | ⟨rfl, rfl⟩
    · simp only [Sem.run_bind, Sem.run_pure, Result.andThen_ok, e1 cap _ (by omega), e2 _ _ (show lo ≤ (hi.toNat : Nat) by omega)]
    · simp only [Sem.run_bind, Sem.run_pure, Result.andThen_ok, e2 m _ (by omega)]
      simp
    · simp only [Sem.run_bind, Sem.run_pure, Result.andThen_ok, e1 cap _ (by omega)]
      simp
    · simp only [Sem.run_bind, Sem.run_pure, Result.andThen_ok]
      simp
  unfold Instr.sliceAt
  simp only [Sem.run_bind, run_underlying hT.und, Result.andThen_ok]
  unfold Instr.slice
  simp only [Sem.run_bind, run_underlying hT.und, Result.andThen_ok, eh, hT.sz, Sem.run_pure]
/-- 's[:hi]' of a row that is known by its address -/
theorem RL.lpre {hip : Option Operand} (hg : Wn ops σ g) (hd : Nat.blt d n = true) (hx : ev σ q = .slice (some ⟨b, o, none⟩) m cap) (hT : SlT P T e (GT.sz α)) (hh : hip.map (ev σ) = some (.int .i64 hi)) (h0 : 0 ≤ hi) (h1 : hi ≤ cap)
    (kk : RL P n ops rest (upd σ d (.slice (some ⟨b, o, none⟩) hi.toNat cap)) w Q) : RL P n ops (⟨some d, .slice T q none hip none, ty, pos, af, g⟩ :: rest) σ w Q := by
  refine RL.val hg hd ?_ kk
  have := run_cutG (P := P) (α := α) (a := some ⟨b, o, none⟩) (m := m) (cap := cap) (lo := 0) (hi := hi) (lov := none) (hiv := hip.map (ev σ)) hT (.inr ⟨rfl, rfl⟩) (.inl hh) (Int.le_refl _) h0 h1 w
  simp only [execOp, hx, Sem.run_bind, Option.map_none, this, Result.andThen_ok, Sem.run_pure]
  simp only [Int.toNat_zero, Nat.sub_zero, Nat.zero_mul, Option.map_some, Addr.add_lit, Nat.add_zero, ite_self]
/-- 's[lo:]' .. -/
theorem RL.lsuf {lop : Option Operand} (hg : Wn ops σ g) (hd : Nat.blt d n = true) (hx : ev σ q = .slice (some ⟨b, o, none⟩) m cap) (hT : SlT P T e (GT.sz α)) (hl : lop.map (ev σ) = some (.int .i64 lo)) (h0 : 0 ≤ lo) (h1 : lo ≤ m) (h2 : lo < cap) (h3 : m ≤ cap)
    (kk : RL P n ops rest (upd σ d (.slice (some ⟨b, o + lo.toNat * GT.sz α, none⟩) (m - lo.toNat) (cap - lo.toNat))) w Q) : RL P n ops (⟨some d, .slice T q lop none none, ty, pos, af, g⟩ :: rest) σ w Q := by
  refine RL.val hg hd ?_ kk
  have := run_cutG (P := P) (α := α) (a := some ⟨b, o, none⟩) (m := m) (cap := cap) (lo := lo) (hi := (m : Nat)) (lov := lop.map (ev σ)) (hiv := none) hT (.inl hl) (.inr ⟨rfl, rfl⟩) h0 h1 (by omega) w
  simp only [execOp, hx, Sem.run_bind, Option.map_none, this, Result.andThen_ok, Sem.run_pure]
  rw [if_neg (by omega)]
  simp only [Int.toNat_natCast, Option.map_some, Addr.add_lit]
/-- 's[lo:]', whatever comes of it -/
theorem RL.suf_any {lop : Option Operand} {a : Option Addr} (hg : Wn ops σ g) (hd : Nat.blt d n = true) (hx : ev σ q = .slice a m cap) (hT : SlT P T e (GT.sz α)) (hl : lop.map (ev σ) = some (.int .i64 lo)) (h0 : 0 ≤ lo) (h1 : lo ≤ m) (h3 : m ≤ cap)
    (kk : ∀ u, RL P n ops rest (upd σ d u) w Q) : RL P n ops (⟨some d, .slice T q lop none none, ty, pos, af, g⟩ :: rest) σ w Q := by
  refine RL.val hg hd ?_ (kk (.slice (if cap = lo.toNat then a else a.map (·.add (lo.toNat * GT.sz α))) (m - lo.toNat) (cap - lo.toNat)))
  have := run_cutG (P := P) (α := α) (a := a) (m := m) (cap := cap) (lo := lo) (hi := (m : Nat)) (lov := lop.map (ev σ)) (hiv := none) hT (.inl hl) (.inr ⟨rfl, rfl⟩) h0 h1 (by omega) w
  simp only [execOp, hx, Sem.run_bind, Option.map_none, this, Result.andThen_ok, Sem.run_pure, Int.toNat_natCast]
theorem RL.cap_l {a : Option Addr} (hg : Wn ops σ g) (hd : Nat.blt d n = true) (hx : ev σ q = .slice a m cap) (ht : P.underlying t = some (.slice e))
    (kk : RL P n ops rest (upd σ d (.int .i64 (cap : Nat))) w Q) : RL P n ops (⟨some d, .call ⟨.builtin .cap, #[q], #[t]⟩, ty, pos, af, g⟩ :: rest) σ w Q := by
  refine RL.val hg hd ?_ kk
  simp [execOp, resolve, hx, invoke, builtin, Builtin.cap_, run_underlying ht, goInt]
/-- what lies in a row from a place on, for a copy -/
theorem src_own {M : Heap} {hs : Nat → Heap} (gd : Good E w M hs Γ) (hi' : Γ[i]? = some (own e (.slice (some ⟨b, o, none⟩) m cap) l)) (hk : k ≤ l.length) :
    ∃ news, Cells M news (l.drop k) ∧ ∀ j u, news[j]? = some u → w.cell? ((⟨b, o + k * GT.sz α, none⟩ : Addr).add j) = some u := by
  rcases gd.sat i _ hi' with ⟨h1, _⟩ | ⟨b', o', c', cur, xs, hv, h2, h3, h4, h5, h6, h7⟩
  · cases h1
  injection hv with hv1 hv2 hv3
  injection hv1 with hv1
  injection hv1 with e1 e2
  subst e1; subst e2; subst hv3
  have hb := gd.le i b _ (lt_of_get hi') (by rw [h4]; exact one_self b _)
  refine ⟨_, h7.drop hk, fun j u hu => ?_⟩
  rw [Addr.add_lit, cell_of_row w b _ _ _ _ hb, ← Array.getElem?_toList]
  rw [List.getElem?_drop, ← h6, List.getElem?_take] at hu
  split at hu
  · rw [List.getElem?_drop] at hu; rw [← hu]; congr 1; omega
  · cases hu
/-- 'copy' into an owned row. -/
theorem RL.copy_at {a : Addr} {dl dc m c : Nat} (hg : Wn ops σ g) (hd : Nat.blt d n = true) (hw : Holds E w Γ) (hx : ev σ q = .slice (some ⟨b, o + k * GT.sz α, none⟩) dl dc) (hy : ev σ r = .slice (some a) m c)
    (hi' : Γ[i]? = some (own e (.slice (some ⟨b, o, none⟩) l.length cap) l)) (hT : ElT P t e (GT.sz α) bytes) (hmin : Nat.min m dl = ys.length) (hk : k ≤ l.length) (hc : k + ys.length ≤ cap)
    (hsrc : ∀ M hs, Good E w M hs Γ → ∃ news, Cells M news ys ∧ ∀ j u, news[j]? = some u → w.cell? (a.add j) = some u)
    (kk : ∀ w', Holds E w' (Γ.set i (own e (.slice (some ⟨b, o, none⟩) (Max.max l.length (k + ys.length)) cap) (l.take k ++ ys ++ l.drop (k + ys.length)))) → RL P n ops rest (upd σ d (.int .i64 (ys.length : Nat))) w' Q) :
    RL P n ops (⟨some d, .call ⟨.builtin .copy, #[q, r], #[t, t]⟩, ty, pos, af, g⟩ :: rest) σ w Q := by
  obtain ⟨inf, z, hinf, hz, hsz, hby, hzs⟩ := hT.inf
  obtain ⟨M, hs, gd⟩ := hw
  obtain ⟨news, hn, hnews⟩ := hsrc M hs gd
  obtain ⟨cur, hb, hfit, hH⟩ := own_write gd hi' hn hk hc
  have hr := run_copy_at (P := P) (w := w) t ty e inf hT.und hinf b (o + k * GT.sz α) dl dc cur hb a m c ys.length hmin news (by rw [hn.1, hsz]) hnews hn.oneC hfit
  refine RL.val hg hd ?_ (kk _ hH)
  simp only [execOp, resolve, invoke, builtin, Sem.run_bind, Sem.run_pure, Result.andThen_ok, List.map_toArray, List.map_cons, List.map_nil, hx, hy, hr]
  rfl
theorem cells_zero {M : Heap} {z0 : α} {z : Value} (hz0 : ZeD P e z0) (hz : (P.info? e).bind (·.zero) = some z) (hzs : z.cells.size = GT.sz α) : Cells M (Builtin.zeroCells z.cells m).toList (List.replicate m z0) := by
  have hok := hz0 M z hz
  have hml : (Builtin.zeroCells z.cells m).toList.length = m * GT.sz α := by rw [Array.length_toList, size_zeroCells, hzs]
  refine ⟨by rw [hml, List.length_replicate], fun a x hx => ?_⟩
  rw [List.getElem?_replicate] at hx
  split at hx
  · rename_i ha
    injection hx with hx
    subst hx
    have hms := mulsz (sz := GT.sz α) ha
    have : (List.drop (a * GT.sz α) (Builtin.zeroCells z.cells m).toList).take (GT.sz α) = z.cells.toList := by
      apply List.ext_getElem?
      intro t
      have hzl : z.cells.toList.length = GT.sz α := by rw [Array.length_toList]; exact hzs
      simp only [List.getElem?_take, List.getElem?_drop]
      by_cases ht : t < GT.sz α
      · have hlt : a * GT.sz α + t < (Builtin.zeroCells z.cells m).size := by rw [size_zeroCells, hzs]; omega
        rw [if_pos ht, Array.getElem?_toList, Array.getElem?_eq_getElem hlt, List.getElem?_eq_getElem (show t < z.cells.toList.length by omega)]
        simp only [Builtin.zeroCells, Array.getElem_map, Array.getElem_range, hzs]
        have hmod : (a * GT.sz α + t) % GT.sz α = t := by rw [Nat.mul_comm, Nat.mul_add_mod, Nat.mod_eq_of_lt ht]
        rw [hmod]
        rw [getElem!_pos z.cells t (by omega)]
        simp
      · rw [if_neg ht, List.getElem?_eq_none (by omega)]
    rw [this]; exact hok
  · cases hx
/-- 'append(s[:i], make(S, m)...)' where there is no room: a new row. -/
theorem RL.appz_grow {z0 : α} {i0 : Nat} (hg : Wn ops σ g) (hd : Nat.blt d n = true) (hw : Holds E w Γ) (hx : ev σ q = .slice (some ⟨b, o, none⟩) i0 cap) (hy : ev σ r = .int .i64 (m : Nat))
    (hi' : Γ[i]? = some (own e (.slice (some ⟨b, o, none⟩) l.length cap) l)) (hT : ElT P t e (GT.sz α) bytes) (hu : P.underlying u = some (.int .i64)) (hz0 : ZeD P e z0) (hi0 : i0 ≤ l.length) (h0 : 0 < m) (hgr : cap < i0 + m) (hroom : (i0 + m) * bytes ≤ 140737488355328)
    (kk : ∀ b' c' w', i0 + m ≤ c' → Holds E w' (own e (.slice (some ⟨b', 0, none⟩) (i0 + m) c') (l.take i0 ++ List.replicate m z0) :: Γ) → RL P n ops rest (upd σ d (.slice (some ⟨b', 0, none⟩) (i0 + m) c')) w' Q) :
    RL P n ops (⟨some d, .call ⟨.builtin .append, #[q, r], #[t, u]⟩, ty, pos, af, g⟩ :: rest) σ w Q := by
  obtain ⟨inf, z, hinf, hz, hsz, hby, hzs⟩ := hT.inf
  have hp := hT.pos
  have hle : i0 + m ≤ 140737488355328 := Nat.le_trans (Nat.le_mul_of_pos_right _ hp) hroom
  have hmb : m * bytes ≤ 140737488355328 := Nat.le_trans (Nat.mul_le_mul_right _ (by omega)) hroom
  have hszp : 0 < inf.size := by rw [hsz]; exact GT.pos
  have key : ∃ olds, (∀ j v, olds[j]? = some v → w.cell? ((⟨b, o, none⟩ : Addr).add j) = some v) ∧ olds.length = i0 * inf.size ∧ ∀ w' : World, w'.heap = w.heap → ∀ M hs, Good E w' M hs Γ → Cells M olds (l.take i0) := by
    obtain ⟨M, hs, gd⟩ := hw
    rcases gd.sat i _ hi' with ⟨h1, _⟩ | ⟨b', o', c', cur, xs, hv, h2, h3, h4, h5, h6, h7⟩
    · cases h1
    injection hv with hv1 hv2 hv3
    injection hv1 with hv1
    injection hv1 with e1 e2
    subst e1; subst e2; subst hv3
    have hb := gd.le i b _ (lt_of_get hi') (by rw [h4]; exact one_self b _)
    have hxl : xs.length = l.length * GT.sz α := h7.1
    have hm3 : i0 * GT.sz α ≤ l.length * GT.sz α := Nat.mul_le_mul_right _ hi0
    refine ⟨xs.take (i0 * GT.sz α), fun j v hj => ?_, by rw [List.length_take, hsz]; omega, fun w' hww M' hs' gd' => ?_⟩
    · rw [Addr.add_lit, cell_of_row w b _ _ _ _ hb, ← Array.getElem?_toList]
      rw [List.getElem?_take] at hj
      split at hj
      · rw [← h6, List.getElem?_take] at hj
        split at hj
        · rw [List.getElem?_drop] at hj; exact hj
        · cases hj
      · cases hj
    · rcases gd'.sat i _ hi' with ⟨h1, _⟩ | ⟨b', o', c', cur', xs', hv', k2, k3, k4, k5, k6, k7⟩
      · cases h1
      injection hv' with hv1 hv2 hv3
      injection hv1 with hv1
      injection hv1 with e1 e2
      subst e1; subst e2; subst hv3
      have hb' := gd'.le i b _ (lt_of_get hi') (by rw [k4]; exact one_self b _)
      rw [hww, hb] at hb'
      injection hb' with hb'
      injection hb' with hb'
      subst hb'
      have : xs' = xs := by rw [← h6, ← k6]
      subst this
      exact k7.take hi0
  obtain ⟨olds, hol, holl, hoc⟩ := key
  have hr := run_append_zeros_grow (P := P) (w := w) t u ty e inf z hT.und hu hinf hz ⟨b, o, none⟩ i0 cap olds holl hol m h0 hszp hgr (by omega) (by rw [hby]; exact hmb) (growslice_fits (by omega) (by rw [hby]; exact hroom))
  have hge := grownCap_ge w (i0 + m) cap e
  have hcm : grownCap w (i0 + m) cap e ≤ maxLen := grownCap_le_maxLen w (i0 + m) cap e (by simp only [maxLen]; omega)
  have hzl : (Builtin.zeroCells z.cells m).size = m * GT.sz α := by rw [size_zeroCells, hzs]
  have hlen : (l.take i0 ++ List.replicate m z0).length = i0 + m := by rw [List.length_append, List.length_take, List.length_replicate]; omega
  have hpp : (i0 + m) * GT.sz α = i0 * GT.sz α + m * GT.sz α := Nat.add_mul _ _ _
  have hgm : (i0 + m) * GT.sz α ≤ grownCap w (i0 + m) cap e * GT.sz α := Nat.mul_le_mul_right _ hge
  refine RL.val hg hd ?_ (kk _ _ _ hge (hw.drew.alloc _ fun M hs gd => .inr ⟨w.heap.size, 0, grownCap w (i0 + m) cap e, olds.toArray ++ Builtin.zeroCells z.cells m ++ Builtin.zeroCells z.cells (grownCap w (i0 + m) cap e - (i0 + m)), olds ++ (Builtin.zeroCells z.cells m).toList, by rw [hlen], by rw [hlen]; exact hge, hcm, rfl, ?_, ?_, ?_⟩))
  · simp only [execOp, resolve, invoke, builtin, Sem.run_bind, Sem.run_pure, Result.andThen_ok, List.map_toArray, List.map_cons, List.map_nil, hx, hy, hr]
  · simp only [Array.size_append, List.size_toArray, size_zeroCells, hzs, holl, hsz, Nat.zero_add, Nat.sub_mul]; omega
  · rw [hlen, hpp]
    simp only [Array.toList_append, List.drop_zero]
    rw [List.take_left']
    rw [List.length_append, holl, hsz, Array.length_toList, hzl]
  · exact (hoc w.drew rfl M hs gd).append (cells_zero hz0 (by rw [hinf]; exact hz) hzs)
theorem src_own0 {M : Heap} {hs : Nat → Heap} (gd : Good E w M hs Γ) (hi' : Γ[i]? = some (own e (.slice (some ⟨b, o, none⟩) m cap) l)) :
    ∃ news, Cells M news l ∧ ∀ j u, news[j]? = some u → w.cell? ((⟨b, o, none⟩ : Addr).add j) = some u := by
  obtain ⟨news, h1, h2⟩ := src_own (k := 0) gd hi' (Nat.zero_le _)
  rw [List.drop_zero] at h1
  rw [Nat.zero_mul, Nat.add_zero] at h2
  exact ⟨news, h1, h2⟩
theorem own_shape (hw : Holds E w Γ) (hi' : Γ[i]? = some (own e (.slice (some ⟨b, o, none⟩) m cap) l)) (hc : 0 < cap) : ∃ kA, w.shape? b = some (e, kA) ∧ kA ≠ 0 ∧ ∀ off, w.frozen? ⟨b, off, none⟩ = false := by
  obtain ⟨M, hs, gd⟩ := hw
  rcases gd.sat i _ hi' with ⟨h1, _⟩ | ⟨b', o', c', cur, xs, hv, h2, h3, h4, h5, h6, h7⟩
  · cases h1
  injection hv with hv1 hv2 hv3
  injection hv1 with hv1
  injection hv1 with e1 e2
  subst e1; subst e2; subst hv3
  have hb := gd.le i b _ (lt_of_get hi') (by rw [h4]; exact one_self b _)
  have hp := Nat.mul_pos hc (GT.pos (α := α))
  refine ⟨cur.size, by simp [World.shape?, hb], by omega, fun off => by simp [World.frozen?, hb]⟩
theorem own_apart {l2 : List α} {e2 : TypeId} {b2 o2 m2 cap2 : Nat} (hw : Holds E w Γ) (hi' : Γ[i]? = some (own e (.slice (some ⟨b, o, none⟩) m cap) l)) (hj' : Γ[j]? = some (own e2 (.slice (some ⟨b2, o2, none⟩) m2 cap2) l2)) (hij : i ≠ j) : b ≠ b2 := by
  obtain ⟨M, hs, gd⟩ := hw
  rcases gd.sat i _ hi' with ⟨h1, _⟩ | ⟨b', o', c', cur, xs, hv, h2, h3, h4, h5, h6, h7⟩
  · cases h1
  injection hv with hv1 hv2 hv3
  injection hv1 with hv1
  injection hv1 with e1 e2
  subst e1
  rcases gd.sat j _ hj' with ⟨h1, _⟩ | ⟨b', o', c', cur', xs', hv', k2, k3, k4, k5, k6, k7⟩
  · cases h1
  injection hv' with hv1 hv2 hv3
  injection hv1 with hv1
  injection hv1 with e1 e2
  subst e1
  intro h
  subst h
  have := gd.dj i j b _ (lt_of_get hi') (lt_of_get hj') hij (by rw [h4]; exact one_self b _)
  rw [k4, one_self] at this; cases this
/-- slices.overlaps of two owned rows -/
theorem run_apart {l2 : List α} {b2 o2 o3 m2 m3 m4 cap2 cap3 cap4 tS tR : Nat} (hT : SlT P tS e (GT.sz α)) (hw : Holds E w Γ) (hi' : Γ[i]? = some (own e (.slice (some ⟨b, o, none⟩) m cap) l)) (hj' : Γ[j]? = some (own e (.slice (some ⟨b2, o2, none⟩) m2 cap2) l2)) (hij : i ≠ j)
    (hc : 0 < cap) (hc2 : 0 < cap2) : (Extern.SlicesOverlaps.overlaps #[tS, tS] #[tR] #[.slice (some ⟨b, o, none⟩) m3 cap3, .slice (some ⟨b2, o3, none⟩) m4 cap4]).run P w = .ok (.bool false) w := by
  obtain ⟨kA, a1, a2, a3⟩ := own_shape hw hi' hc
  obtain ⟨kB, b1, b2', b3⟩ := own_shape hw hj' hc2
  exact Lib.run_overlaps_apart w tS tR e hT.und (GT.sz α) hT.sz ⟨b, o, none⟩ ⟨b2, o3, none⟩ m3 cap3 m4 cap4 (own_apart hw hi' hj' hij) e e kA kB a1 b1 b2' (a3 _) (a3 _)
end
/-- the two ways of putting one element in come to the same -/
theorem ins_shape {α : Type} (l ys : List α) (k : Nat) (i : Nat) (z : α) (h1 : ys.length = 1) (hi : i < l.length) (hk : k ≤ l.length + 1 - i) :
    (((l.take i ++ List.replicate k z).take i ++ ys ++ (l.take i ++ List.replicate k z).drop (i + ys.length)).take (i + 1) ++ l.drop i ++ ((l.take i ++ List.replicate k z).take i ++ ys ++ (l.take i ++ List.replicate k z).drop (i + ys.length)).drop (i + 1 + (l.drop i).length)) = l.take i ++ ys ++ l.drop i := by
  have hl : (l.take i).length = i := by rw [List.length_take]; omega
  rw [List.take_left' hl]
  have e1 : (l.take i ++ ys ++ (l.take i ++ List.replicate k z).drop (i + ys.length)).drop (i + 1 + (l.drop i).length) = [] := List.drop_of_length_le (by simp only [List.length_append, List.length_drop, List.length_replicate, hl, h1]; omega)
  have e2 : (l.take i ++ ys).length = i + 1 := by rw [List.length_append, hl, h1]
  rw [e1, List.append_nil, List.take_left' e2]
theorem ins_shape2 {α : Type} (l ys : List α) (i : Nat) (h1 : ys.length = 1) (hi : i < l.length) :
    ((l.take (i + 1) ++ l.drop i ++ l.drop (i + 1 + (l.drop i).length)).take i ++ ys ++ (l.take (i + 1) ++ l.drop i ++ l.drop (i + 1 + (l.drop i).length)).drop (i + ys.length)) = l.take i ++ ys ++ l.drop i := by
  have e1 : l.drop (i + 1 + (l.drop i).length) = [] := List.drop_of_length_le (by rw [List.length_drop]; omega)
  have e2 : (l.take (i + 1)).length = i + 1 := by rw [List.length_take]; omega
  rw [e1, List.append_nil, h1, List.take_append_of_le_length (by omega), List.take_take, Nat.min_eq_left (by omega)]
  congr 1
  exact List.drop_left' e2
end Go.Gk
