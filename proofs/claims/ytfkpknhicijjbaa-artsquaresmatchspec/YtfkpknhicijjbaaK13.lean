/-
  Variables told cell by cell: their parts may be owned slices, maps, other variables. No statement of the seed is proved here.
-/
import Derived.Test.YtfkpknhicijjbaaK11
set_option linter.unusedVariables false
set_option linter.unusedSimpArgs false
set_option linter.unusedSectionVars false
namespace Go.Gk
open Go

/-- Block g is a variable of type e whose cells hold these values. -/
def bc (e : TypeId) (g : Nat) (vs : List Value) : HP := ⟨fun _ h => (∀ v ∈ vs, v.oneCell' = true) ∧ h = Gk.one g (.cells vs.toArray e (0, 0)), fun _ h => h⟩
/-- Cells that read as a datum. -/
def okc {α : Type} [GT α] (vs : List Value) (x : α) : HP := ⟨fun M h => GT.ok M vs x ∧ h = hnil, fun k ⟨a, b⟩ => ⟨GT.mono k a, b⟩⟩
structure ZeC (P : Program) (T : TypeId) (zs : List Value) : Prop where
  z : ∃ z, (∀ w, (zeroValue T).run P w = .ok z w) ∧ z.cells = zs.toArray

theorem len1 : ∀ {cs : List Value} (_ : cs.length = 1), ∃ v1 : Value, cs = [v1]
  | [v1], _ => ⟨v1, rfl⟩
theorem len2 : ∀ {cs : List Value} (_ : cs.length = 2), ∃ v1 v2 : Value, cs = [v1, v2]
  | [v1, v2], _ => ⟨v1, v2, rfl⟩
theorem len3 : ∀ {cs : List Value} (_ : cs.length = 3), ∃ v1 v2 v3 : Value, cs = [v1, v2, v3]
  | [v1, v2, v3], _ => ⟨v1, v2, v3, rfl⟩
theorem len4 : ∀ {cs : List Value} (_ : cs.length = 4), ∃ v1 v2 v3 v4 : Value, cs = [v1, v2, v3, v4]
  | [v1, v2, v3, v4], _ => ⟨v1, v2, v3, v4, rfl⟩
theorem len5 : ∀ {cs : List Value} (_ : cs.length = 5), ∃ v1 v2 v3 v4 v5 : Value, cs = [v1, v2, v3, v4, v5]
  | [v1, v2, v3, v4, v5], _ => ⟨v1, v2, v3, v4, v5, rfl⟩
theorem len6 : ∀ {cs : List Value} (_ : cs.length = 6), ∃ v1 v2 v3 v4 v5 v6 : Value, cs = [v1, v2, v3, v4, v5, v6]
  | [v1, v2, v3, v4, v5, v6], _ => ⟨v1, v2, v3, v4, v5, v6, rfl⟩
theorem len7 : ∀ {cs : List Value} (_ : cs.length = 7), ∃ v1 v2 v3 v4 v5 v6 v7 : Value, cs = [v1, v2, v3, v4, v5, v6, v7]
  | [v1, v2, v3, v4, v5, v6, v7], _ => ⟨v1, v2, v3, v4, v5, v6, v7, rfl⟩
theorem len8 : ∀ {cs : List Value} (_ : cs.length = 8), ∃ v1 v2 v3 v4 v5 v6 v7 v8 : Value, cs = [v1, v2, v3, v4, v5, v6, v7, v8]
  | [v1, v2, v3, v4, v5, v6, v7, v8], _ => ⟨v1, v2, v3, v4, v5, v6, v7, v8, rfl⟩
theorem len9 : ∀ {cs : List Value} (_ : cs.length = 9), ∃ v1 v2 v3 v4 v5 v6 v7 v8 v9 : Value, cs = [v1, v2, v3, v4, v5, v6, v7, v8, v9]
  | [v1, v2, v3, v4, v5, v6, v7, v8, v9], _ => ⟨v1, v2, v3, v4, v5, v6, v7, v8, v9, rfl⟩
theorem len10 : ∀ {cs : List Value} (_ : cs.length = 10), ∃ v1 v2 v3 v4 v5 v6 v7 v8 v9 v10 : Value, cs = [v1, v2, v3, v4, v5, v6, v7, v8, v9, v10]
  | [v1, v2, v3, v4, v5, v6, v7, v8, v9, v10], _ => ⟨v1, v2, v3, v4, v5, v6, v7, v8, v9, v10, rfl⟩
section
variable {α β : Type} [GT α] [GT β] {E w : World} {Γ : List HP} {i j : Nat} {v : Value} {x : α} {e e' : TypeId} {b : Nat} {vs : List Value}
theorem one_own {l : List α} (h : Holds E w Γ) (hi : Γ[i]? = some (own e v l)) : v.oneCell' = true := by
  obtain ⟨M, hs, g⟩ := h
  exact ownV_one (g.sat i _ hi)
theorem one_rdl {l : List α} (h : Holds E w Γ) (hi : Γ[i]? = some (rd v l)) : v.oneCell' = true := by
  obtain ⟨a, cap, rfl⟩ := h.slice hi; rfl
theorem one_mp {κ ν : Type} [GT κ] [KV κ] [GT ν] {m : List (κ × ν)} (h : Holds E w Γ) (hi : Γ[i]? = some (mp v m)) : v.oneCell' = true := by
  obtain ⟨M, hs, g⟩ := h
  obtain ⟨r, es, c, rfl, _⟩ := g.sat i _ hi
  rfl
/-- A variable's cells. -/
theorem Holds.open_bx (h : Holds E w Γ) (hi : Γ[i]? = some (bx e b x)) : ∃ cs : List Value, cs.length = GT.sz α ∧ Holds E w (okc cs x :: Γ.set i (bc e b cs)) := by
  obtain ⟨M, hs, g⟩ := h
  obtain ⟨cs, ho, hh⟩ := g.sat i _ hi
  have hlt := lt_of_get hi
  refine ⟨cs, GT.len ho, ?_⟩
  have g2 : Good E w M hs (Γ.set i (bc e b cs)) := by
    refine ⟨g.os, g.tape, g.out, g.dr, g.im, fun k Q hq => ?_, fun k b o hk => g.le k b o (by simpa using hk), fun k b o hk => g.dm k b o (by simpa using hk), fun k l b o hk hl => g.dj k l b o (by simpa using hk) (by simpa using hl)⟩
    rw [List.getElem?_set] at hq
    split at hq
    · rename_i e1; subst e1
      simp [hlt] at hq; subst hq
      exact ⟨GT.one ho, hh⟩
    · exact g.sat k Q hq
  exact ⟨M, _, g2.cons_nil ⟨ho, rfl⟩⟩
/-- One cell of those that read as a datum. -/
theorem Holds.fld {cs : List Value} {k : Nat} {f : α → β} (h : Holds E w Γ) (hi : Γ[i]? = some (okc cs x)) (hF : Fd k f) (hv : cs[k]? = some v) (hs : GT.sz β = 1) (ha : GT.agg β = false) : Holds E w (rd v (f x) :: Γ) := by
  obtain ⟨M, hs', g⟩ := h
  obtain ⟨ho, _⟩ := g.sat i _ hi
  refine ⟨M, _, g.cons_nil ⟨?_, rfl⟩⟩
  have h1 := hF M cs x ho
  obtain ⟨hlt, rfl⟩ := List.getElem?_eq_some_iff.1 hv
  have h2 : (cs.drop k).take (GT.sz β) = [cs[k]] := by
    rw [hs, List.drop_eq_getElem_cons hlt]; rfl
  rw [h2] at h1
  refine ⟨_, ?_, h1⟩
  unfold vof
  rw [ha]; rfl
/-- The variable's cells read as a datum. -/
theorem Holds.close_bc (h : Holds E w Γ) (hi : Γ[i]? = some (bc e b vs)) (ho : ∀ M hs, Good E w M hs Γ → GT.ok M vs x) : Holds E w (Γ.set i (bx e b x)) := by
  obtain ⟨M, hs, g⟩ := h
  obtain ⟨_, hh⟩ := g.sat i _ hi
  have hlt := lt_of_get hi
  refine ⟨M, hs, g.os, g.tape, g.out, g.dr, g.im, fun k Q hq => ?_, fun k b o hk => g.le k b o (by simpa using hk), fun k b o hk => g.dm k b o (by simpa using hk), fun k l b o hk hl => g.dj k l b o (by simpa using hk) (by simpa using hl)⟩
  rw [List.getElem?_set] at hq
  split at hq
  · rename_i e1; subst e1
    simp [hlt] at hq; subst hq
    exact ⟨vs, ho M hs g, hh⟩
  · exact g.sat k Q hq
theorem rd_one (ha : GT.agg α = false) {M : Heap} (h : rdV M v x) : GT.ok M [v] x := by
  obtain ⟨cs, rfl, ho⟩ := h
  have hl := GT.len ho
  rw [GT.ag1 ha] at hl
  match cs, hl with
  | [c], _ => unfold vof; rw [ha]; exact ho
end

section
variable {P : Program} {n : Nat} {σ : Nat → Value} {w : World} {Q : Post} {E : World} {Γ : List HP} {i j : Nat}
variable {ops : Array Oper} {rest : List Oper} {d : Nat} {ty T T' e : TypeId} {pos : String} {af : Array Edge} {g : Option (Nat × Bool)} {v v' : Value} {q r : Operand} {b m : Nat} {vs : List Value}
theorem RL.load_bc (hg : Wn ops σ g) (hd : Nat.blt d n = true) (hw : Holds E w Γ) (hx : ev σ q = .pointer (some ⟨b, m, none⟩)) (hi : Γ[i]? = some (bc e b vs)) (hv : vs[m]? = some v) (hT : TyA P T false 1)
    (k : RL P n ops rest (upd σ d v) w Q) : RL P n ops (⟨some d, .load T q, ty, pos, af, g⟩ :: rest) σ w Q := by
  obtain ⟨M, hs, gd⟩ := hw
  obtain ⟨_, hh⟩ := gd.sat i _ hi
  have hb := gd.le i b _ (lt_of_get hi) (by rw [hh]; exact one_self b _)
  have hc : w.cell? ⟨b, m, none⟩ = some v := by rw [cell_of_row w b _ _ _ _ hb]; simpa using hv
  refine RL.val (v := v) hg hd ?_ k
  simp [execOp, hx, Instr.loadAt, Instr.sureAddr, loadVar, hT.isA, load, Sem.run, hc]
theorem RL.store_bc (hg : Wn ops σ g) (hw : Holds E w Γ) (hx : ev σ q = .pointer (some ⟨b, m, none⟩)) (hy : ev σ r = v) (hi : Γ[i]? = some (bc e b vs)) (hv : vs[m]? = some v') (h1 : v.oneCell' = true)
    (hT : TyA P T false 1) (k : ∀ w', Holds E w' (Γ.set i (bc e b (vs.set m v))) → RL P n ops rest σ w' Q) : RL P n ops (⟨none, .store T q r, ty, pos, af, g⟩ :: rest) σ w Q := by
  obtain ⟨M, hs, gd⟩ := hw
  obtain ⟨hone, hh⟩ := gd.sat i _ hi
  have hlt := (List.getElem?_eq_some_iff.1 hv).1
  have hb := gd.le i b _ (lt_of_get hi) (by rw [hh]; exact one_self b _)
  have hcv : v.cells = #[v] := by cases v <;> first | rfl | (cases h1)
  have hrun := run_storeVar (P := P) (v := v) (o := m) hT.sz (by rw [hcv]; rfl) (by rw [hcv]; simpa using h1) hb (by simp; omega)
  have hl : (vs.toArray.toList.take m ++ v.cells.toList ++ vs.toArray.toList.drop (m + 1)).toArray = (vs.set m v).toArray := by
    rw [hcv, List.set_eq_take_append_cons_drop, if_pos hlt]; simp
  rw [hl] at hrun
  refine RL.unit (w' := w.setRow b (vs.set m v).toArray) hg ?_ (k _ (setRow_good gd hi hh ⟨fun u hu => ?_, rfl⟩))
  · simp only [execOp, hx, hy, Instr.storeAt, Instr.sureAddr, Sem.run_bind, Sem.run_pure, Result.andThen_ok, hrun]
  · rcases List.mem_or_eq_of_mem_set hu with h | h
    · exact hone u h
    · rw [h]; exact h1
theorem RL.alloc_bc {zs : List Value} (hg : Wn ops σ g) (hd : Nat.blt d n = true) (hw : Holds E w Γ) (hz : ZeC P T zs) (h1 : zs.all (·.oneCell') = true)
    (k : ∀ b w', Holds E w' (bc T b zs :: Γ) → RL P n ops rest (upd σ d (.pointer (some ⟨b, 0, none⟩))) w' Q) : RL P n ops (⟨some d, .alloc T, ty, pos, af, g⟩ :: rest) σ w Q := by
  obtain ⟨z, hz, hs⟩ := hz.z
  refine RL.val (w' := w.alloc (.cells z.cells T)) hg hd ?_ (k w.heap.size _ (hw.alloc _ fun _ _ _ => ⟨fun v hv => List.all_eq_true.1 h1 v hv, by rw [hs]⟩))
  simp only [execOp, Instr.alloc, newVar, newRow, newObj, Sem.run_bind, Sem.run_pure, hz, Result.andThen_ok]
  rfl
theorem RL.box_bc (hg : Wn ops σ g) (hd : Nat.blt d n = true) (hw : Holds E w Γ) (hx : ev σ q = v) (h1 : v.oneCell' = true)
    (k : ∀ b w', Holds E w' (bc T b [v] :: Γ) → RL P n ops rest (upd σ d (.pointer (some ⟨b, 0, none⟩))) w' Q) : RL P n ops (⟨some d, .box T q, ty, pos, af, g⟩ :: rest) σ w Q := by
  have hc : v.cells = #[v] := by cases v <;> first | rfl | (cases h1)
  refine RL.val (w' := w.alloc (.cells #[v] T)) hg hd ?_ (k w.heap.size _ (hw.alloc _ fun _ _ _ => ⟨fun u hu => by simp at hu; subst hu; exact h1, rfl⟩))
  simp only [execOp, hx, Instr.box, newVar, newRow, newObj, Sem.run_bind, Sem.run_pure, hc]
  rfl
/-- The whole variable is written with a datum. -/
theorem RL.store_bcx {α : Type} [GT α] {x : α} (hg : Wn ops σ g) (hw : Holds E w Γ) (hx : ev σ q = .pointer (some ⟨b, 0, none⟩)) (hy : ev σ r = v) (hi : Γ[i]? = some (bc e b vs)) (hj : Γ[j]? = some (rd v x))
    (hT : TyA P T (GT.agg α) (GT.sz α)) (hm : vs.length = GT.sz α) (k : ∀ w', Holds E w' (Γ.set i (bx e b x)) → RL P n ops rest σ w' Q) : RL P n ops (⟨none, .store T q r, ty, pos, af, g⟩ :: rest) σ w Q := by
  have hw2 : Holds E w (Γ.set i (raw e b vs.length)) := by
    obtain ⟨M, hs, gd⟩ := hw
    obtain ⟨_, hh⟩ := gd.sat i _ hi
    have hlt := lt_of_get hi
    refine ⟨M, hs, gd.os, gd.tape, gd.out, gd.dr, gd.im, fun k Q hq => ?_, fun k b o hk => gd.le k b o (by simpa using hk), fun k b o hk => gd.dm k b o (by simpa using hk), fun k l b o hk hl => gd.dj k l b o (by simpa using hk) (by simpa using hl)⟩
    rw [List.getElem?_set] at hq
    split at hq
    · rename_i e1; subst e1
      simp [hlt] at hq; subst hq
      exact ⟨vs, rfl, hh⟩
    · exact gd.sat k Q hq
  have hne : i ≠ j := fun h => by
    subst h
    rw [hi] at hj; injection hj with hj
    have h0 : (bc e b vs).ok (fun _ => none) hnil ↔ (rd v x).ok (fun _ => none) hnil := by rw [hj]
    obtain ⟨M, hs, gd⟩ := hw
    have h1 := gd.sat i _ hi
    have h2 : (rd v x).ok M (hs i) := by rw [← hj]; exact h1
    have h3 := h1.2
    rw [h2.2] at h3
    have := congrFun h3 b
    rw [one_self] at this; cases this
  refine RL.store_raw (i := i) (j := j) (e := e) (x := x) hg hw2 hx hy (by rw [List.getElem?_set]; simp [lt_of_get hi]) (by rw [List.getElem?_set, if_neg hne]; exact hj) hT hm fun w' hw' => k w' ?_
  rw [List.set_set] at hw'; exact hw'
theorem RL.nilCheck {a : Addr} (hg : Wn ops σ g) (hd : Nat.blt d n = true) (hx : ev σ q = .pointer (some a)) (k : RL P n ops rest (upd σ d (.pointer (some a))) w Q) : RL P n ops (⟨some d, .nilCheck q, ty, pos, af, g⟩ :: rest) σ w Q := by
  refine RL.val hg hd ?_ k
  simp only [execOp, hx]; rfl
end
end Go.Gk
