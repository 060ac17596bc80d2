/-
  append of zeros onto nothing; a slice's nil-ness. No statement of the seed is proved here.
-/
import Derived.Test.YtfkpknhicijjbaaK14
import Derived.Laws.Append
set_option linter.unusedVariables false
set_option linter.unusedSimpArgs false
set_option linter.unusedSectionVars false
namespace Go.Gk
open Go

theorem run_append_nil_zeros {P : Program} {t u ty e : TypeId} {w : World} (i : TypeInfo) (z : Value) (ht : P.underlying t = some (.slice e)) (hu : P.underlying u = some (.int .i64)) (hi : P.info? e = some i) (hz : i.zero = some z)
    (n : Nat) (h0 : 0 < n) (h63 : (n : Int) ≤ 140737488355328) (h48 : n * i.bytes ≤ 140737488355328) (hsz : 0 < i.size) :
    (Builtin.append_ #[t, u] ty #[.slice none 0 0, .int .i64 (n : Int)]).run P w =
      .ok (.slice (some ⟨w.heap.size, 0, none⟩) n (grownCap w n 0 e)) (w.drew.alloc (.cells (Builtin.zeroCells z.cells n ++ Builtin.zeroCells z.cells (grownCap w n 0 e - n)) e)) := by
  have hn : n ≠ 0 := by omega
  have h63' : ¬ (9223372036854775807 < (n : Int)) := by omega
  have h48' : ¬ (281474976710656 < Builtin.nextslicecap n 0 * i.bytes) := by rw [nextslicecap_zero h0]; omega
  have hw : IntKind.i64.wrap (n : Int) = (n : Int) := wrap_in (by omega) (by omega)
  have hneg : ¬ ((n : Int) < 0) := by omega
  have hbig : ¬ (281474976710656 < (n : Int) * (i.bytes : Int)) := by
    have : ((n * i.bytes : Nat) : Int) ≤ 140737488355328 := by omega
    rw [Int.natCast_mul] at this; omega
  have hs : ¬ (n = 0 ∨ i.size = 0) := by omega
  simp [Builtin.append_, run_underlying ht, run_underlying hu, sizeOf, typeInfo, zeroValue, hi, hz, asInt, asIntOf, hw, hneg, hbig, hn, h63', h48', hs, Question.forced, run_firstCells_none, newRow, grownCap]
  have hp := Nat.mul_pos h0 hsz
  omega
def appz {α : Type} (bytes : Nat) (z : α) (n : Int) : Option (List α) := if 0 < n ∧ n * bytes ≤ 140737488355328 then some (List.replicate n.toNat z) else none
section
variable {α : Type} [GT α] {P : Program} {n : Nat} {σ : Nat → Value} {w : World} {Q : Post} {E : World} {Γ : List HP} {i j : Nat}
variable {ops : Array Oper} {rest : List Oper} {d : Nat} {ty T t u e : TypeId} {pos : String} {af : Array Edge} {g : Option (Nat × Bool)} {v : Value} {q r : Operand} {l l' : List α} {z0 : α} {bytes : Nat} {k : Int}
/-- 'append(s, make([]T, n)...)' where s is nil. -/
theorem RL.appz_nil (hg : Wn ops σ g) (hd : Nat.blt d n = true) (hw : Holds E w Γ) (hx : ev σ q = .slice none 0 0) (hy : ev σ r = .int .i64 k) (hT : ElT P t e (GT.sz α) bytes) (hu : P.underlying u = some (.int .i64))
    (hz0 : ZeD P e z0)
    (hb : Gk.appz bytes z0 k = some l') (kk : ∀ v w', Holds E w' (own e v l' :: Γ) → RL P n ops rest (upd σ d v) w' Q) : RL P n ops (⟨some d, .call ⟨.builtin .append, #[q, r], #[t, u]⟩, ty, pos, af, g⟩ :: rest) σ w Q := by
  obtain ⟨inf, z, hi, hz, hsz, hby, hzs⟩ := hT.inf
  unfold Gk.appz at hb
  split at hb
  case isFalse => cases hb
  rename_i hc
  injection hb with hb
  subst hb
  obtain ⟨m, rfl⟩ := Int.eq_ofNat_of_zero_le (Int.le_of_lt hc.1)
  rw [Int.toNat_natCast] at kk
  have h0 : 0 < m := by have := hc.1; omega
  have h1 : m * bytes ≤ 140737488355328 := by have := hc.2; omega
  have h2 : m ≤ 140737488355328 := Nat.le_trans (Nat.le_mul_of_pos_right _ hT.pos) h1
  have hszp : 0 < inf.size := by rw [hsz]; exact GT.pos
  have hr := run_append_nil_zeros (P := P) (t := t) (u := u) (ty := ty) (e := e) (w := w) inf z hT.und hu hi hz m h0 (by omega) (by rw [hby]; exact h1) hszp
  have hge := grownCap_ge w m 0 e
  have hcm : grownCap w m 0 e ≤ maxLen := grownCap_le_maxLen w m 0 e (by simp only [maxLen]; omega)
  refine RL.val (v := .slice (some ⟨w.heap.size, 0, none⟩) m (grownCap w m 0 e)) (w' := w.drew.alloc (.cells (Builtin.zeroCells z.cells m ++ Builtin.zeroCells z.cells (grownCap w m 0 e - m)) e)) hg hd ?_ (kk _ _ (hw.drew.alloc _ fun M hs gd => .inr ⟨w.heap.size, 0, grownCap w m 0 e, Builtin.zeroCells z.cells m ++ Builtin.zeroCells z.cells (grownCap w m 0 e - m), _, by rw [List.length_replicate], by rw [List.length_replicate]; exact hge, hcm, rfl, ?_, rfl, ?_⟩))
  · simp only [execOp, resolve, invoke, builtin, Sem.run_bind, Sem.run_pure, Result.andThen_ok, List.map_toArray, List.map_cons, List.map_nil, hx, hy, hr]
  · simp only [Array.size_append, size_zeroCells, hzs, Nat.zero_add, ← Nat.add_mul]
    exact Nat.mul_le_mul_right _ (by omega)
  · have hok := hz0 M z (by rw [hi]; exact hz)
    have hml : (Builtin.zeroCells z.cells m).toList.length = m * GT.sz α := by rw [Array.length_toList, size_zeroCells, hzs]
    have hdt : ((Builtin.zeroCells z.cells m ++ Builtin.zeroCells z.cells (grownCap w m 0 e - m)).toList.drop 0).take ((List.replicate m z0).length * GT.sz α) = (Builtin.zeroCells z.cells m).toList := by
      rw [List.length_replicate, List.drop_zero, Array.toList_append, ← hml, List.take_left']
      rfl
    rw [hdt]
    refine ⟨by rw [hml, List.length_replicate], fun a x hx => ?_⟩
    rw [List.getElem?_replicate] at hx
    split at hx
    · rename_i ha
      injection hx with hx
      subst hx
      have hms := mulsz (sz := GT.sz α) ha
      have : (List.drop (a * GT.sz α) (Builtin.zeroCells z.cells m).toList).take (GT.sz α) = z.cells.toList := by
        apply List.ext_getElem?
        intro t
        have hzl : z.cells.toList.length = GT.sz α := by rw [Array.length_toList]; exact hzs
        simp only [List.getElem?_take, List.getElem?_drop]
        by_cases ht : t < GT.sz α
        · have hlt : a * GT.sz α + t < (Builtin.zeroCells z.cells m).size := by rw [size_zeroCells, hzs]; omega
          rw [if_pos ht, Array.getElem?_toList, Array.getElem?_eq_getElem hlt, List.getElem?_eq_getElem (show t < z.cells.toList.length by omega)]
          simp only [Builtin.zeroCells, Array.getElem_map, Array.getElem_range, hzs]
          have hmod : (a * GT.sz α + t) % GT.sz α = t := by rw [Nat.mul_comm, Nat.mul_add_mod, Nat.mod_eq_of_lt ht]
          rw [hmod]
          rw [getElem!_pos z.cells t (by omega)]
          simp
        · rw [if_neg ht, List.getElem?_eq_none (by omega)]
      rw [this]; exact hok
    · cases hx
/-- 'cap' of nil. -/
theorem RL.cap_nil (hg : Wn ops σ g) (hd : Nat.blt d n = true) (hx : ev σ q = .slice none 0 0) (ht : P.underlying t = some (.slice e))
    (k : RL P n ops rest (upd σ d (.int .i64 (0 : Nat))) w Q) : RL P n ops (⟨some d, .call ⟨.builtin .cap, #[q], #[t]⟩, ty, pos, af, g⟩ :: rest) σ w Q := by
  refine RL.val hg hd ?_ k
  simp [execOp, resolve, hx, invoke, builtin, Builtin.cap_, run_underlying ht, goInt]
/-- 'x[:hi]' of nil. -/
theorem RL.cut_nil (α : Type) [GT α] {lop hip : Option Operand} {lo hi : Int} (hg : Wn ops σ g) (hd : Nat.blt d n = true) (hx : ev σ q = .slice none 0 0) (hT : SlT P T e (GT.sz α))
    (hl : lop.map (ev σ) = some (.int .i64 lo) ∨ (lop.map (ev σ) = none ∧ lo = 0)) (hh : hip.map (ev σ) = some (.int .i64 hi) ∨ (hip.map (ev σ) = none ∧ hi = (0 : Nat)))
    (h0 : lo = 0) (h1 : hi = 0) (k : RL P n ops rest (upd σ d (.slice none 0 0)) w Q) :
    RL P n ops (⟨some d, .slice T q lop hip none, ty, pos, af, g⟩ :: rest) σ w Q := by
  subst h0; subst h1
  refine RL.val hg hd ?_ k
  have := run_cut (P := P) (α := α) (m := 0) (cap := 0) (a := none) hT hl hh (Int.le_refl _) (Int.le_refl _) (Int.le_refl _) (Nat.le_refl _) w
  simp only [execOp, hx, Sem.run_bind, Option.map_none, this, Result.andThen_ok, Sem.run_pure]
  rfl
/-! ### Is a slice nil? -/
def nilV (v : Value) : Bool := match v with | .slice none _ _ => true | _ => false
theorem run_eq_nil {d : Nat} (hu : P.underlying T = some (.slice e)) (a : Option Addr) (m c : Nat) (w : World) : (Op.equalIn (d + 1) T (.slice a m c) (.slice none 0 0)).run P w = .ok (nilV (.slice a m c)) w := by
  unfold Op.equalIn
  rw [Sem.run_bind, run_underlying hu, Result.andThen_ok]
  cases a <;> rfl
theorem RL.eqnil {T' : TypeId} (hg : Wn ops σ g) (hd : Nat.blt d n = true) (hw : Holds E w Γ) (hx : ev σ q = v) (hy : ev σ r = .slice none 0 0) (hi : Γ[i]? = some (rd v l)) (hT : P.underlying T = some (.slice e))
    (k : RL P n ops rest (upd σ d (.bool (nilV v))) w Q) : RL P n ops (⟨some d, .binOp .eql T q r T', ty, pos, af, g⟩ :: rest) σ w Q := by
  obtain ⟨a, cap, rfl⟩ := hw.slice hi
  refine RL.bin hg hd hx hy (fun _ => by cases a <;> rfl) (fun w => ?_) k
  have h := run_eq_nil (P := P) (d := 9999) hT a l.length cap w
  simp only [binOp, Sem.run_bind, Op.equal, Op.maxDepth, h, Result.andThen_ok, Sem.run_pure]
theorem Holds.nilx (hw : Holds E w Γ) (hi : Γ[i]? = some (rd v l)) (hn : nilV v = true) : l = [] := by
  obtain ⟨M, hs, gd⟩ := hw
  obtain ⟨a, m, cap, hv, hm, hc, hx, hel⟩ := rdV_list.1 (gd.sat i _ hi).1
  subst hv
  cases a with
  | some a => cases hn
  | none =>
    cases l with
    | nil => rfl
    | cons y l =>
      obtain ⟨ad, cs, ha, _⟩ := hel 0 y rfl
      cases ha
end
end Go.Gk
