/-
  More operations: division, max, views of owned slices, clear. No statement of the seed is proved here.
-/
import Derived.Test.YtfkpknhicijjbaaK15
set_option linter.unusedVariables false
set_option linter.unusedSimpArgs false
set_option linter.unusedSectionVars false
namespace Go.Gk
open Go
section
variable {P : Program} {n : Nat} {σ : Nat → Value} {w : World} {Q : Post} {E : World} {Γ : List HP} {i j : Nat}
variable {ops : Array Oper} {rest : List Oper} {d : Nat} {ty T T' t u e : TypeId} {pos : String} {af : Array Edge} {g : Option (Nat × Bool)} {v : Value} {q r : Operand} {K : IntKind} {a b : Int}
theorem RL.quo (hg : Wn ops σ g) (hd : Nat.blt d n = true) (hx : ev σ q = .int K a) (hy : ev σ r = .int K b) (h0 : (b == 0) = false)
    (k : RL P n ops rest (upd σ d (.int K (K.wrap (Int.tdiv a b)))) w Q) : RL P n ops (⟨some d, .binOp .quo T q r T', ty, pos, af, g⟩ :: rest) σ w Q := by
  have hb : b ≠ 0 := by simpa using h0
  refine RL.bin hg hd hx hy (fun _ => rfl) (fun w => ?_) k
  simp only [binOp, ne_eq, not_true, if_false, Op.intDiv, hb, Sem.run_pure]
theorem RL.rem (hg : Wn ops σ g) (hd : Nat.blt d n = true) (hx : ev σ q = .int K a) (hy : ev σ r = .int K b) (h0 : (b == 0) = false)
    (k : RL P n ops rest (upd σ d (.int K (Int.tmod a b))) w Q) : RL P n ops (⟨some d, .binOp .rem T q r T', ty, pos, af, g⟩ :: rest) σ w Q := by
  have hb : b ≠ 0 := by simpa using h0
  refine RL.bin hg hd hx hy (fun _ => rfl) (fun w => ?_) k
  simp only [binOp, ne_eq, not_true, if_false, Op.intDiv, hb, Sem.run_pure]
theorem RL.max (hg : Wn ops σ g) (hd : Nat.blt d n = true) (hx : ev σ q = .int K a) (hy : ev σ r = .int K b) (kk : RL P n ops rest (upd σ d (.int K (if a < b then b else a))) w Q) :
    RL P n ops (⟨some d, .call ⟨.builtin .max, #[q, r], #[t, u]⟩, ty, pos, af, g⟩ :: rest) σ w Q := by
  refine RL.val hg hd ?_ kk
  simp [execOp, resolve, hx, hy, invoke, builtin, Builtin.max_, Builtin.max2]

/-! ### A part of an owned slice, looked at beside the whole -/
/-- the value of 's[lo:]' -/
def vw (v : Value) (lo sz : Nat) : Value := match v with | .slice a m cap => .slice (if cap = lo then a else a.map (·.add (lo * sz))) (m - lo) (cap - lo) | _ => undef
def idxv {α : Type} (l : List α) (lo j : Int) : Option α := if 0 ≤ j then idx l (lo + j) else none
theorem idxv_some {α : Type} {l : List α} {lo j : Int} {x : α} (h : idxv l lo j = some x) : 0 ≤ j ∧ idx l (lo + j) = some x := by
  unfold idxv at h; split at h
  · rename_i hj; exact ⟨hj, h⟩
  · cases h
variable {α : Type} [GT α] {l : List α} {lo hi : Int} {x : α} {z0 : α} {bytes : Nat}
theorem RL.view {lop : Option Operand} {l' : List α} (hg : Wn ops σ g) (hd : Nat.blt d n = true) (hw : Holds E w Γ) (hx : ev σ q = v) (hi' : Γ[i]? = some (own e v l)) (hT : SlT P T e (GT.sz α))
    (hl : lop.map (ev σ) = some (.int .i64 lo) ∨ (lop.map (ev σ) = none ∧ lo = 0)) (hb : slc l lo (l.length : Nat) = some l')
    (k : RL P n ops rest (upd σ d (vw v lo.toNat (GT.sz α))) w Q) : RL P n ops (⟨some d, .slice T q lop none none, ty, pos, af, g⟩ :: rest) σ w Q := by
  unfold slc at hb
  split at hb
  case isFalse => cases hb
  rename_i hc
  obtain ⟨a, cap, rfl⟩ := hw.own_slice hi'
  obtain ⟨M, hs, gd⟩ := hw
  have hcap : l.length ≤ cap := by
    rcases gd.sat i _ hi' with ⟨h1, h2, _⟩ | ⟨b, o, c, cur, xs, hv, h2, _⟩
    · injection h1 with _ _ h; subst h; subst h2; exact Nat.le_refl _
    · injection hv with _ _ h; subst h; exact h2
  refine RL.val hg hd ?_ k
  have := run_cut (P := P) (α := α) (a := a) (m := l.length) (cap := cap) (hiv := none) hT hl (.inr ⟨rfl, rfl⟩) hc.1 hc.2.1 (by omega) hcap w
  simp only [execOp, hx, Sem.run_bind, Option.map_none, this, Result.andThen_ok, Sem.run_pure]
  simp only [vw, Int.toNat_natCast]
theorem RL.len_vw {lo : Nat} {T : TypeId} (hg : Wn ops σ g) (hd : Nat.blt d n = true) (hw : Holds E w Γ) (hx : ev σ q = vw v lo (GT.sz α)) (hi : Γ[i]? = some (own e v l)) (ht : P.underlying t = some (.slice T))
    (k : RL P n ops rest (upd σ d (.int .i64 ((l.length - lo : Nat)))) w Q) : RL P n ops (⟨some d, .call ⟨.builtin .len, #[q], #[t]⟩, ty, pos, af, g⟩ :: rest) σ w Q := by
  obtain ⟨a, cap, rfl⟩ := hw.own_slice hi
  exact RL.lenl hg hd hx ht k
theorem RL.ia_vw {jj : Int} (hg : Wn ops σ g) (hd : Nat.blt d n = true) (hw : Holds E w Γ) (hx : ev σ q = vw v lo.toNat (GT.sz α)) (hy : ev σ r = .int K jj) (hi : Γ[i]? = some (own e v l))
    (hT : SlT P T e (GT.sz α)) (h0 : 0 ≤ lo) (hj0 : 0 ≤ jj) (hj : idx l (lo + jj) = some x) (kk : RL P n ops rest (upd σ d (elA v (lo + jj).toNat (GT.sz α) 0)) w Q) :
    RL P n ops (⟨some d, .indexAddr T q r, ty, pos, af, g⟩ :: rest) σ w Q := by
  obtain ⟨_, hx', hlt⟩ := idx_some hj
  obtain ⟨M, hs, gd⟩ := hw
  rcases gd.sat i _ hi with ⟨rfl, rfl, _⟩ | ⟨b, o, cap, cur, xs, rfl, h2, _⟩
  · simp at hlt
  · have hne : cap ≠ lo.toNat := by omega
    simp only [vw, if_neg hne, Option.map_some] at hx
    have e1 : elA (.slice (some ⟨b, o, none⟩) l.length cap) (lo + jj).toNat (GT.sz α) 0 = .pointer (some (((⟨b, o, none⟩ : Addr).add (lo.toNat * GT.sz α)).add (jj.toNat * GT.sz α))) := by
      have : (lo + jj).toNat = lo.toNat + jj.toNat := by omega
      simp only [elA, add_add, ← Nat.add_mul, this, Nat.add_zero]
    rw [e1] at kk
    refine RL.val hg hd ?_ kk
    have hlt' : jj < ((l.length - lo.toNat : Nat) : Int) := by omega
    simp only [execOp, hx, hy, Instr.indexAt, asIntOf, Sem.run_bind, Sem.run_pure, Result.andThen_ok, run_underlying hT.und, hT.sz, hj0, hlt', and_self, if_true]
theorem RL.val0 {op : Op} {w' : World} {u : Value} (hg : Wn ops σ g) (hrun : (execOp (ev σ) ⟨none, op, ty, pos, af, g⟩).run P w = .ok (.value u) w')
    (k : RL P n ops rest σ w' Q) : RL P n ops (⟨none, op, ty, pos, af, g⟩ :: rest) σ w Q := by
  intro a ha
  unfold wpList
  rw [if_pos (Wn.wanted (o := ⟨none, op, ty, pos, af, g⟩) hg ha)]
  refine .inl ?_
  unfold Oper.wp
  rw [ha.ev, hrun]
  exact k _ (ha.put_none _)
/-- 'clear(s[lo:])'. -/
theorem RL.clear_vw {lo : Nat} (hg : Wn ops σ g) (hw : Holds E w Γ) (hx : ev σ q = vw v lo (GT.sz α)) (hi : Γ[i]? = some (own e v l)) (hT : ElT P t e (GT.sz α) bytes) (hz0 : ZeD P e z0)
    (hle : lo ≤ l.length) (kk : ∀ w', Holds E w' (Γ.set i (own e v (l.take lo ++ List.replicate (l.length - lo) z0))) → RL P n ops rest σ w' Q) :
    RL P n ops (⟨none, .call ⟨.builtin .clear, #[q], #[t]⟩, ty, pos, af, g⟩ :: rest) σ w Q := by
  by_cases hem : l.length = lo
  · have e1 : l.take lo ++ List.replicate (l.length - lo) z0 = l := by rw [← hem, List.take_length, Nat.sub_self]; simp
    rw [e1, set_self hi] at kk
    obtain ⟨a, cap, rfl⟩ := hw.own_slice hi
    refine RL.val0 (u := .tuple #[]) hg ?_ (kk w hw)
    have hv : vw (.slice a l.length cap) lo (GT.sz α) = .slice (if cap = lo then a else a.map (·.add (lo * GT.sz α))) 0 (cap - lo) := by simp only [vw, hem, Nat.sub_self]
    rw [hv] at hx
    generalize (if cap = lo then a else a.map (·.add (lo * GT.sz α))) = a' at hx
    cases a' <;> simp [execOp, resolve, invoke, builtin, Builtin.clear_, hx, run_underlying hT.und]
  obtain ⟨inf, z, hinf, hz, hsz, hby, hzs⟩ := hT.inf
  obtain ⟨M, hs, gd⟩ := hw
  rcases gd.sat i _ hi with ⟨_, rfl, _⟩ | ⟨b, o, cap, cur, xs, rfl, h2, h3, h4, h5, h6, h7⟩
  · simp at hle hem; omega
  have hne : cap ≠ lo := by omega
  obtain ⟨m, hm⟩ : ∃ m, l.length = lo + (m + 1) := ⟨l.length - lo - 1, by omega⟩
  have hv : vw (.slice (some ⟨b, o, none⟩) l.length cap) lo (GT.sz α) = .slice (some ⟨b, o + lo * GT.sz α, none⟩) (m + 1) (cap - lo) := by
    simp only [vw, if_neg hne, Option.map_some, Addr.add_lit, hm, Nat.add_sub_cancel_left]
  rw [hv] at hx
  have hb := gd.le i b _ (lt_of_get hi) (by rw [h4]; exact one_self b _)
  have hcap : l.length * GT.sz α ≤ cap * GT.sz α := Nat.mul_le_mul_right _ h2
  have hcs : o + cap * GT.sz α ≤ cur.toList.length := h5
  generalize hzl : (Builtin.zeroCells z.cells (m + 1)).toList = zl
  have hzn : zl.length = (m + 1) * GT.sz α := by rw [← hzl, Array.length_toList, size_zeroCells, hzs]
  have hlm : l.length * GT.sz α = lo * GT.sz α + (m + 1) * GT.sz α := by rw [hm, Nat.add_mul]
  have hok : ∀ M', GT.ok M' z.cells.toList z0 := fun M' => hz0 M' z (by rw [hinf]; exact hz)
  have hzg : ∀ a t, a < m + 1 → t < GT.sz α → zl[a * GT.sz α + t]? = z.cells.toList[t]? := fun a t ha ht => by
    have hms := mulsz (sz := GT.sz α) ha
    have hlt : a * GT.sz α + t < (Builtin.zeroCells z.cells (m + 1)).size := by rw [size_zeroCells, hzs]; omega
    have hzl2 : z.cells.toList.length = GT.sz α := by rw [Array.length_toList]; exact hzs
    rw [← hzl, Array.getElem?_toList, Array.getElem?_eq_getElem hlt, List.getElem?_eq_getElem (show t < z.cells.toList.length by omega)]
    simp only [Builtin.zeroCells, Array.getElem_map, Array.getElem_range, hzs]
    have hmod : (a * GT.sz α + t) % GT.sz α = t := by rw [Nat.mul_comm, Nat.mul_add_mod, Nat.mod_eq_of_lt ht]
    rw [hmod, getElem!_pos z.cells t (by omega)]
    simp
  have hfit : o + lo * GT.sz α + zl.length ≤ cur.toList.length := by omega
  have h1z : ∀ u ∈ zl, u.oneCell' = true := fun u hu => by
    obtain ⟨k, hk⟩ := List.getElem?_of_mem hu
    have hkl := (List.getElem?_eq_some_iff.1 hk).1
    have hp : 0 < GT.sz α := GT.pos
    have hkd : k / GT.sz α < m + 1 := Nat.div_lt_of_lt_mul (by rw [Nat.mul_comm]; omega)
    have := hzg (k / GT.sz α) (k % GT.sz α) hkd (Nat.mod_lt _ hp)
    rw [Nat.mul_comm, Nat.div_add_mod, hk] at this
    exact GT.one (hok M) u (List.mem_of_getElem? this.symm)
  have hst := run_storeCells_at P b (o + lo * GT.sz α) e zl 0 cur w hb (by simpa [hzn] using hfit) h1z
  simp only [Nat.add_zero] at hst
  have hnew : cur.toList.take (o + lo * GT.sz α) ++ zl ++ cur.toList.drop (o + lo * GT.sz α + zl.length) = spl (o + lo * GT.sz α) zl cur.toList := rfl
  rw [hnew] at hst
  have hget : ∀ t, xs[t]? = if t < l.length * GT.sz α then cur.toList[o + t]? else none := fun t => by rw [← h6, List.getElem?_take, List.getElem?_drop]
  have hln : (l.take lo ++ List.replicate (l.length - lo) z0).length = l.length := by rw [List.length_append, List.length_take, List.length_replicate]; omega
  refine RL.val0 (u := .tuple #[]) hg ?_ (kk _ (setRow_good (P' := own e (.slice (some ⟨b, o, none⟩) l.length cap) (l.take lo ++ List.replicate (l.length - lo) z0)) (new := (spl (o + lo * GT.sz α) zl cur.toList).toArray) gd hi h4
    (.inr ⟨b, o, cap, _, ((spl (o + lo * GT.sz α) zl cur.toList).drop o).take (l.length * GT.sz α), by rw [hln], by rw [hln]; exact h2, h3, rfl, ?_, by rw [hln], ?_⟩)))
  · have hzv : ∀ w, (zeroValue e).run P w = .ok z w := fun w => by simp [zeroValue, typeInfo, Sem.run_bind, hinf, hz]
    simp [execOp, resolve, invoke, builtin, Builtin.clear_, hx, run_underlying hT.und, hzv, hzl, hst]
  · rw [List.size_toArray, spl_length hfit]; exact hcs
  · refine ⟨by rw [List.length_take, List.length_drop, spl_length hfit, hln]; omega, fun a y hy => ?_⟩
    have hal : a < l.length := by rw [← hln]; exact (List.getElem?_eq_some_iff.1 hy).1
    have has := mulsz (sz := GT.sz α) hal
    by_cases hlt : a < lo
    · rw [List.getElem?_append_left (by rw [List.length_take]; omega), List.getElem?_take, if_pos hlt] at hy
      have hok' := h7.2 a y hy
      have has2 := mulsz (sz := GT.sz α) hlt
      have heq : (List.drop (a * GT.sz α) (((spl (o + lo * GT.sz α) zl cur.toList).drop o).take (l.length * GT.sz α))).take (GT.sz α) = (List.drop (a * GT.sz α) xs).take (GT.sz α) := by
        apply List.ext_getElem?
        intro t
        simp only [List.getElem?_take, List.getElem?_drop, spl_get hfit, hget]
        by_cases ht : t < GT.sz α
        · rw [if_pos ht, if_pos ht, if_pos (by omega), if_pos (by omega), if_pos (by omega)]
        · rw [if_neg ht, if_neg ht]
      rw [heq]; exact hok'
    · rw [List.getElem?_append_right (by rw [List.length_take]; omega), List.getElem?_replicate] at hy
      split at hy
      case isFalse => cases hy
      injection hy with hy
      subst hy
      obtain ⟨a', rfl⟩ : ∃ a', a = lo + a' := ⟨a - lo, by omega⟩
      have ha' : a' < m + 1 := by omega
      have hms := mulsz (sz := GT.sz α) ha'
      have heq : (List.drop ((lo + a') * GT.sz α) (((spl (o + lo * GT.sz α) zl cur.toList).drop o).take (l.length * GT.sz α))).take (GT.sz α) = z.cells.toList := by
        apply List.ext_getElem?
        intro t
        have hzl2 : z.cells.toList.length = GT.sz α := by rw [Array.length_toList]; exact hzs
        simp only [List.getElem?_take, List.getElem?_drop, spl_get hfit]
        rw [Nat.add_mul] at has ⊢
        by_cases ht : t < GT.sz α
        · rw [if_pos ht, if_pos (by omega), if_neg (by omega), if_pos (by omega), ← hzg a' t ha' ht]
          congr 1; omega
        · rw [if_neg ht, List.getElem?_eq_none (by omega)]
      rw [heq]; exact hok M
theorem slc_le {α : Type} {l l' : List α} {lo : Int} (h : slc l lo (l.length : Nat) = some l') : lo.toNat ≤ l.length := by
  unfold slc at h; split at h
  · omega
  · cases h
theorem slc_ge {α : Type} {l l' : List α} {lo hi : Int} (h : slc l lo hi = some l') : 0 ≤ lo := by
  unfold slc at h; split at h
  · rename_i hc; exact hc.1
  · cases h
def nzq (b : Int) : Option Unit := bif b == 0 then none else some ()
theorem nz_ {b : Int} {u : Unit} (h : nzq b = some u) : (b == 0) = false := by
  unfold nzq at h; cases hb : (b == 0) with
  | false => rfl
  | true => rw [hb] at h; cases h
end

/-! ### Slots that a region reads, and then writes -/
def oldV (D : Nat → Bool) (σ : Nat → Value) : List (Nat × Nat × Value) → Prop
  | [] => True
  | (j, d, v) :: r => (D j = false → σ d = v) ∧ oldV D σ r
theorem oldV.at {D : Nat → Bool} {σ : Nat → Value} : ∀ {dv : List (Nat × Nat × Value)} (_ : oldV D σ dv) (k : Nat) {j d : Nat} {v : Value} (_ : dv[k]? = some (j, d, v)), D j = false → σ d = v
  | [], _, k, _, _, _, h => by simp at h
  | (j, d, v) :: r, h, 0, j', d', v', e => by simp at e; obtain ⟨rfl, rfl, rfl⟩ := e; exact h.1
  | (j, d, v) :: r, h, k + 1, j', d', v', e => oldV.at h.2 k (by simpa using e)
theorem ins_false {D : Nat → Bool} {i k : Nat} (h : ins D i k = false) : D k = false ∧ Nat.beq k i = false := by
  unfold ins at h
  cases hb : Nat.beq k i with
  | true => rw [hb] at h; cases h
  | false => rw [hb] at h; exact ⟨h, rfl⟩
theorem oldV.no {D : Nat → Bool} {σ : Nat → Value} {j : Nat} : ∀ {dv : List (Nat × Nat × Value)} (_ : oldV D σ dv), oldV (ins D j) σ dv
  | [], _ => trivial
  | (i, d, v) :: r, h => ⟨fun hi => h.1 (ins_false hi).1, oldV.no h.2⟩
theorem oldV.up {D : Nat → Bool} {σ : Nat → Value} {j d : Nat} {v : Value} : ∀ {dv : List (Nat × Nat × Value)} (_ : oldV D σ dv) (_ : (dv.all fun x => Nat.beq x.1 j || !Nat.beq x.2.1 d) = true), oldV (ins D j) (upd σ d v) dv
  | [], _, _ => trivial
  | (i, d', v') :: r, h, ha => by
    simp only [List.all_cons, Bool.and_eq_true, Bool.or_eq_true, Bool.not_eq_true'] at ha
    refine ⟨fun hi => ?_, oldV.up h.2 ha.2⟩
    obtain ⟨h1, h2⟩ := ins_false hi
    rcases ha.1 with e | e
    · rw [e] at h2; cases h2
    · unfold upd; rw [e]; exact h.1 h1
end Go.Gk
