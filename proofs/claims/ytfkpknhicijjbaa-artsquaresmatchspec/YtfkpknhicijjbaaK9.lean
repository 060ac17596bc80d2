/-
  Comparing structs; cutting slices.
  No statement of the seed is proved here.
-/
import Derived.Test.YtfkpknhicijjbaaK8
set_option linter.unusedVariables false
set_option linter.unusedSimpArgs false
set_option linter.unusedSectionVars false
namespace Go.Gk
open Go

theorem str_inj {a b : Str} : (⟨a.toL.toArray⟩ : ByteArray) = ⟨b.toL.toArray⟩ ↔ a = b := by
  constructor
  · intro h
    have h1 : a.toL.toArray = b.toL.toArray := congrArg ByteArray.data h
    have h2 : a.toL = b.toL := by simpa using h1
    cases a; cases b; simp at h2; rw [h2]
  · rintro rfl; rfl
theorem str_beq (a b : Str) : ((⟨a.toL.toArray⟩ : ByteArray) == ⟨b.toL.toArray⟩) = (decide (a = b)) := by
  have e : ((⟨a.toL.toArray⟩ : ByteArray) == ⟨b.toL.toArray⟩) = (a.toL.toArray == b.toL.toArray) := rfl
  rw [e, Bool.eq_iff_iff, beq_iff_eq, decide_eq_true_eq]
  exact ⟨fun h => str_inj.1 (congrArg ByteArray.mk h), fun h => by rw [h]⟩

section
variable {P : Program} {w : World} {T : TypeId} {fs : Array Field} {xs ys : Array Value} {d : Nat}
/-- The fields' comparisons, one by one. -/
inductive EqL (P : Program) (w : World) (d : Nat) (xs ys : Array Value) : List Field → List Bool → Prop
  | nil : EqL P w d xs ys [] []
  | cons {f : Field} {l : List Field} {b : Bool} {bs : List Bool} {x y : Value} (hn : f.name ≠ "_") (hx : (part f.type xs f.offset).run P w = .ok x w) (hy : (part f.type ys f.offset).run P w = .ok y w)
      (he : (Op.equalIn d f.type x y).run P w = .ok b w) (h : EqL P w d xs ys l bs) : EqL P w d xs ys (f :: l) (b :: bs)
theorem run_equal_struct (hu : P.underlying T = some (.struct fs)) (hs : P.stoodInHeld T = false) {bs : List Bool} (h : EqL P w d xs ys fs.toList bs) :
    (Op.equalIn (d + 1) T (.agg xs) (.agg ys)).run P w = .ok (bs.all id) w := by
  obtain ⟨l⟩ := fs
  rw [Op.equalIn]
  simp only [Sem.run_bind, run_underlying hu, Result.andThen_ok, program, Sem.run, hs, List.forIn_toArray]
  rw [if_neg (by decide)]
  simp only at h
  simp only [Sem.run_bind, Sem.run_pure, Result.andThen_ok]
  clear hu
  induction h with
  | nil => simp
  | @cons f l b bs x y hn hx hy he h ih =>
    simp only [List.forIn_cons, hn, ne_eq, not_false_eq_true, if_true, Sem.run_bind, hx, hy, he, Result.andThen_ok]
    cases b with
    | true => simpa using ih
    | false => simp
structure EqT (P : Program) (T : TypeId) (α : Type) [GT α] [DecidableEq α] : Prop where
  eq : ∀ (M : Heap) (cs ds : List Value) (a b : α) (w : World), GT.ok M cs a → GT.ok M ds b → (Op.equal T (vof α cs) (vof α ds)).run P w = .ok (decide (a = b)) w
  grd : P.eqGuardType P.depth T = false
end

section
variable {α : Type} [GT α] [DecidableEq α] {P : Program} {n : Nat} {σ : Nat → Value} {w : World} {Q : Post} {E : World} {Γ : List HP} {i j : Nat}
variable {ops : Array Oper} {rest : List Oper} {d : Nat} {ty T T' : TypeId} {pos : String} {af : Array Edge} {g : Option (Nat × Bool)} {v v' : Value} {q r : Operand} {a b : α}
theorem run_seq (hw : Holds E w Γ) (hi : Γ[i]? = some (rd v a)) (hj : Γ[j]? = some (rd v' b)) (hT : EqT P T α) (hag : GT.agg α = true) :
    ((eqGuard .eql T q r v v').run P w = .ok () w ∧ (binOp .eql T v v').run P w = .ok (.bool (decide (a = b))) w) ∧
    ((eqGuard .neq T q r v v').run P w = .ok () w ∧ (binOp .neq T v v').run P w = .ok (.bool (!decide (a = b))) w) := by
  obtain ⟨M, hs, gd⟩ := hw
  obtain ⟨cs, hv, ho⟩ := (gd.sat i _ hi).1
  obtain ⟨ds, hv', ho'⟩ := (gd.sat j _ hj).1
  have he := hT.eq M cs ds a b w ho ho'
  rw [← hv, ← hv'] at he
  have e1 : v = .agg cs.toArray := by rw [hv]; simp [vof, hag]
  have e2 : v' = .agg ds.toArray := by rw [hv']; simp [vof, hag]
  subst e1; subst e2
  refine ⟨⟨?_, ?_⟩, ?_, ?_⟩
  · simp [eqGuard, program, Sem.run, hT.grd]
  · simp only [binOp, Sem.run_bind, he, Result.andThen_ok, Sem.run_pure]
  · simp [eqGuard, program, Sem.run, hT.grd]
  · simp only [binOp, Sem.run_bind, he, Result.andThen_ok, Sem.run_pure]
theorem RL.seq (hg : Wn ops σ g) (hd : Nat.blt d n = true) (hw : Holds E w Γ) (hx : ev σ q = v) (hy : ev σ r = v') (hi : Γ[i]? = some (rd v a)) (hj : Γ[j]? = some (rd v' b)) (hT : EqT P T α) (hag : GT.agg α = true)
    (k : RL P n ops rest (upd σ d (.bool (decide (a = b)))) w Q) : RL P n ops (⟨some d, .binOp .eql T q r T', ty, pos, af, g⟩ :: rest) σ w Q := by
  obtain ⟨⟨h1, h2⟩, _⟩ := run_seq (q := q) (r := r) hw hi hj hT hag
  refine RL.val hg hd ?_ k
  simp only [execOp, hx, hy, Sem.run_bind, h1, Result.andThen_ok, h2, Sem.run_pure]
theorem RL.sne (hg : Wn ops σ g) (hd : Nat.blt d n = true) (hw : Holds E w Γ) (hx : ev σ q = v) (hy : ev σ r = v') (hi : Γ[i]? = some (rd v a)) (hj : Γ[j]? = some (rd v' b)) (hT : EqT P T α) (hag : GT.agg α = true)
    (k : RL P n ops rest (upd σ d (.bool (!decide (a = b)))) w Q) : RL P n ops (⟨some d, .binOp .neq T q r T', ty, pos, af, g⟩ :: rest) σ w Q := by
  obtain ⟨_, h1, h2⟩ := run_seq (q := q) (r := r) hw hi hj hT hag
  refine RL.val hg hd ?_ k
  simp only [execOp, hx, hy, Sem.run_bind, h1, Result.andThen_ok, h2, Sem.run_pure]
end
theorem run_part1 {P : Program} {T : TypeId} (hT : TyA P T false 1) {xs : Array Value} {k : Nat} {x : Value} (h : xs[k]? = some x) (w : World) : (part T xs k).run P w = .ok x w := by
  simp [part, hT.isA, h]
theorem run_eq_int {P : Program} {T : TypeId} {K : IntKind} {d : Nat} (hu : P.underlying T = some (.int K)) (a b : Int) (w : World) : (Op.equalIn (d + 1) T (.int K a) (.int K b)).run P w = .ok (a == b) w := by
  rw [Op.equalIn]
  simp only [Sem.run_bind, run_underlying hu, Result.andThen_ok]
  simp
theorem run_eq_bool {P : Program} {T : TypeId} {d : Nat} (hu : P.underlying T = some .bool) (a b : Bool) (w : World) : (Op.equalIn (d + 1) T (.bool a) (.bool b)).run P w = .ok (a == b) w := by
  rw [Op.equalIn]
  simp only [Sem.run_bind, run_underlying hu, Result.andThen_ok]
  simp
theorem run_eq_str {P : Program} {T : TypeId} {d : Nat} (hu : P.underlying T = some .string) (a b : Str) (w : World) : (Op.equalIn (d + 1) T (str a) (str b)).run P w = .ok (decide (a = b)) w := by
  rw [Op.equalIn]
  simp only [Sem.run_bind, run_underlying hu, Result.andThen_ok, str]
  simp [str_beq]

/-! ### Cutting a slice -/
def slc {α : Type} (l : List α) (lo hi : Int) : Option (List α) := if 0 ≤ lo ∧ lo ≤ hi ∧ hi ≤ l.length then some ((l.drop lo.toNat).take (hi - lo).toNat) else none
section
variable {α : Type} [GT α] {P : Program} {n : Nat} {σ : Nat → Value} {w : World} {Q : Post} {E : World} {Γ : List HP} {i : Nat}
variable {ops : Array Oper} {rest : List Oper} {d : Nat} {ty T e : TypeId} {pos : String} {af : Array Edge} {g : Option (Nat × Bool)} {v : Value} {q : Operand} {l l' : List α} {lo hi : Int}
theorem sliceOk_cut {M : Heap} {a : Option Addr} {m cap : Nat} (h : sliceOk M (.slice a m cap) l) (h0 : 0 ≤ lo) (h1 : lo ≤ hi) (h2 : hi ≤ l.length) :
    sliceOk M (.slice (if cap = lo.toNat then a else a.map (·.add (lo.toNat * GT.sz α))) (hi.toNat - lo.toNat) (cap - lo.toNat)) ((l.drop lo.toNat).take (hi - lo).toNat) := by
  obtain ⟨a', m', cap', hv, hm, hc, hx, hel⟩ := h
  injection hv with e1 e2 e3
  subst e1; subst e2; subst e3
  refine ⟨_, _, _, rfl, ?_, by omega, by omega, fun k x hk => ?_⟩
  · rw [List.length_take, List.length_drop]; omega
  · rw [List.getElem?_take] at hk
    split at hk
    · rename_i hlt
      rw [List.getElem?_drop] at hk
      obtain ⟨ad, cs, ha, ho, hat⟩ := hel _ x hk
      have hne : cap ≠ lo.toNat := by omega
      refine ⟨ad.add (lo.toNat * GT.sz α), cs, by rw [if_neg hne, ha]; rfl, ho, ?_⟩
      rw [add_add, ← Nat.add_mul]; exact hat
    · cases hk
/-- 'x[lo:hi]'. -/
theorem run_cut {a : Option Addr} {m cap : Nat} {lov hiv : Option Value} (hT : SlT P T e (GT.sz α)) (hl : lov = some (.int .i64 lo) ∨ (lov = none ∧ lo = 0)) (hh : hiv = some (.int .i64 hi) ∨ (hiv = none ∧ hi = m))
    (h0 : 0 ≤ lo) (h1 : lo ≤ hi) (h2 : hi ≤ m) (hc : m ≤ cap) (w : World) :
    (Instr.sliceAt T (.slice a m cap) lov hiv none).run P w = .ok (.slice (if cap = lo.toNat then a else a.map (·.add (lo.toNat * GT.sz α))) (hi.toNat - lo.toNat) (cap - lo.toNat)) w := by
  have eh : (Instr.sliceBounds true m cap lov hiv none).run P w = .ok (lo.toNat, hi.toNat, cap) w := by
    unfold Instr.sliceBounds
    have e1 : ∀ (y : Nat) (c : BoundsCode), hi ≤ y → (Instr.sliceBound (.int .i64 hi) y c).run P w = .ok hi.toNat w := fun y c hy => by
      simp [Instr.sliceBound, asIntOf, show 0 ≤ hi by omega, hy]
    have e2 : ∀ (y : Nat) (c : BoundsCode), lo ≤ y → (Instr.sliceBound (.int .i64 lo) y c).run P w = .ok lo.toNat w := fun y c hy => by
      simp [Instr.sliceBound, asIntOf, h0, hy]
    rcases hl with rfl | ⟨rfl, rfl⟩ <;> rcases hh with rfl | ⟨rfl, rfl⟩
    · simp only [Sem.run_bind, Sem.run_pure, Result.andThen_ok, e1 cap _ (by omega), e2 _ _ (show lo ≤ (hi.toNat : Nat) by omega)]
    · simp only [Sem.run_bind, Sem.run_pure, Result.andThen_ok, e2 m _ (by omega)]
      simp
    · simp only [Sem.run_bind, Sem.run_pure, Result.andThen_ok, e1 cap _ (by omega)]
      simp
    · simp only [Sem.run_bind, Sem.run_pure, Result.andThen_ok]
      simp
  unfold Instr.sliceAt
  simp only [Sem.run_bind, run_underlying hT.und, Result.andThen_ok]
  unfold Instr.slice
  simp only [Sem.run_bind, run_underlying hT.und, Result.andThen_ok, eh, hT.sz, Sem.run_pure]
theorem RL.cut {lop hip : Option Operand} (hg : Wn ops σ g) (hd : Nat.blt d n = true) (hw : Holds E w Γ) (hx : ev σ q = v) (hi' : Γ[i]? = some (rd v l)) (hT : SlT P T e (GT.sz α))
    (hl : lop.map (ev σ) = some (.int .i64 lo) ∨ (lop.map (ev σ) = none ∧ lo = 0)) (hh : hip.map (ev σ) = some (.int .i64 hi) ∨ (hip.map (ev σ) = none ∧ hi = (l.length : Nat)))
    (hb : slc l lo hi = some l') (k : ∀ v', Holds E w (rd v' l' :: Γ) → RL P n ops rest (upd σ d v') w Q) :
    RL P n ops (⟨some d, .slice T q lop hip none, ty, pos, af, g⟩ :: rest) σ w Q := by
  unfold slc at hb
  split at hb
  · rename_i hc
    injection hb with hb
    subst hb
    obtain ⟨M, hs, gd⟩ := hw
    have hs' := rdV_list.1 (gd.sat i _ hi').1
    obtain ⟨a, m, cap, hv, hm, hcap, _⟩ := hs'
    subst hv
    have hs2 := rdV_list.1 (gd.sat i _ hi').1
    have hcut := sliceOk_cut hs2 hc.1 hc.2.1 hc.2.2
    refine RL.val hg hd ?_ (k _ ⟨M, _, gd.cons_nil ⟨rdV_list.2 hcut, rfl⟩⟩)
    have := run_cut (P := P) (α := α) (a := a) (m := m) (cap := cap) hT hl (by rw [hm]; exact hh) hc.1 hc.2.1 (by rw [hm]; exact hc.2.2) hcap w
    simp only [execOp, hx, Sem.run_bind, Option.map_none, this, Result.andThen_ok, Sem.run_pure]
  · cases hb
end
end Go.Gk
namespace Go.Gk
open Go
/-- Strings joined: nothing where the sum of the lengths is no int. -/
def scat (a b : Str) : Option Str := if a.toL.length + b.toL.length ≤ 9223372036854775807 then some ⟨a.toL ++ b.toL⟩ else none
def scut (s : Str) (lo hi : Int) : Option Str := if 0 ≤ lo ∧ lo ≤ hi ∧ hi ≤ s.toL.length then some ⟨(s.toL.drop lo.toNat).take (hi - lo).toNat⟩ else none
section
variable {P : Program} {n : Nat} {σ : Nat → Value} {w : World} {Q : Post} {E : World} {Γ : List HP} {i : Nat}
variable {ops : Array Oper} {rest : List Oper} {d : Nat} {ty T T' : TypeId} {pos : String} {af : Array Edge} {g : Option (Nat × Bool)} {v : Value} {q r : Operand} {lo hi : Int}
theorem RL.bcmp_eq {a b : Bool} (hg : Wn ops σ g) (hd : Nat.blt d n = true) (hx : ev σ q = .bool a) (hy : ev σ r = .bool b) (hu : P.underlying T = some .bool)
    (k : RL P n ops rest (upd σ d (.bool (a == b))) w Q) : RL P n ops (⟨some d, .binOp .eql T q r T', ty, pos, af, g⟩ :: rest) σ w Q := by
  refine RL.bin hg hd hx hy (fun _ => rfl) (fun w => ?_) k
  have := run_eq_bool (P := P) (d := 9999) hu a b w
  simp only [binOp, Sem.run_bind, Op.equal, Op.maxDepth, this, Result.andThen_ok, Sem.run_pure]
theorem RL.bcmp_ne {a b : Bool} (hg : Wn ops σ g) (hd : Nat.blt d n = true) (hx : ev σ q = .bool a) (hy : ev σ r = .bool b) (hu : P.underlying T = some .bool)
    (k : RL P n ops rest (upd σ d (.bool (a != b))) w Q) : RL P n ops (⟨some d, .binOp .neq T q r T', ty, pos, af, g⟩ :: rest) σ w Q := by
  refine RL.bin hg hd hx hy (fun _ => rfl) (fun w => ?_) k
  have := run_eq_bool (P := P) (d := 9999) hu a b w
  simp only [binOp, Sem.run_bind, Op.equal, Op.maxDepth, this, Result.andThen_ok, Sem.run_pure]
  rfl
theorem RL.scat {a b s : Str} (hg : Wn ops σ g) (hd : Nat.blt d n = true) (hx : ev σ q = str a) (hy : ev σ r = str b) (hs : scat a b = some s)
    (k : RL P n ops rest (upd σ d (str s)) w Q) : RL P n ops (⟨some d, .binOp .add T q r T', ty, pos, af, g⟩ :: rest) σ w Q := by
  unfold Gk.scat at hs
  split at hs
  · rename_i h
    injection hs with hs
    subst hs
    refine RL.bin hg hd hx hy (fun _ => rfl) (fun w => ?_) k
    have e1 : ((⟨a.toL.toArray⟩ : ByteArray).size + (⟨b.toL.toArray⟩ : ByteArray).size : Nat) = a.toL.length + b.toL.length := rfl
    have e2 : IntKind.i64.max = 9223372036854775807 := by decide
    have e3 : (⟨a.toL.toArray⟩ : ByteArray) ++ ⟨b.toL.toArray⟩ = ⟨(a.toL ++ b.toL).toArray⟩ := by
      apply ByteArray.ext
      simp
    simp only [binOp, str, Op.stringOp]
    rw [e1, e2, if_neg (by omega), e3]
    rfl
  · cases hs
theorem RL.scut {lop hip : Option Operand} {s s' : Str} (hg : Wn ops σ g) (hd : Nat.blt d n = true) (hx : ev σ q = str s) (hT : P.underlying T = some .string)
    (hl : lop.map (ev σ) = some (.int .i64 lo) ∨ (lop.map (ev σ) = none ∧ lo = 0)) (hh : hip.map (ev σ) = some (.int .i64 hi) ∨ (hip.map (ev σ) = none ∧ hi = (s.toL.length : Nat)))
    (hb : scut s lo hi = some s') (k : RL P n ops rest (upd σ d (str s')) w Q) :
    RL P n ops (⟨some d, .slice T q lop hip none, ty, pos, af, g⟩ :: rest) σ w Q := by
  unfold Gk.scut at hb
  split at hb
  · rename_i hc
    injection hb with hb
    subst hb
    refine RL.val hg hd ?_ k
    have esz : (⟨s.toL.toArray⟩ : ByteArray).size = s.toL.length := rfl
    have eb : (Instr.sliceBounds false s.toL.length s.toL.length (lop.map (ev σ)) (hip.map (ev σ)) none).run P w = .ok (lo.toNat, hi.toNat, s.toL.length) w := by
      unfold Instr.sliceBounds
      have e1 : ∀ (y : Nat) (c : BoundsCode), hi ≤ y → (Instr.sliceBound (.int .i64 hi) y c).run P w = .ok hi.toNat w := fun y c hy => by
        simp [Instr.sliceBound, asIntOf, show 0 ≤ hi by omega, hy]
      have e2 : ∀ (y : Nat) (c : BoundsCode), lo ≤ y → (Instr.sliceBound (.int .i64 lo) y c).run P w = .ok lo.toNat w := fun y c hy => by
        simp [Instr.sliceBound, asIntOf, hc.1, hy]
      rcases hl with hl | ⟨hl, rfl⟩ <;> rcases hh with hh | ⟨hh, rfl⟩ <;> rw [hl, hh]
      · simp only [Sem.run_bind, Sem.run_pure, Result.andThen_ok, e1 _ _ hc.2.2, e2 _ _ (show lo ≤ (hi.toNat : Nat) by omega)]
      · simp only [Sem.run_bind, Sem.run_pure, Result.andThen_ok, e2 _ _ hc.2.1]
        simp
      · simp only [Sem.run_bind, Sem.run_pure, Result.andThen_ok, e1 _ _ hc.2.2]
        simp
      · simp only [Sem.run_bind, Sem.run_pure, Result.andThen_ok]
        simp
    have ex : (⟨s.toL.toArray⟩ : ByteArray).extract lo.toNat hi.toNat = ⟨((s.toL.drop lo.toNat).take (hi - lo).toNat).toArray⟩ := by
      apply ByteArray.ext
      simp only [ByteArray.data_extract]
      apply Array.ext'
      simp only [Array.toList_extract, List.extract_eq_take_drop]
      congr 1
      omega
    simp only [execOp, hx, Sem.run_bind, Option.map_none, Instr.sliceAt, run_underlying hT, Result.andThen_ok, Instr.slice, str]
    simp only [Option.isSome_none, esz]
    rw [if_neg (by decide)]
    simp only [Sem.run_bind, eb, Result.andThen_ok, Sem.run_pure, ex]
  · cases hb
end
end Go.Gk
