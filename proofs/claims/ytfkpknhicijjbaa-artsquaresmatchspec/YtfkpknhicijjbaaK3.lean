/-
  Rules of the walk, one an operation: plain values, variables, memory that never changes.
  No statement of the seed is proved here.
-/
import Derived.Test.YtfkpknhicijjbaaK2
import Derived.Laws.Cells
import Derived.Laws.Strings
import Derived.Lib.Strings
set_option linter.unusedVariables false
set_option linter.unusedSimpArgs false
set_option linter.unusedSectionVars false
namespace Go.Gk
open Go

/-! ### Facts on the program's types -/
structure TyA (P : Program) (T : TypeId) (ag : Bool) (k : Nat) : Prop where
  isA : ∀ w, (isAgg T).run P w = .ok ag w
  sz : ∀ w, (sizeOf T).run P w = .ok k w
structure FAt (P : Program) (T : TypeId) (i k : Nat) : Prop where
  run : ∀ a w, (Instr.fieldAt T (.pointer (some a)) i).run P w = .ok (.pointer (some (a.add k))) w
structure SlT (P : Program) (T e : TypeId) (k : Nat) : Prop where
  und : P.underlying T = some (.slice e)
  sz : ∀ w, (sizeOf e).run P w = .ok k w

/-! ### Values that are there under a condition -/
def cv (c : Bool) (v : Value) : Value := bif c then v else undef
theorem cv_t {c : Bool} {v : Value} (h : c = true) : cv c v = v := by rw [h]; rfl
theorem and_l {a b : Bool} (h : (a && b) = true) : a = true := (Bool.and_eq_true _ _ ▸ h : a = true ∧ b = true).1
theorem and_r {a b : Bool} (h : (a && b) = true) : b = true := (Bool.and_eq_true _ _ ▸ h : a = true ∧ b = true).2
theorem pk_or {c a b : Bool} (h : c = true) : (if a = true then Value.bool true else cv (c && (a == false)) (.bool b)) = .bool (a || b) := by
  subst h; cases a <;> rfl
theorem pk_and {c a b : Bool} (h : c = true) : (if a = true then cv (c && (a == true)) (.bool b) else Value.bool false) = .bool (a && b) := by
  subst h; cases a <;> rfl

/-! ### Plain functions of Go's operators -/
@[reducible] def icmp : BinOp → Int → Int → Bool
  | .eql, a, b => a == b
  | .neq, a, b => a != b
  | .lss, a, b => decide (a < b)
  | .leq, a, b => decide (a ≤ b)
  | .gtr, a, b => decide (a > b)
  | .geq, a, b => decide (a ≥ b)
  | _, _, _ => false
def isCmp : BinOp → Bool
  | .eql | .neq | .lss | .leq | .gtr | .geq => true
  | _ => false
@[reducible] def iar : BinOp → Int → Int → Int
  | .add, a, b => a + b
  | .sub, a, b => a - b
  | .mul, a, b => a * b
  | _, _, _ => 0
def isAr : BinOp → Bool
  | .add | .sub | .mul => true
  | _ => false
def Str.eqb (a b : Str) : Bool := a.toL == b.toL
def Str.ltb (a b : Str) : Bool := Op.bytesLess a.toL b.toL
@[reducible] def scmp : BinOp → Str → Str → Bool
  | .eql, a, b => a.eqb b
  | .neq, a, b => !a.eqb b
  | .lss, a, b => a.ltb b
  | .leq, a, b => a.ltb b || a.eqb b
  | .gtr, a, b => !(a.ltb b || a.eqb b)
  | .geq, a, b => !a.ltb b
  | _, _, _ => false

section
variable {P : Program} {n : Nat} {σ : Nat → Value} {w : World} {Q : Post} {E : World} {Γ : List HP}
variable {ops : Array Oper} {rest : List Oper} {d : Nat} {ty : TypeId} {pos : String} {af : Array Edge} {g : Option (Nat × Bool)} {v v' u : Value} {x y z : Operand} {T T' : TypeId}

theorem RL.move (hg : Wn ops σ g) (hd : Nat.blt d n = true) (hx : ev σ x = v) (k : RL P n ops rest (upd σ d v) w Q) :
    RL P n ops (⟨some d, .move x, ty, pos, af, g⟩ :: rest) σ w Q := RL.val hg hd (by rw [← hx]; rfl) k
theorem RL.assign (hg : Wn ops σ g) (hd : Nat.blt d n = true) (hx : ev σ x = v) (k : RL P n ops rest (upd σ d v) w Q) :
    RL P n ops (⟨some d, .assign x, ty, pos, af, g⟩ :: rest) σ w Q := RL.val hg hd (by rw [← hx]; rfl) k
theorem RL.extract {i : Nat} {vs : Array Value} (hg : Wn ops σ g) (hd : Nat.blt d n = true) (hx : ev σ x = .tuple vs) (hi : vs[i]? = some v) (k : RL P n ops rest (upd σ d v) w Q) :
    RL P n ops (⟨some d, .extract x i, ty, pos, af, g⟩ :: rest) σ w Q :=
  RL.val hg hd (by simp only [execOp, hx, Instr.extract, hi, Sem.run_bind, Sem.run_pure, Result.andThen_ok]) k
theorem RL.pick {b : Bool} (hg : Wn ops σ g) (hd : Nat.blt d n = true) (hx : ev σ x = .bool b) (hv : (if b = true then ev σ y else ev σ z) = v) (k : RL P n ops rest (upd σ d v) w Q) :
    RL P n ops (⟨some d, .pick x y z, ty, pos, af, g⟩ :: rest) σ w Q :=
  RL.val hg hd (by rw [← hv]; simp only [execOp, hx, asBool, Sem.run_bind, Sem.run_pure, Result.andThen_ok]) k
theorem RL.not {b : Bool} (hg : Wn ops σ g) (hd : Nat.blt d n = true) (hx : ev σ x = .bool b) (k : RL P n ops rest (upd σ d (.bool (!b))) w Q) :
    RL P n ops (⟨some d, .unOp .not T x, ty, pos, af, g⟩ :: rest) σ w Q :=
  RL.val hg hd (by simp only [execOp, hx, Op.unary, Sem.run_bind, Sem.run_pure, Result.andThen_ok]) k
theorem RL.neg {a : Int} {K : IntKind} (hg : Wn ops σ g) (hd : Nat.blt d n = true) (hx : ev σ x = .int K a) (k : RL P n ops rest (upd σ d (.int K (K.wrap (0 - a)))) w Q) :
    RL P n ops (⟨some d, .unOp .neg T x, ty, pos, af, g⟩ :: rest) σ w Q :=
  RL.val hg hd (by simp only [execOp, hx, Op.unary, Op.intArith, Sem.run_bind, Sem.run_pure, Result.andThen_ok]) k
theorem run_icmp {bop : BinOp} {K : IntKind} {a b : Int} (hc : isCmp bop = true) (w : World) : (binOp bop T (.int K a) (.int K b)).run P w = .ok (.bool (icmp bop a b)) w := by
  cases bop <;> first | (cases hc; done) | (simp only [binOp, ne_eq, not_true, if_false, Op.intCmp, Sem.run_pure, icmp])
theorem RL.icmp {bop : BinOp} {K : IntKind} {a b : Int} (hg : Wn ops σ g) (hd : Nat.blt d n = true) (hx : ev σ x = .int K a) (hy : ev σ y = .int K b) (hc : isCmp bop = true)
    (k : RL P n ops rest (upd σ d (.bool (icmp bop a b))) w Q) : RL P n ops (⟨some d, .binOp bop T x y T', ty, pos, af, g⟩ :: rest) σ w Q := by
  refine RL.val hg hd ?_ k
  have e : (eqGuard bop T x y (.int K a) (.int K b)).run P w = .ok () w := by unfold eqGuard; cases bop <;> rfl
  simp only [execOp, hx, hy, Sem.run_bind, e, Result.andThen_ok, run_icmp hc, Sem.run_pure]
theorem RL.iar {bop : BinOp} {K : IntKind} {a b : Int} (hg : Wn ops σ g) (hd : Nat.blt d n = true) (hx : ev σ x = .int K a) (hy : ev σ y = .int K b) (hc : isAr bop = true)
    (k : RL P n ops rest (upd σ d (.int K (K.wrap (iar bop a b)))) w Q) : RL P n ops (⟨some d, .binOp bop T x y T', ty, pos, af, g⟩ :: rest) σ w Q := by
  refine RL.val hg hd ?_ k
  have e : (eqGuard bop T x y (.int K a) (.int K b)).run P w = .ok () w := by unfold eqGuard; cases bop <;> rfl
  have e2 : (binOp bop T (.int K a) (.int K b)).run P w = .ok (.int K (K.wrap (Gk.iar bop a b))) w := by
    cases bop <;> first | (cases hc; done) | (simp only [binOp, ne_eq, not_true, if_false, Op.intArith, Sem.run_pure, Gk.iar])
  simp only [execOp, hx, hy, Sem.run_bind, e, Result.andThen_ok, e2, Sem.run_pure]
/-- Any other operator on plain values, by its own equation. -/
theorem RL.bin {bop : BinOp} (hg : Wn ops σ g) (hd : Nat.blt d n = true) (hx : ev σ x = v) (hy : ev σ y = v') (he : ∀ w, (eqGuard bop T x y v v').run P w = .ok () w)
    (hr : ∀ w, (binOp bop T v v').run P w = .ok u w) (k : RL P n ops rest (upd σ d u) w Q) : RL P n ops (⟨some d, .binOp bop T x y T', ty, pos, af, g⟩ :: rest) σ w Q := by
  refine RL.val hg hd ?_ k
  simp only [execOp, hx, hy, Sem.run_bind, he, Result.andThen_ok, hr, Sem.run_pure]
theorem str_toList (s : Str) : (⟨s.toL.toArray⟩ : ByteArray).toList = s.toL := by rw [ByteArray.toList_eq]
theorem run_scmp {bop : BinOp} {a b : Str} (hc : isCmp bop = true) (w : World) : (binOp bop T (str a) (str b)).run P w = .ok (.bool (scmp bop a b)) w := by
  cases bop <;> first | (cases hc; done) | (simp only [binOp, str, Op.stringOp, str_toList, Sem.run_pure, scmp, Str.eqb, Str.ltb])
theorem RL.scmp {bop : BinOp} {a b : Str} (hg : Wn ops σ g) (hd : Nat.blt d n = true) (hx : ev σ x = str a) (hy : ev σ y = str b) (hc : isCmp bop = true)
    (k : RL P n ops rest (upd σ d (.bool (scmp bop a b))) w Q) : RL P n ops (⟨some d, .binOp bop T x y T', ty, pos, af, g⟩ :: rest) σ w Q := by
  refine RL.val hg hd ?_ k
  have e : (eqGuard bop T x y (str a) (str b)).run P w = .ok () w := by unfold eqGuard; cases bop <;> rfl
  simp only [execOp, hx, hy, Sem.run_bind, e, Result.andThen_ok, run_scmp hc, Sem.run_pure]
theorem RL.lens {t : TypeId} {s : Str} (hg : Wn ops σ g) (hd : Nat.blt d n = true) (hx : ev σ x = str s) (ht : P.underlying t = some .string)
    (k : RL P n ops rest (upd σ d (.int .i64 (s.toL.length : Nat))) w Q) : RL P n ops (⟨some d, .call ⟨.builtin .len, #[x], #[t]⟩, ty, pos, af, g⟩ :: rest) σ w Q := by
  refine RL.val hg hd ?_ k
  have e : (⟨s.toL.toArray⟩ : ByteArray).size = s.toL.length := rfl
  simp [execOp, resolve, hx, invoke, builtin, Builtin.len_, run_underlying ht, goInt, str, e]
theorem RL.lenl {t e : TypeId} {a : Option Addr} {m cap : Nat} (hg : Wn ops σ g) (hd : Nat.blt d n = true) (hx : ev σ x = .slice a m cap) (ht : P.underlying t = some (.slice e))
    (k : RL P n ops rest (upd σ d (.int .i64 (m : Nat))) w Q) : RL P n ops (⟨some d, .call ⟨.builtin .len, #[x], #[t]⟩, ty, pos, af, g⟩ :: rest) σ w Q := by
  refine RL.val hg hd ?_ k
  simp [execOp, resolve, hx, invoke, builtin, Builtin.len_, run_underlying ht, goInt]
/-- A byte of a string. -/
theorem RL.idxs {s : Str} {i : Int} {c : UInt8} {K : IntKind} (hg : Wn ops σ g) (hd : Nat.blt d n = true) (hx : ev σ x = str s) (hy : ev σ y = .int K i) (ht : P.underlying T = some .string)
    (hc : (if 0 ≤ i then s.toL[i.toNat]? else none) = some c) (k : RL P n ops rest (upd σ d (.int .u8 (c.toNat : Nat))) w Q) :
    RL P n ops (⟨some d, .index T x y, ty, pos, af, g⟩ :: rest) σ w Q := by
  refine RL.val hg hd ?_ k
  have e : (if 0 ≤ i then (⟨s.toL.toArray⟩ : ByteArray)[i.toNat]? else none) = some c := by
    rw [← hc]
    split
    · have : (⟨s.toL.toArray⟩ : ByteArray)[i.toNat]? = s.toL.toArray[i.toNat]? := rfl
      rw [this]; simp
    · rfl
  simp only [execOp, hx, hy, Instr.index, asIntOf, run_underlying ht, str, Sem.run_bind, Sem.run_pure, Result.andThen_ok, e]

/-! ### Guarded operations that touch no memory -/
theorem RL.gs {j t : Nat} {c want b : Bool} {op : Op} (ht : (ops[j]?).bind (·.dst) = some t) (hv : σ t = cv c (.bool b)) (hd : Nat.blt d n = true)
    (hrun : (c && (b == want)) = true → (execOp (ev σ) ⟨some d, op, ty, pos, af, some (j, want)⟩).run P w = .ok (.value v) w)
    (k : RL P n ops rest (upd σ d (cv (c && (b == want)) v)) w Q) : RL P n ops (⟨some d, op, ty, pos, af, some (j, want)⟩ :: rest) σ w Q := by
  cases hC : (c && (b == want)) with
  | true =>
    rw [hC] at k
    have hb : b = want := by have := and_r hC; simpa using this
    exact RL.val (v := v) ⟨t, ht, by rw [hv, cv_t (and_l hC), hb]⟩ hd (hrun hC) k
  | false =>
    rw [hC] at k
    refine RL.skip ht ?_ hd k
    rw [hv]
    cases c with
    | false => exact .inr rfl
    | true => left; cases b <;> cases want <;> first | rfl | (cases hC)
theorem gs_move {C : Bool} {o : Oper} (ho : o.op = .move x) (hx : C = true → ev σ x = v) : C = true → (execOp (ev σ) o).run P w = .ok (.value v) w :=
  fun h => by rw [← hx h]; unfold execOp; rw [ho]; rfl
theorem gs_icmp {C : Bool} {o : Oper} {bop : BinOp} {K : IntKind} {a b : Int} (ho : o.op = .binOp bop T x y T') (hx : C = true → ev σ x = .int K a) (hy : C = true → ev σ y = .int K b) (hc : isCmp bop = true) :
    C = true → (execOp (ev σ) o).run P w = .ok (.value (.bool (icmp bop a b))) w := fun h => by
  have e : (eqGuard bop T x y (.int K a) (.int K b)).run P w = .ok () w := by unfold eqGuard; cases bop <;> rfl
  unfold execOp; rw [ho]
  simp only [hx h, hy h, Sem.run_bind, e, Result.andThen_ok, run_icmp hc, Sem.run_pure]
theorem gs_iar {C : Bool} {o : Oper} {bop : BinOp} {K : IntKind} {a b : Int} (ho : o.op = .binOp bop T x y T') (hx : C = true → ev σ x = .int K a) (hy : C = true → ev σ y = .int K b) (hc : isAr bop = true) :
    C = true → (execOp (ev σ) o).run P w = .ok (.value (.int K (K.wrap (iar bop a b)))) w := fun h => by
  have e : (eqGuard bop T x y (.int K a) (.int K b)).run P w = .ok () w := by unfold eqGuard; cases bop <;> rfl
  have e2 : (binOp bop T (.int K a) (.int K b)).run P w = .ok (.int K (K.wrap (Gk.iar bop a b))) w := by
    cases bop <;> first | (cases hc; done) | (simp only [binOp, ne_eq, not_true, if_false, Op.intArith, Sem.run_pure, Gk.iar])
  unfold execOp; rw [ho]
  simp only [hx h, hy h, Sem.run_bind, e, Result.andThen_ok, e2, Sem.run_pure]
theorem gs_scmp {C : Bool} {o : Oper} {bop : BinOp} {a b : Str} (ho : o.op = .binOp bop T x y T') (hx : C = true → ev σ x = str a) (hy : C = true → ev σ y = str b) (hc : isCmp bop = true) :
    C = true → (execOp (ev σ) o).run P w = .ok (.value (.bool (scmp bop a b))) w := fun h => by
  have e : (eqGuard bop T x y (str a) (str b)).run P w = .ok () w := by unfold eqGuard; cases bop <;> rfl
  unfold execOp; rw [ho]
  simp only [hx h, hy h, Sem.run_bind, e, Result.andThen_ok, run_scmp hc, Sem.run_pure]
theorem gs_not {C : Bool} {o : Oper} {b : Bool} (ho : o.op = .unOp .not T x) (hx : C = true → ev σ x = .bool b) : C = true → (execOp (ev σ) o).run P w = .ok (.value (.bool (!b))) w := fun h => by
  unfold execOp; rw [ho]
  simp only [hx h, Op.unary, Sem.run_bind, Sem.run_pure, Result.andThen_ok]
theorem gs_pick {C : Bool} {o : Oper} {b : Bool} (ho : o.op = .pick x y z) (hx : C = true → ev σ x = .bool b) (hv : C = true → (if b = true then ev σ y else ev σ z) = v) :
    C = true → (execOp (ev σ) o).run P w = .ok (.value v) w := fun h => by
  rw [← hv h]
  unfold execOp; rw [ho]
  simp only [hx h, asBool, Sem.run_bind, Sem.run_pure, Result.andThen_ok]
theorem gs_lens {C : Bool} {o : Oper} {t : TypeId} {s : Str} (ho : o.op = .call ⟨.builtin .len, #[x], #[t]⟩) (hx : C = true → ev σ x = str s) (ht : P.underlying t = some .string) :
    C = true → (execOp (ev σ) o).run P w = .ok (.value (.int .i64 (s.toL.length : Nat))) w := fun h => by
  unfold execOp; rw [ho]
  have e : (⟨s.toL.toArray⟩ : ByteArray).size = s.toL.length := rfl
  simp [resolve, hx h, invoke, builtin, Builtin.len_, run_underlying ht, goInt, str, e]
theorem gs_lenl {C : Bool} {o : Oper} {t e : TypeId} {a : Option Addr} {m cap : Nat} (ho : o.op = .call ⟨.builtin .len, #[x], #[t]⟩) (hx : C = true → ev σ x = .slice a m cap) (ht : P.underlying t = some (.slice e)) :
    C = true → (execOp (ev σ) o).run P w = .ok (.value (.int .i64 (m : Nat))) w := fun h => by
  unfold execOp; rw [ho]
  simp [resolve, hx h, invoke, builtin, Builtin.len_, run_underlying ht, goInt]
end

/-! ### What an entry says -/
section
variable {α β : Type} [GT α] [GT β] {P : Program} {E w : World} {Γ : List HP} {i : Nat} {v : Value} {x : α}
theorem Holds.rdV (h : Holds E w Γ) (hi : Γ[i]? = some (rd v x)) : ∃ M hs, Good E w M hs Γ ∧ Gk.rdV M v x :=
  let ⟨M, hs, g⟩ := h
  ⟨M, hs, g, (g.sat i _ hi).1⟩
/-- A slice that reads as a list: its form. -/
theorem Holds.slice {l : List α} (h : Holds E w Γ) (hi : Γ[i]? = some (rd v l)) : ∃ a cap, v = .slice a l.length cap := by
  obtain ⟨M, hs, g, hr⟩ := h.rdV hi
  obtain ⟨a, m, cap, hv, hm, _⟩ := rdV_list.1 hr
  subst hm
  exact ⟨a, cap, hv⟩
theorem Holds.dup (h : Holds E w Γ) (hi : Γ[i]? = some (rd v x)) : Holds E w (rd v x :: Γ) :=
  h.know fun _ _ g => ⟨((g.sat i _ hi).1), rfl⟩
theorem Holds.sc {γ : Type} [Sc γ] (h : Holds E w Γ) (y : γ) : Holds E w (rd (Sc.toV y) y :: Γ) := h.know fun _ _ _ => ⟨rdV_sc.2 rfl, rfl⟩
theorem Holds.ofSc {γ : Type} [Sc γ] {y : γ} (h : Holds E w Γ) (hi : Γ[i]? = some (rd v y)) : v = Sc.toV y := by
  obtain ⟨M, hs, g, hr⟩ := h.rdV hi
  exact rdV_sc.1 hr
end

/-! ### Reads of memory -/
section
variable {α β : Type} [GT α] [GT β]
variable {P : Program} {n : Nat} {σ : Nat → Value} {w : World} {Q : Post} {E : World} {Γ : List HP} {i : Nat}
variable {ops : Array Oper} {rest : List Oper} {d : Nat} {ty : TypeId} {pos : String} {af : Array Edge} {g : Option (Nat × Bool)} {v : Value} {q r : Operand} {T T' e : TypeId}
variable {x : α}

theorem run_loadVar {cs : List Value} {a : Addr} {M : Heap} (hT : TyA P T (GT.agg α) (GT.sz α)) (ho : GT.ok M cs x) (hat : ∀ j u, cs[j]? = some u → w.cell? (a.add j) = some u) :
    (loadVar T a).run P w = .ok (vof α cs) w := by
  have hl := GT.len ho
  unfold loadVar vof
  simp only [Sem.run_bind, hT.isA, Result.andThen_ok]
  cases e : GT.agg α with
  | true =>
    simp only [if_true, Sem.run_bind, hT.sz, Result.andThen_ok, ← hl, run_loadCells_list w a cs hat, Sem.run_pure]
  | false =>
    rw [GT.ag1 e] at hl
    match cs, hl with
    | [c], _ =>
      have := hat 0 c rfl
      have ha : a.add 0 = a := rfl
      rw [ha] at this
      simp [load, Sem.run, this]
theorem RL.load_pt {p : Value} (hg : Wn ops σ g) (hd : Nat.blt d n = true) (hw : Holds E w Γ) (hx : ev σ q = p) (hi : Γ[i]? = some (pt p x)) (hT : TyA P T (GT.agg α) (GT.sz α))
    (k : ∀ v, Holds E w (rd v x :: Γ) → RL P n ops rest (upd σ d v) w Q) : RL P n ops (⟨some d, .load T q, ty, pos, af, g⟩ :: rest) σ w Q := by
  obtain ⟨M, hs, gd⟩ := hw
  obtain ⟨⟨ad, cs, hv, ho, ha⟩, _⟩ := gd.sat i _ hi
  refine RL.val (v := vof α cs) hg hd ?_ (k _ ⟨M, _, gd.cons_nil ⟨⟨cs, rfl, ho⟩, rfl⟩⟩)
  simp only [execOp, hx, hv, Instr.loadAt, Instr.sureAddr, Sem.run_bind, Sem.run_pure, Result.andThen_ok, run_loadVar hT ho (fun j u hu => cellM_world gd.im (ha j u hu))]
theorem RL.load_pts {γ : Type} [Sc γ] {y : γ} {p : Value} (hg : Wn ops σ g) (hd : Nat.blt d n = true) (hw : Holds E w Γ) (hx : ev σ q = p) (hi : Γ[i]? = some (pt p y)) (hT : TyA P T false 1)
    (k : RL P n ops rest (upd σ d (Sc.toV y)) w Q) : RL P n ops (⟨some d, .load T q, ty, pos, af, g⟩ :: rest) σ w Q := by
  refine RL.load_pt (x := y) hg hd hw hx hi hT fun v h => ?_
  rw [h.ofSc (i := 0) rfl]; exact k
/-- A field's address, in memory that never changes. -/
theorem RL.fa_pt {p : Value} {j m : Nat} {f : α → β} (hg : Wn ops σ g) (hd : Nat.blt d n = true) (hw : Holds E w Γ) (hx : ev σ q = p) (hi : Γ[i]? = some (pt p x)) (hf : FAt P T j m) (hF : Fd m f)
    (k : ∀ v, Holds E w (pt v (f x) :: Γ) → RL P n ops rest (upd σ d v) w Q) : RL P n ops (⟨some d, .fieldAddr T q j, ty, pos, af, g⟩ :: rest) σ w Q := by
  obtain ⟨M, hs, gd⟩ := hw
  obtain ⟨⟨ad, cs, hv, ho, ha⟩, _⟩ := gd.sat i _ hi
  refine RL.val (v := .pointer (some (ad.add m))) hg hd ?_ (k _ ⟨M, _, gd.cons_nil ⟨⟨ad.add m, _, rfl, hF M cs x ho, ha.sub m (GT.sz β)⟩, rfl⟩⟩)
  simp only [execOp, hx, hv, Sem.run_bind, hf.run, Result.andThen_ok, Sem.run_pure]
/-- An element's address, in memory that never changes. -/
theorem RL.ia_rd {l : List α} {sv : Value} {K : IntKind} {j : Int} (hg : Wn ops σ g) (hd : Nat.blt d n = true) (hw : Holds E w Γ) (hx : ev σ q = sv) (hy : ev σ r = .int K j) (hi : Γ[i]? = some (rd sv l))
    (hT : SlT P T e (GT.sz α)) (hj : (if 0 ≤ j then l[j.toNat]? else none) = some x)
    (k : ∀ v, Holds E w (pt v x :: Γ) → RL P n ops rest (upd σ d v) w Q) : RL P n ops (⟨some d, .indexAddr T q r, ty, pos, af, g⟩ :: rest) σ w Q := by
  obtain ⟨M, hs, gd⟩ := hw
  obtain ⟨a, m, cap, hv, hm, hc, hmx, hel⟩ := rdV_list.1 (gd.sat i _ hi).1
  have h0 : 0 ≤ j := by
    rcases Int.lt_or_le j 0 with h | h
    · rw [if_neg (by omega)] at hj; cases hj
    · exact h
  rw [if_pos h0] at hj
  obtain ⟨ad, cs, hae, ho, ha⟩ := hel _ _ hj
  have hlt : j < m := by have := (List.getElem?_eq_some_iff.1 hj).1; omega
  refine RL.val (v := .pointer (some (ad.add (j.toNat * GT.sz α)))) hg hd ?_ (k _ ⟨M, _, gd.cons_nil ⟨⟨_, cs, rfl, ho, ha⟩, rfl⟩⟩)
  simp only [execOp, hx, hv, hae, hy, Instr.indexAt, asIntOf, Sem.run_bind, Sem.run_pure, Result.andThen_ok, run_underlying hT.und, hT.sz, h0, hlt, and_self, if_true]
/-- A variable's value. -/
theorem RL.load_bx {b : Nat} (hg : Wn ops σ g) (hd : Nat.blt d n = true) (hw : Holds E w Γ) (hx : ev σ q = .pointer (some ⟨b, 0, none⟩)) (hi : Γ[i]? = some (bx e b x)) (hT : TyA P T (GT.agg α) (GT.sz α))
    (k : ∀ v, Holds E w (rd v x :: Γ) → RL P n ops rest (upd σ d v) w Q) : RL P n ops (⟨some d, .load T q, ty, pos, af, g⟩ :: rest) σ w Q := by
  obtain ⟨M, hs, gd⟩ := hw
  obtain ⟨cs, ho, hh⟩ := gd.sat i _ hi
  have hb := gd.le i b _ (lt_of_get hi) (by rw [hh]; exact one_self b _)
  refine RL.val (v := vof α cs) hg hd ?_ (k _ ⟨M, _, gd.cons_nil ⟨⟨cs, rfl, ho⟩, rfl⟩⟩)
  simp only [execOp, hx, Instr.loadAt, Instr.sureAddr, Sem.run_bind, Sem.run_pure, Result.andThen_ok]
  rw [run_loadVar hT ho (fun j u hu => ?_)]
  rfl
  rw [Addr.add_lit, cell_of_row w b _ _ _ _ hb]; simpa using hu
/-- A field's value, of a variable. -/
theorem RL.load_bf {b m : Nat} {f : α → β} (hg : Wn ops σ g) (hd : Nat.blt d n = true) (hw : Holds E w Γ) (hx : ev σ q = .pointer (some ⟨b, m, none⟩)) (hi : Γ[i]? = some (bx e b x)) (hF : Fd m f) (hT : TyA P T (GT.agg β) (GT.sz β))
    (k : ∀ v, Holds E w (rd v (f x) :: Γ) → RL P n ops rest (upd σ d v) w Q) : RL P n ops (⟨some d, .load T q, ty, pos, af, g⟩ :: rest) σ w Q := by
  obtain ⟨M, hs, gd⟩ := hw
  obtain ⟨cs, ho, hh⟩ := gd.sat i _ hi
  have hb := gd.le i b _ (lt_of_get hi) (by rw [hh]; exact one_self b _)
  have ho' := hF M cs x ho
  refine RL.val (v := vof β ((cs.drop m).take (GT.sz β))) hg hd ?_ (k _ ⟨M, _, gd.cons_nil ⟨⟨_, rfl, ho'⟩, rfl⟩⟩)
  simp only [execOp, hx, Instr.loadAt, Instr.sureAddr, Sem.run_bind, Sem.run_pure, Result.andThen_ok]
  rw [run_loadVar hT ho' (fun j u hu => ?_)]
  rfl
  rw [Addr.add_lit, cell_of_row w b _ _ _ _ hb]
  rw [List.getElem?_take] at hu
  split at hu
  · rw [List.getElem?_drop] at hu; simpa using hu
  · cases hu
theorem RL.load_bfs {γ : Type} [Sc γ] {b m : Nat} {f : α → γ} (hg : Wn ops σ g) (hd : Nat.blt d n = true) (hw : Holds E w Γ) (hx : ev σ q = .pointer (some ⟨b, m, none⟩)) (hi : Γ[i]? = some (bx e b x)) (hF : Fd m f) (hT : TyA P T false 1)
    (k : RL P n ops rest (upd σ d (Sc.toV (f x))) w Q) : RL P n ops (⟨some d, .load T q, ty, pos, af, g⟩ :: rest) σ w Q := by
  refine RL.load_bf (f := f) hg hd hw hx hi hF hT fun v h => ?_
  rw [h.ofSc (i := 0) rfl]; exact k
/-- A variable of one cell. -/
theorem RL.load_bv {b : Nat} (hg : Wn ops σ g) (hd : Nat.blt d n = true) (hw : Holds E w Γ) (hx : ev σ q = .pointer (some ⟨b, 0, none⟩)) (hi : Γ[i]? = some (bv e b v)) (hT : TyA P T false 1)
    (k : RL P n ops rest (upd σ d v) w Q) : RL P n ops (⟨some d, .load T q, ty, pos, af, g⟩ :: rest) σ w Q := by
  obtain ⟨M, hs, gd⟩ := hw
  obtain ⟨_, hh⟩ := gd.sat i _ hi
  have hb := gd.le i b _ (lt_of_get hi) (by rw [hh]; exact one_self b _)
  have hc : w.cell? ⟨b, 0, none⟩ = some v := by rw [cell_of_row w b _ _ _ _ hb]; rfl
  refine RL.val (v := v) hg hd ?_ k
  simp [execOp, hx, Instr.loadAt, Instr.sureAddr, loadVar, hT.isA, load, Sem.run, hc]
/-- A field's address, of a variable. -/
theorem RL.fa_b {b o j m : Nat} (hg : Wn ops σ g) (hd : Nat.blt d n = true) (hx : ev σ q = .pointer (some ⟨b, o, none⟩)) (hf : FAt P T j m)
    (k : RL P n ops rest (upd σ d (.pointer (some ⟨b, o + m, none⟩))) w Q) : RL P n ops (⟨some d, .fieldAddr T q j, ty, pos, af, g⟩ :: rest) σ w Q := by
  refine RL.val hg hd ?_ k
  simp only [execOp, hx, Sem.run_bind, hf.run, Result.andThen_ok, Sem.run_pure, Addr.add_lit]

/-! ### Variables -/
theorem RL.box_rd (hg : Wn ops σ g) (hd : Nat.blt d n = true) (hw : Holds E w Γ) (hx : ev σ q = v) (hi : Γ[i]? = some (rd v x))
    (k : ∀ b w', Holds E w' (bx T b x :: Γ) → RL P n ops rest (upd σ d (.pointer (some ⟨b, 0, none⟩))) w' Q) : RL P n ops (⟨some d, .box T q, ty, pos, af, g⟩ :: rest) σ w Q := by
  obtain ⟨M, hs, gd, hr⟩ := hw.rdV hi
  refine RL.val (w' := w.alloc (.cells v.cells T)) hg hd ?_ (k w.heap.size _ (hw.alloc _ fun M' hs' g' => ⟨v.cells.toList, ?_, by simp⟩))
  · simp only [execOp, hx, Instr.box, newVar, newRow, newObj, Sem.run_bind, Sem.run_pure]
    rfl
  · exact ((g'.sat i _ hi).1).cells
theorem RL.box_v (hg : Wn ops σ g) (hd : Nat.blt d n = true) (hw : Holds E w Γ) (hx : ev σ q = v) (h1 : v.oneCell' = true)
    (k : ∀ b w', Holds E w' (bv T b v :: Γ) → RL P n ops rest (upd σ d (.pointer (some ⟨b, 0, none⟩))) w' Q) : RL P n ops (⟨some d, .box T q, ty, pos, af, g⟩ :: rest) σ w Q := by
  have hc : v.cells = #[v] := by cases v <;> first | rfl | (cases h1)
  refine RL.val (w' := w.alloc (.cells #[v] T)) hg hd ?_ (k w.heap.size _ (hw.alloc _ fun _ _ _ => ⟨h1, rfl⟩))
  simp only [execOp, hx, Instr.box, newVar, newRow, newObj, Sem.run_bind, Sem.run_pure, hc]
  rfl
/-- A new variable whose content does not matter yet. -/
def raw (e : TypeId) (b k : Nat) : HP := ⟨fun _ h => ∃ cs : List Value, cs.length = k ∧ h = Gk.one b (.cells cs.toArray e (0, 0)), fun _ h => h⟩
theorem RL.alloc {m : Nat} (hg : Wn ops σ g) (hd : Nat.blt d n = true) (hw : Holds E w Γ) (hz : ∃ z, (∀ w, (zeroValue T).run P w = .ok z w) ∧ z.cells.size = m)
    (k : ∀ b w', Holds E w' (raw T b m :: Γ) → RL P n ops rest (upd σ d (.pointer (some ⟨b, 0, none⟩))) w' Q) : RL P n ops (⟨some d, .alloc T, ty, pos, af, g⟩ :: rest) σ w Q := by
  obtain ⟨z, hz, hs⟩ := hz
  refine RL.val (w' := w.alloc (.cells z.cells T)) hg hd ?_ (k w.heap.size _ (hw.alloc _ fun _ _ _ => ⟨z.cells.toList, by simpa using hs, by simp⟩))
  simp only [execOp, Instr.alloc, newVar, newRow, newObj, Sem.run_bind, Sem.run_pure, hz, Result.andThen_ok]
  rfl
theorem run_storeVar {m : Nat} {b o : Nat} {cur : Array Value} (hsz : ∀ w, (sizeOf T).run P w = .ok m w) (hv : v.cells.size = m) (h1 : ∀ u ∈ v.cells.toList, u.oneCell' = true)
    (hb : w.heap[b]? = some (.cells cur e (0, 0))) (ho : o + m ≤ cur.size) :
    (storeVar T ⟨b, o, none⟩ v).run P w = .ok () (w.setRow b (cur.toList.take o ++ v.cells.toList ++ cur.toList.drop (o + m)).toArray) := by
  have := run_storeCells_at P b o e v.cells.toList 0 cur w hb (by simpa [hv] using ho) h1
  simp only [Nat.add_zero, Array.length_toList, hv] at this
  simp only [storeVar, Sem.run_bind, hsz, Result.andThen_ok, hv, ne_eq, not_true, if_false, this]
theorem setRow_good {M : Heap} {hs : Nat → Heap} {P' : HP} {b : Nat} {cur new : Array Value} {Pi : HP} (gd : Good E w M hs Γ) (hi : Γ[i]? = some Pi) (hh : hs i = Gk.one b (.cells cur e (0, 0)))
    (hp : P'.ok M (Gk.one b (.cells new e (0, 0)))) : Holds E (w.setRow b new) (Γ.set i P') := by
  have hb := gd.le i b _ (lt_of_get hi) (by rw [hh]; exact one_self b _)
  refine ⟨M, _, gd.update (lt_of_get hi) (Gk.one b (.cells new e (0, 0))) hp rfl rfl rfl (fun b' o' hb' => ?_) (fun b' o' hb' => ?_) (fun b' hb' _ => ?_)⟩
  · obtain ⟨rfl, rfl⟩ := one_some hb'; exact setRow_heap w _ _ new e (0, 0) hb
  · obtain ⟨rfl, rfl⟩ := one_some hb'; exact .inl ⟨_, by rw [hh]; exact one_self _ _⟩
  · rw [hh] at hb'
    exact setRow_other w b b' new (fun h => by subst h; rw [one_self] at hb'; cases hb')
theorem RL.store_raw {m b : Nat} (hg : Wn ops σ g) (hw : Holds E w Γ) (hx : ev σ q = .pointer (some ⟨b, 0, none⟩)) (hy : ev σ r = v) (hi : Γ[i]? = some (raw e b m)) {j : Nat} (hj : Γ[j]? = some (rd v x))
    (hT : TyA P T (GT.agg α) (GT.sz α)) (hm : m = GT.sz α) (k : ∀ w', Holds E w' (Γ.set i (bx e b x)) → RL P n ops rest σ w' Q) : RL P n ops (⟨none, .store T q r, ty, pos, af, g⟩ :: rest) σ w Q := by
  obtain ⟨M, hs, gd⟩ := hw
  obtain ⟨cs, hl, hh⟩ := gd.sat i _ hi
  have hr := (gd.sat j _ hj).1
  have hb := gd.le i b _ (lt_of_get hi) (by rw [hh]; exact one_self b _)
  have hc : v.cells.size = GT.sz α := by rw [← GT.len hr.cells]; simp
  have hrun := run_storeVar (P := P) (v := v) (o := 0) hT.sz hc (GT.one hr.cells) hb (by simp [hl, hm])
  refine RL.unit (w' := w.setRow b v.cells) hg ?_ (k _ (setRow_good gd hi hh ⟨v.cells.toList, hr.cells, by simp⟩))
  have hd : List.drop (GT.sz α) cs = [] := List.drop_eq_nil_of_le (by omega)
  simp only [Nat.zero_add, List.take_zero, List.nil_append, hd, List.append_nil, Array.toArray_toList] at hrun
  simp only [execOp, hx, hy, Instr.storeAt, Instr.sureAddr, Sem.run_bind, Sem.run_pure, Result.andThen_ok, hrun]
/-- The whole variable is written. -/
theorem RL.store_bx {b : Nat} {x' : α} (hg : Wn ops σ g) (hw : Holds E w Γ) (hx : ev σ q = .pointer (some ⟨b, 0, none⟩)) (hy : ev σ r = v) (hi : Γ[i]? = some (bx e b x')) {j : Nat} (hj : Γ[j]? = some (rd v x))
    (hT : TyA P T (GT.agg α) (GT.sz α)) (k : ∀ w', Holds E w' (Γ.set i (bx e b x)) → RL P n ops rest σ w' Q) : RL P n ops (⟨none, .store T q r, ty, pos, af, g⟩ :: rest) σ w Q := by
  obtain ⟨M, hs, gd⟩ := hw
  obtain ⟨cs, ho', hh⟩ := gd.sat i _ hi
  have hl := GT.len ho'
  have hr := (gd.sat j _ hj).1
  have hb := gd.le i b _ (lt_of_get hi) (by rw [hh]; exact one_self b _)
  have hc : v.cells.size = GT.sz α := by rw [← GT.len hr.cells]; simp
  have hrun := run_storeVar (P := P) (v := v) (o := 0) hT.sz hc (GT.one hr.cells) hb (by simp [hl])
  refine RL.unit (w' := w.setRow b v.cells) hg ?_ (k _ (setRow_good gd hi hh ⟨v.cells.toList, hr.cells, by simp⟩))
  have hd : List.drop (GT.sz α) cs = [] := List.drop_eq_nil_of_le (by omega)
  simp only [Nat.zero_add, List.take_zero, List.nil_append, hd, List.append_nil, Array.toArray_toList] at hrun
  simp only [execOp, hx, hy, Instr.storeAt, Instr.sureAddr, Sem.run_bind, Sem.run_pure, Result.andThen_ok, hrun]
/-- One field of a variable is written. -/
theorem RL.store_bf {b m : Nat} {y : β} {f : α → β → α} (hg : Wn ops σ g) (hw : Holds E w Γ) (hx : ev σ q = .pointer (some ⟨b, m, none⟩)) (hy : ev σ r = v) (hi : Γ[i]? = some (bx e b x)) {j : Nat} (hj : Γ[j]? = some (rd v y))
    (hF : Fs m β f) (hm : m + GT.sz β ≤ GT.sz α) (hT : TyA P T (GT.agg β) (GT.sz β)) (k : ∀ w', Holds E w' (Γ.set i (bx e b (f x y))) → RL P n ops rest σ w' Q) :
    RL P n ops (⟨none, .store T q r, ty, pos, af, g⟩ :: rest) σ w Q := by
  obtain ⟨M, hs, gd⟩ := hw
  obtain ⟨cs, ho', hh⟩ := gd.sat i _ hi
  have hl := GT.len ho'
  have hr := (gd.sat j _ hj).1
  have hb := gd.le i b _ (lt_of_get hi) (by rw [hh]; exact one_self b _)
  have hc : v.cells.size = GT.sz β := by rw [← GT.len hr.cells]; simp
  have hrun := run_storeVar (P := P) (v := v) (o := m) hT.sz hc (GT.one hr.cells) hb (by simp [hl, hm])
  refine RL.unit hg ?_ (k _ (setRow_good (new := (cs.take m ++ v.cells.toList ++ cs.drop (m + GT.sz β)).toArray) gd hi hh ⟨_, hF M cs v.cells.toList x y ho' hr.cells, rfl⟩))
  simp only [execOp, hx, hy, Instr.storeAt, Instr.sureAddr, Sem.run_bind, Sem.run_pure, Result.andThen_ok, hrun]
/-- A variable of one cell is written. -/
theorem RL.store_bv {b : Nat} {v' : Value} (hg : Wn ops σ g) (hw : Holds E w Γ) (hx : ev σ q = .pointer (some ⟨b, 0, none⟩)) (hy : ev σ r = v) (hi : Γ[i]? = some (bv e b v')) (h1 : v.oneCell' = true)
    (hT : TyA P T false 1) (k : ∀ w', Holds E w' (Γ.set i (bv e b v)) → RL P n ops rest σ w' Q) : RL P n ops (⟨none, .store T q r, ty, pos, af, g⟩ :: rest) σ w Q := by
  obtain ⟨M, hs, gd⟩ := hw
  obtain ⟨_, hh⟩ := gd.sat i _ hi
  have hb := gd.le i b _ (lt_of_get hi) (by rw [hh]; exact one_self b _)
  have hcv : v.cells = #[v] := by cases v <;> first | rfl | (cases h1)
  have hrun := run_storeVar (P := P) (v := v) (o := 0) hT.sz (by rw [hcv]; rfl) (by rw [hcv]; simpa using h1) hb (by simp)
  refine RL.unit (w' := w.setRow b #[v]) hg ?_ (k _ (setRow_good gd hi hh ⟨h1, rfl⟩))
  simp [hcv] at hrun
  simp only [execOp, hx, hy, Instr.storeAt, Instr.sureAddr, Sem.run_bind, Sem.run_pure, Result.andThen_ok, hrun]
end
end Go.Gk
