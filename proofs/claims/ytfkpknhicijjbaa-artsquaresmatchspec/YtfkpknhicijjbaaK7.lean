/-
  Small rules for what the generator prints.
  No statement of the seed is proved here.
-/
import Derived.Test.YtfkpknhicijjbaaK6
set_option linter.unusedVariables false
set_option linter.unusedSimpArgs false
set_option linter.unusedSectionVars false
namespace Go.Gk
open Go
section
variable {P : Program} {n : Nat} {σ : Nat → Value} {w : World} {Q : Post} {E : World} {Γ : List HP} {x y : Code}
variable {ops : Array Oper} {rest : List Oper} {d : Nat} {ty T T' : TypeId} {pos : String} {af : Array Edge} {g : Option (Nat × Bool)} {v : Value} {q r : Operand}
theorem RC.cond_t (hc : ev σ q = .bool true) (h : RC P n x σ w Q) : RC P n (.cond q x y) σ w Q := RC.cond hc (fun _ => h) (fun e => by cases e)
theorem RC.cond_f (hc : ev σ q = .bool false) (h : RC P n y σ w Q) : RC P n (.cond q x y) σ w Q := RC.cond hc (fun e => by cases e) (fun _ => h)
theorem dlt {k m : Nat} (h : k < m) : Value.bool (decide ((k : Int) < (m : Int))) = .bool true := by rw [decide_eq_true (by omega)]
theorem dge {m : Nat} : Value.bool (decide ((m : Int) < (m : Int))) = .bool false := by rw [decide_eq_false (by omega)]
/-- A range's counter goes on. -/
theorem RL.inc {k m : Nat} (hg : Wn ops σ g) (hd : Nat.blt d n = true) (hk : k < m) (hm : m ≤ 4611686018427387904) (hx : ev σ q = .int .i64 (k : Int)) (hy : ev σ r = .int .i64 1)
    (h : RL P n ops rest (upd σ d (.int .i64 ((k + 1 : Nat) : Int))) w Q) : RL P n ops (⟨some d, .binOp .add T q r T', ty, pos, af, g⟩ :: rest) σ w Q := by
  refine RL.iar (bop := .add) hg hd hx hy rfl ?_
  rw [show Gk.iar .add (k : Int) 1 = (k : Int) + 1 from rfl, wrap_succ hk hm]
  exact h
theorem ElT.of {P : Program} {t e : TypeId} {k b : Nat} {z : Value} (h1 : P.underlying t = some (.slice e)) (h2 : (P.info? e).map (fun i => (i.zero, i.size, i.bytes)) = some (some z, k, b)) (h3 : z.cells.size = k) (h4 : 0 < b) : ElT P t e k b := by
  refine ⟨h1, ?_, h4⟩
  cases hi : P.info? e with
  | none => rw [hi] at h2; cases h2
  | some i =>
    rw [hi] at h2
    simp only [Option.map_some, Option.some.injEq, Prod.mk.injEq] at h2
    exact ⟨i, z, rfl, h2.1, h2.2.1, h2.2.2, h3⟩
theorem StT.of {P : Program} {T : TypeId} {fs : Array Field} {places : List (Nat × Nat)} {z : Value} (h1 : P.underlying T = some (.struct fs)) (h2 : ∀ w, (zeroValue T).run P w = .ok z w)
    (h3 : ∀ w, (fs.mapM (m := Sem) fun f : Field => do pure (f.offset, ← sizeOf f.type)).run P w = .ok places.toArray w) : StT P T places z.cells := by
  refine ⟨fun parts w => ?_⟩
  unfold Instr.build
  simp only [Sem.run_bind, h2, Result.andThen_ok, run_underlying h1]
  rw [h3]
  simp only [Result.andThen_ok]
  cases Instr.fill (fun x => places.toArray[x]?) z.cells parts.toList <;> rfl
end
end Go.Gk
