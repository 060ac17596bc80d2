/-
  Ranges over strings, rune by rune. No statement of the seed is proved here.
-/
import Derived.Test.YtfkpknhicijjbaaK13
set_option linter.unusedVariables false
set_option linter.unusedSimpArgs false
set_option linter.unusedSectionVars false
namespace Go.Gk
open Go

/-- A rune, as a value. -/
structure R32 where
  n : Int
  deriving DecidableEq, Inhabited
instance : Sc R32 := ⟨fun x => .int .i32 x.n, fun _ => rfl⟩
def bs (s : Str) : ByteArray := ⟨s.toL.toArray⟩
/-- Block g goes through the string s, at place p. -/
def it (g : Nat) (s : Str) (p : Nat) : HP := ⟨fun _ h => h = Gk.one g (.stringIter (bs s) p), fun _ h => h⟩
section
variable {P : Program} {n : Nat} {σ : Nat → Value} {w : World} {Q : Post} {E : World} {Γ : List HP} {i j : Nat}
variable {ops : Array Oper} {rest : List Oper} {d : Nat} {ty T : TypeId} {pos : String} {af : Array Edge} {g : Option (Nat × Bool)} {q : Operand} {b p : Nat} {s : Str}
theorem RL.range_s (hg : Wn ops σ g) (hd : Nat.blt d n = true) (hw : Holds E w Γ) (hx : ev σ q = str s) (hT : P.underlying T = some .string)
    (k : ∀ b w', Holds E w' (it b s 0 :: Γ) → RL P n ops rest (upd σ d (.pointer (some ⟨b, 0, none⟩))) w' Q) : RL P n ops (⟨some d, .range T q, ty, pos, af, g⟩ :: rest) σ w Q := by
  refine RL.val (w' := w.alloc (.stringIter (bs s) 0)) hg hd ?_ (k w.heap.size _ (hw.alloc _ fun _ _ _ => rfl))
  simp only [execOp, hx, Instr.range, run_underlying hT, Sem.run_bind, Sem.run_pure, Result.andThen_ok]
  rfl
theorem setIter_good {M : Heap} {hs : Nat → Heap} {P' : HP} {b : Nat} {o o' : Obj} {Pi : HP} (gd : Good E w M hs Γ) (hi : Γ[i]? = some Pi) (hh : hs i = Gk.one b o)
    (hp : P'.ok M (Gk.one b o')) : Holds E { w with heap := w.heap.set! b o' } (Γ.set i P') := by
  have hb := gd.le i b _ (lt_of_get hi) (by rw [hh]; exact one_self b _)
  have hlt := (Array.getElem?_eq_some_iff.1 hb).1
  refine ⟨M, _, gd.update (lt_of_get hi) (Gk.one b o') hp rfl rfl rfl (fun b' x hb' => ?_) (fun b' x hb' => ?_) (fun b' hb' _ => ?_)⟩
  · obtain ⟨rfl, rfl⟩ := one_some hb'; simp [Array.set!_eq_setIfInBounds, hlt]
  · obtain ⟨rfl, rfl⟩ := one_some hb'; exact .inl ⟨_, by rw [hh]; exact one_self _ _⟩
  · rw [hh] at hb'
    have : b ≠ b' := fun h => by subst h; rw [one_self] at hb'; cases hb'
    simp [Array.set!_eq_setIfInBounds, Array.getElem?_setIfInBounds_ne this]
theorem RL.next_t (hg : Wn ops σ g) (hd : Nat.blt d n = true) (hw : Holds E w Γ) (hx : ev σ q = .pointer (some ⟨b, 0, none⟩)) (hi : Γ[i]? = some (it b s p)) (hp : decide (p < s.toL.length) = true)
    (k : ∀ w', Holds E w' (Γ.set i (it b s (p + (Utf8.decode (bs s) p).2))) → RL P n ops rest (upd σ d (.tuple #[.bool true, .int .i64 (p : Int), .int .i32 ((Utf8.decode (bs s) p).1 : Int)])) w' Q) :
    RL P n ops (⟨some d, .next q true, ty, pos, af, g⟩ :: rest) σ w Q := by
  obtain ⟨M, hs, gd⟩ := hw
  have hh := gd.sat i _ hi
  have hb := gd.le i b _ (lt_of_get hi) (by rw [hh]; exact one_self b _)
  have hlt : p < (bs s).size := by rw [decide_eq_true_eq] at hp; simpa [bs, ByteArray.size] using hp
  refine RL.val (w' := { w with heap := w.heap.set! b (.stringIter (bs s) (p + (Utf8.decode (bs s) p).2)) }) hg hd ?_ (k _ (setIter_good gd hi hh rfl))
  simp only [execOp, hx, Instr.next]
  simp [Sem.run_bind, getObj, setObj, Sem.run, Bind.bind, Sem.bind, hb, hlt, goInt]
  rfl
theorem RL.next_f (hg : Wn ops σ g) (hd : Nat.blt d n = true) (hw : Holds E w Γ) (hx : ev σ q = .pointer (some ⟨b, 0, none⟩)) (hi : Γ[i]? = some (it b s p)) (hp : decide (p < s.toL.length) = false)
    (k : RL P n ops rest (upd σ d (.tuple #[.bool false])) w Q) :
    RL P n ops (⟨some d, .next q true, ty, pos, af, g⟩ :: rest) σ w Q := by
  obtain ⟨M, hs, gd⟩ := hw
  have hh := gd.sat i _ hi
  have hb := gd.le i b _ (lt_of_get hi) (by rw [hh]; exact one_self b _)
  have hlt : ¬ p < (bs s).size := by rw [decide_eq_false_iff_not] at hp; simpa [bs, ByteArray.size] using hp
  refine RL.val (w' := w) hg hd ?_ k
  simp only [execOp, hx, Instr.next]
  simp [Sem.run_bind, getObj, setObj, Sem.run, Bind.bind, Sem.bind, hb, hlt, goInt]
  rfl
end

/-! ### Structs whose parts are known cell by cell -/
def fillL (places : List (Nat × Nat)) : List Value → List (Nat × Value) → Option (List Value)
  | z, [] => some z
  | z, (i, v) :: rest => match places[i]? with
    | some (o, 1) => if Nat.blt o z.length = true then fillL places (z.set o v) rest else none
    | _ => none
def ones : List (Nat × Value) → Prop
  | [] => True
  | (_, v) :: l => v.oneCell' = true ∧ ones l
theorem fill_one {places : List (Nat × Nat)} : ∀ {vs : List (Nat × Value)} {z cs : List Value}, ones vs → fillL places z vs = some cs → Instr.fill (places.toArray[·]?) z.toArray vs = some cs.toArray
  | [], z, cs, _, h => by
    unfold fillL at h; injection h with h; subst h; rfl
  | (i, v) :: rest, z, cs, h1, h => by
    unfold fillL at h
    unfold Instr.fill
    have hc : v.cells = #[v] := by have := h1.1; cases v <;> first | rfl | (cases this)
    split at h
    · rename_i o he
      split at h
      · rename_i hlt
        have hlt' : o < z.length := Nat.blt_eq ▸ hlt
        have hp : (places.toArray[i]?) = some (o, 1) := by simpa using he
        simp only [hp, hc]
        rw [if_neg (by simp; omega)]
        have := fill_one h1.2 h
        simpa using this
      · cases h
    · cases h
section
variable {P : Program} {n : Nat} {σ : Nat → Value} {w : World} {Q : Post} {E : World} {Γ : List HP} {i j : Nat}
variable {ops : Array Oper} {rest : List Oper} {d : Nat} {ty T e : TypeId} {pos : String} {af : Array Edge} {g : Option (Nat × Bool)} {q r : Operand} {b m : Nat} {vs cs zs : List Value}
theorem RL.buildc {parts : Array (Nat × Operand)} {places : List (Nat × Nat)} (hg : Wn ops σ g) (hd : Nat.blt d n = true) (vs : List (Nat × Value))
    (hvs : parts.toList.map (fun p => (p.1, ev σ p.2)) = vs) (hT : StT P T places zs.toArray) (h1 : ones vs) (hf : fillL places zs vs = some cs)
    (k : RL P n ops rest (upd σ d (.agg cs.toArray)) w Q) : RL P n ops (⟨some d, .build T parts, ty, pos, af, g⟩ :: rest) σ w Q := by
  have e1 : parts.map (fun (i, x) => (i, ev σ x)) = vs.toArray := by rw [← hvs]; cases parts; simp
  refine RL.val (v := .agg cs.toArray) hg hd ?_ k
  simp only [execOp, Sem.run_bind]
  rw [e1, hT.run]
  simp only [fill_one h1 hf, Result.andThen_ok, Sem.run_pure]
theorem RL.store_bca (hg : Wn ops σ g) (hw : Holds E w Γ) (hx : ev σ q = .pointer (some ⟨b, 0, none⟩)) (hy : ev σ r = .agg cs.toArray) (hi : Γ[i]? = some (bc e b vs)) (h1 : ∀ v ∈ cs, v.oneCell' = true)
    (hT : TyA P T true m) (hl : vs.length = m) (hc : cs.length = m) (k : ∀ w', Holds E w' (Γ.set i (bc e b cs)) → RL P n ops rest σ w' Q) : RL P n ops (⟨none, .store T q r, ty, pos, af, g⟩ :: rest) σ w Q := by
  obtain ⟨M, hs, gd⟩ := hw
  obtain ⟨_, hh⟩ := gd.sat i _ hi
  have hb := gd.le i b _ (lt_of_get hi) (by rw [hh]; exact one_self b _)
  have hrun := run_storeVar (P := P) (v := .agg cs.toArray) (o := 0) hT.sz (by simpa [Value.cells] using hc) (by simpa [Value.cells] using h1) hb (by simp [hl])
  have hd : List.drop m vs = [] := List.drop_eq_nil_of_le (by omega)
  simp only [Nat.zero_add, List.take_zero, List.nil_append, hd, List.append_nil, Array.toArray_toList, Value.cells] at hrun
  refine RL.unit (w' := w.setRow b cs.toArray) hg ?_ (k _ (setRow_good gd hi hh ⟨h1, rfl⟩))
  simp only [execOp, hx, hy, Instr.storeAt, Instr.sureAddr, Sem.run_bind, Sem.run_pure, Result.andThen_ok, hrun]
theorem Holds.rd_agg {α : Type} [GT α] {x : α} (h : Holds E w Γ) (ho : ∀ M hs, Good E w M hs Γ → GT.ok M cs x) (ha : GT.agg α = true) : Holds E w (rd (.agg cs.toArray) x :: Γ) :=
  h.know fun M hs g => ⟨⟨cs, by unfold vof; rw [ha]; rfl, ho M hs g⟩, rfl⟩
def oneL : List Value → Prop
  | [] => True
  | v :: l => v.oneCell' = true ∧ oneL l
theorem oneL.all : ∀ {l : List Value}, oneL l → ∀ v ∈ l, v.oneCell' = true
  | v :: l, h, u, hu => by
    rcases List.mem_cons.1 hu with h' | h'
    · subst h'; exact h.1
    · exact oneL.all h.2 u h'
end
end Go.Gk
