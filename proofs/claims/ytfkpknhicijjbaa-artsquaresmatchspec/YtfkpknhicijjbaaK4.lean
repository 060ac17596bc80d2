/-
  Loops and their plain counterparts; slices that a call owns: literals, append, freezing; struct literals.
  No statement of the seed is proved here.
-/
import Derived.Test.YtfkpknhicijjbaaK3
import Derived.Laws.AppendOwn
set_option linter.unusedVariables false
set_option linter.unusedSimpArgs false
set_option linter.unusedSectionVars false
namespace Go.Gk
open Go

/-! ### Plain loops -/
inductive Fl (S R : Type) where
  | nx (s : S)
  | br (s : S)
  | rt (r : R)
inductive Fo (S R : Type) where
  | go (s : S)
  | rt (r : R)
section
variable {S R : Type}
def rngA (body : Nat → S → Option (Fl S R)) : Nat → Nat → S → Option (Fo S R)
  | 0, _, s => some (.go s)
  | m + 1, k, s => (body k s).bind fun
    | .nx s' => rngA body m (k + 1) s'
    | .br s' => some (.go s')
    | .rt r => some (.rt r)
/-- 'for i := range m'. -/
def rng (m : Nat) (body : Nat → S → Option (Fl S R)) (s : S) : Option (Fo S R) := if m ≤ 4611686018427387904 then rngA body m 0 s else none
def fldA (body : Nat → S → Option S) : Nat → Nat → S → Option S
  | 0, _, s => some s
  | m + 1, k, s => (body k s).bind fun s' => fldA body m (k + 1) s'
/-- The same where no round ends the loop. -/
def fld (m : Nat) (body : Nat → S → Option S) (s : S) : Option S := if m ≤ 4611686018427387904 then fldA body m 0 s else none
/-- Any other loop, with so many rounds at most. -/
def itr (body : S → Option (Fl S R)) : Nat → S → Option (Fo S R)
  | 0, _ => none
  | N + 1, s => (body s).bind fun
    | .nx s' => itr body N s'
    | .br s' => some (.go s')
    | .rt r => some (.rt r)
theorem bd {α β : Type} {o : Option α} {f : α → Option β} {r : β} (h : o.bind f = some r) : ∃ x, o = some x ∧ f x = some r := by
  cases o with
  | none => cases h
  | some x => exact ⟨x, rfl, h⟩
theorem cT {α : Type} {b : Bool} {x y r : α} (hc : b = true) (h : (bif b then x else y) = r) : x = r := by subst hc; exact h
theorem cF {α : Type} {b : Bool} {x y r : α} (hc : b = false) (h : (bif b then x else y) = r) : y = r := by subst hc; exact h
end

section
variable {S R : Type} {P : Program} {n : Nat} {σ : Nat → Value} {w : World} {Q : Post} {c x y : Code} {b0 : Nat}
def outQ (b0 : Nat) (J : S → (Nat → Value) → World → Prop) (K : R → (Nat → Value) → World → Prop) : Fo S R → Post
  | .go s => fun ex σ w => ex = .exit b0 ∧ J s σ w
  | .rt r => fun ex σ w => ex = .ret ∧ K r σ w
def rngQ (I : Nat → S → (Nat → Value) → World → Prop) (b0 : Nat) (J : S → (Nat → Value) → World → Prop) (K : R → (Nat → Value) → World → Prop) (k : Nat) : Fl S R → Post
  | .nx s => fun ex σ w => ex = .normal ∧ I (k + 1) s σ w
  | .br s => fun ex σ w => ex = .exit b0 ∧ J s σ w
  | .rt r => fun ex σ w => ex = .ret ∧ K r σ w
def itrQ (I : S → (Nat → Value) → World → Prop) (b0 : Nat) (J : S → (Nat → Value) → World → Prop) (K : R → (Nat → Value) → World → Prop) : Fl S R → Post
  | .nx s => fun ex σ w => ex = .normal ∧ I s σ w
  | .br s => fun ex σ w => ex = .exit b0 ∧ J s σ w
  | .rt r => fun ex σ w => ex = .ret ∧ K r σ w

/-- A loop whose rounds are counted from above. -/
theorem wp_loopN {a : Act} {Q : Exit → Act → World → Prop} (I : Nat → Act → World → Prop) {m : Nat} (h0 : I m a w)
    (round : ∀ m a w, I m a w → c.wp P (Exit.then (fun a' w' => ∃ m', m' < m ∧ I m' a' w') Q) a w) : (Code.loop c).wp P Q a w := by
  intro b k cs
  have key : ∀ m a w, I m a w → ∃ e a' w', Q e a' w' ∧ Arrives P (lone (b.at a (.code c :: .inLoop c :: k)) cs w) b k cs e a' w' := by
    intro m
    induction m using Nat.strongRecOn with
    | _ m ih =>
      intro a w hI
      obtain ⟨e, a₁, w₁, hq, harr⟩ := round m a w hI b (.inLoop c :: k) cs
      cases e with
      | normal =>
        obtain ⟨m', hlt, hI₁⟩ := hq
        obtain ⟨e₂, a₂, w₂, hq₂, harr₂⟩ := ih m' hlt a₁ w₁ hI₁
        exact ⟨e₂, a₂, w₂, hq₂, .of_steps (Steps.trans harr (.one step_inLoop)) harr₂⟩
      | exit id => exact ⟨_, a₁, w₁, hq, .pass (x := .inLoop c) rfl (fun _ _ => .inl (by simp)) harr⟩
      | goto l => exact ⟨_, a₁, w₁, hq, .pass (x := .inLoop c) rfl (fun _ _ => .inl (by simp)) harr⟩
      | ret => exact ⟨_, a₁, w₁, hq, .pass (x := .inLoop c) rfl (fun _ _ => .inl (by simp)) harr⟩
      | panic ch => exact ⟨_, a₁, w₁, hq, .pass (x := .inLoop c) rfl (fun _ _ => .inl (by simp)) harr⟩
      | outgrown => exact ⟨_, a₁, w₁, hq, .pass (x := .inLoop c) rfl (fun _ _ => .inl (by simp)) harr⟩
  obtain ⟨e, a', w', hq, harr⟩ := key _ a w h0
  exact ⟨e, a', w', hq, .of_steps (.one step_loop) harr⟩
theorem RC.loopN (I : Nat → (Nat → Value) → World → Prop) {m : Nat} (h0 : I m σ w)
    (step : ∀ m σ w, I m σ w → RC P n c σ w (fun ex σ' w' => (ex = .normal ∧ ∃ m', m' < m ∧ I m' σ' w') ∨ (ex ≠ .normal ∧ Q ex σ' w'))) : RC P n (.loop c) σ w Q := by
  intro a ha
  refine wp_loopN (fun m a w => ∃ σ, Sl n σ a ∧ I m σ w) ⟨σ, ha, h0⟩ ?_
  rintro m a w ⟨σ, hs, hI⟩
  refine wp_mono (step m σ w hI a hs) fun e a' w' ⟨σ', hs', q⟩ => ?_
  rcases q with ⟨rfl, m', hm, hI'⟩ | ⟨hne, hq⟩
  · exact ⟨m', hm, σ', hs', hI'⟩
  · cases e with
    | normal => exact absurd rfl hne
    | _ => exact ⟨σ', hs', hq⟩

/-- 'for i := range m' in its block. -/
theorem RC.range (I : Nat → S → (Nat → Value) → World → Prop) (J : S → (Nat → Value) → World → Prop) (K : R → (Nat → Value) → World → Prop)
    {body : Nat → S → Option (Fl S R)} {m : Nat} {s0 : S} {out : Fo S R} (hN : rng m body s0 = some out) (h0 : I 0 s0 σ w)
    (stop : m ≤ 4611686018427387904 → ∀ s σ w, I m s σ w → RC P n c σ w (outQ (R := R) b0 J K (.go s)))
    (step : m ≤ 4611686018427387904 → ∀ k s fl σ w, k < m → I k s σ w → body k s = some fl → RC P n c σ w (rngQ I b0 J K k fl))
    (hrt : ∀ r σ w, out = .rt r → K r σ w → Q .ret σ w) (hgo : ∀ s σ w, out = .go s → J s σ w → Q .normal σ w) : RC P n (.block b0 (.loop c)) σ w Q := by
  unfold rng at hN
  split at hN
  · rename_i hm
    refine RC.block (RC.loopN (fun j σ w => (∃ k s, k + j = m + 1 ∧ k ≤ m ∧ I k s σ w ∧ rngA body (m - k) k s = some out)) (m := m + 1) ⟨0, s0, by omega, by omega, h0, hN⟩ ?_)
    rintro j σ w ⟨k, s, hk, hkm, hI, hr⟩
    by_cases e : k < m
    · obtain ⟨j', hj'⟩ : ∃ j', m - k = j' + 1 := ⟨m - k - 1, by omega⟩
      rw [hj'] at hr
      obtain ⟨fl, hb, hr⟩ := bd hr
      refine RC.mono (step hm k s fl σ w e hI hb) fun ex σ' w' q => ?_
      cases fl with
      | nx s' =>
        obtain ⟨rfl, hI'⟩ := q
        exact .inl ⟨rfl, j - 1, by omega, k + 1, s', by omega, by omega, hI', by rw [show m - (k + 1) = j' by omega]; exact hr⟩
      | br s' =>
        obtain ⟨rfl, hJ⟩ := q
        injection hr with hr
        exact .inr ⟨by simp, by simp only [blkQ, if_true]; exact hgo s' σ' w' hr.symm hJ⟩
      | rt r =>
        obtain ⟨rfl, hK⟩ := q
        injection hr with hr
        exact .inr ⟨by simp, hrt r σ' w' hr.symm hK⟩
    · obtain rfl : k = m := by omega
      rw [Nat.sub_self] at hr
      injection hr with hr
      refine RC.mono (stop hm s σ w hI) fun ex σ' w' q => ?_
      obtain ⟨rfl, hJ⟩ := q
      exact .inr ⟨by simp, by simp only [blkQ, if_true]; exact hgo s σ' w' hr.symm hJ⟩
  · cases hN

theorem rngA_fldA {body : Nat → S → Option S} : ∀ (m k : Nat) (s s' : S), fldA body m k s = some s' → rngA (R := Empty) (fun k s => (body k s).map Fl.nx) m k s = some (.go s')
  | 0, _, s, s', h => by injection h with h; subst h; rfl
  | m + 1, k, s, s', h => by
    obtain ⟨s1, hb, hr⟩ := bd h
    unfold rngA
    simp only [hb, Option.map_some, Option.bind_some]
    exact rngA_fldA m (k + 1) s1 s' hr
/-- The same where no round ends the loop. -/
theorem RC.fold (I : Nat → S → (Nat → Value) → World → Prop) (J : S → (Nat → Value) → World → Prop)
    {body : Nat → S → Option S} {m : Nat} {s0 out : S} (hN : fld m body s0 = some out) (h0 : I 0 s0 σ w)
    (stop : m ≤ 4611686018427387904 → ∀ s σ w, I m s σ w → RC P n c σ w (fun ex σ w => ex = .exit b0 ∧ J s σ w))
    (step : m ≤ 4611686018427387904 → ∀ k s s' σ w, k < m → I k s σ w → body k s = some s' → RC P n c σ w (fun ex σ w => ex = .normal ∧ I (k + 1) s' σ w))
    (hgo : ∀ σ w, J out σ w → Q .normal σ w) : RC P n (.block b0 (.loop c)) σ w Q := by
  have hN' : rng (R := Empty) m (fun k s => (body k s).map Fl.nx) s0 = some (.go out) := by
    unfold fld at hN
    unfold rng
    split at hN
    · rename_i h; rw [if_pos h]; exact rngA_fldA _ _ _ _ hN
    · cases hN
  refine RC.range I J (fun r _ _ => r.elim) hN' h0 (fun hm s σ w hI => stop hm s σ w hI) (fun hm k s fl σ w hk hI hb => ?_) (fun r _ _ _ _ => r.elim) (fun s σ w e hJ => ?_)
  · cases hx : body k s with
    | none => rw [hx] at hb; cases hb
    | some s' =>
      rw [hx] at hb
      injection hb with hb
      subst hb
      exact step hm k s s' σ w hk hI hx
  · injection e with e
    subst e
    exact hgo σ w hJ

/-- Any other loop in its block. -/
theorem RC.iter (I : S → (Nat → Value) → World → Prop) (J : S → (Nat → Value) → World → Prop) (K : R → (Nat → Value) → World → Prop)
    {body : S → Option (Fl S R)} {N : Nat} {s0 : S} {out : Fo S R} (hN : itr body N s0 = some out) (h0 : I s0 σ w)
    (step : ∀ s fl σ w, I s σ w → body s = some fl → RC P n c σ w (itrQ I b0 J K fl))
    (hrt : ∀ r σ w, out = .rt r → K r σ w → Q .ret σ w) (hgo : ∀ s σ w, out = .go s → J s σ w → Q .normal σ w) : RC P n (.block b0 (.loop c)) σ w Q := by
  refine RC.block (RC.loopN (fun j σ w => ∃ s, I s σ w ∧ itr body j s = some out) (m := N) ⟨s0, h0, hN⟩ ?_)
  rintro j σ w ⟨s, hI, hr⟩
  cases j with
  | zero => cases hr
  | succ j =>
    obtain ⟨fl, hb, hr⟩ := bd hr
    refine RC.mono (step s fl σ w hI hb) fun ex σ' w' q => ?_
    cases fl with
    | nx s' => obtain ⟨rfl, hI'⟩ := q; exact .inl ⟨rfl, j, by omega, s', hI', hr⟩
    | br s' =>
      obtain ⟨rfl, hJ⟩ := q
      injection hr with hr
      exact .inr ⟨by simp, by simp only [blkQ, if_true]; exact hgo s' σ' w' hr.symm hJ⟩
    | rt r =>
      obtain ⟨rfl, hK⟩ := q
      injection hr with hr
      exact .inr ⟨by simp, hrt r σ' w' hr.symm hK⟩

/-- Where two ways meet again. -/
theorem RC.join (J : S → (Nat → Value) → World → Prop) (s : S) (hx : RC P n x σ w (fun ex σ w => ex = .normal ∧ J s σ w)) (hy : ∀ σ w, J s σ w → RC P n y σ w Q) : RC P n (.seq x y) σ w Q :=
  RC.seq (RC.mono hx fun ex σ w ⟨e, hJ⟩ => by subst e; exact hy σ w hJ)
/-- Where two ways meet again, unless the function has returned. -/
theorem RC.joinR (J : S → (Nat → Value) → World → Prop) (K : R → (Nat → Value) → World → Prop) {out : Fo S R}
    (hx : RC P n x σ w (match out with | .go s => fun ex σ w => ex = .normal ∧ J s σ w | .rt r => fun ex σ w => ex = .ret ∧ K r σ w))
    (hy : ∀ s σ w, out = .go s → J s σ w → RC P n y σ w Q) (hr : ∀ r σ w, out = .rt r → K r σ w → Q .ret σ w) : RC P n (.seq x y) σ w Q :=
  RC.seq (RC.mono hx fun ex σ w q => by
    cases out with
    | go s => obtain ⟨rfl, hJ⟩ := q; exact hy s σ w rfl hJ
    | rt r => obtain ⟨rfl, hK⟩ := q; exact hr r σ w rfl hK)
theorem wrap_in {x : Int} (h1 : -9223372036854775808 ≤ x) (h2 : x < 9223372036854775808) : IntKind.i64.wrap x = x := by
  have e1 : (2 : Int) ^ (IntKind.i64.bits) = 18446744073709551616 := by decide
  have e2 : (2 : Int) ^ (IntKind.i64.bits - 1) = 9223372036854775808 := by decide
  have e3 : IntKind.i64.signed = true := by decide
  simp only [IntKind.wrap, e1, e2, e3, Bool.true_and, decide_eq_true_eq]
  split <;> omega
theorem wrap_succ {k m : Nat} (h : k < m) (hm : m ≤ 4611686018427387904) : IntKind.i64.wrap ((k : Int) + 1) = ((k + 1 : Nat) : Int) := by
  rw [wrap_in (by omega) (by omega)]; rfl
end
end Go.Gk
