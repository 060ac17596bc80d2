/-
  Regions whose order is open; calls of the runtime's own functions; small rules.
  No statement of the seed is proved here.
-/
import Derived.Test.YtfkpknhicijjbaaK7
import Derived.Laws.Externs
import Derived.Lib.Bytealg
set_option linter.unusedVariables false
set_option linter.unusedSimpArgs false
set_option linter.unusedSectionVars false
namespace Go.Gk
open Go
section
variable {α : Type} [GT α] {E w : World} {Γ L : List HP} {i : Nat} {v : Value} {x : α} {Pr R : HP}
theorem Holds.dup_pt (h : Holds E w Γ) (hi : Γ[i]? = some (pt v x)) : Holds E w (pt v x :: Γ) := h.know fun _ _ g => ⟨((g.sat i _ hi).1), rfl⟩
theorem Holds.junk (h : Holds E w Γ) : Holds E w (Gk.junk :: Γ) := h.know fun _ _ _ => trivial
theorem ent_t {b : Bool} (h : b = true) : some (bif b then Pr else R) = some Pr := by rw [h]; rfl
/-- An entry goes to a place of the list behind the first m. -/
theorem Holds.fillat (h : Holds E w Γ) (a m k : Nat) (ha : Γ[a]? = some Pr) (hd : Γ.drop m = L) (hk : Nat.blt a m = true) (hl : k < L.length) : Holds E w (L.set k Pr) :=
  Holds.back (h.pick m [a] (new := [Pr]) hd (by simp [ha]) (by simp) (by simpa using Nat.blt_eq ▸ hk)) hl
end

section
variable {P : Program} {n : Nat} {σ : Nat → Value} {w : World} {Q : Post}
theorem wp_monoQ {o : Oper} {a : Act} {K K' : Act → World → Prop} {Q Q' : Exit → Act → World → Prop} (hK : ∀ a w, K a w → K' a w) (hp : ∀ c a w, Q (.panic c) a w → Q' (.panic c) a w) (hl : LetsOut Q → LetsOut Q')
    (h : o.wp P a w K Q) : o.wp P a w K' Q' := by
  unfold Oper.wp at *
  generalize (execOp a.eval o).run P w = r at *
  cases r with
  | ok nx w' =>
    cases nx <;> simp only [Oper.upon] at h ⊢ <;>
      first
        | exact hK _ _ h
        | exact Calls.mono h (fun e w'' he => by cases e <;> first | exact hK _ _ he | exact hp _ _ _ he | exact hl he)
        | exact Rows.mono h (fun _ _ he => hK _ _ he)
  | halt x w' => cases x <;> simp only [Oper.upon] at h ⊢ <;> exact hp _ _ _ h

def ins (D : Nat → Bool) (i : Nat) : Nat → Bool := fun j => bif Nat.beq j i then true else D j
def depsP (D : Nat → Bool) : List Edge → Prop
  | [] => True
  | e :: l => (Region.binds .any e = true → D e.on = true) ∧ depsP D l
def stepAll (F : Nat → Oper → Prop) : Nat → List Oper → Prop
  | _, [] => True
  | k, o :: l => F k o ∧ stepAll F (k + 1) l
def depOk : Nat → List Oper → Bool
  | _, [] => true
  | k, o :: l => (o.after.toList.all fun e => !Region.binds .any e || Nat.blt e.on k) && depOk (k + 1) l
theorem stepAll.at {F : Nat → Oper → Prop} : ∀ {k : Nat} {l : List Oper}, stepAll F k l → ∀ i o, l[i]? = some o → F (k + i) o
  | _, [], _, i, o, h => by simp at h
  | k, p :: l, hs, 0, o, h => by simp at h; subst h; exact hs.1
  | k, p :: l, hs, i + 1, o, h => by have := stepAll.at hs.2 i o (by simpa using h); rw [show k + (i + 1) = k + 1 + i by omega]; exact this
theorem depOk.at : ∀ {k : Nat} {l : List Oper}, depOk k l = true → ∀ (i : Nat) (o : Oper), l[i]? = some o → ∀ e ∈ o.after, Region.binds .any e = true → e.on < k + i
  | _, [], _, i, o, h => by simp at h
  | k, p :: l, hs, 0, o, h => by
    simp at h; subst h
    intro e he hb
    have h1 := (Bool.and_eq_true _ _ ▸ hs : _ ∧ _).1
    have := List.all_eq_true.1 h1 e (by simpa using he)
    rw [hb] at this
    simpa using Nat.blt_eq ▸ this
  | k, p :: l, hs, i + 1, o, h => by
    intro e he hb
    have := depOk.at (Bool.and_eq_true _ _ ▸ hs : _ ∧ _).2 i o (by simpa using h) e he hb
    omega
theorem depsP_of {D : Nat → Bool} : ∀ (l : List Edge), (∀ e ∈ l, Region.binds .any e = true → D e.on = true) → depsP D l
  | [], _ => trivial
  | e :: l, h => ⟨h e (by simp), depsP_of l fun e' he => h e' (by simp [he])⟩

/-- A region whose order is open: what holds of any set of operations that can have been done. -/
theorem RC.draw {id : Nat} {l : List Oper} (hm : P.follows .mixedOrders = true) (hdep : depOk 0 l = true) (J : (Nat → Bool) → (Nat → Value) → World → Prop)
    (h0 : J (fun _ => false) σ w.drew)
    (step : stepAll (fun i o => ∀ D σ w, D i = false → depsP D o.after.toList → J D σ w → RL P n l.toArray [o] σ w (fun ex σ w => ex = .normal ∧ J (ins D i) σ w)) 0 l)
    (hend : ∀ D σ w, (∀ i, i < l.length → D i = true) → J D σ w → Q .normal σ w) : RC P n (.region id l.toArray true) σ w Q := by
  intro a ha
  refine wp_region_any hm ?_
  have key : ∀ (fuel : Nat) (listed : Array Bool) (a : Act) (w : World) (σ : Nat → Value), listed.size = l.length → Sl n σ a → J (fun i => listed.getD i false) σ w →
      (listed.toList.countP (· = false)) = fuel → wpAny P .any l.toArray (Lf n Q) fuel listed a w := by
    have ends : ∀ (listed : Array Bool) (a : Act) (w : World) (σ : Nat → Value), listed.size = l.length → Sl n σ a → J (fun i => listed.getD i false) σ w → Region.ready .any l.toArray listed = [] → Lf n Q .normal a w := by
      intro listed a w σ hsz hs hJ hr
      refine ⟨σ, hs, hend _ σ w (fun i hi => ?_) hJ⟩
      induction i using Nat.strongRecOn with
      | ind i ih =>
        cases e : listed.getD i false with
        | true => rfl
        | false =>
          have hmem : i ∈ Region.ready .any l.toArray listed := by
            unfold Region.ready
            rw [List.mem_filter]
            refine ⟨by simpa using hi, ?_⟩
            have hi' : i < listed.size := by omega
            have e1 : listed.getD i true = false := by
              simp only [Array.getD_eq_getD_getElem?, Array.getElem?_eq_getElem hi', Option.getD_some] at e ⊢; exact e
            rw [e1]
            simp only [Bool.not_false, Bool.true_and, List.getElem?_toArray, List.getElem?_eq_getElem hi, Option.map_some, Option.getD_some]
            rw [Array.all_eq_true_iff_forall_mem]
            intro ed hed
            cases hb : Region.binds .any ed with
            | false => rfl
            | true =>
              have hlt := depOk.at hdep i l[i] (List.getElem?_eq_getElem hi) ed hed hb
              have := ih ed.on (by omega) (by omega)
              rw [this]; rfl
          rw [hr] at hmem
          cases hmem
    intro fuel
    induction fuel with
    | zero =>
      intro listed a w σ hsz hs hJ hc
      have hall : ∀ i, i < l.length → listed.getD i false = true := by
        intro i hi
        have hi' : i < listed.size := by omega
        have := List.countP_eq_zero.1 hc listed[i] (by simp)
        simp only [Array.getD_eq_getD_getElem?, Array.getElem?_eq_getElem hi', Option.getD_some]
        simpa using this
      refine ⟨?_, σ, hs, hend _ σ w hall hJ⟩
      unfold Region.ready
      rw [List.filter_eq_nil_iff]
      intro i hi
      have hi2 : i < l.length := by simpa using hi
      have := hall i hi2
      have hi' : i < listed.size := by omega
      have e1 : listed.getD i true = true := by
        simp only [Array.getD_eq_getD_getElem?, Array.getElem?_eq_getElem hi', Option.getD_some] at this ⊢; exact this
      rw [e1]; simp
    | succ fuel ih =>
      intro listed a w σ hsz hs hJ hc
      refine ⟨fun hr => ends listed a w σ hsz hs hJ hr, fun i hi => ?_⟩
      unfold Region.ready at hi
      rw [List.mem_filter] at hi
      obtain ⟨hi1, hi2⟩ := hi
      have hil : i < l.length := by simpa using hi1
      have hi' : i < listed.size := by omega
      simp only [Bool.and_eq_true, Bool.not_eq_true'] at hi2
      obtain ⟨hnot, hd⟩ := hi2
      simp only [List.getElem?_toArray, List.getElem?_eq_getElem hil, Option.map_some, Option.getD_some] at hd
      rw [Array.all_eq_true_iff_forall_mem] at hd
      have hD : (fun i => listed.getD i false) i = false := by
        simp only [Array.getD_eq_getD_getElem?, Array.getElem?_eq_getElem hi', Option.getD_some] at hnot ⊢; exact hnot
      have hst := step.at i l[i] (List.getElem?_eq_getElem hil)
      rw [Nat.zero_add] at hst
      have hrun := hst _ σ w hD (depsP_of _ fun e he hb => by
        have := hd e (by simpa using he)
        rw [hb] at this
        simpa using this) hJ a hs
      have hins : ins (fun i => listed.getD i false) i = fun j => (listed.setIfInBounds i true).getD j false := by
        funext j
        unfold ins
        cases e : Nat.beq j i with
        | true =>
          have := Nat.eq_of_beq_eq_true e
          subst this
          simp [Array.getD_eq_getD_getElem?, hi']
        | false =>
          have hne : i ≠ j := fun h => by subst h; simp at e
          simp [Array.getD_eq_getD_getElem?, Array.getElem?_setIfInBounds_ne hne]
      have hcount : (listed.setIfInBounds i true).toList.countP (· = false) = fuel := by
        have h1 : listed.toList = listed.toList.take i ++ listed[i] :: listed.toList.drop (i + 1) := by
          have := List.take_append_drop i listed.toList
          rw [List.drop_eq_getElem_cons (by simpa using hi')] at this
          simpa using this.symm
        have hx : listed[i] = false := by
          simp only [Array.getD_eq_getD_getElem?, Array.getElem?_eq_getElem hi', Option.getD_some] at hnot; exact hnot
        rw [h1, List.countP_append, List.countP_cons, hx] at hc
        have h2 : (listed.setIfInBounds i true).toList = listed.toList.take i ++ true :: listed.toList.drop (i + 1) := by
          rw [Array.toList_setIfInBounds, List.set_eq_take_append_cons_drop, if_pos (by simpa using hi')]
        rw [h2, List.countP_append, List.countP_cons]
        simp at hc ⊢
        omega
      have hK : ∀ a' w', wpList P l.toArray (Lf n fun ex σ w => ex = .normal ∧ J (ins (fun i => listed.getD i false) i) σ w) [] a' w' → wpAny P .any l.toArray (Lf n Q) fuel (listed.setIfInBounds i true) a' w' := by
        rintro a' w' ⟨σ', hs', _, hJ'⟩
        rw [hins] at hJ'
        exact ih _ a' w' σ' (by simp [hsz]) hs' hJ' hcount
      unfold wpOp
      simp only [List.getElem?_toArray, List.getElem?_eq_getElem hil]
      unfold wpList at hrun
      split at hrun
      · rename_i hw
        rw [if_pos hw]
        rcases hrun with hrun | ⟨_, a0, w0, σ0, _, hbad, _⟩
        · exact .inl (wp_monoQ hK (fun c a w h => by obtain ⟨_, _, hbad, _⟩ := h; cases hbad) (fun h => by obtain ⟨_, _, _, _, hbad, _⟩ := h; cases hbad) hrun)
        · cases hbad
      · rename_i hw
        rw [if_neg hw]
        exact hK _ _ hrun
  refine key _ _ a w.drew σ (by simp) ha ?_ (by simp [List.countP_replicate])
  have : (fun i => (Array.replicate l.toArray.size false).getD i false) = fun _ => false := by
    funext i
    simp only [Array.getD_eq_getD_getElem?, Array.getElem?_replicate]
    split <;> rfl
  rw [this]
  exact h0

def doneV (D : Nat → Bool) (σ : Nat → Value) : List (Nat × Nat × Value) → Prop
  | [] => True
  | (i, d, v) :: l => (D i = true → σ d = v) ∧ doneV D σ l

/-! Short words on what has been done -/
theorem depsP.mono {D D' : Nat → Bool} (h : ∀ i, D i = true → D' i = true) : ∀ {l : List Edge}, depsP D l → depsP D' l
  | [], _ => trivial
  | _ :: _, hl => ⟨fun hb => h _ (hl.1 hb), depsP.mono h hl.2⟩
def Closed (l : List Oper) (D : Nat → Bool) : Prop := ∀ i o, l[i]? = some o → D i = true → depsP D o.after.toList
theorem ins_mono {D : Nat → Bool} {i k : Nat} (h : D k = true) : ins D i k = true := by
  unfold ins; cases Nat.beq k i
  · exact h
  · rfl
/-- The same, with what an operation needs being done before it. -/
theorem RC.drw {id : Nat} {l : List Oper} (hm : P.follows .mixedOrders = true) (hdep : depOk 0 l = true) (J : (Nat → Bool) → (Nat → Value) → World → Prop)
    (h0 : J (fun _ => false) σ w.drew)
    (step : stepAll (fun i o => ∀ D σ w, D i = false → depsP D o.after.toList → Closed l D → J D σ w → RL P n l.toArray [o] σ w (fun ex σ w => ex = .normal ∧ J (ins D i) σ w)) 0 l)
    (hend : ∀ D σ w, (∀ i, i < l.length → D i = true) → J D σ w → Q .normal σ w) : RC P n (.region id l.toArray true) σ w Q := by
  refine RC.draw hm hdep (fun D σ w => Closed l D ∧ J D σ w) ⟨fun i o _ h => (by cases h), h0⟩ ?_ (fun D σ w hall h => hend D σ w hall h.2)
  have key : ∀ (k : Nat) (m : List Oper), (∀ i o, m[i]? = some o → l[k + i]? = some o) → stepAll (fun i o => ∀ D σ w, D i = false → depsP D o.after.toList → Closed l D → J D σ w → RL P n l.toArray [o] σ w (fun ex σ w => ex = .normal ∧ J (ins D i) σ w)) k m →
      stepAll (fun i o => ∀ D σ w, D i = false → depsP D o.after.toList → (Closed l D ∧ J D σ w) → RL P n l.toArray [o] σ w (fun ex σ w => ex = .normal ∧ (Closed l (ins D i) ∧ J (ins D i) σ w))) k m := by
    intro k m
    induction m generalizing k with
    | nil => intro _ _; trivial
    | cons o m ih =>
      intro hat hs
      refine ⟨fun D σ w hD hd hJ a ha => ?_, ih (k + 1) (fun i o h => by have := hat (i + 1) o (by simpa using h); rw [show k + 1 + i = k + (i + 1) by omega]; exact this) hs.2⟩
      have h1 := hs.1 D σ w hD hd hJ.1 hJ.2 a ha
      have hcl : Closed l (ins D k) := by
        intro i o' ho hi
        by_cases e : i = k
        · subst e
          have := hat 0 o rfl
          rw [Nat.add_zero, ho] at this
          injection this with this
          subst this
          exact depsP.mono (fun _ h => ins_mono h) hd
        · have hDi : D i = true := by
            unfold ins at hi
            have : Nat.beq i k = false := by
              cases hx : Nat.beq i k with
              | false => rfl
              | true => exact absurd (Nat.eq_of_beq_eq_true hx) e
            rw [this] at hi; exact hi
          exact depsP.mono (fun _ h => ins_mono h) (hJ.1 i o' ho hDi)
      unfold wpList at h1 ⊢
      split at h1
      · rename_i hw
        rw [if_pos hw]
        rcases h1 with h1 | ⟨h2, h3⟩
        · refine .inl (wp_monoQ (fun a w h => ?_) (fun c a w h => ?_) (fun h => ?_) h1)
          · obtain ⟨σ', hs', he, hJ'⟩ := h; exact ⟨σ', hs', he, hcl, hJ'⟩
          · obtain ⟨_, _, hbad, _⟩ := h; cases hbad
          · obtain ⟨_, _, _, _, hbad, _⟩ := h; cases hbad
        · obtain ⟨_, _, _, _, hbad, _⟩ := h3; cases hbad
      · rename_i hw
        rw [if_neg hw]
        obtain ⟨σ', hs', he, hJ'⟩ := h1
        exact ⟨σ', hs', he, hcl, hJ'⟩
  exact key 0 l (fun i o h => by simpa using h) step
theorem doneV.at {D : Nat → Bool} : ∀ {dv : List (Nat × Nat × Value)} (_ : doneV D σ dv) (k : Nat) {j d : Nat} {v : Value} (_ : dv[k]? = some (j, d, v)), D j = true → σ d = v
  | [], _, k, _, _, _, hk => by simp at hk
  | (i, d', v') :: l, h, 0, j, d, v, hk => by
    simp at hk; obtain ⟨rfl, rfl, rfl⟩ := hk; exact h.1
  | (i, d', v') :: l, h, k + 1, j, d, v, hk => doneV.at h.2 k (by simpa using hk)
/-- No entry but the k-th is of operation j or slot d. -/
def dfree (j d : Nat) : Nat → List (Nat × Nat × Value) → Bool
  | _, [] => true
  | 0, _ :: l => dfreeA l
  | k + 1, (i, t, _) :: l => !Nat.beq i j && !Nat.beq t d && dfree j d k l
where dfreeA : List (Nat × Nat × Value) → Bool
  | [] => true
  | (i, t, _) :: l => !Nat.beq i j && !Nat.beq t d && dfreeA l
theorem doneV.up {D : Nat → Bool} {j d : Nat} {v : Value} : ∀ {dv : List (Nat × Nat × Value)} (_ : doneV D σ dv) (_ : dfree.dfreeA j d dv = true), doneV (ins D j) (upd σ d v) dv
  | [], _, _ => trivial
  | (i, t, u) :: l, h, hf => by
    unfold dfree.dfreeA at hf
    simp only [Bool.and_eq_true, Bool.not_eq_true'] at hf
    refine ⟨fun hi => ?_, doneV.up h.2 hf.2⟩
    unfold ins at hi
    rw [hf.1.1] at hi
    unfold upd
    rw [hf.1.2]
    exact h.1 hi
theorem doneV.put {D : Nat → Bool} {j d : Nat} {v v' : Value} : ∀ {dv : List (Nat × Nat × Value)} (_ : doneV D σ dv) (k : Nat) (_ : dv[k]? = some (j, d, v)) (_ : dfree j d k dv = true), doneV (ins D j) (upd σ d v') (dv.set k (j, d, v'))
  | [], _, k, hk, _ => by simp at hk
  | (i, t, u) :: l, h, 0, hk, hf => by
    refine ⟨fun _ => ?_, doneV.up h.2 hf⟩
    unfold upd
    have : Nat.beq d d = true := Nat.beq_refl d
    rw [this]; rfl
  | (i, t, u) :: l, h, k + 1, hk, hf => by
    unfold dfree at hf
    simp only [Bool.and_eq_true, Bool.not_eq_true'] at hf
    refine ⟨fun hi => ?_, doneV.put h.2 k (by simpa using hk) hf.2⟩
    unfold ins at hi
    rw [hf.1.1] at hi
    unfold upd
    rw [hf.1.2]
    exact h.1 hi
/-- What depends on an operation that is not done, is not done. -/
theorem doneV.re {D : Nat → Bool} {j d : Nat} {v v' : Value} : ∀ {dv : List (Nat × Nat × Value)} (_ : doneV D σ dv) (k : Nat) (_ : dv[k]? = some (j, d, v)) (_ : D j = true → False), doneV D σ (dv.set k (j, d, v'))
  | [], _, k, hk, _ => by simp at hk
  | (i, t, u) :: l, h, 0, hk, hf => by
    simp at hk; obtain ⟨rfl, rfl, rfl⟩ := hk
    exact ⟨fun hi => (hf hi).elim, h.2⟩
  | (i, t, u) :: l, h, k + 1, hk, hf => ⟨h.1, doneV.re h.2 k (by simpa using hk) hf⟩
theorem nf {b : Bool} (h : b = true → False) : b = false := by cases b with | true => exact (h rfl).elim | false => rfl
theorem doneV.no {D : Nat → Bool} {j : Nat} : ∀ {dv : List (Nat × Nat × Value)} (_ : doneV D σ dv) (_ : (dv.all fun x => !Nat.beq x.1 j) = true), doneV (ins D j) σ dv
  | [], _, _ => trivial
  | (i, t, u) :: l, h, hf => by
    rw [List.all_cons, Bool.and_eq_true, Bool.not_eq_true'] at hf
    refine ⟨fun hi => ?_, doneV.no h.2 hf.2⟩
    unfold ins at hi
    rw [hf.1] at hi
    exact h.1 hi
theorem Holds.same {E w : World} {Γ Γ' : List HP} (h : Holds E w Γ) (e : Γ' = Γ) : Holds E w Γ' := by rw [e]; exact h
theorem setS {Γ : List HP} {i : Nat} {Pr R : HP} (h : Γ[i]? = some Pr) (e : R = Pr) : Γ.set i R = Γ := by subst e; exact set_self h
/-- An entry under a condition that is known. -/
theorem Holds.selF {E w : World} {Γ : List HP} {i : Nat} {b : Bool} {R Pr : HP} (h : Holds E w Γ) (hi : Γ[i]? = some (bif b then R else Pr)) (hb : b = false) : Holds E w (Γ.set i Pr) := h.same (setS hi (by rw [hb]; rfl))
theorem Holds.selT {E w : World} {Γ : List HP} {i : Nat} {b : Bool} {R Pr : HP} (h : Holds E w Γ) (hi : Γ[i]? = some (bif b then R else Pr)) (hb : b = true) : Holds E w (Γ.set i R) := h.same (setS hi (by rw [hb]; rfl))
theorem Holds.altT {E w : World} {Γ : List HP} {i : Nat} {b : Bool} {Pr : HP} (h : Holds E w Γ) (hi : Γ[i]? = some Pr) (hb : b = true) (R : HP) : Holds E w (Γ.set i (bif b then Pr else R)) := h.same (setS hi (by rw [hb]; rfl))
theorem Holds.altF {E w : World} {Γ : List HP} {i : Nat} {b : Bool} {Pr : HP} (h : Holds E w Γ) (hi : Γ[i]? = some Pr) (hb : b = false) (R : HP) : Holds E w (Γ.set i (bif b then R else Pr)) := h.same (setS hi (by rw [hb]; rfl))
theorem ft {b : Bool} (h1 : b = false) (h2 : b = true) : False := by rw [h1] at h2; cases h2
theorem agree.at : ∀ {l : List (Nat × Value)} (_ : agree σ l) (k : Nat) {d : Nat} {v : Value} (_ : l[k]? = some (d, v)), σ d = v
  | [], _, k, _, _, hk => by simp at hk
  | (d', v') :: l, h, 0, d, v, hk => by simp at hk; obtain ⟨rfl, rfl⟩ := hk; exact h.1
  | (d', v') :: l, h, k + 1, d, v, hk => agree.at h.2 k (by simpa using hk)
def afree (d : Nat) : List (Nat × Value) → Bool
  | [] => true
  | (t, _) :: l => !Nat.beq t d && afree d l
theorem agree.up {d : Nat} {v : Value} : ∀ {l : List (Nat × Value)} (_ : agree σ l) (_ : afree d l = true), agree (upd σ d v) l
  | [], _, _ => trivial
  | (t, u) :: l, h, hf => by
    unfold afree at hf
    simp only [Bool.and_eq_true, Bool.not_eq_true'] at hf
    refine ⟨?_, agree.up h.2 hf.2⟩
    unfold upd
    rw [hf.1]
    exact h.1
theorem agree.c {d : Nat} {v : Value} {l : List (Nat × Value)} (h : σ d = v) (hl : agree σ l) : agree σ ((d, v) :: l) := ⟨h, hl⟩
theorem agree.z : agree σ [] := trivial
/-- Nothing is done yet. -/
theorem doneV.none : ∀ {dv : List (Nat × Nat × Value)}, doneV (fun _ => false) σ dv
  | [] => trivial
  | (_, _, _) :: _ => ⟨fun h => (by cases h), doneV.none⟩

variable {ops : Array Oper} {rest : List Oper} {d : Nat} {ty T T' : TypeId} {pos : String} {af : Array Edge} {g : Option (Nat × Bool)} {v : Value} {q r : Operand}
/-- A function of the runtime's own. -/
theorem xcall {f : FuncId} {fn : Func} {e : Array Value → Sem Value} {args : Array Value} (hf : P.funcs[f]? = some fn) (hname : (fn.name == "runtime.NumGoroutine") = false)
    (hb : fn.body.isNone = true) (hn : Extern.findNext fn = none) (he : Extern.find fn = some e) (hr : (e args).run P w = .ok v w) : (callFunc f args).run P w = .ok (.value v) w := by
  rw [run_callFunc_extern hf hname hb hn he, hr]; rfl
theorem RL.xcall {f : FuncId} {args : Array Operand} {ts : Array TypeId} (hg : Wn ops σ g) (hd : Nat.blt d n = true) (vs : List Value)
    (hvs : args.toList.map (ev σ) = vs) (hf : (callFunc f vs.toArray).run P w = .ok (.value v) w) (k : RL P n ops rest (upd σ d v) w Q) :
    RL P n ops (⟨some d, .call ⟨.value (.func f), args, ts⟩, ty, pos, af, g⟩ :: rest) σ w Q := by
  have e : args.map (ev σ) = vs.toArray := by rw [← hvs]; cases args; simp
  refine RL.val hg hd ?_ k
  simp only [execOp, resolve, Sem.run_bind]
  simp only [ev, Deferred.ofValue, e, Sem.run_pure, Result.andThen_ok, invoke]
  simpa using hf
end
end Go.Gk
