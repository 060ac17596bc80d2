/-
  Steps at slices whose elements own slices: the row of raw elements (own) beside the elements' own parts (bag).
  No statement of the seed is proved here.
-/
import Derived.Test.YtghiafpkpfipgaaGreatDoorK19
set_option linter.unusedVariables false
set_option linter.unusedSimpArgs false
set_option linter.unusedSectionVars false
namespace Go.Gk
open Go
def rvz : RV := ⟨.slice none 0 0, rfl⟩
def rv (v : Value) : RV := if h : v.oneCell' = true then ⟨v, h⟩ else rvz
theorem rv_v {v : Value} (h : v.oneCell' = true) : (rv v).v = v := by unfold rv; rw [dif_pos h]
instance : Inhabited RV := ⟨rvz⟩
theorem idx_raw {ρ α : Type} {us : List ρ} {xs : List α} {jj : Int} {x : α} (z : ρ) (hl : us.length = xs.length) (hx : idx xs jj = some x) : idx us jj = some (us.getD jj.toNat z) := by
  obtain ⟨h0, hx', hlt⟩ := idx_some hx
  obtain ⟨k, rfl⟩ := Int.eq_ofNat_of_zero_le h0
  rw [Int.toNat_natCast] at hlt ⊢
  have hk : k < us.length := by omega
  unfold idx
  rw [if_pos (by omega), Int.toNat_natCast, List.getElem?_eq_getElem hk, List.getD_eq_getElem?_getD, List.getElem?_eq_getElem hk]
  rfl
/-- Where in an element its own slice lies. -/
structure XO {ρ α β : Type} [GT ρ] [GT β] (X : XT ρ α) (e' : TypeId) (off : Nat) (f : ρ → RV) (fs : ρ → RV → ρ) (g : α → List β) (gs : α → List β → α) : Prop where
  hfd : Fd off f
  hfs : Fs off RV fs
  le : off + 1 ≤ GT.sz ρ
  get : ∀ {M h u x}, X.ok M h u x → ownV e' M h (f u).v (g x)
  put : ∀ {M h' u x r y}, X.rest u x → ownV e' M h' (RV.v r) y → X.ok M h' (fs u r) (gs x y)
section
variable {ρ α β : Type} [GT ρ] [GT β] {X : XT ρ α} {us : List ρ} {xs : List α} {E w : World} {Γ : List HP} {i j k o b : Nat} {e e' : TypeId} {v u : Value} {x : α} {y : List β} {jj : Int} {z : ρ}
variable {off : Nat} {f : ρ → RV} {fs : ρ → RV → ρ} {gg : α → List β} {gs : α → List β → α}
theorem rdi (z : ρ) (hl : us.length = xs.length) (hx : idx xs jj = some x) : us[jj.toNat]? = some (us.getD jj.toNat z) := (idx_some (idx_raw z hl hx)).2.1
theorem Holds.focusX (o : XO X e' off f fs gg gs) (z : ρ) (h : Holds E w Γ) (hj : Γ[j]? = some (bag X us xs none)) (hx : idx xs jj = some x) :
    Holds E w (own e' (f (us.getD jj.toNat z)).v (gg x) :: Γ.set j (bag X us xs (some jj.toNat))) := by
  have hl := h.bag_len hj
  have h2 := h.focus hj (rdi z hl hx) (idx_some hx).2.1
  obtain ⟨M, hs, g⟩ := h2
  have := g.update (w' := w) (P' := own e' (f (us.getD jj.toNat z)).v (gg x)) (i := 0) (by simp) (hs 0) (o.get (g.sat 0 _ rfl)) rfl rfl rfl (fun b o hb => g.le 0 b o (by simp) hb) (fun b o hb => .inl ⟨o, hb⟩) (fun _ _ _ => rfl)
  exact ⟨_, _, this⟩
theorem Holds.unfocusX (o : XO X e' off f fs gg gs) (z : ρ) (h : Holds E w (own e' v y :: Γ)) (hj : Γ[j]? = some (bag X us xs (some jj.toNat))) (hx : idx xs jj = some x) :
    Holds E w (Γ.set j (bag X (us.set jj.toNat (fs (us.getD jj.toNat z) (rv v))) (xs.set jj.toNat (gs x y)) none)) := by
  have hl := h.bag_len (j := j + 1) (by simpa using hj)
  have h1 : (rv v).v = v := by
    obtain ⟨a, c, hv⟩ := h.own_slice (i := 0) rfl
    exact rv_v (by rw [hv]; rfl)
  have hr := h.bag_rest (j := j + 1) (by simpa using hj) (rdi z hl hx) (idx_some hx).2.1
  have h2 : Holds E w (elm X (fs (us.getD jj.toNat z) (rv v)) (gs x y) :: Γ) := by
    obtain ⟨M, hs, g⟩ := h
    have := g.update (w' := w) (P' := elm X (fs (us.getD jj.toNat z) (rv v)) (gs x y)) (i := 0) (by simp) (hs 0) (o.put hr (by rw [h1]; exact g.sat 0 _ rfl)) rfl rfl rfl (fun b o hb => g.le 0 b o (by simp) hb) (fun b o hb => .inl ⟨o, hb⟩) (fun _ _ _ => rfl)
    exact ⟨_, _, this⟩
  exact h2.unfocus hj (by rw [hl]; exact (idx_some hx).2.2)
/-- the element's own slice goes back to its place; its value is still that one -/
theorem Holds.unfocusS (o : XO X e' off f fs gg gs) (z : ρ) (hs : ∀ u, fs u (f u) = u) (h : Holds E w (own e' (f (us.getD jj.toNat z)).v y :: Γ)) (hj : Γ[j]? = some (bag X us xs (some jj.toNat))) (hx : idx xs jj = some x) :
    Holds E w (Γ.set j (bag X us (xs.set jj.toNat (gs x y)) none)) := by
  have hl := h.bag_len (j := j + 1) (by simpa using hj)
  have h2 := h.unfocusX o z hj hx
  have h3 : rv (f (us.getD jj.toNat z)).v = f (us.getD jj.toNat z) := by unfold rv; rw [dif_pos (f (us.getD jj.toNat z)).one]
  have h4 : us.set jj.toNat (us.getD jj.toNat z) = us := by
    have hk := (idx_some hx).2.2
    apply List.ext_getElem?
    intro a
    rw [List.getElem?_set]
    split
    · rename_i e; subst e; rw [if_pos (by omega)]; exact (rdi z hl hx).symm
    · rfl
  rw [h3, hs, h4] at h2
  exact h2
/-- an own slice's value reads as a raw one -/
theorem Holds.rd_rv (h : Holds E w Γ) (hi : Γ[i]? = some (own e v y)) : Holds E w (rd v (rv v) :: Γ) := by
  have h1 : (rv v).v = v := by
    obtain ⟨a, c, hv⟩ := h.own_slice hi
    exact rv_v (by rw [hv]; rfl)
  have := h.sc (γ := RV) (rv v)
  have e1 : Sc.toV (rv v) = v := h1
  rwa [e1] at this
theorem Holds.nest_fz [GT α] (hsz : GT.sz ρ = GT.sz α) (hX : ∀ M h u x cs, (∀ b o, h b = some o → M b = none) → X.ok M h u x → GT.ok M cs u → GT.ok (hor M h) cs x)
    (h : Holds E w Γ) (hb : Γ[b]? = some (bag X us xs none)) (hj : Γ[j]? = some (own e v us)) (hne : b ≠ j) : Holds E w ((Γ.set b Gk.junk).set j (own e v xs)) := by
  have h1 := h.pull hb
  have h2 := h1.nest_freeze hsz hX (j := j) (by rw [List.getElem?_set, if_neg hne]; exact hj)
  exact h2.drop 1 rfl
end

section
variable {ρ α β : Type} [GT ρ] [GT β] {P : Program} {n : Nat} {σ : Nat → Value} {w : World} {Q : Post} {E : World} {Γ : List HP} {i j k o b : Nat}
variable {ops : Array Oper} {rest : List Oper} {d : Nat} {ty t T e e' : TypeId} {pos : String} {af : Array Edge} {g : Option (Nat × Bool)} {v vy u p : Value} {q r : Operand}
variable {X : XT ρ α} {us : List ρ} {xs xs' : List α} {x : α} {y : List β} {jj : Int} {z : ρ} {bytes : Nat}
variable {off : Nat} {f : ρ → RV} {fs : ρ → RV → ρ} {gg : α → List β} {gs : α → List β → α}
/-- An element's own slice is read: it is lent out. -/
theorem RL.load_nest (O : XO X e' off f fs gg gs) (z : ρ) (hg : Wn ops σ g) (hd : Nat.blt d n = true) (hw : Holds E w Γ) (hx : ev σ q = p) (hp : elP v jj.toNat (GT.sz ρ) off p) (hi : Γ[i]? = some (own e v us))
    (hb : Γ[b]? = some (bag X us xs none)) (hxs : idx xs jj = some x) (hT : TyA P T false 1)
    (kk : Holds E w (own e' (f (us.getD jj.toNat z)).v (gg x) :: Γ.set b (bag X us xs (some jj.toNat))) → RL P n ops rest (upd σ d (f (us.getD jj.toNat z)).v) w Q) :
    RL P n ops (⟨some d, .load T q, ty, pos, af, g⟩ :: rest) σ w Q :=
  RL.load_els (f := f) hg hd hw hx hp hi (rdi z (hw.bag_len hb) hxs) O.hfd hT (kk (hw.focusX O z hb hxs))
/-- An element's own slice is written. -/
theorem RL.store_nest {k0 : Option Nat} (O : XO X e' off f fs gg gs) (z : ρ) (hg : Wn ops σ g) (hw : Holds E w Γ) (hx : ev σ q = p) (hy : ev σ r = u) (hp : elP v jj.toNat (GT.sz ρ) off p) (hi : Γ[i]? = some (own e v us))
    (hb : Γ[b]? = some (bag X us xs k0)) (hk : k0 = none ∨ k0 = some jj.toNat) (ho : Γ[o]? = some (own e' u y)) (hxs : idx xs jj = some x) (hib : i ≠ b) (hob : o ≠ b) (hio : i ≠ o) (hT : TyA P T false 1)
    (kk : ∀ w', Holds E w' (((Γ.set i (own e v (us.set jj.toNat (fs (us.getD jj.toNat z) (rv u))))).set o junk).set b (bag X (us.set jj.toNat (fs (us.getD jj.toNat z) (rv u))) (xs.set jj.toNat (gs x y)) none)) → RL P n ops rest σ w' Q) :
    RL P n ops (⟨none, .store T q r, ty, pos, af, g⟩ :: rest) σ w Q := by
  have hl := hw.bag_len hb
  have hrv := hw.rd_rv ho
  have h3 : Γ.length > 0 := by have := lt_of_get hi; omega
  refine RL.store_el (i := i + 1) (j := 0) (f := fs) (y := rv u) hg hrv hx hy hp (by simpa using hi) (rdi z hl hxs) rfl O.hfs O.le hT fun w' hw' => ?_
  refine kk w' ?_
  have hw2 : Holds E w' (Γ.set i (own e v (us.set jj.toNat (fs (us.getD jj.toNat z) (rv u))))) := hw'.drop 1 rfl
  have hb2 : (Γ.set i (own e v (us.set jj.toNat (fs (us.getD jj.toNat z) (rv u)))))[b]? = some (bag X us xs k0) := by rw [List.getElem?_set, if_neg hib]; exact hb
  have ho2 : (Γ.set i (own e v (us.set jj.toNat (fs (us.getD jj.toNat z) (rv u)))))[o]? = some (own e' u y) := by rw [List.getElem?_set, if_neg hio]; exact ho
  rcases hk with rfl | rfl
  · have h4 := hw2.focusX O z hb2 hxs
    have h5 : Holds E w' ((Γ.set i (own e v (us.set jj.toNat (fs (us.getD jj.toNat z) (rv u))))).set b (bag X us xs (some jj.toNat))) := h4.drop 1 rfl
    have hb3 : ((Γ.set i (own e v (us.set jj.toNat (fs (us.getD jj.toNat z) (rv u))))).set b (bag X us xs (some jj.toNat)))[b]? = some (bag X us xs (some jj.toNat)) := by
      rw [List.getElem?_set, if_pos rfl, if_pos (lt_of_get hb2)]
    have ho3 : ((Γ.set i (own e v (us.set jj.toNat (fs (us.getD jj.toNat z) (rv u))))).set b (bag X us xs (some jj.toNat)))[o]? = some (own e' u y) := by
      rw [List.getElem?_set, if_neg (fun h => hob h.symm)]; exact ho2
    have h6 := h5.pull ho3
    have h7 := h6.unfocusX O z (j := b) (by rw [List.getElem?_set, if_neg hob]; exact hb3) hxs
    rw [List.set_comm _ _ (fun h => hob h.symm), List.set_set] at h7
    exact h7
  · have h6 := hw2.pull ho2
    exact h6.unfocusX O z (j := b) (by rw [List.getElem?_set, if_neg hob]; exact hb2) hxs
end
section
variable {α β : Type} [GT β] {P : Program} {n : Nat} {σ : Nat → Value} {w : World} {Q : Post} {E : World} {Γ : List HP} {i j k o b : Nat}
variable {ops : Array Oper} {rest : List Oper} {d : Nat} {ty t T e e' : TypeId} {pos : String} {af : Array Edge} {g : Option (Nat × Bool)} {v vy u p : Value} {q r : Operand}
variable {us : List RV} {xs xs' : List (List β)} {y : List β} {jj : Int} {bytes : Nat}
end
section
variable {P : Program} {n : Nat} {σ : Nat → Value} {w : World} {Q : Post} {E : World} {Γ : List HP} {i j k o b : Nat}
variable {ops : Array Oper} {rest : List Oper} {d : Nat} {ty t T e e' : TypeId} {pos : String} {af : Array Edge} {g : Option (Nat × Bool)} {v vy u p : Value} {q r : Operand}
end
end Go.Gk
