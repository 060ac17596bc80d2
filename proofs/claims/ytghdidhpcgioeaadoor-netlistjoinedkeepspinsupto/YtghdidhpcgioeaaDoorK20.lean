/-
  Steps at slices whose elements own slices: the row of raw elements (own) beside the elements' own parts (bag).
  No statement of the seed is proved here.
-/
import Derived.Test.YtghdidhpcgioeaaDoorK19
set_option linter.unusedVariables false
set_option linter.unusedSimpArgs false
set_option linter.unusedSectionVars false
namespace Go.Gk
open Go
def rvz : RV := ⟨.slice none 0 0, rfl⟩
def rv (v : Value) : RV := if h : v.oneCell' = true then ⟨v, h⟩ else rvz
theorem rv_v {v : Value} (h : v.oneCell' = true) : (rv v).v = v := by unfold rv; rw [dif_pos h]
theorem rv_nil : rv (.slice none 0 0) = rvz := rfl
instance : Inhabited RV := ⟨rvz⟩
theorem idx_raw {ρ α : Type} {us : List ρ} {xs : List α} {jj : Int} {x : α} (z : ρ) (hl : us.length = xs.length) (hx : idx xs jj = some x) : idx us jj = some (us.getD jj.toNat z) := by
  obtain ⟨h0, hx', hlt⟩ := idx_some hx
  obtain ⟨k, rfl⟩ := Int.eq_ofNat_of_zero_le h0
  rw [Int.toNat_natCast] at hlt ⊢
  have hk : k < us.length := by omega
  unfold idx
  rw [if_pos (by omega), Int.toNat_natCast, List.getElem?_eq_getElem hk, List.getD_eq_getElem?_getD, List.getElem?_eq_getElem hk]
  rfl
/-- Where in an element its own slice lies. -/
structure XO {ρ α β : Type} [GT ρ] [GT β] (X : XT ρ α) (e' : TypeId) (off : Nat) (f : ρ → RV) (fs : ρ → RV → ρ) (g : α → List β) (gs : α → List β → α) : Prop where
  hfd : Fd off f
  hfs : Fs off RV fs
  le : off + 1 ≤ GT.sz ρ
  get : ∀ {M h u x}, X.ok M h u x → ownV e' M h (f u).v (g x)
  put : ∀ {M h' u x r y}, X.rest u x → ownV e' M h' (RV.v r) y → X.ok M h' (fs u r) (gs x y)
theorem XS_xo (e : TypeId) (β : Type) [GT β] : XO (XS e β) e 0 (fun x => x) (fun _ y => y) (fun x => x) (fun _ y => y) :=
  ⟨Fd.self, Fs.self, Nat.le_refl _, fun h => h, fun _ h => h⟩
section
variable {ρ α β : Type} [GT ρ] [GT β] {X : XT ρ α} {us : List ρ} {xs : List α} {E w : World} {Γ : List HP} {i j k o b : Nat} {e e' : TypeId} {v u : Value} {x : α} {y : List β} {jj : Int} {z : ρ}
variable {off : Nat} {f : ρ → RV} {fs : ρ → RV → ρ} {gg : α → List β} {gs : α → List β → α}
theorem rdi (z : ρ) (hl : us.length = xs.length) (hx : idx xs jj = some x) : us[jj.toNat]? = some (us.getD jj.toNat z) := (idx_some (idx_raw z hl hx)).2.1
theorem Holds.focusX (o : XO X e' off f fs gg gs) (z : ρ) (h : Holds E w Γ) (hj : Γ[j]? = some (bag X us xs none)) (hx : idx xs jj = some x) :
    Holds E w (own e' (f (us.getD jj.toNat z)).v (gg x) :: Γ.set j (bag X us xs (some jj.toNat))) := by
  have hl := h.bag_len hj
  have h2 := h.focus hj (rdi z hl hx) (idx_some hx).2.1
  obtain ⟨M, hs, g⟩ := h2
  have := g.update (w' := w) (P' := own e' (f (us.getD jj.toNat z)).v (gg x)) (i := 0) (by simp) (hs 0) (o.get (g.sat 0 _ rfl)) rfl rfl rfl (fun b o hb => g.le 0 b o (by simp) hb) (fun b o hb => .inl ⟨o, hb⟩) (fun _ _ _ => rfl)
  exact ⟨_, _, this⟩
theorem Holds.unfocusX (o : XO X e' off f fs gg gs) (z : ρ) (h : Holds E w (own e' v y :: Γ)) (hj : Γ[j]? = some (bag X us xs (some jj.toNat))) (hx : idx xs jj = some x) :
    Holds E w (Γ.set j (bag X (us.set jj.toNat (fs (us.getD jj.toNat z) (rv v))) (xs.set jj.toNat (gs x y)) none)) := by
  have hl := h.bag_len (j := j + 1) (by simpa using hj)
  have h1 : (rv v).v = v := by
    obtain ⟨a, c, hv⟩ := h.own_slice (i := 0) rfl
    exact rv_v (by rw [hv]; rfl)
  have hr := h.bag_rest (j := j + 1) (by simpa using hj) (rdi z hl hx) (idx_some hx).2.1
  have h2 : Holds E w (elm X (fs (us.getD jj.toNat z) (rv v)) (gs x y) :: Γ) := by
    obtain ⟨M, hs, g⟩ := h
    have := g.update (w' := w) (P' := elm X (fs (us.getD jj.toNat z) (rv v)) (gs x y)) (i := 0) (by simp) (hs 0) (o.put hr (by rw [h1]; exact g.sat 0 _ rfl)) rfl rfl rfl (fun b o hb => g.le 0 b o (by simp) hb) (fun b o hb => .inl ⟨o, hb⟩) (fun _ _ _ => rfl)
    exact ⟨_, _, this⟩
  exact h2.unfocus hj (by rw [hl]; exact (idx_some hx).2.2)
/-- the element's own slice goes back to its place; its value is still that one -/
theorem Holds.unfocusS (o : XO X e' off f fs gg gs) (z : ρ) (hs : ∀ u, fs u (f u) = u) (h : Holds E w (own e' (f (us.getD jj.toNat z)).v y :: Γ)) (hj : Γ[j]? = some (bag X us xs (some jj.toNat))) (hx : idx xs jj = some x) :
    Holds E w (Γ.set j (bag X us (xs.set jj.toNat (gs x y)) none)) := by
  have hl := h.bag_len (j := j + 1) (by simpa using hj)
  have h2 := h.unfocusX o z hj hx
  have h3 : rv (f (us.getD jj.toNat z)).v = f (us.getD jj.toNat z) := by unfold rv; rw [dif_pos (f (us.getD jj.toNat z)).one]
  have h4 : us.set jj.toNat (us.getD jj.toNat z) = us := by
    have hk := (idx_some hx).2.2
    apply List.ext_getElem?
    intro a
    rw [List.getElem?_set]
    split
    · rename_i e; subst e; rw [if_pos (by omega)]; exact (rdi z hl hx).symm
    · rfl
  rw [h3, hs, h4] at h2
  exact h2
/-- an own slice's value reads as a raw one -/
theorem Holds.rd_rv (h : Holds E w Γ) (hi : Γ[i]? = some (own e v y)) : Holds E w (rd v (rv v) :: Γ) := by
  have h1 : (rv v).v = v := by
    obtain ⟨a, c, hv⟩ := h.own_slice hi
    exact rv_v (by rw [hv]; rfl)
  have := h.sc (γ := RV) (rv v)
  have e1 : Sc.toV (rv v) = v := h1
  rwa [e1] at this
theorem Holds.nest_fz [GT α] (hsz : GT.sz ρ = GT.sz α) (hX : ∀ M h u x cs, (∀ b o, h b = some o → M b = none) → X.ok M h u x → GT.ok M cs u → GT.ok (hor M h) cs x)
    (h : Holds E w Γ) (hb : Γ[b]? = some (bag X us xs none)) (hj : Γ[j]? = some (own e v us)) (hne : b ≠ j) : Holds E w ((Γ.set b Gk.junk).set j (own e v xs)) := by
  have h1 := h.pull hb
  have h2 := h1.nest_freeze hsz hX (j := j) (by rw [List.getElem?_set, if_neg hne]; exact hj)
  exact h2.drop 1 rfl
end

section
variable {ρ α β : Type} [GT ρ] [GT β] {P : Program} {n : Nat} {σ : Nat → Value} {w : World} {Q : Post} {E : World} {Γ : List HP} {i j k o b : Nat}
variable {ops : Array Oper} {rest : List Oper} {d : Nat} {ty t T e e' : TypeId} {pos : String} {af : Array Edge} {g : Option (Nat × Bool)} {v vy u p : Value} {q r : Operand}
variable {X : XT ρ α} {us : List ρ} {xs xs' : List α} {x : α} {y : List β} {jj : Int} {z : ρ} {bytes : Nat}
variable {off : Nat} {f : ρ → RV} {fs : ρ → RV → ρ} {gg : α → List β} {gs : α → List β → α}
theorem RL.len_nest {k0 : Option Nat} (hg : Wn ops σ g) (hd : Nat.blt d n = true) (hw : Holds E w Γ) (hx : ev σ q = v) (hi : Γ[i]? = some (own e' v us)) (hb : Γ[b]? = some (bag X us xs k0)) (ht : P.underlying t = some (.slice e))
    (kk : RL P n ops rest (upd σ d (.int .i64 (xs.length : Nat))) w Q) : RL P n ops (⟨some d, .call ⟨.builtin .len, #[q], #[t]⟩, ty, pos, af, g⟩ :: rest) σ w Q := by
  have hl := hw.bag_len hb
  rw [← hl] at kk
  exact RL.len_own hg hd hw hx hi ht kk
/-- An element's own slice is read: it is lent out. -/
theorem RL.load_nest (O : XO X e' off f fs gg gs) (z : ρ) (hg : Wn ops σ g) (hd : Nat.blt d n = true) (hw : Holds E w Γ) (hx : ev σ q = p) (hp : elP v jj.toNat (GT.sz ρ) off p) (hi : Γ[i]? = some (own e v us))
    (hb : Γ[b]? = some (bag X us xs none)) (hxs : idx xs jj = some x) (hT : TyA P T false 1)
    (kk : Holds E w (own e' (f (us.getD jj.toNat z)).v (gg x) :: Γ.set b (bag X us xs (some jj.toNat))) → RL P n ops rest (upd σ d (f (us.getD jj.toNat z)).v) w Q) :
    RL P n ops (⟨some d, .load T q, ty, pos, af, g⟩ :: rest) σ w Q :=
  RL.load_els (f := f) hg hd hw hx hp hi (rdi z (hw.bag_len hb) hxs) O.hfd hT (kk (hw.focusX O z hb hxs))
/-- An element's own slice is written. -/
theorem RL.store_nest {k0 : Option Nat} (O : XO X e' off f fs gg gs) (z : ρ) (hg : Wn ops σ g) (hw : Holds E w Γ) (hx : ev σ q = p) (hy : ev σ r = u) (hp : elP v jj.toNat (GT.sz ρ) off p) (hi : Γ[i]? = some (own e v us))
    (hb : Γ[b]? = some (bag X us xs k0)) (hk : k0 = none ∨ k0 = some jj.toNat) (ho : Γ[o]? = some (own e' u y)) (hxs : idx xs jj = some x) (hib : i ≠ b) (hob : o ≠ b) (hio : i ≠ o) (hT : TyA P T false 1)
    (kk : ∀ w', Holds E w' (((Γ.set i (own e v (us.set jj.toNat (fs (us.getD jj.toNat z) (rv u))))).set o junk).set b (bag X (us.set jj.toNat (fs (us.getD jj.toNat z) (rv u))) (xs.set jj.toNat (gs x y)) none)) → RL P n ops rest σ w' Q) :
    RL P n ops (⟨none, .store T q r, ty, pos, af, g⟩ :: rest) σ w Q := by
  have hl := hw.bag_len hb
  have hrv := hw.rd_rv ho
  have h3 : Γ.length > 0 := by have := lt_of_get hi; omega
  refine RL.store_el (i := i + 1) (j := 0) (f := fs) (y := rv u) hg hrv hx hy hp (by simpa using hi) (rdi z hl hxs) rfl O.hfs O.le hT fun w' hw' => ?_
  refine kk w' ?_
  have hw2 : Holds E w' (Γ.set i (own e v (us.set jj.toNat (fs (us.getD jj.toNat z) (rv u))))) := hw'.drop 1 rfl
  have hb2 : (Γ.set i (own e v (us.set jj.toNat (fs (us.getD jj.toNat z) (rv u)))))[b]? = some (bag X us xs k0) := by rw [List.getElem?_set, if_neg hib]; exact hb
  have ho2 : (Γ.set i (own e v (us.set jj.toNat (fs (us.getD jj.toNat z) (rv u)))))[o]? = some (own e' u y) := by rw [List.getElem?_set, if_neg hio]; exact ho
  rcases hk with rfl | rfl
  · have h4 := hw2.focusX O z hb2 hxs
    have h5 : Holds E w' ((Γ.set i (own e v (us.set jj.toNat (fs (us.getD jj.toNat z) (rv u))))).set b (bag X us xs (some jj.toNat))) := h4.drop 1 rfl
    have hb3 : ((Γ.set i (own e v (us.set jj.toNat (fs (us.getD jj.toNat z) (rv u))))).set b (bag X us xs (some jj.toNat)))[b]? = some (bag X us xs (some jj.toNat)) := by
      rw [List.getElem?_set, if_pos rfl, if_pos (lt_of_get hb2)]
    have ho3 : ((Γ.set i (own e v (us.set jj.toNat (fs (us.getD jj.toNat z) (rv u))))).set b (bag X us xs (some jj.toNat)))[o]? = some (own e' u y) := by
      rw [List.getElem?_set, if_neg (fun h => hob h.symm)]; exact ho2
    have h6 := h5.pull ho3
    have h7 := h6.unfocusX O z (j := b) (by rw [List.getElem?_set, if_neg hob]; exact hb3) hxs
    rw [List.set_comm _ _ (fun h => hob h.symm), List.set_set] at h7
    exact h7
  · have h6 := hw2.pull ho2
    exact h6.unfocusX O z (j := b) (by rw [List.getElem?_set, if_neg hob]; exact hb2) hxs
end
section
variable {α β : Type} [GT β] {P : Program} {n : Nat} {σ : Nat → Value} {w : World} {Q : Post} {E : World} {Γ : List HP} {i j k o b : Nat}
variable {ops : Array Oper} {rest : List Oper} {d : Nat} {ty t T e e' : TypeId} {pos : String} {af : Array Edge} {g : Option (Nat × Bool)} {v vy u p : Value} {q r : Operand}
variable {us : List RV} {xs xs' : List (List β)} {y : List β} {jj : Int} {bytes : Nat}
theorem app_raw {ρ α : Type} {us : List ρ} {xs xs' : List α} {x : α} {bytes : Nat} (hl : us.length = xs.length) (h : app bytes xs [x] = some xs') (u : ρ) : app bytes us [u] = some (us ++ [u]) ∧ xs' = xs ++ [x] := by
  unfold app at h ⊢
  split at h
  · rename_i hc
    injection h with h
    exact ⟨by rw [if_pos (by rw [hl]; exact hc)], h.symm⟩
  · cases h
/-- An own slice is put behind the others. -/
theorem RL.app_nest (hg : Wn ops σ g) (hd : Nat.blt d n = true) (hw : Holds E w Γ) (hx : ev σ q = v) (hy : ev σ r = vy) (hi : Γ[i]? = some (own e v us)) (hj : Γ[j]? = some (rd vy [rv u]))
    (hb : Γ[b]? = some (bag (XS e' β) us xs none)) (ho : Γ[o]? = some (own e' u y)) (hib : i ≠ b) (hob : o ≠ b) (hio : i ≠ o) (hT : ElT P t e 1 bytes) (ha : Gk.app bytes xs [y] = some xs')
    (kk : ∀ v' w', Holds E w' (((Γ.set i (own e v' (us ++ [rv u]))).set o junk).set b (bag (XS e' β) (us ++ [rv u]) xs' none)) → RL P n ops rest (upd σ d v') w' Q) :
    RL P n ops (⟨some d, .call ⟨.builtin .append, #[q, r], #[t, t]⟩, ty, pos, af, g⟩ :: rest) σ w Q := by
  obtain ⟨h1, rfl⟩ := app_raw (hw.bag_len hb) ha (rv u)
  refine RL.app hg hd hw hx hy hi hj hT h1 fun v' w' hw' => kk v' w' ?_
  have hb2 : (Γ.set i (own e v' (us ++ [rv u])))[b]? = some (bag (XS e' β) us xs none) := by rw [List.getElem?_set, if_neg hib]; exact hb
  have ho2 : (Γ.set i (own e v' (us ++ [rv u])))[o]? = some (own e' u y) := by rw [List.getElem?_set, if_neg hio]; exact ho
  have h6 := hw'.pull ho2
  have h7 : (rv u).v = u := by
    obtain ⟨a, c, hv⟩ := hw.own_slice ho
    exact rv_v (by rw [hv]; rfl)
  have h8 : Holds E w' (elm (XS e' β) (rv u) y :: (Γ.set i (own e v' (us ++ [rv u]))).set o junk) := by
    have : own e' u y = elm (XS e' β) (rv u) y := by rw [XS_elm, h7]
    rw [← this]; exact h6
  exact h8.bag_push (by rw [List.getElem?_set, if_neg hob]; exact hb2)
theorem Holds.bag_nils (m : Nat) (h : Holds E w Γ) (β : Type) [GT β] (e' : TypeId) : Holds E w (bag (XS e' β) (List.replicate m rvz) (List.replicate m ([] : List β)) none :: Γ) :=
  h.know fun M _ _ => ⟨by simp, fun _ _ _ _ _ => trivial, fun _ => 0, fun _ _ h => (by cases h), fun i u x _ hu hx => by
    have hu' := List.eq_of_mem_replicate (List.mem_of_getElem? hu)
    have hx' := List.eq_of_mem_replicate (List.mem_of_getElem? hx)
    subst hu'; subst hx'
    exact .inl ⟨rfl, rfl, by funext b; simp [hnil]⟩⟩
theorem RL.mk_nest {k : Int} (hg : Wn ops σ g) (hd : Nat.blt d n = true) (hw : Holds E w Γ) (hx : ev σ q = .int .i64 k) (hy : ev σ r = .int .i64 k) (hT : ElT P t e 1 bytes) (hz : ZeD P e rvz)
    (ha : Gk.mk bytes ([] : List β) k = some xs) (kk : ∀ v' w' (us : List RV), Holds E w' (own e v' us :: bag (XS e' β) us xs none :: Γ) → RL P n ops rest (upd σ d v') w' Q) :
    RL P n ops (⟨some d, .makeSlice t q r, ty, pos, af, g⟩ :: rest) σ w Q := by
  unfold Gk.mk at ha
  split at ha
  · rename_i hc
    injection ha with ha
    subst ha
    exact RL.mk (l' := List.replicate k.toNat rvz) hg hd (hw.bag_nils k.toNat β e') hx hy hT hz (by unfold Gk.mk; rw [if_pos hc]) fun v' w' h => kk v' w' _ h
  · cases ha
end
section
variable {P : Program} {n : Nat} {σ : Nat → Value} {w : World} {Q : Post} {E : World} {Γ : List HP} {i j k o b : Nat}
variable {ops : Array Oper} {rest : List Oper} {d : Nat} {ty t T e e' : TypeId} {pos : String} {af : Array Edge} {g : Option (Nat × Bool)} {v vy u p : Value} {q r : Operand}
/-- A struct of slices goes into a new variable. -/
theorem RL.box_bca {cs : List Value} (hg : Wn ops σ g) (hd : Nat.blt d n = true) (hw : Holds E w Γ) (hx : ev σ q = .agg cs.toArray) (h1 : ∀ v ∈ cs, v.oneCell' = true)
    (kk : ∀ b w', Holds E w' (bc T b cs :: Γ) → RL P n ops rest (upd σ d (.pointer (some ⟨b, 0, none⟩))) w' Q) : RL P n ops (⟨some d, .box T q, ty, pos, af, g⟩ :: rest) σ w Q := by
  refine RL.val hg hd ?_ (kk w.heap.size (w.alloc (.cells cs.toArray T (0, 0))) (hw.alloc _ fun M hs gd => ⟨h1, rfl⟩))
  simp only [execOp, hx, Instr.box, newVar, newRow, newObj, Sem.run_bind, Sem.run_pure, Value.cells]
  rfl
end
end Go.Gk
