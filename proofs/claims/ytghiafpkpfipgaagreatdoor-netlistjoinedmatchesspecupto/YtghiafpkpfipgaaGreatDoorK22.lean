/-
  Structs told by their cells as one value; slices whose elements come to own their slices one by one. No statement of the seed is proved here.
-/
import Derived.Test.YtghiafpkpfipgaaGreatDoorK21
set_option linter.unusedVariables false
set_option linter.unusedSimpArgs false
set_option linter.unusedSectionVars false
namespace Go.Gk
open Go
section
variable {P : Program} {n : Nat} {σ : Nat → Value} {w : World} {Q : Post} {E : World} {Γ : List HP} {i j k o b m : Nat}
variable {ops : Array Oper} {rest : List Oper} {d : Nat} {ty t T e e' : TypeId} {pos : String} {af : Array Edge} {g : Option (Nat × Bool)} {v vy u p : Value} {q r : Operand} {cs : List Value}
theorem run_loadVar_bc (hw : Holds E w Γ) (hi : Γ[i]? = some (bc e b cs)) (hT : TyA P T true m) (hl : cs.length = m) : (loadVar T ⟨b, 0, none⟩).run P w = .ok (.agg cs.toArray) w := by
  obtain ⟨M, hs, gd⟩ := hw
  obtain ⟨_, hh⟩ := gd.sat i _ hi
  have hb := gd.le i b _ (lt_of_get hi) (by rw [hh]; exact one_self b _)
  have hat : ∀ j u, cs[j]? = some u → w.cell? ((⟨b, 0, none⟩ : Addr).add j) = some u := fun j u hu => by
    rw [Addr.add_lit, cell_of_row w b _ _ _ _ hb]; simpa using hu
  unfold loadVar
  simp only [Sem.run_bind, hT.isA, Result.andThen_ok, if_true, hT.sz, ← hl, run_loadCells_list w _ cs hat, Sem.run_pure]
/-- A struct told by its cells is read whole. -/
theorem RL.load_bca (hg : Wn ops σ g) (hd : Nat.blt d n = true) (hw : Holds E w Γ) (hx : ev σ q = .pointer (some ⟨b, 0, none⟩)) (hi : Γ[i]? = some (bc e b cs)) (hT : TyA P T true m) (hl : cs.length = m)
    (kk : RL P n ops rest (upd σ d (.agg cs.toArray)) w Q) : RL P n ops (⟨some d, .load T q, ty, pos, af, g⟩ :: rest) σ w Q := by
  refine RL.val hg hd ?_ kk
  simp only [execOp, hx, Instr.loadAt, Instr.sureAddr, Sem.run_bind, Sem.run_pure, Result.andThen_ok, run_loadVar_bc hw hi hT hl]
/-- The result lies in a variable told by its cells. -/
theorem finCa {fn : Func} {R : Value → World → Prop} {t' b : Nat} (hr : fn.results = #[.cell t' T]) (hw : Holds E w Γ) (hp : σ t' = .pointer (some ⟨b, 0, none⟩)) (hi : Γ[i]? = some (bc e b cs)) (hT : TyA P T true m) (hl : cs.length = m)
    (h : R (.agg cs.toArray) w) : finQ P n fn R .ret σ w := by
  refine ⟨.agg cs.toArray, fun a ha => ?_, h⟩
  have := run_loadVar_bc (P := P) hw hi hT hl
  simp [results, hr, ha.get, hp, asAddr, this]
end

/-! ### Elements that own their slice, or not yet -/
section
variable {ρ α β : Type} [GT ρ] [GT α] [GT β]
def okB (X : XT ρ α) (f : ρ → RV) (g : α → List β) (M h : Heap) (u : ρ) (p : Bool × α) : Prop := (p.1 = true ∧ X.ok M h u p.2) ∨ (p.1 = false ∧ h = hnil ∧ X.rest u p.2 ∧ sliceOk M (f u).v (g p.2))
def XB (X : XT ρ α) (f : ρ → RV) (g : α → List β) : XT ρ (Bool × α) where
  rest := fun u p => X.rest u p.2
  ok := okB X f g
  mono := fun {M M' h u p} hk hh => hh.elim (fun h => .inl ⟨h.1, X.mono hk h.2⟩) (fun h => .inr ⟨h.1, h.2.1, h.2.2.1, h.2.2.2.mono hk⟩)
  res := fun {M h u p} hh => hh.elim (fun h => X.res h.2) (fun h => h.2.2.1)
def allT {α : Type} (l : List (Bool × α)) : Option (List α) := if l.all (fun p => p.1) = true then some (l.map fun p => p.2) else none
def ffq {α : Type} (p : Bool × α) : Option α := if p.1 = true then none else some p.2
structure XP (X : XT ρ α) (e' : TypeId) (off : Nat) (fs : ρ → RV → ρ) (gs : α → List β → α) : Prop where
  hfs : Fs off RV fs
  le : off + 1 ≤ GT.sz ρ
  put : ∀ {M h' u x r y}, X.rest u x → ownV e' M h' (RV.v r) y → X.ok M h' (fs u r) (gs x y)
end
section
variable {ρ α β : Type} [GT ρ] [GT α] [GT β] {X : XT ρ α} {E w : World} {Γ : List HP} {i j : Nat} {e e' : TypeId} {v : Value} {xs : List α} {f : ρ → RV} {gg : α → List β}
theorem Holds.to_flags (hsz : GT.sz ρ = GT.sz α) (hraw : ∀ M cs x, GT.ok M cs x → ∃ u : ρ, GT.ok M cs u ∧ X.rest u x ∧ sliceOk M (f u).v (gg x)) (h : Holds E w Γ) (hj : Γ[j]? = some (own e v xs)) :
    ∃ us : List ρ, Holds E w (bag (XB X f gg) us (xs.map fun x => (false, x)) none :: Γ.set j (own e v us)) := by
  obtain ⟨M, hs, g⟩ := h
  have hlt := lt_of_get hj
  have build : ∀ (cells : List Value), Cells M cells xs → ∃ us : List ρ, us.length = xs.length ∧ Cells M cells us ∧ ∀ (a : Nat) u x, us[a]? = some u → xs[a]? = some x → X.rest u x ∧ sliceOk M (f u).v (gg x) := by
    intro cells hc
    have hex : ∀ a : Fin xs.length, ∃ u : ρ, GT.ok M ((cells.drop (a.1 * GT.sz α)).take (GT.sz α)) u ∧ X.rest u xs[a.1] ∧ sliceOk M (f u).v (gg xs[a.1]) := fun a =>
      hraw M _ _ (hc.2 a.1 xs[a.1] (List.getElem?_eq_getElem a.2))
    refine ⟨List.ofFn fun a => (hex a).choose, by simp, ⟨by rw [List.length_ofFn, hsz]; exact hc.1, fun a u hu => ?_⟩, fun a u x hu hx => ?_⟩
    · have ha : a < xs.length := by have := (List.getElem?_eq_some_iff.1 hu).1; simpa using this
      rw [List.getElem?_ofFn, dif_pos ha] at hu
      injection hu with hu; subst hu
      rw [hsz]; exact (hex ⟨a, ha⟩).choose_spec.1
    · have ha : a < xs.length := (List.getElem?_eq_some_iff.1 hx).1
      rw [List.getElem?_ofFn, dif_pos ha] at hu
      injection hu with hu; subst hu
      rw [List.getElem?_eq_getElem ha] at hx; injection hx with hx; subst hx
      exact (hex ⟨a, ha⟩).choose_spec.2
  have fin : ∀ us : List ρ, us.length = xs.length → (∀ (a : Nat) u x, us[a]? = some u → xs[a]? = some x → X.rest u x ∧ sliceOk M (f u).v (gg x)) → (own e v us).ok M (hs j) → Holds E w (bag (XB X f gg) us (xs.map fun x => (false, x)) none :: Γ.set j (own e v us)) := by
    intro us hl hq ho
    have g2 := g.update (w' := w) (P' := own e v us) hlt (hs j) ho rfl rfl rfl (fun b o hb => g.le j b o hlt hb) (fun b o hb => .inl ⟨o, hb⟩) (fun _ _ _ => rfl)
    have hget : ∀ (a : Nat) u p, us[a]? = some u → (xs.map fun x => (false, x))[a]? = some p → ∃ x, xs[a]? = some x ∧ p = (false, x) := fun a u p hu hp => by
      rw [List.getElem?_map] at hp
      cases hx : xs[a]? with
      | none => rw [hx] at hp; cases hp
      | some x => rw [hx] at hp; injection hp with hp; exact ⟨x, rfl, hp.symm⟩
    refine ⟨M, _, g2.cons_nil ⟨by simp [hl], fun a u p hu hp => ?_, fun _ => 0, fun _ _ h => (by cases h), fun a u p _ hu hp => ?_⟩⟩
    · obtain ⟨x, hx, rfl⟩ := hget a u p hu hp
      exact (hq a u x hu hx).1
    · obtain ⟨x, hx, rfl⟩ := hget a u p hu hp
      exact .inr ⟨rfl, by funext b; simp [hnil], (hq a u x hu hx).1, (hq a u x hu hx).2⟩
  rcases g.sat j _ hj with ⟨h1, h2, h3⟩ | ⟨b, o, cap, cur, cells, h1, h2, h3, h4, h5, h6, h7⟩
  · subst h2
    exact ⟨[], fin [] rfl (fun a u x hu => by simp at hu) (.inl ⟨h1, rfl, h3⟩)⟩
  · obtain ⟨us, hl, hc, hq⟩ := build cells h7
    refine ⟨us, fin us hl hq (.inr ⟨b, o, cap, cur, cells, by rw [hl]; exact h1, by rw [hl]; exact h2, h3, h4, by rw [hsz]; exact h5, by rw [hl, hsz]; exact h6, hc⟩)⟩
theorem Holds.all_flags {us : List ρ} {ps : List (Bool × α)} {ys : List α} (h : Holds E w Γ) (hj : Γ[j]? = some (bag (XB X f gg) us ps none)) (ha : allT ps = some ys) : Holds E w (Γ.set j (bag X us ys none)) := by
  unfold allT at ha
  split at ha
  case isFalse => cases ha
  rename_i hall
  injection ha with ha
  subst ha
  obtain ⟨M, hs, g⟩ := h
  obtain ⟨hl, hr, c, hc, hok⟩ := g.sat j _ hj
  have hlt := lt_of_get hj
  have hget : ∀ (a : Nat) x, (ps.map fun p => p.2)[a]? = some x → ps[a]? = some (true, x) := fun a x hx => by
    rw [List.getElem?_map] at hx
    cases hp : ps[a]? with
    | none => rw [hp] at hx; cases hx
    | some p =>
      rw [hp] at hx; injection hx with hx; subst hx
      have := List.all_eq_true.1 hall p (List.mem_of_getElem? hp)
      obtain ⟨p1, p2⟩ := p
      simp at this; subst this; rfl
  refine ⟨M, _, g.update (w' := w) (P' := bag X us (ps.map fun p => p.2) none) hlt (hs j) ⟨by simp [hl], fun a u x hu hx => hr a u _ hu (hget a x hx), c, hc, fun a u x hn hu hx => ?_⟩ rfl rfl rfl (fun b o hb => g.le j b o hlt hb) (fun b o hb => .inl ⟨o, hb⟩) (fun _ _ _ => rfl)⟩
  rcases hok a u _ hn hu (hget a x hx) with h | h
  · exact h.2
  · cases h.1
theorem XB_oth {γ : Type} {fs2 : ρ → γ → ρ} {gs2 : α → γ → α} (h1 : ∀ M h u x y, X.ok M h u x → X.ok M h (fs2 u y) (gs2 x y)) (h2 : ∀ u x y, X.rest u x → X.rest (fs2 u y) (gs2 x y)) (h3 : ∀ u y, f (fs2 u y) = f u) (h4 : ∀ x y, gg (gs2 x y) = gg x) :
    ∀ M h u (p : Bool × α) y, (XB X f gg).ok M h u p → (XB X f gg).ok M h (fs2 u y) (p.1, gs2 p.2 y) := fun M h u p y hh => by
  rcases hh with a | a
  · exact .inl ⟨a.1, h1 _ _ _ _ _ a.2⟩
  · exact .inr ⟨a.1, a.2.1, h2 _ _ _ a.2.2.1, by rw [h3, h4]; exact a.2.2.2⟩
theorem XB_xp {off : Nat} {fs : ρ → RV → ρ} {gs : α → List β → α} (o : XP (β := β) X e' off fs gs) : XP (XB X f gg) e' off fs (fun p y => (true, gs p.2 y)) :=
  ⟨o.hfs, o.le, fun {M h' u x r y} hr ho => .inl ⟨rfl, o.put hr ho⟩⟩
end
section
variable {ρ α β : Type} [GT ρ] [GT α] [GT β] {P : Program} {n : Nat} {σ : Nat → Value} {w : World} {Q : Post} {E : World} {Γ : List HP} {i j k o b : Nat}
variable {ops : Array Oper} {rest : List Oper} {d : Nat} {ty t T e e' : TypeId} {pos : String} {af : Array Edge} {g : Option (Nat × Bool)} {v vy u p : Value} {q r : Operand}
variable {X : XT ρ α} {us : List ρ} {xs xs' : List α} {x : α} {y : List β} {jj : Int} {z : ρ} {bytes off : Nat} {f : ρ → RV} {fs : ρ → RV → ρ} {gg : α → List β} {gs : α → List β → α}
/-- An element's own slice is written; what was there is given up. -/
theorem RL.store_nestP (O : XP (β := β) X e' off fs gs) (z : ρ) (hg : Wn ops σ g) (hw : Holds E w Γ) (hx : ev σ q = p) (hy : ev σ r = u) (hp : elP v jj.toNat (GT.sz ρ) off p) (hi : Γ[i]? = some (own e v us))
    (hb : Γ[b]? = some (bag X us xs none)) (ho : Γ[o]? = some (own e' u y)) (hxs : idx xs jj = some x) (hib : i ≠ b) (hob : o ≠ b) (hio : i ≠ o) (hT : TyA P T false 1)
    (kk : ∀ w', Holds E w' (((Γ.set i (own e v (us.set jj.toNat (fs (us.getD jj.toNat z) (rv u))))).set o junk).set b (bag X (us.set jj.toNat (fs (us.getD jj.toNat z) (rv u))) (xs.set jj.toNat (gs x y)) none)) → RL P n ops rest σ w' Q) :
    RL P n ops (⟨none, .store T q r, ty, pos, af, g⟩ :: rest) σ w Q := by
  have hl := hw.bag_len hb
  have hrv := hw.rd_rv ho
  refine RL.store_el (i := i + 1) (j := 0) (f := fs) (y := rv u) hg hrv hx hy hp (by simpa using hi) (rdi z hl hxs) rfl O.hfs O.le hT fun w' hw' => ?_
  refine kk w' ?_
  have hw2 : Holds E w' (Γ.set i (own e v (us.set jj.toNat (fs (us.getD jj.toNat z) (rv u))))) := hw'.drop 1 rfl
  have hb2 : (Γ.set i (own e v (us.set jj.toNat (fs (us.getD jj.toNat z) (rv u)))))[b]? = some (bag X us xs none) := by rw [List.getElem?_set, if_neg hib]; exact hb
  have ho2 : (Γ.set i (own e v (us.set jj.toNat (fs (us.getD jj.toNat z) (rv u)))))[o]? = some (own e' u y) := by rw [List.getElem?_set, if_neg hio]; exact ho
  have hr := hw2.bag_rest hb2 (rdi z hl hxs) (idx_some hxs).2.1
  have h4 := hw2.focus hb2 (rdi z hl hxs) (idx_some hxs).2.1
  have h5 : Holds E w' ((Γ.set i (own e v (us.set jj.toNat (fs (us.getD jj.toNat z) (rv u))))).set b (bag X us xs (some jj.toNat))) := h4.drop 1 rfl
  have hb3 : ((Γ.set i (own e v (us.set jj.toNat (fs (us.getD jj.toNat z) (rv u))))).set b (bag X us xs (some jj.toNat)))[b]? = some (bag X us xs (some jj.toNat)) := by
    rw [List.getElem?_set, if_pos rfl, if_pos (lt_of_get hb2)]
  have ho3 : ((Γ.set i (own e v (us.set jj.toNat (fs (us.getD jj.toNat z) (rv u))))).set b (bag X us xs (some jj.toNat)))[o]? = some (own e' u y) := by
    rw [List.getElem?_set, if_neg (fun h => hob h.symm)]; exact ho2
  have h6 := h5.pull ho3
  have h1 : (rv u).v = u := by
    obtain ⟨a, c, hv⟩ := hw.own_slice ho
    exact rv_v (by rw [hv]; rfl)
  have h7 : Holds E w' (elm X (fs (us.getD jj.toNat z) (rv u)) (gs x y) :: ((Γ.set i (own e v (us.set jj.toNat (fs (us.getD jj.toNat z) (rv u))))).set b (bag X us xs (some jj.toNat))).set o junk) := by
    obtain ⟨M, hs, gd⟩ := h6
    have := gd.update (w' := w') (P' := elm X (fs (us.getD jj.toNat z) (rv u)) (gs x y)) (i := 0) (by simp) (hs 0) (O.put hr (by rw [h1]; exact gd.sat 0 _ rfl)) rfl rfl rfl (fun b o hb => gd.le 0 b o (by simp) hb) (fun b o hb => .inl ⟨o, hb⟩) (fun _ _ _ => rfl)
    exact ⟨_, _, this⟩
  have h8 := h7.unfocus (j := b) (i := jj.toNat) (by rw [List.getElem?_set, if_neg hob]; exact hb3) (by rw [hl]; exact (idx_some hxs).2.2)
  rw [List.set_comm _ _ (fun h => hob h.symm), List.set_set] at h8
  exact h8
/-- A field that is no own slice is written. -/
theorem RL.store_oth {γ : Type} [GT γ] {off2 : Nat} {fs2 : ρ → γ → ρ} {gs2 : α → γ → α} {y2 : γ} (hF : Fs off2 γ fs2) (hle : off2 + GT.sz γ ≤ GT.sz ρ) (hput : ∀ M h u x y, X.ok M h u x → X.ok M h (fs2 u y) (gs2 x y)) (z : ρ) (hg : Wn ops σ g) (hw : Holds E w Γ) (hx : ev σ q = p) (hy : ev σ r = u)
    (hp : elP v jj.toNat (GT.sz ρ) off2 p) (hi : Γ[i]? = some (own e v us)) (hb : Γ[b]? = some (bag X us xs none)) (hj : Γ[j]? = some (rd u y2)) (hxs : idx xs jj = some x) (hib : i ≠ b) (hT : TyA P T (GT.agg γ) (GT.sz γ))
    (kk : ∀ w', Holds E w' ((Γ.set i (own e v (us.set jj.toNat (fs2 (us.getD jj.toNat z) y2)))).set b (bag X (us.set jj.toNat (fs2 (us.getD jj.toNat z) y2)) (xs.set jj.toNat (gs2 x y2)) none)) → RL P n ops rest σ w' Q) :
    RL P n ops (⟨none, .store T q r, ty, pos, af, g⟩ :: rest) σ w Q := by
  have hl := hw.bag_len hb
  refine RL.store_el (i := i) (j := j) (f := fs2) (y := y2) hg hw hx hy hp hi (rdi z hl hxs) hj hF hle hT fun w' hw2 => ?_
  refine kk w' ?_
  have hb2 : (Γ.set i (own e v (us.set jj.toNat (fs2 (us.getD jj.toNat z) y2))))[b]? = some (bag X us xs none) := by rw [List.getElem?_set, if_neg hib]; exact hb
  have h4 := hw2.focus hb2 (rdi z hl hxs) (idx_some hxs).2.1
  have h7 : Holds E w' (elm X (fs2 (us.getD jj.toNat z) y2) (gs2 x y2) :: (Γ.set i (own e v (us.set jj.toNat (fs2 (us.getD jj.toNat z) y2)))).set b (bag X us xs (some jj.toNat))) := by
    obtain ⟨M, hs, gd⟩ := h4
    have := gd.update (w' := w') (P' := elm X (fs2 (us.getD jj.toNat z) y2) (gs2 x y2)) (i := 0) (by simp) (hs 0) (hput _ _ _ _ _ (gd.sat 0 _ rfl)) rfl rfl rfl (fun b o hb => gd.le 0 b o (by simp) hb) (fun b o hb => .inl ⟨o, hb⟩) (fun _ _ _ => rfl)
    exact ⟨_, _, this⟩
  have h8 := h7.unfocus (j := b) (i := jj.toNat) (by rw [List.getElem?_set, if_pos rfl, if_pos (lt_of_get hb2)]) (by rw [hl]; exact (idx_some hxs).2.2)
  rw [List.set_set] at h8
  exact h8
/-- A slice that is not owned yet is read. -/
theorem RL.load_flag {ps : List (Bool × α)} {pp : Bool × α} (hfd : Fd off f) (z : ρ) (hg : Wn ops σ g) (hd : Nat.blt d n = true) (hw : Holds E w Γ) (hx : ev σ q = p) (hp : elP v jj.toNat (GT.sz ρ) off p) (hi : Γ[i]? = some (own e v us))
    (hb : Γ[b]? = some (bag (XB X f gg) us ps none)) (hxs : idx ps jj = some pp) (hf : ffq pp = some x) (hT : TyA P T false 1)
    (kk : Holds E w (rd (f (us.getD jj.toNat z)).v (gg x) :: Γ) → RL P n ops rest (upd σ d (f (us.getD jj.toNat z)).v) w Q) :
    RL P n ops (⟨some d, .load T q, ty, pos, af, g⟩ :: rest) σ w Q := by
  have hl := hw.bag_len hb
  refine RL.load_els (f := f) hg hd hw hx hp hi (rdi z hl hxs) hfd hT (kk ?_)
  obtain ⟨b1, b2⟩ := pp
  unfold ffq at hf
  split at hf
  · cases hf
  · rename_i hne
    injection hf with hf
    dsimp only at hf; subst hf
    obtain ⟨M, hs, gd⟩ := hw
    obtain ⟨_, _, c, _, hok⟩ := gd.sat b _ hb
    have h := hok jj.toNat _ _ (by simp) (rdi z hl hxs) (idx_some hxs).2.1
    rcases h with h' | h'
    · exact absurd h'.1 hne
    · exact ⟨M, _, gd.cons_nil ⟨rdV_list.2 h'.2.2.2, rfl⟩⟩
end
end Go.Gk
