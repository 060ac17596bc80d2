/-
  Elements of owned slices: their addresses, reads, writes; make; cutting an owned slice.
  No statement of the seed is proved here.
-/
import Derived.Test.YtfkpknhicijjbaaK9
set_option linter.unusedVariables false
set_option linter.unusedSimpArgs false
set_option linter.unusedSectionVars false
namespace Go.Gk
open Go

def spl {α : Type} (a : Nat) (ds xs : List α) : List α := xs.take a ++ ds ++ xs.drop (a + ds.length)
theorem spl_length {α : Type} {a : Nat} {ds xs : List α} (h : a + ds.length ≤ xs.length) : (spl a ds xs).length = xs.length := by
  unfold spl; rw [List.length_append, List.length_append, List.length_take, List.length_drop]; omega
theorem spl_get {α : Type} {a : Nat} {ds xs : List α} (h : a + ds.length ≤ xs.length) (t : Nat) :
    (spl a ds xs)[t]? = if t < a then xs[t]? else if t < a + ds.length then ds[t - a]? else xs[t]? := by
  unfold spl
  have hl : (xs.take a).length = a := by rw [List.length_take]; omega
  by_cases h1 : t < a
  · rw [if_pos h1, List.append_assoc, List.getElem?_append_left (by omega), List.getElem?_take, if_pos h1]
  · rw [if_neg h1, List.append_assoc, List.getElem?_append_right (by omega), hl]
    by_cases h2 : t < a + ds.length
    · rw [if_pos h2, List.getElem?_append_left (by omega)]
    · rw [if_neg h2, List.getElem?_append_right (by omega), List.getElem?_drop]
      congr 1; omega

/-- p is the address of cell off in element k of the slice v. -/
def elP (v : Value) (k sz off : Nat) (p : Value) : Prop := ∃ a n c, v = .slice (some a) n c ∧ p = .pointer (some (a.add (k * sz + off)))
theorem mulsz {i k sz : Nat} (h : i < k) : i * sz + sz ≤ k * sz := by
  calc i * sz + sz = (i + 1) * sz := by rw [Nat.add_mul, Nat.one_mul]
    _ ≤ k * sz := Nat.mul_le_mul_right _ h

section
variable {α β : Type} [GT α] [GT β] {P : Program} {n : Nat} {σ : Nat → Value} {w : World} {Q : Post} {E : World} {Γ : List HP} {i j : Nat}
variable {ops : Array Oper} {rest : List Oper} {d : Nat} {ty T T' e : TypeId} {pos : String} {af : Array Edge} {g : Option (Nat × Bool)} {v u p : Value} {q r : Operand} {l l' : List α} {x : α} {jj : Int} {k off : Nat}

theorem idx_some {α : Type} {l : List α} {jj : Int} {x : α} (h : idx l jj = some x) : 0 ≤ jj ∧ l[jj.toNat]? = some x ∧ jj.toNat < l.length := by
  unfold idx at h
  split at h
  · rename_i h0; exact ⟨h0, h, (List.getElem?_eq_some_iff.1 h).1⟩
  · cases h
theorem RL.ia_own {K : IntKind} (hg : Wn ops σ g) (hd : Nat.blt d n = true) (hw : Holds E w Γ) (hx : ev σ q = v) (hy : ev σ r = .int K jj) (hi : Γ[i]? = some (own e v l))
    (hT : SlT P T e (GT.sz α)) (hj : idx l jj = some x) (kk : ∀ p, elP v jj.toNat (GT.sz α) 0 p → RL P n ops rest (upd σ d p) w Q) :
    RL P n ops (⟨some d, .indexAddr T q r, ty, pos, af, g⟩ :: rest) σ w Q := by
  obtain ⟨h0, hx', hlt⟩ := idx_some hj
  obtain ⟨M, hs, gd⟩ := hw
  rcases gd.sat i _ hi with ⟨rfl, rfl, _⟩ | ⟨b, o, cap, cur, xs, rfl, h2, _⟩
  · simp at hlt
  · refine RL.val (v := .pointer (some ((⟨b, o, none⟩ : Addr).add (jj.toNat * GT.sz α)))) hg hd ?_ (kk _ ⟨_, _, _, rfl, by rw [Nat.add_zero]⟩)
    have hlt' : jj < (l.length : Nat) := by omega
    simp only [execOp, hx, hy, Instr.indexAt, asIntOf, Sem.run_bind, Sem.run_pure, Result.andThen_ok, run_underlying hT.und, hT.sz, h0, hlt', and_self, if_true]
/-- The address of cell off in element k of the slice v. -/
def elA (v : Value) (k sz off : Nat) : Value := match v with | .slice (some a) _ _ => .pointer (some (a.add (k * sz + off))) | _ => undef
theorem elp {w : World} {E : World} {Γ : List HP} {i : Nat} {v : Value} {l : List α} {jj : Int} {x : α} (hw : Holds E w Γ) (hi : Γ[i]? = some (own e v l)) (hx : idx l jj = some x) (off : Nat) : elP v jj.toNat (GT.sz α) off (elA v jj.toNat (GT.sz α) off) := by
  obtain ⟨h0, hx', hlt⟩ := idx_some hx
  obtain ⟨M, hs, gd⟩ := hw
  rcases gd.sat i _ hi with ⟨rfl, rfl, _⟩ | ⟨b, o, cap, cur, xs, rfl, h2, _⟩
  · simp at hlt
  · exact ⟨_, _, _, rfl, rfl⟩
theorem RL.ia_ownA {K : IntKind} (hg : Wn ops σ g) (hd : Nat.blt d n = true) (hw : Holds E w Γ) (hx : ev σ q = v) (hy : ev σ r = .int K jj) (hi : Γ[i]? = some (own e v l))
    (hT : SlT P T e (GT.sz α)) (hj : idx l jj = some x) (kk : RL P n ops rest (upd σ d (elA v jj.toNat (GT.sz α) 0)) w Q) :
    RL P n ops (⟨some d, .indexAddr T q r, ty, pos, af, g⟩ :: rest) σ w Q :=
  RL.ia_own hg hd hw hx hy hi hT hj fun p hp => by
    obtain ⟨a, n', c, hv, rfl⟩ := hp
    have : elA v jj.toNat (GT.sz α) 0 = .pointer (some (a.add (jj.toNat * GT.sz α + 0))) := by rw [hv]; rfl
    rw [← this]; exact kk
theorem RL.fa_el {m jx : Nat} (hg : Wn ops σ g) (hd : Nat.blt d n = true) (hx : ev σ q = p) (hp : elP v k (GT.sz α) off p) (hf : FAt P T jx m)
    (kk : ∀ p', elP v k (GT.sz α) (off + m) p' → RL P n ops rest (upd σ d p') w Q) : RL P n ops (⟨some d, .fieldAddr T q jx, ty, pos, af, g⟩ :: rest) σ w Q := by
  obtain ⟨a, n', c, hv, hp⟩ := hp
  refine RL.val (v := .pointer (some ((a.add (k * GT.sz α + off)).add m))) hg hd ?_ (kk _ ⟨a, n', c, hv, by rw [add_add, Nat.add_assoc]⟩)
  simp only [execOp, hx, hp, Sem.run_bind, hf.run, Result.andThen_ok, Sem.run_pure]
theorem RL.fa_elA {m jx : Nat} (hg : Wn ops σ g) (hd : Nat.blt d n = true) (hx : ev σ q = elA v k (GT.sz α) off) (hp : elP v k (GT.sz α) off (elA v k (GT.sz α) off)) (hf : FAt P T jx m)
    (kk : RL P n ops rest (upd σ d (elA v k (GT.sz α) (off + m))) w Q) : RL P n ops (⟨some d, .fieldAddr T q jx, ty, pos, af, g⟩ :: rest) σ w Q :=
  RL.fa_el (α := α) hg hd hx hp hf fun p hp => by
    obtain ⟨a, n', c, hv, rfl⟩ := hp
    have : elA v k (GT.sz α) (off + m) = .pointer (some (a.add (k * GT.sz α + (off + m)))) := by rw [hv]; rfl
    rw [← this]; exact kk
/-- An element, or a field of it, is read. -/
theorem RL.load_el {f : α → β} (hg : Wn ops σ g) (hd : Nat.blt d n = true) (hw : Holds E w Γ) (hx : ev σ q = p) (hp : elP v k (GT.sz α) off p) (hi : Γ[i]? = some (own e v l)) (hl : l[k]? = some x) (hF : Fd off f)
    (hT : TyA P T (GT.agg β) (GT.sz β)) (kk : ∀ u, Holds E w (rd u (f x) :: Γ) → RL P n ops rest (upd σ d u) w Q) : RL P n ops (⟨some d, .load T q, ty, pos, af, g⟩ :: rest) σ w Q := by
  obtain ⟨M, hs, gd⟩ := hw
  obtain ⟨a, n', c, hv, hpp⟩ := hp
  have hkl := (List.getElem?_eq_some_iff.1 hl).1
  rcases gd.sat i _ hi with ⟨hv', rfl, _⟩ | ⟨b, o, cap, cur, xs, hv', h2, h3, h4, h5, h6, h7⟩
  · simp at hkl
  · rw [hv] at hv'
    injection hv' with e1 e2 e3
    injection e1 with e1
    subst e1
    have hb := gd.le i b _ (lt_of_get hi) (by rw [h4]; exact one_self b _)
    have ho := hF M _ x (h7.2 k x hl)
    refine RL.val (v := vof β ((((xs.drop (k * GT.sz α)).take (GT.sz α)).drop off).take (GT.sz β))) hg hd ?_ (kk _ ⟨M, _, gd.cons_nil ⟨⟨_, rfl, ho⟩, rfl⟩⟩)
    simp only [execOp, hx, hpp, Instr.loadAt, Instr.sureAddr, Sem.run_bind, Sem.run_pure, Result.andThen_ok]
    rw [run_loadVar hT ho (fun t y hy => ?_)]
    rfl
    rw [Addr.add_lit, Addr.add_lit, cell_of_row w b _ _ _ _ hb, ← Array.getElem?_toList]
    rw [List.getElem?_take] at hy
    split at hy
    · rw [List.getElem?_drop, List.getElem?_take] at hy
      split at hy
      · rw [List.getElem?_drop, ← h6, List.getElem?_take] at hy
        split at hy
        · rw [List.getElem?_drop] at hy
          rw [← hy]; congr 1; omega
        · cases hy
      · cases hy
    · cases hy
theorem RL.load_els {γ : Type} [Sc γ] {f : α → γ} (hg : Wn ops σ g) (hd : Nat.blt d n = true) (hw : Holds E w Γ) (hx : ev σ q = p) (hp : elP v k (GT.sz α) off p) (hi : Γ[i]? = some (own e v l)) (hl : l[k]? = some x) (hF : Fd off f)
    (hT : TyA P T false 1) (kk : RL P n ops rest (upd σ d (Sc.toV (f x))) w Q) : RL P n ops (⟨some d, .load T q, ty, pos, af, g⟩ :: rest) σ w Q := by
  refine RL.load_el (f := f) hg hd hw hx hp hi hl hF hT fun u h => ?_
  rw [h.ofSc (i := 0) rfl]; exact kk
/-- An element, or a field of it, is written. -/
theorem RL.store_el {f : α → β → α} {y : β} (hg : Wn ops σ g) (hw : Holds E w Γ) (hx : ev σ q = p) (hy : ev σ r = u) (hp : elP v k (GT.sz α) off p) (hi : Γ[i]? = some (own e v l)) (hl : l[k]? = some x) (hj : Γ[j]? = some (rd u y))
    (hF : Fs off β f) (hm : off + GT.sz β ≤ GT.sz α) (hT : TyA P T (GT.agg β) (GT.sz β)) (kk : ∀ w', Holds E w' (Γ.set i (own e v (l.set k (f x y)))) → RL P n ops rest σ w' Q) :
    RL P n ops (⟨none, .store T q r, ty, pos, af, g⟩ :: rest) σ w Q := by
  obtain ⟨M, hs, gd⟩ := hw
  obtain ⟨a, n', c, hv, hpp⟩ := hp
  have hkl := (List.getElem?_eq_some_iff.1 hl).1
  have hr := (gd.sat j _ hj).1
  rcases gd.sat i _ hi with ⟨hv', rfl, _⟩ | ⟨b, o, cap, cur, xs, hv', h2, h3, h4, h5, h6, h7⟩
  · simp at hkl
  · have hv0 := hv'
    rw [hv] at hv'
    injection hv' with e1 e2 e3
    injection e1 with e1
    subst e1
    have hb := gd.le i b _ (lt_of_get hi) (by rw [h4]; exact one_self b _)
    have hc : u.cells.size = GT.sz β := by rw [← GT.len hr.cells]; simp
    have hcl : u.cells.toList.length = GT.sz β := GT.len hr.cells
    have hks := mulsz (sz := GT.sz α) hkl
    have hcap : l.length * GT.sz α ≤ cap * GT.sz α := Nat.mul_le_mul_right _ h2
    have hcs : o + cap * GT.sz α ≤ cur.toList.length := h5
    have hrun := run_storeVar (P := P) (v := u) (o := o + (k * GT.sz α + off)) hT.sz hc (GT.one hr.cells) hb (by omega)
    have hnew : (cur.toList.take (o + (k * GT.sz α + off)) ++ u.cells.toList ++ cur.toList.drop (o + (k * GT.sz α + off) + GT.sz β)) = spl (o + (k * GT.sz α + off)) u.cells.toList cur.toList := by
      unfold spl; rw [hcl]
    rw [hnew] at hrun
    have hfit : o + (k * GT.sz α + off) + u.cells.toList.length ≤ cur.toList.length := by rw [hcl]; omega
    have hxl : xs.length = l.length * GT.sz α := h7.1
    have hget : ∀ t, xs[t]? = if t < l.length * GT.sz α then cur.toList[o + t]? else none := fun t => by
      rw [← h6, List.getElem?_take, List.getElem?_drop]
    refine RL.unit hg ?_ (kk _ (setRow_good (P' := own e v (l.set k (f x y))) (new := (spl (o + (k * GT.sz α + off)) u.cells.toList cur.toList).toArray) gd hi h4 (.inr ⟨b, o, cap, _, ((spl (o + (k * GT.sz α + off)) u.cells.toList cur.toList).drop o).take (l.length * GT.sz α), by rw [List.length_set]; exact hv0, by rw [List.length_set]; exact h2, h3, rfl, ?_, by rw [List.length_set], ?_⟩)))
    · simp only [execOp, hx, hy, hpp, Instr.storeAt, Instr.sureAddr, Sem.run_bind, Sem.run_pure, Result.andThen_ok, Addr.add_lit, hrun]
    · rw [List.size_toArray, spl_length hfit]; exact hcs
    · refine ⟨by rw [List.length_take, List.length_drop, spl_length hfit, List.length_set]; omega, fun m z hz => ?_⟩
      rw [List.getElem?_set] at hz
      by_cases hmk : k = m
      · subst hmk
        rw [if_pos rfl, if_pos hkl] at hz
        injection hz with hz
        subst hz
        have hok := hF M _ _ x y (h7.2 k x hl) hr.cells
        have heq : (List.drop (k * GT.sz α) (((spl (o + (k * GT.sz α + off)) u.cells.toList cur.toList).drop o).take (l.length * GT.sz α))).take (GT.sz α) =
            (List.take (GT.sz α) (List.drop (k * GT.sz α) xs)).take off ++ u.cells.toList ++ (List.take (GT.sz α) (List.drop (k * GT.sz α) xs)).drop (off + GT.sz β) := by
          have e0 : (List.take (GT.sz α) (List.drop (k * GT.sz α) xs)).take off ++ u.cells.toList ++ (List.take (GT.sz α) (List.drop (k * GT.sz α) xs)).drop (off + GT.sz β) = spl off u.cells.toList (List.take (GT.sz α) (List.drop (k * GT.sz α) xs)) := by
            unfold spl; rw [hcl]
          rw [e0]
          apply List.ext_getElem?
          intro t
          rw [spl_get (by rw [hcl, List.length_take, List.length_drop]; omega), List.getElem?_take, List.getElem?_drop, List.getElem?_take, List.getElem?_drop, spl_get hfit, hcl]
          simp only [List.getElem?_take, List.getElem?_drop, hget]
          by_cases ht : t < GT.sz α
          · rw [if_pos ht, if_pos (by omega)]
            by_cases h1 : t < off
            · rw [if_pos (by omega), if_pos h1, if_pos ht, if_pos (by omega)]
            · rw [if_neg (by omega), if_neg h1]
              by_cases h2' : t < off + GT.sz β
              · rw [if_pos (by omega), if_pos h2']; congr 1; omega
              · rw [if_neg (by omega), if_neg h2', if_pos ht, if_pos (by omega)]
          · rw [if_neg ht, if_neg (by omega), if_neg (by omega), if_neg ht]
        rw [heq]; exact hok
      · rw [if_neg hmk] at hz
        have hml := (List.getElem?_eq_some_iff.1 hz).1
        have hms := mulsz (sz := GT.sz α) hml
        have hok := h7.2 m z hz
        have heq : (List.drop (m * GT.sz α) (((spl (o + (k * GT.sz α + off)) u.cells.toList cur.toList).drop o).take (l.length * GT.sz α))).take (GT.sz α) = (List.drop (m * GT.sz α) xs).take (GT.sz α) := by
          apply List.ext_getElem?
          intro t
          simp only [List.getElem?_take, List.getElem?_drop, spl_get hfit, hcl, hget]
          by_cases ht : t < GT.sz α
          · rw [if_pos ht, if_pos ht, if_pos (show m * GT.sz α + t < l.length * GT.sz α by omega), if_pos (show m * GT.sz α + t < l.length * GT.sz α by omega)]
            rcases Nat.lt_or_gt_of_ne hmk with h1 | h1
            · have := mulsz (sz := GT.sz α) h1
              rw [if_neg (by omega), if_neg (by omega)]
            · have := mulsz (sz := GT.sz α) h1
              rw [if_pos (by omega)]
          · rw [if_neg ht, if_neg ht]
        rw [heq]; exact hok
/-- An owned slice, cut: the rest is owned no more. -/
theorem RL.cut_own {lop hip : Option Operand} {lo hi : Int} (hg : Wn ops σ g) (hd : Nat.blt d n = true) (hw : Holds E w Γ) (hx : ev σ q = v) (hi' : Γ[i]? = some (own e v l)) (hT : SlT P T e (GT.sz α))
    (hl : lop.map (ev σ) = some (.int .i64 lo) ∨ (lop.map (ev σ) = none ∧ lo = 0)) (hh : hip.map (ev σ) = some (.int .i64 hi) ∨ (hip.map (ev σ) = none ∧ hi = (l.length : Nat)))
    (hb : slc l lo hi = some l') (kk : ∀ v', Holds E w (Γ.set i (own e v' l')) → RL P n ops rest (upd σ d v') w Q) :
    RL P n ops (⟨some d, .slice T q lop hip none, ty, pos, af, g⟩ :: rest) σ w Q := by
  unfold slc at hb
  split at hb
  · rename_i hc
    injection hb with hb
    subst hb
    obtain ⟨M, hs, gd⟩ := hw
    have hlt := lt_of_get hi'
    have hlen : ((l.drop lo.toNat).take (hi - lo).toNat).length = hi.toNat - lo.toNat := by rw [List.length_take, List.length_drop]; omega
    rcases gd.sat i _ hi' with ⟨rfl, rfl, hh0⟩ | ⟨b, o, cap, cur, xs, rfl, h2, h3, h4, h5, h6, h7⟩
    · have hr := run_cut (P := P) (α := α) (a := none) (m := 0) (cap := 0) hT hl hh hc.1 hc.2.1 hc.2.2 (Nat.le_refl _) w
      have h00 : hi.toNat - lo.toNat = 0 := by have := hc.2.2; simp at this; omega
      have hlo : lo.toNat = 0 := by have h1 := hc.2.1; have h2 := hc.2.2; simp at h2; omega
      refine RL.val (v := .slice none 0 0) hg hd ?_ (kk _ ⟨M, _, gd.update (P' := own e _ _) hlt hnil (.inl ⟨rfl, by rw [List.drop_nil, List.take_nil], rfl⟩) rfl rfl rfl (fun _ _ h => by cases h) (fun _ _ h => by cases h) (fun _ _ _ => rfl)⟩)
      rw [h00, hlo] at hr
      simp only [execOp, hx, Sem.run_bind, Option.map_none, hr, Result.andThen_ok, Sem.run_pure]
      simp
    · have hr := run_cut (P := P) (α := α) (a := some ⟨b, o, none⟩) (m := l.length) (cap := cap) hT hl hh hc.1 hc.2.1 hc.2.2 h2 w
      have hxl : xs.length = l.length * GT.sz α := h7.1
      have hself : hset hs i (hs i) = hs := by funext t; unfold hset; split <;> simp_all
      by_cases hce : cap = lo.toNat
      · -- nothing is left
        have h00 : hi.toNat - lo.toNat = 0 := by have h1 := hc.2.1; have h2 := hc.2.2; omega
        have hz : (l.drop lo.toNat).take (hi - lo).toNat = [] := List.eq_nil_of_length_eq_zero (by rw [hlen, h00])
        have hz' : l.length = cap := by have h1 := hc.2.1; have h2' := hc.2.2; omega
        rw [hz] at kk
        refine RL.val (v := .slice (some ⟨b, o, none⟩) 0 0) hg hd ?_ (kk _ ⟨M, _, gd.update (P' := own e (.slice (some ⟨b, o, none⟩) 0 0) ([] : List α)) hlt (hs i) ?_ rfl rfl rfl (fun b' o' hb' => gd.le i b' o' hlt hb') (fun b' o' hb' => .inl ⟨o', hb'⟩) (fun _ _ _ => rfl)⟩)
        · rw [h00, if_pos hce, ← hce, Nat.sub_self] at hr
          simp only [execOp, hx, Sem.run_bind, Option.map_none, hr, Result.andThen_ok, Sem.run_pure]
        · exact .inr ⟨b, o, 0, cur, [], rfl, Nat.le_refl _, by simp [maxLen], h4, by omega, by simp, Cells.nil⟩
      · refine RL.val (v := .slice (some ⟨b, o + lo.toNat * GT.sz α, none⟩) ((l.drop lo.toNat).take (hi - lo).toNat).length (cap - lo.toNat)) hg hd ?_ (kk _ ⟨M, _, gd.update (P' := own e _ _) hlt (hs i) (.inr ⟨b, o + lo.toNat * GT.sz α, cap - lo.toNat, cur, (xs.drop (lo.toNat * GT.sz α)).take ((hi - lo).toNat * GT.sz α), rfl, ?_, by omega, h4, ?_, ?_, ?_⟩) rfl rfl rfl (fun b' o' hb' => gd.le i b' o' hlt hb') (fun b' o' hb' => .inl ⟨o', hb'⟩) (fun _ _ _ => rfl)⟩)
        · simp only [execOp, hx, Sem.run_bind, Option.map_none, hr, Result.andThen_ok, Sem.run_pure, if_neg hce, Option.map_some, Addr.add_lit, hlen]
        · rw [hlen]; have := hc.2.2; omega
        · rw [Nat.sub_mul]
          have : lo.toNat * GT.sz α ≤ cap * GT.sz α := Nat.mul_le_mul_right _ (by have h1 := hc.2.1; have h2 := hc.2.2; omega)
          omega
        · rw [hlen, ← h6]
          have e1 : (hi - lo).toNat = hi.toNat - lo.toNat := by omega
          rw [e1, List.drop_take, List.drop_drop, List.take_take]
          congr 1
          have : hi.toNat * GT.sz α ≤ l.length * GT.sz α := Nat.mul_le_mul_right _ (by have := hc.2.2; omega)
          rw [Nat.sub_mul]; omega
        · refine ⟨?_, fun m z hz => ?_⟩
          · rw [List.length_take, List.length_drop, hxl, hlen]
            have e1 : (hi - lo).toNat = hi.toNat - lo.toNat := by omega
            have : hi.toNat * GT.sz α ≤ l.length * GT.sz α := Nat.mul_le_mul_right _ (by have := hc.2.2; omega)
            rw [e1, Nat.sub_mul]; omega
          · rw [List.getElem?_take] at hz
            split at hz
            · rename_i hm
              rw [List.getElem?_drop] at hz
              have := h7.2 _ z hz
              have hms := mulsz (sz := GT.sz α) hm
              rw [List.drop_take, List.drop_drop, List.take_take, Nat.min_eq_left (by omega), ← Nat.add_mul]
              exact this
            · cases hz
  · cases hb
end
end Go.Gk
