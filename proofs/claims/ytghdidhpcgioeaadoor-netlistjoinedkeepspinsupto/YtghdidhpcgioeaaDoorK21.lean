/-
  Maps whose values own slices: the raw map (mp) beside the values' own parts (mbag). No statement of the seed is proved here.
-/
import Derived.Test.YtghdidhpcgioeaaDoorK20
set_option linter.unusedVariables false
set_option linter.unusedSimpArgs false
set_option linter.unusedSectionVars false
namespace Go.Gk
open Go
section
variable {κ ν ρ : Type} [GT κ] [KV κ] [DecidableEq κ]
theorem mfind_keys : ∀ {m : List (κ × ν)} {mr : List (κ × ρ)} (_ : mr.map Prod.fst = m.map Prod.fst) (k : κ), mfind mr k = mfind m k := by
  intro m
  induction m with
  | nil => intro mr h k; cases mr with
    | nil => rfl
    | cons p mr => simp at h
  | cons q m ih => intro mr h k; cases mr with
    | nil => simp at h
    | cons p mr =>
      simp only [List.map_cons, List.cons.injEq] at h
      have := ih h.2 k
      unfold mfind at this ⊢
      simp only [List.findIdx?_cons, h.1, this]
theorem mfind_lt {m : List (κ × ν)} {k : κ} {a : Nat} (h : mfind m k = some a) : a < m.length := by
  unfold mfind at h
  exact (List.findIdx?_eq_some_iff_findIdx_eq.1 h).1
theorem mget_find : ∀ {m : List (κ × ν)} {k : κ} {a : Nat} (z : ν) (_ : mfind m k = some a), (m.map Prod.snd)[a]? = some (mget m k z) := by
  intro m
  induction m with
  | nil => intro k a z h; simp [mfind] at h
  | cons p m ih =>
    intro k a z h
    by_cases hk : k = p.1
    · have ha : a = 0 := by simp [mfind, List.findIdx?_cons, hk] at h; omega
      subst ha
      simp [mget, List.find?_cons, hk]
    · have hd : decide (k = p.1) = false := decide_eq_false hk
      unfold mfind at h
      rw [List.findIdx?_cons] at h
      simp only [hd, Bool.false_eq_true, if_false, Option.map_eq_some_iff] at h
      obtain ⟨a', h', rfl⟩ := h
      have := ih (k := k) (a := a') z h'
      unfold mget at this ⊢
      rw [List.find?_cons]
      simp only [hd]
      simpa using this
theorem mget_none {m : List (κ × ν)} {k : κ} (z : ν) (h : mfind m k = none) : mget m k z = z := by
  unfold mget
  have : m.find? (fun p => decide (k = p.1)) = none := by
    unfold mfind at h
    rw [List.findIdx?_eq_none_iff] at h
    rw [List.find?_eq_none]
    intro x hx; rw [h x hx]; simp
  rw [this]
theorem mput_keys : ∀ {m : List (κ × ν)} {mr : List (κ × ρ)} (_ : mr.map Prod.fst = m.map Prod.fst) (k : κ) (x : ν) (r : ρ), (mput mr k r).map Prod.fst = (mput m k x).map Prod.fst := by
  intro m
  induction m with
  | nil => intro mr h k x r; cases mr with
    | nil => rfl
    | cons p mr => simp at h
  | cons q m ih => intro mr h k x r; cases mr with
    | nil => simp at h
    | cons p mr =>
      simp only [List.map_cons, List.cons.injEq] at h
      unfold mput
      by_cases hk : k = q.1
      · rw [if_pos hk, if_pos (by rw [h.1]; exact hk)]; simp [h.2]
      · rw [if_neg hk, if_neg (by rw [h.1]; exact hk)]; simp [h.1, ih h.2 k x r]
theorem mput_some : ∀ {m : List (κ × ν)} {k : κ} {a : Nat} (x : ν) (_ : mfind m k = some a), (mput m k x).map Prod.snd = (m.map Prod.snd).set a x := by
  intro m
  induction m with
  | nil => intro k a x h; simp [mfind] at h
  | cons p m ih =>
    intro k a x h
    unfold mput
    by_cases hk : k = p.1
    · have ha : a = 0 := by simp [mfind, List.findIdx?_cons, hk] at h; omega
      subst ha
      rw [if_pos hk]; simp
    · rw [if_neg hk]
      unfold mfind at h
      rw [List.findIdx?_cons] at h
      simp only [decide_eq_false hk, Bool.false_eq_true, if_false, Option.map_eq_some_iff] at h
      obtain ⟨a', h', rfl⟩ := h
      simp only [List.map_cons, List.set_cons_succ]
      rw [ih x h']
theorem mput_none : ∀ {m : List (κ × ν)} {k : κ} (x : ν) (_ : mfind m k = none), (mput m k x).map Prod.snd = m.map Prod.snd ++ [x] := by
  intro m
  induction m with
  | nil => intro k x h; rfl
  | cons p m ih =>
    intro k x h
    unfold mfind at h
    rw [List.findIdx?_cons] at h
    by_cases hk : k = p.1
    · simp [hk] at h
    · simp only [decide_eq_false hk, Bool.false_eq_true, if_false, Option.map_eq_none_iff] at h
      unfold mput
      rw [if_neg hk, List.map_cons, ih x h]; rfl
end
section
variable {κ β : Type} [GT κ] [KV κ] [DecidableEq κ] [GT β] {E w : World} {Γ : List HP} {i j b o : Nat} {e e' : TypeId} {v u : Value} {mr : List (κ × RV)} {m : List (κ × List β)} {k : κ} {y : List β}
/-- the values' own slices; that of key h (if it is one) is lent out -/
def mbag (e' : TypeId) (mr : List (κ × RV)) (m : List (κ × List β)) (h : Option κ) : HP :=
  ⟨fun M hp => mr.map Prod.fst = m.map Prod.fst ∧ (bag (XS e' β) (mr.map Prod.snd) (m.map Prod.snd) (h.bind (mfind m))).ok M hp, fun hk ⟨a, b⟩ => ⟨a, (bag (XS e' β) _ _ _).mono hk b⟩⟩
theorem Holds.mbag_bag {h : Option κ} (hw : Holds E w Γ) (hj : Γ[j]? = some (mbag e' mr m h)) : mr.map Prod.fst = m.map Prod.fst ∧ Holds E w (Γ.set j (bag (XS e' β) (mr.map Prod.snd) (m.map Prod.snd) (h.bind (mfind m)))) := by
  obtain ⟨M, hs, g⟩ := hw
  obtain ⟨a, b⟩ := g.sat j _ hj
  exact ⟨a, M, _, g.update (w' := w) (lt_of_get hj) (hs j) b rfl rfl rfl (fun b o hb => g.le j b o (lt_of_get hj) hb) (fun b o hb => .inl ⟨o, hb⟩) (fun _ _ _ => rfl)⟩
theorem Holds.bag_mbag {h : Option κ} {h' : Option Nat} (hw : Holds E w Γ) (ha : mr.map Prod.fst = m.map Prod.fst) (hh : h' = h.bind (mfind m)) (hj : Γ[j]? = some (bag (XS e' β) (mr.map Prod.snd) (m.map Prod.snd) h')) : Holds E w (Γ.set j (mbag e' mr m h)) := by
  subst hh
  obtain ⟨M, hs, g⟩ := hw
  have b := g.sat j _ hj
  exact ⟨M, _, g.update (w' := w) (P' := mbag e' mr m h) (lt_of_get hj) (hs j) ⟨ha, b⟩ rfl rfl rfl (fun b o hb => g.le j b o (lt_of_get hj) hb) (fun b o hb => .inl ⟨o, hb⟩) (fun _ _ _ => rfl)⟩
theorem Holds.mbag_nil (hw : Holds E w Γ) (κ β : Type) [GT κ] [KV κ] [DecidableEq κ] [GT β] (e' : TypeId) : Holds E w (mbag (κ := κ) (β := β) e' [] [] none :: Γ) := by
  have := (hw.bag_nil (XS e' β)).bag_mbag (κ := κ) (mr := []) (m := []) (h := none) (j := 0) rfl rfl rfl
  exact this
theorem Holds.mfocus (hw : Holds E w Γ) (hj : Γ[j]? = some (mbag e' mr m none)) (k : κ) : Holds E w (own e' (mget mr k rvz).v (mget m k []) :: Γ.set j (mbag e' mr m (some k))) := by
  obtain ⟨ha, h1⟩ := hw.mbag_bag hj
  have hlt := lt_of_get hj
  have hj1 : (Γ.set j (bag (XS e' β) (mr.map Prod.snd) (m.map Prod.snd) ((none : Option κ).bind (mfind m))))[j]? = some (bag (XS e' β) (mr.map Prod.snd) (m.map Prod.snd) none) := by
    rw [List.getElem?_set, if_pos rfl, if_pos hlt]; rfl
  cases hf : mfind m k with
  | none =>
    have hr : mfind mr k = none := by rw [mfind_keys ha]; exact hf
    rw [mget_none _ hf, mget_none _ hr]
    have h2 := h1.own_nil β e'
    have h3 := h2.bag_mbag (mr := mr) (m := m) (h := some k) (h' := none) (j := j + 1) ha (by simp [hf]) (by simpa using hj1)
    have h4 : Holds E w (own e' (Value.slice none 0 0) ([] : List β) :: Γ.set j (mbag e' mr m (some k))) := by simpa using h3
    exact h4
  | some a =>
    have hr : mfind mr k = some a := by rw [mfind_keys ha]; exact hf
    have hm := mget_find (m := m) ([] : List β) hf
    have hmr := mget_find (m := mr) rvz hr
    have h2 := h1.focus (i := a) hj1 hmr hm
    have h3 : Holds E w (own e' (mget mr k rvz).v (mget m k []) :: (Γ.set j (bag (XS e' β) (mr.map Prod.snd) (m.map Prod.snd) ((none : Option κ).bind (mfind m)))).set j (bag (XS e' β) (mr.map Prod.snd) (m.map Prod.snd) (some a))) := h2
    rw [List.set_set] at h3
    have h4 := h3.bag_mbag (e' := e') (mr := mr) (m := m) (h := some k) (h' := some a) (j := j + 1) ha (by simp [hf]) (by simp [hlt])
    simpa using h4
theorem Holds.munfocus {h0 : Option κ} (hw : Holds E w (own e' v y :: Γ)) (hj : Γ[j]? = some (mbag e' mr m h0)) (hh : h0 = none ∨ h0 = some k) : Holds E w (Γ.set j (mbag e' (mput mr k (rv v)) (mput m k y) none)) := by
  have hlt := lt_of_get hj
  have h1v : (rv v).v = v := by
    obtain ⟨a, c, hv⟩ := hw.own_slice (i := 0) rfl
    exact rv_v (by rw [hv]; rfl)
  have hE : own e' v y = elm (XS e' β) (rv v) y := by rw [XS_elm, h1v]
  -- no hole, or the hole at k
  have hw2 : Holds E w (own e' v y :: Γ.set j (mbag e' mr m (some k))) := by
    rcases hh with rfl | rfl
    · have h1 := hw.mfocus (j := j + 1) (by simpa using hj) k
      have h2 := h1.drop 1 (Γ' := (own e' v y :: Γ).set (j + 1) (mbag e' mr m (some k))) rfl
      simpa using h2
    · rw [set_self hj]; exact hw
  have hj2 : (Γ.set j (mbag e' mr m (some k)))[j]? = some (mbag e' mr m (some k)) := by rw [List.getElem?_set, if_pos rfl, if_pos hlt]
  obtain ⟨ha, h1⟩ := hw2.mbag_bag (j := j + 1) (by simpa using hj2)
  have h1' : Holds E w (elm (XS e' β) (rv v) y :: Γ.set j (bag (XS e' β) (mr.map Prod.snd) (m.map Prod.snd) (mfind m k))) := by
    rw [← hE]; simpa using h1
  have hkeys := mput_keys ha k y (rv v)
  cases hf : mfind m k with
  | none =>
    rw [hf] at h1'
    have hr : mfind mr k = none := by rw [mfind_keys ha]; exact hf
    have h2 := h1'.bag_push (j := j) (by rw [List.getElem?_set, if_pos rfl, if_pos hlt])
    rw [List.set_set, ← mput_none (m := m) y hf, ← mput_none (m := mr) (rv v) hr] at h2
    have h3 := h2.bag_mbag (mr := mput mr k (rv v)) (m := mput m k y) (h := none) (h' := none) (j := j) hkeys rfl (by rw [List.getElem?_set, if_pos rfl, if_pos hlt])
    rw [List.set_set] at h3; exact h3
  | some a =>
    rw [hf] at h1'
    have hr : mfind mr k = some a := by rw [mfind_keys ha]; exact hf
    have h2 := h1'.unfocus (j := j) (i := a) (by rw [List.getElem?_set, if_pos rfl, if_pos hlt]) (by rw [List.length_map]; exact mfind_lt hr)
    rw [List.set_set, ← mput_some (m := m) y hf, ← mput_some (m := mr) (rv v) hr] at h2
    have h3 := h2.bag_mbag (mr := mput mr k (rv v)) (m := mput m k y) (h := none) (h' := none) (j := j) hkeys rfl (by rw [List.getElem?_set, if_pos rfl, if_pos hlt])
    rw [List.set_set] at h3; exact h3
theorem Ents.raw {M h : Heap} (hd : ∀ b o, h b = some o → M b = none) : ∀ {es : List MapEntry} {mr : List (κ × RV)} {m : List (κ × List β)}, Ents M es mr → mr.map Prod.fst = m.map Prod.fst →
    (∀ (i : Nat) u x, (mr.map Prod.snd)[i]? = some u → (m.map Prod.snd)[i]? = some x → ∃ h', (∀ b o, h' b = some o → h b = some o) ∧ ownV e' M h' (RV.v u) x) → Ents (hor M h) es m
  | [], [], [], _, _, _ => trivial
  | en :: es, p :: mr, q :: m, ⟨h1, h2, h3⟩, hk, hx => by
    simp only [List.map_cons, List.cons.injEq] at hk
    obtain ⟨h', hs, ho⟩ := hx 0 p.2 q.2 rfl rfl
    refine ⟨by rw [h1, hk.1], ?_, Ents.raw hd h3 hk.2 (fun i u x hu hx' => hx (i + 1) u x (by simpa using hu) (by simpa using hx'))⟩
    have : en.val = p.2.v := rdV_sc.1 h2
    rw [this]
    refine rdV_list.2 (sliceOk.mono (fun b o hb => ?_) (ownV.sl (fun b o hb => hd b o (hs b o hb)) ho))
    unfold hor at hb ⊢
    cases hM : M b with
    | some o' => rw [hM] at hb; exact hb
    | none => rw [hM] at hb; exact hs b o hb
  | [], p :: mr, _, h, _, _ => h.elim
  | _ :: _, [], _, h, _, _ => h.elim
  | [], [], q :: m, _, hk, _ => by simp at hk
  | _ :: _, p :: mr, [], _, hk, _ => by simp at hk
/-- the values' own slices never change from here on -/
theorem Holds.mnest_fz (hw : Holds E w Γ) (hb : Γ[b]? = some (mbag e' mr m none)) (hj : Γ[j]? = some (mp v mr)) (hne : b ≠ j) : Holds E w ((Γ.set b Gk.junk).set j (mp v m)) := by
  obtain ⟨M, hs, g⟩ := hw
  have hbl := lt_of_get hb
  have hjl := lt_of_get hj
  obtain ⟨ha, hl, hr, c, hc, hok⟩ := g.sat b _ hb
  obtain ⟨r, es, clock, h1, h2, h3⟩ := g.sat j _ hj
  have g2 := g.freeze (P' := Gk.junk) (i := b) hbl trivial
  have hE : Ents (hor M (hs b)) es.toList m := Ents.raw (e' := e') (fun q o hq => g.dm b q o hbl hq) h2 ha (fun i u x hu hx => ⟨fun q => if c q = i then hs b q else none, (fun q o hq => by
    have hq : (if c q = i then hs b q else none) = some o := hq
    split at hq
    · exact hq
    · cases hq), hok i u x (by simp) hu hx⟩)
  have hsj : hset hs b hnil j = hs j := by unfold hset; rw [if_neg (fun e => hne e.symm)]
  have hjl2 : j < (Γ.set b Gk.junk).length := by rw [List.length_set]; exact hjl
  have g3 := g2.update (w' := w) (P' := mp v m) (i := j) hjl2 (hs j) ⟨r, es, clock, h1, hE, h3⟩ rfl rfl rfl
    (fun q o hq => g.le j q o hjl hq) (fun q o hq => .inl ⟨o, by rw [hsj]; exact hq⟩) (fun q _ _ => rfl)
  exact ⟨_, _, g3⟩
end
section
variable {κ β : Type} [GT κ] [KV κ] [DecidableEq κ] [GT β] {P : Program} {n : Nat} {σ : Nat → Value} {w : World} {Q : Post} {E : World} {Γ : List HP} {i j b o : Nat}
variable {ops : Array Oper} {rest : List Oper} {d : Nat} {ty T kt et e' : TypeId} {pos : String} {af : Array Edge} {g : Option (Nat × Bool)} {v u : Value} {q qk qv : Operand} {mr : List (κ × RV)} {m : List (κ × List β)} {k : κ} {y : List β}
theorem RL.lookup_nest (hg : Wn ops σ g) (hd : Nat.blt d n = true) (hw : Holds E w Γ) (hx : ev σ q = v) (hk : ev σ qk = KV.enc k) (hi : Γ[i]? = some (mp v mr)) (hb : Γ[b]? = some (mbag e' mr m none)) (hT : MapT P T kt et κ RV rvz)
    (kk : Holds E w (own e' (mget mr k rvz).v (mget m k []) :: Γ.set b (mbag e' mr m (some k))) → RL P n ops rest (upd σ d (mget mr k rvz).v) w Q) : RL P n ops (⟨some d, .lookup T q qk false, ty, pos, af, g⟩ :: rest) σ w Q :=
  RL.lookup1s hg hd hw hx hk hi hT (by
    have e : KV.enc (mget mr k rvz) = (mget mr k rvz).v := rfl
    rw [e]; exact kk (hw.mfocus hb k))
theorem RL.mapUpdate_nest {h0 : Option κ} (hg : Wn ops σ g) (hw : Holds E w Γ) (hx : ev σ q = v) (hk : ev σ qk = KV.enc k) (hv : ev σ qv = u) (hi : Γ[i]? = some (mp v mr)) (hb : Γ[b]? = some (mbag e' mr m h0)) (hh : h0 = none ∨ h0 = some k)
    (ho : Γ[o]? = some (own e' u y)) (hib : i ≠ b) (hob : o ≠ b) (hio : i ≠ o) (hT : MapT P T kt et κ RV rvz)
    (kk : ∀ w', Holds E w' (((Γ.set i (mp v (mput mr k (rv u)))).set o junk).set b (mbag e' (mput mr k (rv u)) (mput m k y) none)) → RL P n ops rest σ w' Q) : RL P n ops (⟨none, .mapUpdate T q qk qv, ty, pos, af, g⟩ :: rest) σ w Q := by
  have hrv := hw.rd_rv ho
  refine RL.mapUpdate (i := i + 1) (j := 0) (x := rv u) hg hrv hx hk hv (by simpa using hi) rfl hT fun w' hw' => kk w' ?_
  have hw2 : Holds E w' (Γ.set i (mp v (mput mr k (rv u)))) := hw'.drop 1 rfl
  have hb2 : (Γ.set i (mp v (mput mr k (rv u))))[b]? = some (mbag e' mr m h0) := by rw [List.getElem?_set, if_neg hib]; exact hb
  have ho2 : (Γ.set i (mp v (mput mr k (rv u))))[o]? = some (own e' u y) := by rw [List.getElem?_set, if_neg hio]; exact ho
  have h6 := hw2.pull ho2
  exact h6.munfocus (j := b) (by rw [List.getElem?_set, if_neg hob]; exact hb2) hh
theorem RL.len_mnest {h0 : Option κ} (hg : Wn ops σ g) (hd : Nat.blt d n = true) (hw : Holds E w Γ) (hx : ev σ q = v) (hi : Γ[i]? = some (mp v mr)) (hb : Γ[b]? = some (mbag e' mr m h0)) (hT : P.underlying T = some (.map kt et))
    (kk : RL P n ops rest (upd σ d (.int .i64 (m.length : Nat))) w Q) : RL P n ops (⟨some d, .call ⟨.builtin .len, #[q], #[T]⟩, ty, pos, af, g⟩ :: rest) σ w Q := by
  have hl : mr.length = m.length := by have := congrArg List.length (hw.mbag_bag hb).1; simpa using this
  rw [← hl] at kk
  exact RL.len_map hg hd hw hx hi hT kk
end
end Go.Gk
