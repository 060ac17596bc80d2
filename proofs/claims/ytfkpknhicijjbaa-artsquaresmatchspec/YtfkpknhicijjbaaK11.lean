/-
  make of slices; maps that a call owns, told as lists of pairs in the order in which their keys came.
  No statement of the seed is proved here.
-/
import Derived.Test.YtfkpknhicijjbaaK10
import Derived.Laws.OwnMore
import Derived.MapKept
set_option linter.unusedVariables false
set_option linter.unusedSimpArgs false
set_option linter.unusedSectionVars false
namespace Go.Gk
open Go

/-! ### make([]T, n) -/
def mk {α : Type} (bytes : Nat) (z : α) (n : Int) : Option (List α) := if 0 ≤ n ∧ n * bytes ≤ 140737488355328 then some (List.replicate n.toNat z) else none
def ZeD (P : Program) (e : TypeId) {α : Type} [GT α] (z0 : α) : Prop := ∀ (M : Heap) (z : Value), (P.info? e).bind (·.zero) = some z → GT.ok M z.cells.toList z0
section
variable {α : Type} [GT α] {P : Program} {n : Nat} {σ : Nat → Value} {w : World} {Q : Post} {E : World} {Γ : List HP} {i : Nat}
variable {ops : Array Oper} {rest : List Oper} {d : Nat} {ty t e : TypeId} {pos : String} {af : Array Edge} {g : Option (Nat × Bool)} {q r : Operand} {bytes : Nat} {l' : List α} {z0 : α} {k : Int}
theorem RL.mk (hg : Wn ops σ g) (hd : Nat.blt d n = true) (hw : Holds E w Γ) (hx : ev σ q = .int .i64 k) (hy : ev σ r = .int .i64 k) (hT : ElT P t e (GT.sz α) bytes)
    (hz0 : ZeD P e z0)
    (hb : Gk.mk bytes z0 k = some l') (kk : ∀ v w', Holds E w' (own e v l' :: Γ) → RL P n ops rest (upd σ d v) w' Q) : RL P n ops (⟨some d, .makeSlice t q r, ty, pos, af, g⟩ :: rest) σ w Q := by
  obtain ⟨inf, z, hi, hz, hsz, hby, hzs⟩ := hT.inf
  unfold Gk.mk at hb
  split at hb
  case isFalse => cases hb
  rename_i hc
  injection hb with hb
  subst hb
  obtain ⟨m, rfl⟩ := Int.eq_ofNat_of_zero_le hc.1
  rw [Int.toNat_natCast] at kk
  have h1 : m * bytes ≤ 140737488355328 := by have := hc.2; omega
  have h2 : m ≤ 140737488355328 := Nat.le_trans (Nat.le_mul_of_pos_right _ hT.pos) h1
  have hbn : ((inf.bytes : Int)) * (m : Int) ≤ 281474976710656 := by
    have h3 : ((inf.bytes * m : Nat) : Int) ≤ 281474976710656 := by rw [hby, Nat.mul_comm]; omega
    rwa [Int.natCast_mul] at h3
  have hr := run_make (P := P) w t e inf z hT.und hi hz .i64 .i64 m m (by omega) (Int.le_refl _) hbn (by omega)
  simp only [Int.toNat_natCast] at hr
  refine RL.val (v := .slice (some ⟨w.heap.size, 0, none⟩) m m) (w' := w.alloc (.cells (madeCells z.cells (m * inf.size)) e)) hg hd ?_ (kk _ _ (hw.alloc _ fun M hs gd => .inr ⟨w.heap.size, 0, m, madeCells z.cells (m * inf.size), _, by rw [List.length_replicate], by rw [List.length_replicate]; exact Nat.le_refl _, by simp only [maxLen]; omega, rfl, ?_, rfl, ?_⟩))
  · simp only [execOp, hx, hy, Sem.run_bind, hr, Result.andThen_ok, Sem.run_pure]
  · simp only [size_madeCells, hsz]; omega
  · have hok := hz0 M z (by rw [hi]; exact hz)
    have hml : (madeCells z.cells (m * inf.size)).toList.length = m * GT.sz α := by rw [Array.length_toList, size_madeCells, hsz]
    refine ⟨by rw [List.length_take, List.length_drop, hml, List.length_replicate]; omega, fun a x hx => ?_⟩
    rw [List.getElem?_replicate] at hx
    split at hx
    · rename_i ha
      injection hx with hx
      subst hx
      have hms := mulsz (sz := GT.sz α) ha
      have : (List.drop (a * GT.sz α) ((List.drop 0 (madeCells z.cells (m * inf.size)).toList).take ((List.replicate m z0).length * GT.sz α))).take (GT.sz α) = z.cells.toList := by
        apply List.ext_getElem?
        intro t
        have hzl : z.cells.toList.length = GT.sz α := by rw [Array.length_toList]; exact hzs
        simp only [List.getElem?_take, List.getElem?_drop, List.length_replicate, Nat.zero_add]
        by_cases ht : t < GT.sz α
        · have hlt : a * GT.sz α + t < (madeCells z.cells (m * inf.size)).size := by rw [size_madeCells, hsz]; omega
          rw [if_pos ht, if_pos (by omega), Array.getElem?_toList, Array.getElem?_eq_getElem hlt, List.getElem?_eq_getElem (show t < z.cells.toList.length by omega)]
          simp only [madeCells, Array.getElem_map, Array.getElem_range, hzs]
          have hmod : (a * GT.sz α + t) % GT.sz α = t := by rw [Nat.mul_comm, Nat.mul_add_mod, Nat.mod_eq_of_lt ht]
          rw [hmod]
          rw [getElem!_pos z.cells t (by omega)]
          simp
        · rw [if_neg ht, List.getElem?_eq_none (by omega)]
      rw [this]; exact hok
    · cases hx
end

/-! ### Maps -/
/-- Data that are told by their cells alone. -/
class KV (κ : Type) [GT κ] where
  cs : κ → List Value
  spec : ∀ {M : Heap} {c : List Value} {k : κ}, GT.ok M c k → c = cs k
  ok : ∀ (M : Heap) (k : κ), GT.ok M (cs k) k
instance instKVSc {α : Type} [Sc α] : KV α := ⟨fun x => [Sc.toV x], fun h => h, fun _ _ => rfl⟩
instance instKVProd {α β : Type} [GT α] [GT β] [KV α] [KV β] : KV (α × β) :=
  ⟨fun x => KV.cs x.1 ++ KV.cs x.2, fun ⟨_, _, e, h1, h2⟩ => by rw [e, KV.spec h1, KV.spec h2], fun M x => ⟨_, _, rfl, KV.ok M x.1, KV.ok M x.2⟩⟩
def KV.enc {κ : Type} [GT κ] [KV κ] (k : κ) : Value := vof κ (KV.cs k)
theorem KV.of_rd {κ : Type} [GT κ] [KV κ] {M : Heap} {v : Value} {k : κ} (h : rdV M v k) : v = KV.enc k := by
  obtain ⟨cs, e, h⟩ := h
  rw [e, KV.spec h]; rfl
theorem KV.rd {κ : Type} [GT κ] [KV κ] (M : Heap) (k : κ) : rdV M (KV.enc k) k := ⟨_, rfl, KV.ok M k⟩
structure KeyT (P : Program) (kt : TypeId) (κ : Type) [GT κ] [KV κ] [DecidableEq κ] : Prop where
  chk : ∀ (b : Bool) (k : κ) (w : World), (Instr.checkKey b 10000 kt (KV.enc k)).run P w = .ok () w
  eq : ∀ (a b : κ) (w : World), (Op.equal kt (KV.enc a) (KV.enc b)).run P w = .ok (decide (a = b)) w
  now : (∀ (a b : κ), ∃ D, P.underlying kt = some D ∧ Instr.sameNow D (KV.enc a) (KV.enc b) = some (decide (a = b))) ∨ (∃ D, P.underlying kt = some D ∧ ∀ (a b : κ), Instr.sameNow D (KV.enc a) (KV.enc b) = none)
  bits : ∀ (a : κ), Instr.sameBits 10000 (KV.enc a) (KV.enc a) = true

section
variable {κ ν : Type} [GT κ] [KV κ] [GT ν]
/-- The entries read as pairs. -/
def Ents (M : Heap) : List MapEntry → List (κ × ν) → Prop
  | [], [] => True
  | e :: es, p :: m => e.key = KV.enc p.1 ∧ rdV M e.val p.2 ∧ Ents M es m
  | _, _ => False
theorem Ents.mono {M M' : Heap} (h : hle M M') : ∀ {es : List MapEntry} {m : List (κ × ν)}, Ents M es m → Ents M' es m
  | [], [], _ => trivial
  | e :: es, p :: m, ⟨h1, h2, h3⟩ => ⟨h1, h2.mono h, Ents.mono h h3⟩
  | [], _ :: _, h => h.elim
  | _ :: _, [], h => h.elim
/-- The value is a map of our own that reads as the pairs m. -/
def mp (v : Value) (m : List (κ × ν)) : HP :=
  ⟨fun M h => ∃ r es clock, v = .map (some r) ∧ Ents M (Array.toList es) m ∧ h = Gk.one r (.map es clock), fun k ⟨r, es, c, hv, he, hh⟩ => ⟨r, es, c, hv, Ents.mono k he, hh⟩⟩

end
section
variable {κ ν : Type} [GT κ] [KV κ] [DecidableEq κ] [GT ν]
def mfind (m : List (κ × ν)) (k : κ) : Option Nat := m.findIdx? (fun p => decide (k = p.1))
def mget (m : List (κ × ν)) (k : κ) (z : ν) : ν := match m.find? (fun p => decide (k = p.1)) with | some p => p.2 | none => z
def mhas (m : List (κ × ν)) (k : κ) : Bool := m.any (fun p => decide (k = p.1))
def mput (m : List (κ × ν)) (k : κ) (x : ν) : List (κ × ν) :=
  match m with
  | [] => [(k, x)]
  | p :: m => if k = p.1 then (k, x) :: m else p :: mput m k x
variable {P : Program} {n : Nat} {σ : Nat → Value} {w : World} {Q : Post} {E : World} {Γ : List HP} {i j l : Nat}
variable {ops : Array Oper} {rest : List Oper} {d : Nat} {ty T kt et : TypeId} {pos : String} {af : Array Edge} {g : Option (Nat × Bool)} {v kv u : Value} {q qk qv : Operand} {r : Nat} {m : List (κ × ν)} {k : κ} {x z0 : ν}

theorem run_findKey (hK : KeyT P kt κ) (M : Heap) {es : List MapEntry} (he : Ents M es m) (w : World) :
    ∃ o, (Instr.findKey kt (KV.enc k) es).run P w = .ok o w ∧
      match o with
      | some (a, y) => ∃ x, mfind m k = some a ∧ m.find? (fun p => decide (k = p.1)) = some (k, x) ∧ rdV M y x ∧ ∃ en, es[a]? = some en ∧ en.key = KV.enc k
      | none => mfind m k = none ∧ m.find? (fun p => decide (k = p.1)) = none := by
  have ask : ∀ (es : List MapEntry) (m : List (κ × ν)) (a : Nat), Ents M es m → ∃ o, (Instr.findAsking kt (KV.enc k) es a).run P w = .ok o w ∧
      (match o with
      | some (b, y) => ∃ c x, b = a + c ∧ mfind m k = some c ∧ m.find? (fun p => decide (k = p.1)) = some (k, x) ∧ rdV M y x ∧ ∃ en, es[c]? = some en ∧ en.key = KV.enc k
      | none => mfind m k = none ∧ m.find? (fun p => decide (k = p.1)) = none) := by
    intro es
    induction es with
    | nil => intro m a he; cases m with
      | nil => exact ⟨none, rfl, rfl, rfl⟩
      | cons p m => exact he.elim
    | cons en es ih =>
      intro m a he
      cases m with
      | nil => exact he.elim
      | cons p m =>
        obtain ⟨h1, h2, h3⟩ := he
        obtain ⟨p1, p2⟩ := p
        simp only at h1 h2
        rw [Instr.findAsking]
        simp only [Sem.run_bind, h1, hK.eq, Result.andThen_ok]
        by_cases e : k = p1
        · subst e
          refine ⟨some (a, en.val), by simp [Sem.run_pure], 0, p2, rfl, ?_, ?_, h2, en, rfl, h1⟩
          · simp [mfind, List.findIdx?_cons]
          · simp
        · obtain ⟨o, ho, hs⟩ := ih m (a + 1) h3
          refine ⟨o, by simp only [decide_eq_false e]; simpa using ho, ?_⟩
          cases o with
          | none =>
            obtain ⟨s1, s2⟩ := hs
            refine ⟨?_, ?_⟩
            · simp only [mfind, List.findIdx?_cons, decide_eq_false e] at s1 ⊢; simpa using s1
            · simpa [List.find?_cons, decide_eq_false e] using s2
          | some by_ =>
            obtain ⟨b, y⟩ := by_
            obtain ⟨c, x, hb, s1, s2, s3, en', s4, s5⟩ := hs
            refine ⟨c + 1, x, by omega, ?_, ?_, s3, en', by simpa using s4, s5⟩
            · simp only [mfind, List.findIdx?_cons, decide_eq_false e] at s1 ⊢; simp [s1]
            · simpa [List.find?_cons, decide_eq_false e] using s2
  have asked : ∃ o, (Instr.findAsking kt (KV.enc k) es).run P w = .ok o w ∧
      (match o with
      | some (b, y) => ∃ x, mfind m k = some b ∧ m.find? (fun p => decide (k = p.1)) = some (k, x) ∧ rdV M y x ∧ ∃ en, es[b]? = some en ∧ en.key = KV.enc k
      | none => mfind m k = none ∧ m.find? (fun p => decide (k = p.1)) = none) := by
    obtain ⟨o, ho, hs⟩ := ask es m 0 he
    refine ⟨o, ho, ?_⟩
    cases o with
    | none => exact hs
    | some by_ =>
      obtain ⟨b, y⟩ := by_
      obtain ⟨c, x, hb, rest⟩ := hs
      rw [Nat.zero_add] at hb
      subst hb
      exact ⟨x, rest⟩
  unfold Instr.findKey
  rcases hK.now with hnow | ⟨D, hD, hno⟩
  · obtain ⟨D, hD, _⟩ := hnow k k
    have hnow' : ∀ a b : κ, Instr.sameNow D (KV.enc a) (KV.enc b) = some (decide (a = b)) := fun a b => by
      obtain ⟨D', h1, h2⟩ := hnow a b
      rw [hD] at h1; injection h1 with h1; subst h1; exact h2
    have fn : ∀ (es : List MapEntry) (m : List (κ × ν)) (a : Nat), Ents M es m → ∃ o, Instr.findNow D (KV.enc k) es a = some o ∧
        (match o with
        | some (b, y) => ∃ c x, b = a + c ∧ mfind m k = some c ∧ m.find? (fun p => decide (k = p.1)) = some (k, x) ∧ rdV M y x ∧ ∃ en, es[c]? = some en ∧ en.key = KV.enc k
        | none => mfind m k = none ∧ m.find? (fun p => decide (k = p.1)) = none) := by
      intro es
      induction es with
      | nil => intro m a he; cases m with
        | nil => exact ⟨none, rfl, rfl, rfl⟩
        | cons p m => exact he.elim
      | cons en es ih =>
        intro m a he
        cases m with
        | nil => exact he.elim
        | cons p m =>
          obtain ⟨h1, h2, h3⟩ := he
          obtain ⟨p1, p2⟩ := p
          simp only at h1 h2
          rw [Instr.findNow, h1, hnow']
          by_cases e : k = p1
          · subst e
            refine ⟨some (a, en.val), by simp, 0, p2, rfl, ?_, ?_, h2, en, rfl, h1⟩
            · simp [mfind, List.findIdx?_cons]
            · simp
          · obtain ⟨o, ho, hs⟩ := ih m (a + 1) h3
            refine ⟨o, by simp only [decide_eq_false e]; exact ho, ?_⟩
            cases o with
            | none =>
              obtain ⟨s1, s2⟩ := hs
              refine ⟨?_, ?_⟩
              · simp only [mfind, List.findIdx?_cons, decide_eq_false e] at s1 ⊢; simpa using s1
              · simpa [List.find?_cons, decide_eq_false e] using s2
            | some by_ =>
              obtain ⟨b, y⟩ := by_
              obtain ⟨c, x, hb, s1, s2, s3, en', s4, s5⟩ := hs
              refine ⟨c + 1, x, by omega, ?_, ?_, s3, en', by simpa using s4, s5⟩
              · simp only [mfind, List.findIdx?_cons, decide_eq_false e] at s1 ⊢; simp [s1]
              · simpa [List.find?_cons, decide_eq_false e] using s2
    obtain ⟨o, ho, hs⟩ := fn es m 0 he
    refine ⟨o, by simp only [Sem.run_bind, run_underlying hD, Result.andThen_ok, ho, Sem.run_pure], ?_⟩
    cases o with
    | none => exact hs
    | some by_ =>
      obtain ⟨b, y⟩ := by_
      obtain ⟨c, x, hb, rest⟩ := hs
      rw [Nat.zero_add] at hb
      subst hb
      exact ⟨x, rest⟩
  · cases es with
    | nil =>
      cases m with
      | nil => exact ⟨none, by simp [run_underlying hD, Instr.findNow], rfl, rfl⟩
      | cons p m => exact he.elim
    | cons en es =>
      obtain ⟨o, ho, hs⟩ := asked
      refine ⟨o, ?_, hs⟩
      cases m with
      | nil => exact he.elim
      | cons p m =>
        have : Instr.findNow D (KV.enc k) (en :: es) 0 = none := by rw [Instr.findNow, he.1, hno]
        simp only [Sem.run_bind, run_underlying hD, Result.andThen_ok, this, ho]

theorem mget_eq (m : List (κ × ν)) (k : κ) (z : ν) : mget m k z = match m.find? (fun p => decide (k = p.1)) with | some p => p.2 | none => z := rfl
theorem mhas_eq (m : List (κ × ν)) (k : κ) : mhas m k = (m.find? (fun p => decide (k = p.1))).isSome := by
  unfold mhas
  induction m with
  | nil => rfl
  | cons p m ih => simp only [List.any_cons, List.find?_cons]; cases decide (k = p.1) <;> simp [ih]

/-- What a look-up answers. -/
theorem run_lookup (hT : P.underlying T = some (.map kt et)) (hK : KeyT P kt κ) (hz : ∃ inf z, P.info? et = some inf ∧ inf.zero = some z ∧ ∀ M, rdV M z z0)
    (hw : Holds E w Γ) (hi : Γ[i]? = some (mp v m)) (ok : Bool) :
    ∃ y, (Instr.lookup T v (KV.enc k) ok).run P w = .ok (if ok then .tuple #[y, .bool (mhas m k)] else y) w ∧ Holds E w (rd y (mget m k z0) :: Γ) := by
  obtain ⟨M, hs, gd⟩ := hw
  obtain ⟨r, es, clock, rfl, he, hh⟩ := gd.sat i _ hi
  have hb := gd.le i r _ (lt_of_get hi) (by rw [hh]; exact one_self r _)
  obtain ⟨o, ho, hs'⟩ := run_findKey hK M he w (k := k)
  obtain ⟨inf, z, hin, hzz, hzr⟩ := hz
  cases o with
  | none =>
    obtain ⟨h1, h2⟩ := hs'
    refine ⟨z, ?_, Holds.know ⟨M, hs, gd⟩ fun M' hs' gd' => ⟨?_, rfl⟩⟩
    · simp [Instr.lookup, run_underlying hT, MapKept.run_getObj_map hb, hK.chk, ho, Result.andThen, zeroValue, typeInfo, hin, hzz, mhas_eq, h2, program, Sem.run]
    · rw [mget_eq, h2]; exact hzr M'
  | some ay =>
    obtain ⟨a, y⟩ := ay
    obtain ⟨x, h1, h2, h3, _⟩ := hs'
    refine ⟨y, ?_, ⟨M, hcons hnil hs, gd.cons_nil ⟨?_, rfl⟩⟩⟩
    · simp [Instr.lookup, run_underlying hT, MapKept.run_getObj_map hb, hK.chk, ho, Result.andThen, mhas_eq, h2]
    · rw [mget_eq, h2]; exact h3

omit [DecidableEq κ] in
theorem key_rd (hw : Holds E w Γ) (hj : Γ[j]? = some (rd kv k)) : kv = KV.enc k := by
  obtain ⟨M, hs, gd⟩ := hw
  exact KV.of_rd (gd.sat j _ hj).1
structure MapT (P : Program) (T kt et : TypeId) (κ ν : Type) [GT κ] [KV κ] [DecidableEq κ] [GT ν] (z0 : ν) : Prop where
  und : P.underlying T = some (.map kt et)
  key : KeyT P kt κ
  zero : ∃ inf z, P.info? et = some inf ∧ inf.zero = some z ∧ ∀ M, rdV M z z0
theorem RL.lookup2 (hg : Wn ops σ g) (hd : Nat.blt d n = true) (hw : Holds E w Γ) (hx : ev σ q = v) (hk : ev σ qk = KV.enc k) (hi : Γ[i]? = some (mp v m)) (hT : MapT P T kt et κ ν z0)
    (kk : ∀ y, Holds E w (rd y (mget m k z0) :: Γ) → RL P n ops rest (upd σ d (.tuple #[y, .bool (mhas m k)])) w Q) : RL P n ops (⟨some d, .lookup T q qk true, ty, pos, af, g⟩ :: rest) σ w Q := by
  obtain ⟨y, hr, hh⟩ := run_lookup hT.und hT.key hT.zero hw hi true (k := k)
  refine RL.val hg hd ?_ (kk y hh)
  simp only [execOp, hx, hk, Sem.run_bind, hr, Result.andThen_ok, Sem.run_pure, if_true]
theorem RL.lookup1 (hg : Wn ops σ g) (hd : Nat.blt d n = true) (hw : Holds E w Γ) (hx : ev σ q = v) (hk : ev σ qk = KV.enc k) (hi : Γ[i]? = some (mp v m)) (hT : MapT P T kt et κ ν z0)
    (kk : ∀ y, Holds E w (rd y (mget m k z0) :: Γ) → RL P n ops rest (upd σ d y) w Q) : RL P n ops (⟨some d, .lookup T q qk false, ty, pos, af, g⟩ :: rest) σ w Q := by
  obtain ⟨y, hr, hh⟩ := run_lookup hT.und hT.key hT.zero hw hi false (k := k)
  refine RL.val hg hd ?_ (kk y hh)
  simp only [execOp, hx, hk, Sem.run_bind, hr, Result.andThen_ok, Sem.run_pure, Bool.false_eq_true, if_false]
theorem RL.lookup2s [KV ν] (hg : Wn ops σ g) (hd : Nat.blt d n = true) (hw : Holds E w Γ) (hx : ev σ q = v) (hk : ev σ qk = KV.enc k) (hi : Γ[i]? = some (mp v m)) (hT : MapT P T kt et κ ν z0)
    (kk : RL P n ops rest (upd σ d (.tuple #[KV.enc (mget m k z0), .bool (mhas m k)])) w Q) : RL P n ops (⟨some d, .lookup T q qk true, ty, pos, af, g⟩ :: rest) σ w Q :=
  RL.lookup2 hg hd hw hx hk hi hT fun y hh => by have := key_rd hh (j := 0) rfl; rw [this]; exact kk
theorem RL.lookup1s [KV ν] (hg : Wn ops σ g) (hd : Nat.blt d n = true) (hw : Holds E w Γ) (hx : ev σ q = v) (hk : ev σ qk = KV.enc k) (hi : Γ[i]? = some (mp v m)) (hT : MapT P T kt et κ ν z0)
    (kk : RL P n ops rest (upd σ d (KV.enc (mget m k z0))) w Q) : RL P n ops (⟨some d, .lookup T q qk false, ty, pos, af, g⟩ :: rest) σ w Q :=
  RL.lookup1 hg hd hw hx hk hi hT fun y hh => by have := key_rd hh (j := 0) rfl; rw [this]; exact kk
theorem RL.makeMap (hg : Wn ops σ g) (hd : Nat.blt d n = true) (hw : Holds E w Γ)
    (kk : ∀ v w', Holds E w' (mp v ([] : List (κ × ν)) :: Γ) → RL P n ops rest (upd σ d v) w' Q) : RL P n ops (⟨some d, .makeMap T none, ty, pos, af, g⟩ :: rest) σ w Q := by
  refine RL.val (v := .map (some w.heap.size)) (w' := w.alloc (.map #[] 0)) hg hd ?_ (kk _ _ (hw.alloc _ fun M hs gd => ⟨w.heap.size, #[], 0, rfl, trivial, rfl⟩))
  simp [execOp, Instr.makeMap]
theorem Ents.len {M : Heap} : ∀ {es : List MapEntry} {m : List (κ × ν)}, Ents M es m → es.length = m.length
  | [], [], _ => rfl
  | _ :: _, _ :: _, ⟨_, _, h3⟩ => congrArg (· + 1) (Ents.len h3)
  | [], _ :: _, h => h.elim
  | _ :: _, [], h => h.elim
theorem RL.len_map (hg : Wn ops σ g) (hd : Nat.blt d n = true) (hw : Holds E w Γ) (hx : ev σ q = v) (hi : Γ[i]? = some (mp v m)) (hT : P.underlying T = some (.map kt et))
    (kk : RL P n ops rest (upd σ d (.int .i64 (m.length : Nat))) w Q) : RL P n ops (⟨some d, .call ⟨.builtin .len, #[q], #[T]⟩, ty, pos, af, g⟩ :: rest) σ w Q := by
  obtain ⟨M, hs, gd⟩ := hw
  obtain ⟨r, es, clock, rfl, he, hh⟩ := gd.sat i _ hi
  have hb := gd.le i r _ (lt_of_get hi) (by rw [hh]; exact one_self r _)
  refine RL.val hg hd ?_ kk
  have hl : es.size = m.length := by rw [← he.len]; simp
  simp [execOp, resolve, hx, invoke, builtin, Builtin.len_, run_underlying hT, MapKept.run_getObj_map hb, hl, goInt]
theorem setMap_good {M : Heap} {hs : Nat → Heap} {P' : HP} {b c c' : Nat} {es es' : Array MapEntry} {Pi : HP} (gd : Good E w M hs Γ) (hi : Γ[i]? = some Pi) (hh : hs i = Gk.one b (.map es c))
    (hp : P'.ok M (Gk.one b (.map es' c'))) : Holds E { w with heap := w.heap.setIfInBounds b (.map es' c') } (Γ.set i P') := by
  have hb := gd.le i b _ (lt_of_get hi) (by rw [hh]; exact one_self b _)
  refine ⟨M, _, gd.update (lt_of_get hi) (Gk.one b (.map es' c')) hp rfl rfl rfl (fun b' o' hb' => ?_) (fun b' o' hb' => ?_) (fun b' hb' _ => ?_)⟩
  · obtain ⟨rfl, rfl⟩ := one_some hb'; exact (MapKept.heap_set hb).1
  · obtain ⟨rfl, rfl⟩ := one_some hb'; exact .inl ⟨_, by rw [hh]; exact one_self _ _⟩
  · rw [hh] at hb'
    exact (MapKept.heap_set hb).2 b' (fun h => by subst h; rw [one_self] at hb'; cases hb')
theorem Ents.push {M : Heap} {en : MapEntry} : ∀ {es : List MapEntry} {m : List (κ × ν)}, Ents M es m → mfind m k = none → en.key = KV.enc k → rdV M en.val x → Ents M (es ++ [en]) (mput m k x)
  | [], [], _, _, h1, h2 => ⟨h1, h2, trivial⟩
  | e :: es, p :: m, ⟨a1, a2, a3⟩, hf, h1, h2 => by
    have hne : ¬ k = p.1 := fun e => by simp [mfind, List.findIdx?_cons, e] at hf
    have hf' : mfind m k = none := by simp only [mfind, List.findIdx?_cons, decide_eq_false hne] at hf ⊢; simpa using hf
    show Ents M (e :: (es ++ [en])) _
    unfold mput
    rw [if_neg hne]
    exact ⟨a1, a2, Ents.push a3 hf' h1 h2⟩
  | [], _ :: _, h, _, _, _ => h.elim
  | _ :: _, [], h, _, _, _ => h.elim
theorem Ents.modify {M : Heap} {f : MapEntry → MapEntry} (h1 : ∀ e, (f e).key = KV.enc k) (h2 : ∀ e, rdV M (f e).val x) : ∀ {es : List MapEntry} {m : List (κ × ν)} {a : Nat}, Ents M es m → mfind m k = some a → Ents M (es.modify a f) (mput m k x)
  | [], [], _, _, hf => by simp [mfind] at hf
  | e :: es, p :: m, a, ⟨a1, a2, a3⟩, hf => by
    unfold mput
    by_cases hk : k = p.1
    · have ha : a = 0 := by simp [mfind, List.findIdx?_cons, hk] at hf; omega
      subst ha
      rw [if_pos hk]
      exact ⟨h1 e, h2 e, a3⟩
    · rw [if_neg hk]
      simp only [mfind, List.findIdx?_cons, decide_eq_false hk, Bool.false_eq_true, if_false, Option.map_eq_some_iff] at hf
      obtain ⟨a', hf', rfl⟩ := hf
      exact ⟨a1, a2, Ents.modify h1 h2 a3 hf'⟩
  | [], _ :: _, _, h, _ => h.elim
  | _ :: _, [], _, h, _ => h.elim
theorem RL.mapUpdate (hg : Wn ops σ g) (hw : Holds E w Γ) (hx : ev σ q = v) (hk : ev σ qk = KV.enc k) (hv : ev σ qv = u) (hi : Γ[i]? = some (mp v m)) (hj : Γ[j]? = some (rd u x)) (hT : MapT P T kt et κ ν z0)
    (kk : ∀ w', Holds E w' (Γ.set i (mp v (mput m k x))) → RL P n ops rest σ w' Q) : RL P n ops (⟨none, .mapUpdate T q qk qv, ty, pos, af, g⟩ :: rest) σ w Q := by
  obtain ⟨M, hs, gd⟩ := hw
  obtain ⟨r, es, clock, rfl, he, hh⟩ := gd.sat i _ hi
  have hu := (gd.sat j _ hj).1
  have hb := gd.le i r _ (lt_of_get hi) (by rw [hh]; exact one_self r _)
  obtain ⟨o, ho, hs'⟩ := run_findKey hT.key M he w (k := k)
  cases o with
  | none =>
    refine RL.unit hg ?_ (kk _ (setMap_good gd hi hh (es' := es.push { key := KV.enc k, val := u, born := clock }) (c' := clock + 1) ⟨r, _, _, rfl, ?_, rfl⟩))
    · simp [execOp, hx, hk, hv, Instr.mapUpdate, run_underlying hT.und, MapKept.run_getObj_map hb, hT.key.chk, ho, MapKept.run_setObj_map _ hb]
    · rw [Array.toList_push]; exact Ents.push he hs'.1 rfl hu
  | some ay =>
    obtain ⟨a, y⟩ := ay
    obtain ⟨x', h1, h2, h3, en, h4, h5⟩ := hs'
    have h4' : es[a]? = some en := by simpa using h4
    have hst : (Instr.keyThatStays (KV.enc k) (KV.enc k)).run P w = .ok (KV.enc k) w := by simp [Instr.keyThatStays, hT.key.bits]
    refine RL.unit hg ?_ (kk _ (setMap_good gd hi hh (es' := es.modify a fun e => { e with key := KV.enc k, val := u }) (c' := clock) ⟨r, _, _, rfl, ?_, rfl⟩))
    · simp [execOp, hx, hk, hv, Instr.mapUpdate, run_underlying hT.und, MapKept.run_getObj_map hb, hT.key.chk, ho, MapKept.run_setObj_map _ hb, h4', h5, hst]
    · rw [Array.toList_modify]; exact Ents.modify (fun _ => rfl) (fun _ => hu) he h1
end

/-! ### Keys -/
@[reducible] def instKVvia {α β : Type} [GT β] [KV β] (f : α → β) : @KV α (GT.via f) := @KV.mk α (GT.via f) (fun x => KV.cs (f x)) (fun h => KV.spec h) (fun M x => KV.ok M (f x))
theorem KeyT.str {P : Program} {kt : TypeId} (h : P.underlying kt = some .string) : KeyT P kt Str where
  chk b k w := MapKept.run_checkKey h (k := Gk.str k) trivial b 9999
  eq a b w := run_eq_str (d := 9999) h a b w
  now := .inl fun a b => ⟨_, h, by show some ((⟨a.toL.toArray⟩ : ByteArray) == ⟨b.toL.toArray⟩) = _; rw [str_beq]⟩
  bits a := MapKept.sameBits_self (d := .string) (k := Gk.str a) trivial _
theorem KeyT.int {P : Program} {kt : TypeId} (h : P.underlying kt = some (.int .i64)) : KeyT P kt Int where
  chk b k w := MapKept.run_checkKey h (k := .int .i64 k) rfl b 9999
  eq a b w := (run_eq_int (d := 9999) h a b w).trans (by rw [Bool.eq_iff_iff.2 (by simp : (a == b) = true ↔ decide (a = b) = true)])
  now := .inl fun a b => ⟨_, h, by show (if IntKind.i64 = IntKind.i64 then some (a == b) else none) = _; rw [if_pos rfl]; rw [Bool.eq_iff_iff.2 (by simp : (a == b) = true ↔ decide (a = b) = true)]⟩
  bits a := MapKept.sameBits_self (d := .int .i64) (k := .int .i64 a) rfl _
inductive CkL (P : Program) (n : Nat) (xs : Array Value) : List Field → Prop
  | nil : CkL P n xs []
  | cons {f : Field} {l : List Field} {x : Value} (hn : f.name ≠ "_") (hx : ∀ w, (part f.type xs f.offset).run P w = .ok x w) (hc : ∀ b w, (Instr.checkKey b n f.type x).run P w = .ok () w) (h : CkL P n xs l) : CkL P n xs (f :: l)
theorem run_checkKey_struct {P : Program} {T : TypeId} {fs : Array Field} {xs : Array Value} {n : Nat} (hu : P.underlying T = some (.struct fs)) (h : CkL P n xs fs.toList) (b : Bool) (w : World) :
    (Instr.checkKey b (n + 1) T (.agg xs)).run P w = .ok () w := by
  obtain ⟨l⟩ := fs
  rw [Instr.checkKey]
  simp only [Sem.run_bind, run_underlying hu, Result.andThen_ok, List.forIn_toArray]
  simp only at h
  clear hu
  induction h with
  | nil => simp
  | @cons f l x hn hx hc h ih =>
    simp only [List.forIn_cons, hn, ne_eq, not_false_eq_true, if_true, Sem.run_bind, hx, hc, Result.andThen_ok, Sem.run_pure]
    simpa using ih
theorem bits_agg {n : Nat} {cs : List Value} (h : ∀ x ∈ cs, Instr.sameBits n x x = true) : Instr.sameBits (n + 1) (.agg cs.toArray) (.agg cs.toArray) = true := by
  rw [Instr.sameBits]
  simp only [beq_self_eq_true, Bool.true_and, List.all_eq_true]
  intro p hp
  have : ∀ (l : List Value) (p : Value × Value), p ∈ l.zip l → p.1 = p.2 ∧ p.1 ∈ l := by
    intro l
    induction l with
    | nil => intro p hp; simp at hp
    | cons a l ih =>
      intro p hp
      simp only [List.zip_cons_cons, List.mem_cons] at hp
      rcases hp with rfl | hp
      · exact ⟨rfl, by simp⟩
      · exact ⟨(ih p hp).1, by simp [(ih p hp).2]⟩
  obtain ⟨h1, h2⟩ := this _ p hp
  obtain ⟨a, b⟩ := p
  simp only at h1 h2
  subst h1
  exact h a (by simpa using h2)
theorem KeyT.struct {κ : Type} [GT κ] [KV κ] [DecidableEq κ] {P : Program} {T : TypeId} {fs : Array Field} (hu : P.underlying T = some (.struct fs)) (hag : GT.agg κ = true) (hE : EqT P T κ)
    (hc : ∀ k : κ, CkL P 9999 (KV.cs k).toArray fs.toList) (hb : ∀ (k : κ), ∀ x ∈ KV.cs k, Instr.sameBits 9999 x x = true) : KeyT P T κ := by
  have he : ∀ k : κ, KV.enc k = .agg (KV.cs k).toArray := fun k => by unfold KV.enc vof; rw [if_pos hag]
  refine ⟨fun b k w => ?_, fun a b w => ?_, .inr ⟨_, hu, fun a b => ?_⟩, fun a => ?_⟩
  · rw [he]; exact run_checkKey_struct hu (hc k) b w
  · exact hE.eq hnil _ _ a b w (KV.ok hnil a) (KV.ok hnil b)
  · rw [he, he]; rfl
  · rw [he]; exact bits_agg (hb a)

theorem zero_of {ν : Type} [GT ν] {P : Program} {et : TypeId} {Z : Value} {z0 : ν} (h : (P.info? et).bind (·.zero) = some Z) (hz : ∀ M, rdV M Z z0) : ∃ inf z, P.info? et = some inf ∧ inf.zero = some z ∧ ∀ M, rdV M z z0 := by
  cases e : P.info? et with
  | none => rw [e] at h; cases h
  | some inf => rw [e] at h; exact ⟨inf, Z, rfl, h, hz⟩
theorem ZeD.of {α : Type} [GT α] {P : Program} {e : TypeId} {Z : Value} {z0 : α} (h : (P.info? e).bind (·.zero) = some Z) (hz : ∀ M, GT.ok M Z.cells.toList z0) : ZeD P e z0 := fun M z hh => by
  rw [h] at hh; injection hh with hh; subst hh; exact hz M
section
variable {P : Program} {n : Nat} {σ : Nat → Value} {w : World} {Q : Post} {ops : Array Oper} {rest : List Oper} {d : Nat} {ty t u : TypeId} {pos : String} {af : Array Edge} {g : Option (Nat × Bool)} {q r : Operand} {K : IntKind} {a b : Int}
theorem RL.min (hg : Wn ops σ g) (hd : Nat.blt d n = true) (hx : ev σ q = .int K a) (hy : ev σ r = .int K b) (kk : RL P n ops rest (upd σ d (.int K (if b < a then b else a))) w Q) :
    RL P n ops (⟨some d, .call ⟨.builtin .min, #[q, r], #[t, u]⟩, ty, pos, af, g⟩ :: rest) σ w Q := by
  refine RL.val hg hd ?_ kk
  simp [execOp, resolve, hx, hy, invoke, builtin, Builtin.min_, Builtin.min2]
theorem RL.makeFunc {f : Fn} {args : Array Operand} (hg : Wn ops σ g) (hd : Nat.blt d n = true) (vs : List Value) (hvs : args.toList.map (ev σ) = vs)
    (kk : RL P n ops rest (upd σ d (.func f #[] vs.toArray)) w Q) : RL P n ops (⟨some d, .makeFunc f #[] args, ty, pos, af, g⟩ :: rest) σ w Q := by
  have e : args.map (ev σ) = vs.toArray := by rw [← hvs]; cases args; simp
  refine RL.val hg hd ?_ kk
  simp [execOp, Instr.makeFunc, e]
end
/-! ### Short words for printed proofs -/
@[reducible] def vi (n : Int) : Value := .int .i64 n
@[reducible] def vb (b : Bool) : Value := .bool b
@[reducible] def vp (b o : Nat) : Value := .pointer (some ⟨b, o, none⟩)
section
variable {P : Program} {n : Nat} {σ : Nat → Value} {w : World} {Q : Post} {y : Code} {ops : Array Oper} {rest : List Oper} {d : Nat} {ty T T' : TypeId} {pos : String} {af : Array Edge} {q r : Operand} {K : IntKind} {id : Nat} {l : List Oper}
theorem mv (v : Value) (hd : Nat.blt d n = true) (hx : ev σ q = v) (k : RL P n ops rest (upd σ d v) w Q) : RL P n ops (⟨some d, .move q, ty, pos, af, none⟩ :: rest) σ w Q := RL.move trivial hd hx k
theorem as_ (v : Value) (hd : Nat.blt d n = true) (hx : ev σ q = v) (k : RL P n ops rest (upd σ d v) w Q) : RL P n ops (⟨some d, .assign q, ty, pos, af, none⟩ :: rest) σ w Q := RL.assign trivial hd hx k
theorem ic {bop : BinOp} (a b : Int) (hd : Nat.blt d n = true) (hx : ev σ q = .int K a) (hy : ev σ r = .int K b) (hc : isCmp bop = true) (k : RL P n ops rest (upd σ d (.bool (icmp bop a b))) w Q) :
    RL P n ops (⟨some d, .binOp bop T q r T', ty, pos, af, none⟩ :: rest) σ w Q := RL.icmp trivial hd hx hy hc k
theorem sk {op : Op} {j t : Nat} {b : Bool} (ht : (ops[j]?).bind (·.dst) = some t) (hv : σ t = .bool (!b) ∨ σ t = undef) (hd : Nat.blt d n = true)
    (k : RL P n ops rest (upd σ d undef) w Q) : RL P n ops (⟨some d, op, ty, pos, af, some (j, b)⟩ :: rest) σ w Q := RL.skip ht hv hd k
theorem cb {a b : Bool} (h : a = b) : Value.bool a = .bool b := by rw [h]
theorem RC.sr (h : RL P n l.toArray l σ w (thenQ P n y Q)) : RC P n (.seq (.region id l.toArray false) y) σ w Q := RC.seq (RC.region h)
theorem RL.nt (h : RC P n y σ w Q) : RL P n ops [] σ w (thenQ P n y Q) := RL.nil (thenQ_n h)
theorem RL.ns {z : Code} (h : RL P n l.toArray l σ w (thenQ P n z Q)) : RL P n ops [] σ w (thenQ P n (.seq (.region id l.toArray false) z) Q) := RL.nt (RC.sr h)
theorem RL.nq {z : Code} (h : RC P n y σ w (thenQ P n z Q)) : RL P n ops [] σ w (thenQ P n (.seq y z) Q) := RL.nt (RC.seq h)
theorem RC.rt (h : Q .ret σ w) : RC P n .ret σ w (thenQ P n y Q) := RC.ret (thenQ_r h)
theorem RC.rb (h : Q .ret σ w) : RC P n .ret σ w (blkQ id Q) := RC.ret (blkQ_r h)
theorem RC.sn (h : RC P n y σ w Q) : RC P n .skip σ w (thenQ P n y Q) := RC.skip (thenQ_n h)
theorem RC.ss {z : Code} (h : RC P n y σ w (thenQ P n z Q)) : RC P n .skip σ w (thenQ P n (.seq y z) Q) := RC.sn (RC.seq h)
theorem RC.sx {z : Code} (h : RL P n l.toArray l σ w (thenQ P n z Q)) : RC P n .skip σ w (thenQ P n (.seq (.region id l.toArray false) z) Q) := RC.sn (RC.sr h)
theorem RC.ex {i : Nat} (h : Q (.exit i) σ w) : RC P n (.exit i) σ w (thenQ P n y Q) := RC.exit (thenQ_x h)
theorem RC.bs {b : Nat} (h : RL P n l.toArray l σ w (thenQ P n y (blkQ b Q))) : RC P n (.block b (.seq (.region id l.toArray false) y)) σ w Q := RC.block (RC.sr h)
theorem ac {d : Nat} {v : Value} {l : List (Nat × Value)} (h : σ d = v) (hl : agree σ l) : agree σ ((d, v) :: l) := ⟨h, hl⟩
theorem az : agree σ [] := trivial
theorem oi {α : Type} {a b : α} (h : some a = some b) : a = b := by injection h
end
theorem Fo.cs_go {S R β : Type} (s : S) (f : S → β) (g : R → β) : (Fo.go s : Fo S R).cs f g = f s := rfl
end Go.Gk
