/-
  The arguments that came in, as data in memory that never changes; what a law's call gives in the end. No statement of the seed is proved here.
-/
import Derived.Test.YtfkpknhicijjbaaP1
import Derived.ChangeShapes
import Derived.ChangeSame
import Derived.Carry
import Derived.RowKit
set_option linter.unusedVariables false
set_option linter.unusedSimpArgs false
set_option linter.unusedSectionVars false
namespace Go.Gk
open Go Go.ChangeShapes Go.WideShapes Go.RowKit

/-! ### Bulk -/
structure UB (ub : (H : Type) → DataW H → Nat) (ua : (H : Type) → List (DataW H) → Nat) : Prop where
  str : ∀ (H : Type) (b : List UInt8), ub H (.lit (.string b)) = b.length + 1
  pos : ∀ (H : Type) (d : DataW H), 1 ≤ ub H d
  sl : ∀ (H : Type) (e s : List (DataW H)), ub H (.slice e s) = ua H e + ua H s + 1
  ag : ∀ (H : Type) (l : List (DataW H)), ub H (.agg l) = ua H l + 1
  nil : ∀ (H : Type), ua H [] = 0
  cons : ∀ (H : Type) (x : DataW H) (l : List (DataW H)), ua H (x :: l) = ub H x + ua H l

def Hw (w : World) : Heap := fun b => w.heap[b]?

structure Opens (ub : (H : Type) → DataW H → Nat) (P : Program) (T : TypeId) (α : Type) [GT α] [Bk α] : Prop where
  trod : ∀ {H : Type} {enc : TypeId × Value → H} {w : World} {base : Nat} {spare : Nat → Bool} {held : Bool} {fuel : Nat} {cs : List Value} {d : DataW H × List MemPlace},
    DataW.trod enc P w base spare held fuel T cs = some d → ∃ x : α, GT.ok (Hw w) cs x ∧ bk x ≤ ub H d.1
  shp : ∀ {w : World} {r : Reach} {base : Nat} {v : Value}, Value.okWide P w r base T v → v = vof α v.cells.toList

section
variable {ub : (H : Type) → DataW H → Nat} {ua : (H : Type) → List (DataW H) → Nat} {P : Program} {T e : TypeId}
theorem opens_int (u : UB ub ua) (ht : P.underlying T = some (.int .i64)) : Opens ub P T Int where
  trod := fun h => by
    obtain ⟨n, rfl, rfl, _⟩ := DataW.trod_int ht h
    exact ⟨n, rfl, u.pos _ _⟩
  shp := fun h => by obtain ⟨n, rfl⟩ := okWide_int ht h; rfl
theorem opens_u8 (u : UB ub ua) [Bk UInt8] (hb : ∀ x : UInt8, bk x = 1) (ht : P.underlying T = some (.int .u8)) : Opens ub P T UInt8 where
  trod := fun h => by
    obtain ⟨n, rfl, rfl, hwf⟩ := DataW.trod_int ht h
    have h2 : 0 ≤ n ∧ n ≤ 255 := by simpa [Lit.wf, IntKind.min, IntKind.max, IntKind.signed, IntKind.bits] using hwf
    refine ⟨n.toNat.toUInt8, ?_, by rw [hb]; exact u.pos _ _⟩
    show [Value.int .u8 n] = [Value.int .u8 ((n.toNat.toUInt8.toNat : Nat) : Int)]
    have : n.toNat.toUInt8.toNat = n.toNat := by
      rw [Nat.toUInt8, UInt8.toNat_ofNat']; omega
    rw [this, Int.toNat_of_nonneg h2.1]
  shp := fun h => by obtain ⟨n, rfl⟩ := okWide_int ht h; rfl
theorem opens_bool (u : UB ub ua) (ht : P.underlying T = some .bool) : Opens ub P T Bool where
  trod := fun h => by
    obtain ⟨n, rfl, rfl⟩ := DataW.trod_bool ht h
    exact ⟨n, rfl, u.pos _ _⟩
  shp := fun h => by obtain ⟨n, rfl⟩ := okWide_bool ht h; rfl
theorem opens_str (u : UB ub ua) (ht : P.underlying T = some .string) : Opens ub P T Str where
  trod := fun h => by
    obtain ⟨s, rfl, rfl, _⟩ := DataW.trod_string ht h
    refine ⟨⟨s.data.toList⟩, ?_, ?_⟩
    · show [Value.string s] = [Gk.str ⟨s.data.toList⟩]
      cases s; rfl
    · rw [u.str]; exact Nat.le_refl _
  shp := fun h => by obtain ⟨n, rfl⟩ := okWide_string ht h; rfl
theorem choose_list {α : Type} {R : Nat → α → Prop} : ∀ (n : Nat), (∀ i, i < n → ∃ x, R i x) → ∃ l : List α, l.length = n ∧ ∀ i x, l[i]? = some x → R i x
  | 0, _ => ⟨[], rfl, fun i x h => by simp at h⟩
  | n + 1, h => by
    obtain ⟨l, h1, h2⟩ := choose_list n (fun i hi => h i (by omega))
    obtain ⟨x, hx⟩ := h n (by omega)
    refine ⟨l ++ [x], by simp [h1], fun i y hy => ?_⟩
    by_cases hi : i < n
    · rw [List.getElem?_append_left (by omega)] at hy; exact h2 i y hy
    · have := (List.getElem?_eq_some_iff.1 hy).1
      rw [List.length_append] at this
      have : i = n := by simp at this; omega
      subst this
      rw [List.getElem?_append_right (by omega), h1] at hy
      simp at hy; subst hy; exact hx
theorem bulk_list {H : Type} {α : Type} [Bk α] (u : UB ub ua) : ∀ {l : List α} {es : List (DataW H × List MemPlace)}, l.length = es.length →
    (∀ (i : Nat) (x : α) (y : DataW H × List MemPlace), l[i]? = some x → es[i]? = some y → bk x ≤ ub H y.1) → bk l ≤ ua H (es.map (·.1)) + 1
  | [], [], _, _ => by rw [bk_nil]; omega
  | x :: l, y :: es, hl, h => by
    have h1 := h 0 x y rfl rfl
    have h2 := bulk_list (H := H) u (l := l) (es := es) (by simpa using hl) (fun i x y hx hy => h (i + 1) x y (by simpa using hx) (by simpa using hy))
    rw [bk_cons, List.map_cons, u.cons]; omega
theorem at_of_cells {w : World} {base : Nat} {a : Addr} {n : Nat} {cs : List Value} (h : w.cells? base a n = some cs) : At (Hw w) a cs := by
  intro j v hv
  obtain ⟨_, hlen, hc⟩ := World.cells?_some h
  have hj := (List.getElem?_eq_some_iff.1 hv).1
  have h2 := hc j (by omega)
  rw [hv] at h2
  unfold cellM Hw
  unfold World.cell? at h2
  exact h2
theorem opens_list {α : Type} [GT α] [Bk α] (u : UB ub ua) (ht : P.underlying T = some (.slice e)) (hc : P.cellsOf e = GT.sz α) (he : Opens ub P e α) : Opens ub P T (List α) where
  trod := fun {H enc w base spare held fuel cs d} h => by
    rcases DataW.trod_slice ht h with ⟨rfl, rfl⟩ | ⟨a, len, cap, elems, rest, n, _, rfl, rfl, _, hlc, hcm, hlen, hel, _⟩
    · exact ⟨[], ⟨_, rfl, none, 0, 0, rfl, rfl, Nat.le_refl _, by simp [maxLen], fun i x hx => by simp at hx⟩, u.pos _ _⟩
    · have each : ∀ i, i < len → ∃ x : α, (∃ c y, GT.ok (Hw w) c x ∧ At (Hw w) (a.add (i * GT.sz α)) c ∧ elems[i]? = some y ∧ bk x ≤ ub H y.1) := by
        intro i hi
        have h1 := hel i hi
        rw [List.getElem?_eq_getElem (by omega : i < elems.length), Option.bind_eq_some_iff] at h1
        obtain ⟨c, h2, h3⟩ := h1
        obtain ⟨x, h4, h5⟩ := he.trod h3
        refine ⟨x, c, _, h4, ?_, List.getElem?_eq_getElem (by omega), h5⟩
        rw [hc] at h2
        exact at_of_cells h2
      obtain ⟨l, hl, hr⟩ := choose_list len each
      refine ⟨l, ⟨_, rfl, some a, len, cap, rfl, hl.symm, hlc, hcm, fun i x hx => ?_⟩, ?_⟩
      · obtain ⟨c, y, h1, h2, _⟩ := hr i x hx
        exact ⟨a, c, rfl, h1, h2⟩
      · have := bulk_list (H := H) u (l := l) (es := elems) (by omega) (fun i x y hx hy => by
          obtain ⟨c, y', _, _, h3, h4⟩ := hr i x hx
          rw [hy] at h3; injection h3 with h3; subst h3; exact h4)
        rw [u.sl]; omega
  shp := fun h => by obtain ⟨a, n, c, rfl⟩ := okWide_slice ht h; rfl

/-! ### Structs -/
def FOpen (ub : (H : Type) → DataW H → Nat) (ua : (H : Type) → List (DataW H) → Nat) (P : Program) (off : Nat) (fs : List Field) (β : Type) [GT β] (m : β → Nat) : Prop :=
  ∀ {H : Type} {enc : TypeId × Value → H} {w : World} {base : Nat} {spare : Nat → Bool} {held : Bool} {n : Nat} {cs : List Value} {ys : List (DataW H × List MemPlace)},
    (∀ (i : Nat) (f : Field), fs[i]? = some f → DataW.trod enc P w base spare held n f.type ((cs.drop f.offset).take (P.cellsOf f.type)) = ys[i]?) → ys.length = fs.length →
    cs.length = off + GT.sz β → ∃ x : β, GT.ok (Hw w) (cs.drop off) x ∧ m x ≤ ua H (ys.map (·.1))
theorem fopen_one {β : Type} [GT β] [Bk β] {off : Nat} {f : Field} (u : UB ub ua) (h : Opens ub P f.type β) (ho : f.offset = off) (hc : P.cellsOf f.type = GT.sz β) : FOpen ub ua P off [f] β bk := by
  intro H enc w base spare held n cs ys hf hl hcs
  match ys, hl with
  | [y], _ =>
    have h1 := hf 0 f rfl
    rw [ho, hc, List.take_of_length_le (by rw [List.length_drop]; omega)] at h1
    obtain ⟨x, h2, h3⟩ := h.trod (d := y) h1
    exact ⟨x, h2, by rw [List.map_cons, u.cons]; omega⟩
theorem fopen_cons {α β : Type} [GT α] [GT β] [Bk α] {off off' : Nat} {f : Field} {fs : List Field} {m : β → Nat} (u : UB ub ua) (h : Opens ub P f.type α) (ho : f.offset = off) (hc : P.cellsOf f.type = GT.sz α)
    (hoff : off' = off + GT.sz α) (hr : FOpen ub ua P off' fs β m) : FOpen ub ua P off (f :: fs) (α × β) (fun x => bk x.1 + m x.2) := by
  intro H enc w base spare held n cs ys hf hl hcs
  have hsz : GT.sz (α × β) = GT.sz α + GT.sz β := rfl
  match ys, hl with
  | y :: ys, hl =>
    have h1 := hf 0 f rfl
    rw [ho, hc] at h1
    obtain ⟨x, h2, h3⟩ := h.trod (d := y) h1
    obtain ⟨x', h4, h5⟩ := hr (n := n) (cs := cs) (ys := ys) (fun i g hg => hf (i + 1) g hg) (by simpa using hl) (by omega)
    refine ⟨(x, x'), ⟨_, _, ?_, h2, h4⟩, ?_⟩
    · rw [hoff, ← List.drop_drop, List.take_append_drop]
    · rw [List.map_cons, u.cons]; show bk x + m x' ≤ _; omega
theorem opens_struct {γ β : Type} [GT β] [Bk γ] {fs : Array Field} {m : β → Nat} (u : UB ub ua) (f : γ → β) (g : β → γ) (hfg : ∀ b, f (g b) = b) (ht : P.underlying T = some (.struct fs)) (hc : P.cellsOf T = GT.sz β)
    (h : FOpen ub ua P 0 fs.toList β m) (hm : ∀ b, bk (g b) ≤ m b + 1) : @Opens ub P T γ (GT.via f) _ :=
  @Opens.mk ub P T γ (GT.via f) _
    (fun {H enc w base spare held fuel cs d} hd => by
      obtain ⟨xs, n, _, rfl, hl, hlen, hf⟩ := DataW.trod_struct ht hd
      obtain ⟨b, h1, h2⟩ := h (n := n) (cs := cs) (ys := xs) (fun i g hg => hf i g (by rw [← Array.getElem?_toList]; exact hg)) (by rw [hlen]; simp) (by omega)
      refine ⟨g b, ?_, ?_⟩
      · show GT.ok (Hw w) cs (f (g b))
        rw [hfg]; exact h1
      · rw [u.ag]; have := hm b; omega)
    (fun hv => by
      obtain ⟨cs, rfl, _⟩ := okWide_struct ht hv
      cases cs; rfl)
theorem opens_struct1 {γ α : Type} [GT α] [Bk γ] [Bk α] {f0 : Field} (u : UB ub ua) (f : γ → α) (g : α → γ) (hfg : ∀ b, f (g b) = b) (ht : P.underlying T = some (.struct #[f0])) (hc : P.cellsOf T = GT.sz α)
    (h : FOpen ub ua P 0 [f0] α bk) (hm : ∀ b, bk (g b) ≤ bk b + 1) : @Opens ub P T γ (GT.via f) _ := opens_struct u f g hfg ht hc h hm

/-- An argument as an entry. -/
theorem Opens.arg {H : Type} {enc : TypeId × Value → H} {w : World} {base : Nat} {spare : Nat → Bool} {held : Bool} {r : Reach} {b0 : Nat} {v : Value} {d : DataW H} {ps : List MemPlace} {α : Type} [GT α] [Bk α] (o : Opens ub P T α)
    (hv : Value.okWide P w r b0 T v) (hd : DataW.Trod enc P w base spare held T v d ps) : ∃ x : α, rdV (Hw w) v x ∧ bk x ≤ ub H d := by
  obtain ⟨fuel, hf⟩ := hd
  obtain ⟨x, h1, h2⟩ := o.trod hf
  exact ⟨x, ⟨_, o.shp hv, h1⟩, h2⟩
theorem Opens.argS {H : Type} {enc : TypeId × Value → H} {w : World} {base : Nat} {spare : Nat → Bool} {held : Bool} {r : Reach} {b0 : Nat} {v : Value} {d : DataW H} {ps : List MemPlace} {α : Type} [Sc α] [Bk α] (o : Opens ub P T α)
    (hv : Value.okWide P w r b0 T v) (hd : DataW.Trod enc P w base spare held T v d ps) : ∃ x : α, v = Sc.toV x ∧ bk x ≤ ub H d := by
  obtain ⟨x, h1, h2⟩ := o.arg hv hd
  exact ⟨x, rdV_sc.1 h1, h2⟩
end

/-! ### The call begins, and ends -/
theorem Calls.fin {P : Program} {f : FuncId} {args : Array Value} {w : World} {R Q : Value → World → Prop} (h : Calls P f args w (Ret R)) (k : ∀ v w', R v w' → Q v w') :
    Calls P f args w (fun e W' => ∃ v, e = .returned v ∧ Q v W') := Calls.mono h fun _ w' ⟨v, e, hr⟩ => ⟨v, e, k v w' hr⟩
/-- All that there was is there still. -/
def keep (W : World) : HP := ⟨fun M h => hle (Hw W) M ∧ h = hnil, fun k ⟨a, b⟩ => ⟨hle_trans a k, b⟩⟩
theorem Holds.begin (W : World) : Holds W W [keep W] := by
  refine ⟨Hw W, fun _ => hnil, ⟨rfl, rfl, rfl, Nat.le_refl _, fun b o h => h, fun i Pr hq => ?_, fun _ _ _ _ h => (by cases h), fun _ _ _ _ h => (by cases h), fun _ _ _ _ _ _ _ h => (by cases h)⟩⟩
  match i, hq with
  | 0, hq => simp at hq; subst hq; exact ⟨hle_refl _, rfl⟩
theorem Holds.argIn {α : Type} [GT α] {W : World} {Γ : List HP} {v : Value} {x : α} (h : Holds W W (Γ ++ [keep W])) (hv : Gk.rdV (Hw W) v x) : Holds W W (rd v x :: (Γ ++ [keep W])) :=
  h.know fun M hs g => by
    have h1 := (g.sat Γ.length (keep W) (by simp)).1
    exact ⟨hv.mono h1, rfl⟩
theorem Holds.kept {E W w : World} {Γ : List HP} (h : Holds E w (Γ ++ [keep W])) (he : E = W) : Below W.heap.size W w := by
  subst he
  obtain ⟨M, hs, g⟩ := h
  have h1 := (g.sat Γ.length (keep E) (by simp)).1
  have h2 : ∀ k o, E.heap[k]? = some o → w.heap[k]? = some o := fun k o ho => g.im k o (h1 k o ho)
  refine ⟨g.os, g.tape, g.out, ?_, fun k hk => ?_⟩
  · by_cases h0 : E.heap.size = 0
    · omega
    · have h3 := h2 (E.heap.size - 1) _ (Array.getElem?_eq_getElem (by omega))
      have := (Array.getElem?_eq_some_iff.1 h3).1
      omega
  · rw [Array.getElem?_eq_getElem hk]; exact h2 k _ (Array.getElem?_eq_getElem hk)
section
variable {H : Type} {enc : TypeId × Value → H} {P : Program}
/-- What a law's call is asked for, where only new blocks were made. -/
theorem post_kept {f : Func} {s : ChangeSpec} {apart fresh handsOn again : Bool} {W W' : World} {args : Array Value} {v : Value} {ds gs : List (DataW H)} {before pa pv : List MemPlace}
    (hW : DataW.Whole enc P f.params.toList s.vars apart W args.toList ds gs before)
    (hres : ∀ (b : Nat) (sp : Nat → Bool) (hd : Bool), DataW.TrodAll enc P W' b sp hd f.resultTypes.toList (v.resultList f.resultTypes.size) (s.fn H (ds ++ gs)).results [])
    (hargs : ∀ sp : Nat → Bool, (∀ p ∈ before, sp p.block = true) → DataW.TrodAll enc P W' 0 sp true f.params.toList args.toList (s.fn H (ds ++ gs)).args pa)
    (hvars : ∀ sp : Nat → Bool, (∀ p ∈ before, sp p.block = true) → DataW.TrodVars enc P W' sp s.vars (s.fn H (ds ++ gs)).vars pv)
    (hps : before = pa ++ pv) (hb : Below W.heap.size W W')
    (hok : ∀ (j : Nat) (t : TypeId) (r : Value), f.resultTypes[j]? = some t → (v.resultList f.resultTypes.size)[j]? = some r → Value.okWide P W' .any 0 t r) :
    s.post enc P f apart fresh handsOn again W args v W' := by
  have hlt : ∀ p ∈ before, p.block < W.heap.size := fun p hp => hW.lt p hp
  have hold : ∀ p ∈ before, (fun b => decide (b < W.heap.size)) p.block = true := fun p hp => by simpa using hlt p hp
  refine ⟨ds, gs, before, [], pa, pv, hW, hres _ _ _, hargs _ hold, hvars _ hold, World.keptBut_mono (fun p hp => ⟨hp, ?_⟩) (hb.frame (· ∈ before)), fun _ => ?_⟩
  · rw [hps, List.mem_append] at hp
    exact Or.inr hp
  · obtain ⟨_, _, _, _, _, hz, hn⟩ := hW
    refine ⟨hok, _, _, ([] ++ pa) ++ pv, ⟨[] ++ pa, pv, trodAll_append (hargs _ (fun _ _ => rfl)) (hres _ _ _), hvars _ (fun _ _ => rfl), rfl, ?_, ?_⟩, ?_⟩
    · intro b off hp
      have hin : MemPlace.cell b off ∈ before := by rw [hps]; simpa using hp
      rw [hb.frozen (hlt _ hin)]
      exact hz b off hin
    · intro ha
      have := hn ha
      rw [hps] at this
      simpa using this
    · intro p hp _
      rw [hps]
      simpa using hp
/-- Arguments that are only read, read again. -/
theorem trodAll_again {W W' : World} (hl : laidOutB P = true) (hb : Below W.heap.size W W') {sp : Nat → Bool} : ∀ {ts : List TypeId} {vs : List Value} {ds : List (DataW H)} {ps : List MemPlace},
    (∀ t ∈ ts, P.readableRec t = true ∧ t < P.types.size) → DataW.TrodAll enc P W 0 (fun _ => true) true ts vs ds ps → (∀ p ∈ ps, p.block < W.heap.size) → (∀ p ∈ ps, sp p.block = true) → DataW.TrodAll enc P W' 0 sp true ts vs ds ps
  | [], _, _, _, _, h, _, _ => by
    obtain ⟨rfl, rfl, rfl⟩ := trodAll_nil h
    rfl
  | t :: ts, _, _, _, ht, h, hlt, hsp => by
    obtain ⟨v, vs, d, ds, p, q, rfl, rfl, rfl, h1, h2⟩ := trodAll_cons h
    refine ⟨p, q, ?_, trodAll_again hl hb (fun t h => ht t (by simp [h])) h2 (fun x hx => hlt x (by simp [hx])) (fun x hx => hsp x (by simp [hx])), rfl⟩
    exact WideElems.Trod_stays hl (ht t (by simp)).1 (ht t (by simp)).2 h1 (fun x hx => hb.same (hlt x (by simp [hx]))) (fun x hx => hsp x (by simp [hx]))
end
end Go.Gk
