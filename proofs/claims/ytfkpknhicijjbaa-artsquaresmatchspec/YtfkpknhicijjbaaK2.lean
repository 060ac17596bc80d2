/-
  Readings of Go data in memory that never changes; a walk over a function's code with its slots as a plain function.
  No statement of the seed is proved here.
-/
import Derived.Test.YtfkpknhicijjbaaK1
set_option linter.unusedVariables false
set_option linter.unusedSimpArgs false
set_option linter.unusedSectionVars false
namespace Go.Gk
open Go

/-! ### Data -/
structure Str where
  toL : List UInt8
  deriving DecidableEq, Inhabited

class GT (α : Type) where
  sz : Nat
  agg : Bool
  ok : Heap → List Value → α → Prop
  pos : 0 < sz
  ag1 : agg = false → sz = 1
  len : ∀ {M : Heap} {cs : List Value} {x : α}, ok M cs x → cs.length = sz
  one : ∀ {M : Heap} {cs : List Value} {x : α}, ok M cs x → ∀ u ∈ cs, u.oneCell' = true
  mono : ∀ {M M' : Heap} {cs : List Value} {x : α}, hle M M' → ok M cs x → ok M' cs x

/-- Values of one cell that are told by themselves. -/
class Sc (α : Type) where
  toV : α → Value
  one : ∀ x, (toV x).oneCell' = true

instance instGTSc {α : Type} [Sc α] : GT α where
  sz := 1
  agg := false
  ok := fun _ cs x => cs = [Sc.toV x]
  pos := by decide
  ag1 := fun _ => rfl
  len := fun h => by rw [h]; rfl
  one := fun h u hu => by rw [h] at hu; simp at hu; subst hu; exact Sc.one _
  mono := fun _ h => h

@[reducible] def str (s : Str) : Value := .string ⟨s.toL.toArray⟩
instance : Sc Int := ⟨fun n => .int .i64 n, fun _ => rfl⟩
instance : Sc Bool := ⟨fun b => .bool b, fun _ => rfl⟩
instance : Sc Str := ⟨str, fun _ => rfl⟩
instance : Sc UInt8 := ⟨fun b => .int .u8 b.toNat, fun _ => rfl⟩

def cellM (M : Heap) (a : Addr) : Option Value :=
  match M a.block with
  | some (.cells c _ _) => if a.spot.isSome then none else c[a.off]?
  | _ => none
def At (M : Heap) (a : Addr) (cs : List Value) : Prop := ∀ j u, cs[j]? = some u → cellM M (a.add j) = some u

theorem cellM_world {M : Heap} {w : World} (h : ∀ b o, M b = some o → w.heap[b]? = some o) {a : Addr} {v : Value} (hc : cellM M a = some v) : w.cell? a = some v := by
  unfold cellM at hc
  unfold World.cell?
  split at hc
  · rename_i c _ _ e; rw [h _ _ e]; exact hc
  · cases hc
theorem cellM_mono {M M' : Heap} (h : hle M M') {a : Addr} {v : Value} (hc : cellM M a = some v) : cellM M' a = some v := by
  unfold cellM at hc ⊢
  split at hc
  · rename_i c _ _ e; rw [h _ _ e]; exact hc
  · cases hc
theorem At.mono {M M' : Heap} (h : hle M M') {a : Addr} {cs : List Value} (hc : At M a cs) : At M' a cs := fun j u hu => cellM_mono h (hc j u hu)
theorem add_add (a : Addr) (i j : Nat) : (a.add i).add j = a.add (i + j) := by
  unfold Addr.add
  by_cases hi : i = 0 <;> by_cases hj : j = 0 <;> simp [hi, hj, Nat.add_assoc]
theorem At.sub {M : Heap} {a : Addr} {cs : List Value} (h : At M a cs) (k n : Nat) : At M (a.add k) ((cs.drop k).take n) := by
  intro j u hu
  rw [add_add]
  refine h (k + j) u ?_
  rw [List.getElem?_take] at hu
  split at hu
  · rw [List.getElem?_drop] at hu; exact hu
  · cases hu

section
variable {α β : Type} [GT α] [GT β] {M M' : Heap} {v : Value} {cs : List Value}
variable {x : α} {l : List α}

def vof (α : Type) [GT α] (cs : List Value) : Value := if GT.agg α then .agg cs.toArray else cs.headD undef
def rdV (M : Heap) (v : Value) (x : α) : Prop := ∃ cs, v = vof α cs ∧ GT.ok M cs x
theorem rdV.mono (h : hle M M') (hr : rdV M v x) : rdV M' v x := let ⟨cs, e, ho⟩ := hr; ⟨cs, e, GT.mono h ho⟩
theorem vof_cells (ho : GT.ok M cs x) : (vof α cs).cells.toList = cs := by
  unfold vof
  have hl := GT.len ho
  cases e : GT.agg α with
  | true => simp [Value.cells]
  | false =>
    rw [GT.ag1 e] at hl
    match cs, hl, GT.one ho with
    | [c], _, h1 =>
      have := h1 c (by simp)
      cases c <;> simp [Value.cells, Value.oneCell'] at this ⊢
theorem rdV.cells (hr : rdV M v x) : GT.ok M v.cells.toList x := by
  obtain ⟨cs, rfl, ho⟩ := hr
  rw [vof_cells ho]; exact ho
theorem rdV_sc {γ : Type} [Sc γ] {y : γ} : rdV M v y ↔ v = Sc.toV y := by
  constructor
  · rintro ⟨cs, rfl, ho⟩
    have : cs = [Sc.toV y] := ho
    subst this; rfl
  · rintro rfl; exact ⟨[Sc.toV y], rfl, rfl⟩

/-- A slice whose elements read as a list. -/
def sliceOk (M : Heap) (v : Value) (l : List α) : Prop :=
  ∃ a n cap, v = .slice a n cap ∧ n = l.length ∧ n ≤ cap ∧ cap ≤ maxLen ∧
    ∀ i x, l[i]? = some x → ∃ ad cs, a = some ad ∧ GT.ok M cs x ∧ At M (ad.add (i * GT.sz α)) cs
theorem sliceOk.mono (h : hle M M') (hs : sliceOk M v l) : sliceOk M' v l := by
  obtain ⟨a, n, cap, hv, hn, hc, hm, hi⟩ := hs
  exact ⟨a, n, cap, hv, hn, hc, hm, fun i x hx => let ⟨ad, cs, e, ho, ha⟩ := hi i x hx; ⟨ad, cs, e, GT.mono h ho, ha.mono h⟩⟩
instance instGTList : GT (List α) where
  sz := 1
  agg := false
  ok := fun M cs l => ∃ v, cs = [v] ∧ sliceOk M v l
  pos := by decide
  ag1 := fun _ => rfl
  len := fun ⟨v, h, _⟩ => by rw [h]; rfl
  one := fun ⟨v, h, ⟨a, n, cap, hv, _⟩⟩ u hu => by rw [h] at hu; simp at hu; subst hu; rw [hv]; rfl
  mono := fun h ⟨v, e, hs⟩ => ⟨v, e, hs.mono h⟩
theorem rdV_list : rdV M v l ↔ sliceOk M v l := by
  constructor
  · rintro ⟨cs, rfl, v, rfl, hs⟩; exact hs
  · intro h; exact ⟨[v], rfl, v, rfl, h⟩

/-- Two parts, one behind the other. -/
instance instGTProd : GT (α × β) where
  sz := GT.sz α + GT.sz β
  agg := true
  ok := fun M cs x => ∃ c d, cs = c ++ d ∧ GT.ok M c x.1 ∧ GT.ok M d x.2
  pos := by have := GT.pos (α := α); omega
  ag1 := fun h => by cases h
  len := fun ⟨c, d, e, h1, h2⟩ => by rw [e, List.length_append, GT.len h1, GT.len h2]
  one := fun ⟨c, d, e, h1, h2⟩ u hu => by
    rw [e, List.mem_append] at hu
    rcases hu with hu | hu
    · exact GT.one h1 u hu
    · exact GT.one h2 u hu
  mono := fun h ⟨c, d, e, h1, h2⟩ => ⟨c, d, e, GT.mono h h1, GT.mono h h2⟩

/-- A struct, told by its parts. -/
@[reducible] def GT.via {γ : Type} (f : γ → α) : GT γ where
  sz := GT.sz α
  agg := true
  ok := fun M cs x => GT.ok M cs (f x)
  pos := GT.pos
  ag1 := fun h => by cases h
  len := fun h => GT.len h
  one := fun h => GT.one h
  mono := fun h k => GT.mono h k

/-- A part of a datum lies at cell k. -/
def Fd (k : Nat) (f : α → β) : Prop := ∀ (M : Heap) (cs : List Value) (x : α), GT.ok M cs x → GT.ok M ((cs.drop k).take (GT.sz β)) (f x)
theorem Fd.self : Fd 0 (fun x : α => x) := fun M cs x h => by
  rw [List.drop_zero, List.take_of_length_le (by rw [GT.len h]; exact Nat.le_refl _)]; exact h
theorem Fd.fst {γ : Type} [GT γ] {k : Nat} {f : α → γ} (h : Fd k f) (hk : k + GT.sz γ ≤ GT.sz α) : Fd k (fun x : α × β => f x.1) := by
  rintro M cs x ⟨c, d, rfl, h1, h2⟩
  have hl := GT.len h1
  rw [List.drop_append_of_le_length (by omega), List.take_append_of_le_length (by rw [List.length_drop]; omega)]
  exact h M c x.1 h1
theorem Fd.snd {γ : Type} [GT γ] {k k' : Nat} {f : β → γ} (h : Fd k f) (hk : k' = GT.sz α + k) : Fd k' (fun x : α × β => f x.2) := by
  rintro M cs x ⟨c, d, rfl, h1, h2⟩
  subst hk
  rw [← GT.len h1, List.drop_length_add_append]
  exact h M d x.2 h2
/-- A part of a datum at cell k is exchanged. -/
def Fs (k : Nat) (β : Type) [GT β] (f : α → β → α) : Prop :=
  ∀ (M : Heap) (cs ds : List Value) (x : α) (y : β), GT.ok M cs x → GT.ok M ds y → GT.ok M (cs.take k ++ ds ++ cs.drop (k + GT.sz β)) (f x y)
theorem Fs.self : Fs 0 α (fun _ y : α => y) := fun M cs ds x y h1 h2 => by
  rw [List.take_zero, List.nil_append, List.drop_eq_nil_of_le (by rw [GT.len h1]; omega), List.append_nil]; exact h2
theorem Fs.fst {γ : Type} [GT γ] {k : Nat} {f : α → γ → α} (h : Fs k γ f) (hk : k + GT.sz γ ≤ GT.sz α) : Fs k γ (fun (x : α × β) y => (f x.1 y, x.2)) := by
  rintro M cs ds x y ⟨c, d, rfl, h1, h2⟩ hy
  have hl := GT.len h1
  refine ⟨c.take k ++ ds ++ c.drop (k + GT.sz γ), d, ?_, h M c ds x.1 y h1 hy, h2⟩
  rw [List.take_append_of_le_length (by omega), List.drop_append_of_le_length (by omega)]
  simp only [List.append_assoc]
theorem Fs.snd {γ : Type} [GT γ] {k k' : Nat} {f : β → γ → β} (h : Fs k γ f) (hk : k' = GT.sz α + k) : Fs k' γ (fun (x : α × β) y => (x.1, f x.2 y)) := by
  rintro M cs ds x y ⟨c, d, rfl, h1, h2⟩ hy
  subst hk
  refine ⟨c, d.take k ++ ds ++ d.drop (k + GT.sz γ), ?_, h1, h M d ds x.2 y h2 hy⟩
  rw [← GT.len h1, List.take_length_add_append, Nat.add_assoc, List.drop_length_add_append]
  simp only [List.append_assoc]
end

/-! ### Assertions on data -/
section
variable {α β : Type} [GT α] [GT β]
/-- The value reads as x. -/
def rd (v : Value) (x : α) : HP := ⟨fun M h => rdV M v x ∧ h = hnil, fun k ⟨a, b⟩ => ⟨a.mono k, b⟩⟩
def ptV (M : Heap) (v : Value) (x : α) : Prop := ∃ ad cs, v = .pointer (some ad) ∧ GT.ok M cs x ∧ At M ad cs
/-- The value is the address of memory that never changes and reads as x. -/
def pt (v : Value) (x : α) : HP := ⟨fun M h => ptV M v x ∧ h = hnil, fun k ⟨⟨ad, cs, e, ho, ha⟩, b⟩ => ⟨⟨ad, cs, e, GT.mono k ho, ha.mono k⟩, b⟩⟩
/-- Block g is a variable of type e that reads as x. -/
def bx (e : TypeId) (g : Nat) (x : α) : HP := ⟨fun M h => ∃ cs, GT.ok M cs x ∧ h = Gk.one g (.cells cs.toArray e (0, 0)), fun k ⟨cs, ho, hh⟩ => ⟨cs, GT.mono k ho, hh⟩⟩
/-- Block g is a variable of one cell that holds v. -/
def bv (e : TypeId) (g : Nat) (v : Value) : HP := ⟨fun _ h => v.oneCell' = true ∧ h = Gk.one g (.cells #[v] e (0, 0)), fun _ h => h⟩
/-- Cells, one behind the other, read as a list. -/
def Cells (M : Heap) (xs : List Value) (l : List α) : Prop :=
  xs.length = l.length * GT.sz α ∧ ∀ i x, l[i]? = some x → GT.ok M ((xs.drop (i * GT.sz α)).take (GT.sz α)) x
theorem Cells.mono {M M' : Heap} (h : hle M M') {xs : List Value} {l : List α} (hc : Cells M xs l) : Cells M' xs l := ⟨hc.1, fun i x hx => GT.mono h (hc.2 i x hx)⟩
/-- The slice v owns its row: block g, from cell o on, to the block's end. -/
def ownV (e : TypeId) (M : Heap) (h : Heap) (v : Value) (l : List α) : Prop :=
  (v = .slice none 0 0 ∧ l = [] ∧ h = hnil) ∨
  ∃ g o cap cur xs, v = .slice (some ⟨g, o, none⟩) l.length cap ∧ l.length ≤ cap ∧ cap ≤ maxLen ∧ h = Gk.one g (.cells cur e (0, 0)) ∧
    o + cap * GT.sz α ≤ cur.size ∧ (cur.toList.drop o).take (l.length * GT.sz α) = xs ∧ Cells M xs l
def own (e : TypeId) (v : Value) (l : List α) : HP := ⟨fun M h => ownV e M h v l, fun {M M' h} k hh => by
  rcases hh with hh | ⟨g, o, cap, cur, xs, h1, h2, h3, h4, h5, h6, h7⟩
  · exact .inl hh
  · exact .inr ⟨g, o, cap, cur, xs, h1, h2, h3, h4, h5, h6, h7.mono k⟩⟩
end

/-! ### The slots -/
def upd (σ : Nat → Value) (d : Nat) (v : Value) : Nat → Value := fun t => bif Nat.beq t d then v else σ t
def ev (σ : Nat → Value) : Operand → Value
  | .tmp t => σ t
  | .const v => v
  | .global g => .pointer (some ⟨g, 0, none⟩)
  | .func f => .func (.func f) #[] #[]
structure Sl (n : Nat) (σ : Nat → Value) (a : Act) : Prop where
  defers : a.defers = []
  size : a.tmps.size = n
  get : ∀ t, a.tmps.getD t undef = σ t
theorem Sl.ev {n : Nat} {σ : Nat → Value} {a : Act} (h : Sl n σ a) : a.eval = ev σ := by
  funext x
  cases x with
  | tmp t => exact h.get t
  | const v => rfl
  | global g => rfl
  | func f => rfl
theorem Sl.put {n : Nat} {σ : Nat → Value} {a : Act} (h : Sl n σ a) {d : Nat} (hd : Nat.blt d n = true) (v : Value) : Sl n (upd σ d v) (a.put (some d) v) where
  defers := h.defers
  size := by simp [Act.put, h.size]
  get := fun t => by
    have hd' : d < a.tmps.size := by rw [h.size]; exact Nat.blt_eq ▸ hd
    unfold upd
    by_cases e : t = d
    · subst e
      simp [Act.put, hd']
    · have hb : Nat.beq t d = false := by
        cases hx : Nat.beq t d with
        | false => rfl
        | true => exact absurd (Nat.eq_of_beq_eq_true hx) e
      rw [hb]
      simp only [cond_false, ← h.get t, Act.put, Array.getD_eq_getD_getElem?]
      rw [Array.getElem?_setIfInBounds_ne (fun h => e h.symm)]
theorem Sl.put_none {n : Nat} {σ : Nat → Value} {a : Act} (h : Sl n σ a) (v : Value) : Sl n σ (a.put none v) := h

abbrev Post := Exit → (Nat → Value) → World → Prop
def Lf (n : Nat) (Q : Post) : Exit → Act → World → Prop := fun ex a w => ∃ σ, Sl n σ a ∧ Q ex σ w
def RL (P : Program) (n : Nat) (ops : Array Oper) (rest : List Oper) (σ : Nat → Value) (w : World) (Q : Post) : Prop :=
  ∀ a, Sl n σ a → wpList P ops (Lf n Q) rest a w
def RC (P : Program) (n : Nat) (c : Code) (σ : Nat → Value) (w : World) (Q : Post) : Prop := ∀ a, Sl n σ a → c.wp P (Lf n Q) a w
def thenQ (P : Program) (n : Nat) (y : Code) (Q : Post) : Post
  | .normal, σ, w => RC P n y σ w Q
  | e, σ, w => Q e σ w
def blkQ (id : Nat) (Q : Post) : Post
  | .exit i, σ, w => if i = id then Q .normal σ w else Q (.exit i) σ w
  | e, σ, w => Q e σ w

section
variable {P : Program} {n : Nat} {σ : Nat → Value} {w : World} {Q Q' : Post} {x y c : Code} {id : Nat}
theorem RC.mono (h : RC P n c σ w Q) (hq : ∀ e σ w, Q e σ w → Q' e σ w) : RC P n c σ w Q' :=
  fun a ha => wp_mono (h a ha) fun e _ w ⟨σ, hs, q⟩ => ⟨σ, hs, hq e σ w q⟩
theorem RC.seq (h : RC P n x σ w (thenQ P n y Q)) : RC P n (.seq x y) σ w Q := fun a ha =>
  wp_seq (wp_mono (h a ha) fun e a w ⟨σ, hs, q⟩ => by
    cases e with
    | normal => exact q a hs
    | _ => exact ⟨σ, hs, q⟩)
theorem RC.block (h : RC P n x σ w (blkQ id Q)) : RC P n (.block id x) σ w Q := fun a ha =>
  wp_block (wp_mono (h a ha) fun e a w ⟨σ, hs, q⟩ => by
    cases e with
    | exit i =>
      simp only [blkQ] at q
      simp only [Exit.inBlock]
      split at q
      · rename_i e; subst e; simp; exact ⟨σ, hs, q⟩
      · rename_i e; simp [e]; exact ⟨σ, hs, q⟩
    | _ => exact ⟨σ, hs, q⟩)
theorem RC.skip (h : Q .normal σ w) : RC P n .skip σ w Q := fun _ ha => wp_skip ⟨σ, ha, h⟩
theorem RC.ret (h : Q .ret σ w) : RC P n .ret σ w Q := fun _ ha => wp_ret ⟨σ, ha, h⟩
theorem RC.exit {i : Nat} (h : Q (.exit i) σ w) : RC P n (.exit i) σ w Q := fun _ ha => wp_exit ⟨σ, ha, h⟩
theorem RC.cond {q : Operand} {b : Bool} (hc : ev σ q = .bool b) (ht : b = true → RC P n x σ w Q) (hf : b = false → RC P n y σ w Q) : RC P n (.cond q x y) σ w Q :=
  fun a ha => wp_cond_split (t := b) (by rw [ha.ev]; exact hc) (fun h => ht h a ha) (fun h => hf h a ha)
theorem RC.region {l : List Oper} (h : RL P n l.toArray l σ w Q) : RC P n (.region id l.toArray false) σ w Q := fun a ha => wp_region_lit (h a ha)
theorem RL.nil {ops : Array Oper} (h : Q .normal σ w) : RL P n ops [] σ w Q := fun _ ha => ⟨σ, ha, h⟩
theorem thenQ_n (h : RC P n y σ w Q) : thenQ P n y Q .normal σ w := h
theorem blkQ_n (h : Q .normal σ w) : blkQ id Q .normal σ w := h
theorem blkQ_e (h : Q .normal σ w) : blkQ id Q (.exit id) σ w := by simp only [blkQ, if_true]; exact h

/-- What a call must come to: the function's results. -/
def finQ (P : Program) (n : Nat) (fn : Func) (R : Value → World → Prop) : Post
  | .normal, σ, w | .ret, σ, w => ∃ v, (∀ a, Sl n σ a → (results fn a.tmps).run P w = .ok v w) ∧ R v w
  | _, _, _ => False
def Ret (R : Value → World → Prop) : Ending → World → Prop := fun e w => ∃ v, e = .returned v ∧ R v w
def lget (l : List Value) (t : Nat) : Value := l.getD t undef

theorem enter {f : FuncId} {fn : Func} {args : List Value} {R : Value → World → Prop} (hf : P.funcs[f]? = some fn) (hb : fn.body = some c) (hn : fn.ntmps = n)
    (hk : args.length ≤ n) (h : RC P n c (lget args) w (finQ P n fn R)) : Calls P f args.toArray w (Ret R) := by
  refine calls_of_wp hf hb (wp_mono (h _ ⟨rfl, ?_, fun t => ?_⟩) fun e a w ⟨σ, hs, q⟩ => ?_)
  · simp [hn]; omega
  · simp only [lget, Array.getD_eq_getD_getElem?, List.getD_eq_getElem?_getD]
    by_cases ht : t < args.length
    · rw [Array.getElem?_append_left (by simpa using ht)]; simp
    · rw [Array.getElem?_append_right (by simpa using ht)]
      simp only [List.getElem?_eq_none (Nat.le_of_not_lt ht), Array.getElem?_replicate]
      split <;> rfl
  · cases e with
    | normal => obtain ⟨v, hv, hR⟩ := q; exact ⟨hs.defers, v, hv a hs, v, rfl, hR⟩
    | ret => obtain ⟨v, hv, hR⟩ := q; exact ⟨hs.defers, v, hv a hs, v, rfl, hR⟩
    | _ => exact q.elim
theorem fin1 {fn : Func} {R : Value → World → Prop} {t : Nat} {v : Value} (hr : fn.results = #[.tmp t]) (hv : σ t = v) (h : R v w) : finQ P n fn R .ret σ w :=
  ⟨v, fun a ha => by rw [results_tmp hr, ha.get, hv], h⟩
theorem fin2 {fn : Func} {R : Value → World → Prop} {t u : Nat} {v v' : Value} (hr : fn.results = #[.tmp t, .tmp u]) (hv : σ t = v) (hv' : σ u = v') (h : R (.tuple #[v, v']) w) : finQ P n fn R .ret σ w :=
  ⟨_, fun a ha => by rw [results_tmp2 hr, ha.get, ha.get, hv, hv'], h⟩
theorem fin3 {fn : Func} {R : Value → World → Prop} {t u s : Nat} {v v' v'' : Value} (hr : fn.results = #[.tmp t, .tmp u, .tmp s]) (hv : σ t = v) (hv' : σ u = v') (hv'' : σ s = v'')
    (h : R (.tuple #[v, v', v'']) w) : finQ P n fn R .ret σ w :=
  ⟨_, fun a ha => by simp [results, hr, ha.get, hv, hv', hv''], h⟩
theorem fin0 {fn : Func} {R : Value → World → Prop} (hr : fn.results = #[]) (h : R (.tuple #[]) w) : finQ P n fn R .ret σ w :=
  ⟨_, fun a _ => by rw [results_none hr], h⟩
theorem fin_n {fn : Func} {R : Value → World → Prop} (h : finQ P n fn R .ret σ w) : finQ P n fn R .normal σ w := h

/-! ### One operation -/
/-- The operation is carried out. -/
def Wn (ops : Array Oper) (σ : Nat → Value) : Option (Nat × Bool) → Prop
  | none => True
  | some (j, b) => ∃ t, (ops[j]?).bind (·.dst) = some t ∧ σ t = .bool b
theorem Wn.wanted {ops : Array Oper} {o : Oper} {a : Act} (h : Wn ops σ o.guard) (ha : Sl n σ a) : Region.wanted o (yielded ops a.tmps) = true := by
  unfold Region.wanted
  cases e : o.guard with
  | none => rfl
  | some jb =>
    obtain ⟨j, b⟩ := jb
    rw [e] at h
    obtain ⟨t, ht, hb⟩ := h
    have hg := ha.get t
    rw [hb, Array.getD_eq_getD_getElem?] at hg
    have : a.tmps[t]? = some (.bool b) := by
      cases hx : a.tmps[t]? with
      | none => rw [hx] at hg; cases hg
      | some v => rw [hx] at hg; simp at hg; rw [hg]
    simp [yielded, ht, this]

variable {ops : Array Oper} {rest : List Oper} {d : Nat} {ty : TypeId} {pos : String} {af : Array Edge} {g : Option (Nat × Bool)} {w' : World} {v : Value} {op : Op}
theorem RL.val (hg : Wn ops σ g) (hd : Nat.blt d n = true) (hrun : (execOp (ev σ) ⟨some d, op, ty, pos, af, g⟩).run P w = .ok (.value v) w')
    (k : RL P n ops rest (upd σ d v) w' Q) : RL P n ops (⟨some d, op, ty, pos, af, g⟩ :: rest) σ w Q := by
  intro a ha
  unfold wpList
  rw [if_pos (Wn.wanted (o := ⟨some d, op, ty, pos, af, g⟩) hg ha)]
  refine .inl ?_
  unfold Oper.wp
  rw [ha.ev, hrun]
  exact k _ (ha.put hd v)
/-- An operation that yields nothing. -/
theorem RL.unit (hg : Wn ops σ g) (hrun : (execOp (ev σ) ⟨none, op, ty, pos, af, g⟩).run P w = .ok .skip w')
    (k : RL P n ops rest σ w' Q) : RL P n ops (⟨none, op, ty, pos, af, g⟩ :: rest) σ w Q := by
  intro a ha
  unfold wpList
  rw [if_pos (Wn.wanted (o := ⟨none, op, ty, pos, af, g⟩) hg ha)]
  refine .inl ?_
  unfold Oper.wp
  rw [ha.ev, hrun]
  exact k _ (ha.put_none _)
theorem RL.unitd (hg : Wn ops σ g) (hd : Nat.blt d n = true) (hrun : (execOp (ev σ) ⟨some d, op, ty, pos, af, g⟩).run P w = .ok .skip w')
    (k : RL P n ops rest (upd σ d undef) w' Q) : RL P n ops (⟨some d, op, ty, pos, af, g⟩ :: rest) σ w Q := by
  intro a ha
  unfold wpList
  rw [if_pos (Wn.wanted (o := ⟨some d, op, ty, pos, af, g⟩) hg ha)]
  refine .inl ?_
  unfold Oper.wp
  rw [ha.ev, hrun]
  exact k _ (ha.put hd _)
/-- An operation whose guard says no. -/
theorem RL.skip {j t : Nat} {b : Bool} (ht : (ops[j]?).bind (·.dst) = some t) (hv : σ t = .bool (!b) ∨ σ t = undef) (hd : Nat.blt d n = true)
    (k : RL P n ops rest (upd σ d undef) w Q) : RL P n ops (⟨some d, op, ty, pos, af, some (j, b)⟩ :: rest) σ w Q := by
  intro a ha
  have hno : Region.wanted ⟨some d, op, ty, pos, af, some (j, b)⟩ (yielded ops a.tmps) = false := by
    have hg := ha.get t
    rw [Array.getD_eq_getD_getElem?] at hg
    simp only [Region.wanted, yielded, ht, Option.bind_some]
    cases hx : a.tmps[t]? with
    | none => rfl
    | some u =>
      rw [hx] at hg
      simp at hg
      subst hg
      rcases hv with h | h <;> rw [h]
      · cases b <;> rfl
      · rfl
  unfold wpList
  rw [if_neg (by rw [hno]; decide)]
  exact k _ (ha.put hd _)
/-- A call of a Go function. -/
theorem RL.enters {f : FuncId} {args : Array Value} (hg : Wn ops σ g) (hd : Nat.blt d n = true)
    (hrun : (execOp (ev σ) ⟨some d, op, ty, pos, af, g⟩).run P w = .ok (.enter f args) w)
    (k : Calls P f args w (Ret fun v w' => RL P n ops rest (upd σ d v) w' Q)) : RL P n ops (⟨some d, op, ty, pos, af, g⟩ :: rest) σ w Q := by
  intro a ha
  unfold wpList
  rw [if_pos (Wn.wanted (o := ⟨some d, op, ty, pos, af, g⟩) hg ha)]
  refine .inl ?_
  unfold Oper.wp
  rw [ha.ev, hrun]
  refine Calls.mono k fun e w'' he => ?_
  obtain ⟨v, rfl, h⟩ := he
  exact h _ (ha.put hd v)
theorem run_callFunc {f : FuncId} {fn : Func} {args : Array Value} (hf : P.funcs[f]? = some fn) (hnm : (fn.name == "runtime.NumGoroutine") = false) (hb : fn.body.isNone = false) :
    (callFunc f args).run P w = .ok (.enter f args) w := by
  unfold callFunc program
  simp only [Bind.bind, Sem.bind, Sem.run, hf]
  rw [if_neg (by rw [hnm]; decide), if_neg (by rw [hb]; decide)]
  rfl
/-- The function is called as one of the program's own. -/
structure Fnc (P : Program) (f : FuncId) : Prop where
  run : ∀ (args : Array Value) (w : World), (callFunc f args).run P w = .ok (.enter f args) w
theorem RL.call {f : FuncId} {args : Array Operand} {ts : Array TypeId} (hg : Wn ops σ g) (hd : Nat.blt d n = true) (hf : Fnc P f) (vs : List Value)
    (hvs : args.toList.map (ev σ) = vs) (k : Calls P f vs.toArray w (Ret fun v w' => RL P n ops rest (upd σ d v) w' Q)) :
    RL P n ops (⟨some d, .call ⟨.value (.func f), args, ts⟩, ty, pos, af, g⟩ :: rest) σ w Q := by
  have e : args.map (ev σ) = vs.toArray := by rw [← hvs]; cases args; simp
  refine RL.enters (f := f) (args := vs.toArray) hg hd ?_ k
  simp only [execOp, resolve, Sem.run_bind]
  simp only [ev, Deferred.ofValue, e, Sem.run_pure, Result.andThen_ok, invoke]
  simpa using hf.run vs.toArray w
theorem RL.callv {q : Operand} {f : FuncId} {args : Array Operand} {ts : Array TypeId} {cap : List Value} (hg : Wn ops σ g) (hd : Nat.blt d n = true) (hf : Fnc P f)
    (hq : ev σ q = .func (.func f) #[] cap.toArray) (vs : List Value)
    (hvs : args.toList.map (ev σ) = vs) (k : Calls P f (vs ++ cap).toArray w (Ret fun v w' => RL P n ops rest (upd σ d v) w' Q)) :
    RL P n ops (⟨some d, .call ⟨.value q, args, ts⟩, ty, pos, af, g⟩ :: rest) σ w Q := by
  have e : args.map (ev σ) = vs.toArray := by rw [← hvs]; cases args; simp
  refine RL.enters (f := f) (args := (vs ++ cap).toArray) hg hd ?_ k
  simp only [execOp, resolve, Sem.run_bind]
  simp only [hq, Deferred.ofValue, e, Sem.run_pure, Result.andThen_ok, invoke]
  simpa using hf.run (vs ++ cap).toArray w
theorem Calls_ret {f : FuncId} {args : Array Value} {R R' : Value → World → Prop} (h : Calls P f args w (Ret R)) (k : ∀ v w', R v w' → R' v w') : Calls P f args w (Ret R') :=
  Calls.mono h fun _ w' ⟨v, e, hr⟩ => ⟨v, e, k v w' hr⟩
end
end Go.Gk
