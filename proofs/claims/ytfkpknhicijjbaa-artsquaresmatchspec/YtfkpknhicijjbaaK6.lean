/-
  More rules: joins, slots told by a list, functions as values, slice literals, results that lie in memory.
  No statement of the seed is proved here.
-/
import Derived.Test.YtfkpknhicijjbaaK5
set_option linter.unusedVariables false
set_option linter.unusedSimpArgs false
set_option linter.unusedSectionVars false
namespace Go.Gk
open Go

/-! ### Slots told by a list -/
def ups : List (Nat × Value) → (Nat → Value) → Nat → Value
  | [], τ => τ
  | (d, v) :: l, τ => upd (ups l τ) d v
def agree (σ : Nat → Value) : List (Nat × Value) → Prop
  | [] => True
  | (d, v) :: l => σ d = v ∧ agree σ l
theorem agree.ups {σ : Nat → Value} {l : List (Nat × Value)} (h : agree σ l) : ∃ τ, σ = Gk.ups l τ := by
  refine ⟨σ, ?_⟩
  induction l with
  | nil => rfl
  | cons p l ih =>
    obtain ⟨d, v⟩ := p
    obtain ⟨h1, h2⟩ := h
    have := ih h2
    funext t
    show σ t = upd (Gk.ups l σ) d v t
    unfold upd
    cases e : Nat.beq t d with
    | true => rw [Nat.eq_of_beq_eq_true e, h1]; rfl
    | false => rw [← this]; rfl

/-! ### Plain operations that may fail -/
def idx {α : Type} (l : List α) (i : Int) : Option α := if 0 ≤ i then l[i.toNat]? else none
def sidx (s : Str) (i : Int) : Option UInt8 := if 0 ≤ i then s.toL[i.toNat]? else none
def Fo.cs {S R β : Type} (o : Fo S R) (f : S → β) (g : R → β) : β := match o with | .go s => f s | .rt r => g r

section
variable {P : Program} {n : Nat} {σ : Nat → Value} {w : World} {Q : Post} {x y c : Code} {S : Type}
theorem RC.jn (J : S → (Nat → Value) → World → Prop) (s : S) (hx : RC P n x σ w (fun ex σ w => ex = .normal ∧ J s σ w)) (hy : ∀ σ w, J s σ w → Q .normal σ w) : RC P n x σ w Q :=
  RC.mono hx fun ex σ w ⟨e, hJ⟩ => by subst e; exact hy σ w hJ
theorem thenQ_x {i : Nat} (h : Q (.exit i) σ w) : thenQ P n y Q (.exit i) σ w := h
theorem thenQ_r (h : Q .ret σ w) : thenQ P n y Q .ret σ w := h
theorem blkQ_x {i id : Nat} (hne : i ≠ id) (h : Q (.exit i) σ w) : blkQ id Q (.exit i) σ w := by simp only [blkQ, if_neg hne]; exact h
theorem blkQ_r {id : Nat} (h : Q .ret σ w) : blkQ id Q .ret σ w := h
end

section
variable {α β : Type} [GT α] [GT β] {P : Program} {E w : World} {Γ : List HP} {i : Nat} {v : Value} {x : α}
theorem Holds.rd_nil (h : Holds E w Γ) (α : Type) [GT α] : Holds E w (rd (.slice none 0 0) ([] : List α) :: Γ) :=
  h.know fun _ _ _ => ⟨rdV_list.2 ⟨none, 0, 0, rfl, rfl, Nat.le_refl _, by simp [maxLen], fun i x hx => by simp at hx⟩, rfl⟩
/-- A variable is written no more. -/
theorem Holds.freeze_bx {e : TypeId} {b : Nat} (h : Holds E w Γ) (hi : Γ[i]? = some (bx e b x)) : Holds E w (Γ.set i (pt (.pointer (some ⟨b, 0, none⟩)) x)) := by
  obtain ⟨M, hs, g⟩ := h
  have hlt := lt_of_get hi
  obtain ⟨cs, ho, hh⟩ := g.sat i _ hi
  have hb : hs i b = some (.cells cs.toArray e (0, 0)) := by rw [hh]; exact one_self _ _
  refine ⟨_, _, g.freeze (P' := pt _ x) hlt ⟨⟨⟨b, 0, none⟩, cs, rfl, GT.mono (hle_hor _ _) ho, fun j u hu => ?_⟩, rfl⟩⟩
  rw [Addr.add_lit]
  simp only [cellM, hor, g.dm i b _ hlt hb, hb]
  simpa using hu
theorem Fd.comp {γ : Type} [GT γ] {k k' : Nat} {f : α → β} {f' : β → γ} (h : Fd k f) (h' : Fd k' f') (hk : k' + GT.sz γ ≤ GT.sz β) : Fd (k + k') (fun x => f' (f x)) := by
  intro M cs x ho
  have h1 := h' M _ _ (h M cs x ho)
  rw [List.drop_take, List.drop_drop, List.take_take] at h1
  rw [Nat.min_eq_left (by omega)] at h1
  exact h1
theorem Holds.ofArr {l : List Value} {Q : List Value → Prop} (h : Q l) : Q l := h
end

section
variable {α β : Type} [GT α] [GT β] {P : Program} {n : Nat} {σ : Nat → Value} {w : World} {Q : Post} {E : World} {Γ : List HP} {i j : Nat}
variable {ops : Array Oper} {rest : List Oper} {d : Nat} {ty t e T : TypeId} {pos : String} {af : Array Edge} {g : Option (Nat × Bool)} {v vy : Value} {q r : Operand}
variable {x : α}
/-- The result lies in a variable. -/
theorem finC {fn : Func} {R : Value → World → Prop} {t' b : Nat} (hr : fn.results = #[.cell t' T]) (hw : Holds E w Γ) (hp : σ t' = .pointer (some ⟨b, 0, none⟩)) (hi : Γ[i]? = some (bx e b x)) (hT : TyA P T (GT.agg α) (GT.sz α))
    (h : ∀ v, Holds E w (rd v x :: Γ) → R v w) : finQ P n fn R .ret σ w := by
  obtain ⟨M, hs, gd⟩ := hw
  obtain ⟨cs, ho, hh⟩ := gd.sat i _ hi
  have hb := gd.le i b _ (lt_of_get hi) (by rw [hh]; exact one_self b _)
  refine ⟨vof α cs, fun a ha => ?_, h _ ⟨M, _, gd.cons_nil ⟨⟨cs, rfl, ho⟩, rfl⟩⟩⟩
  have hl : (loadVar T ⟨b, 0, none⟩).run P w = .ok (vof α cs) w := run_loadVar hT ho fun j u hu => by
    rw [Addr.add_lit, cell_of_row w b _ _ _ _ hb]; simpa using hu
  simp [results, hr, ha.get, hp, asAddr, hl]
/-- The results: one in a variable, others behind it. -/
theorem finC2 {fn : Func} {R : Value → World → Prop} {t' u b : Nat} {v' : Value} (hr : fn.results = #[.cell t' T, .tmp u]) (hw : Holds E w Γ) (hp : σ t' = .pointer (some ⟨b, 0, none⟩)) (hi : Γ[i]? = some (bx e b x)) (hT : TyA P T (GT.agg α) (GT.sz α))
    (hv' : σ u = v') (h : ∀ v, Holds E w (rd v x :: Γ) → R (.tuple #[v, v']) w) : finQ P n fn R .ret σ w := by
  obtain ⟨M, hs, gd⟩ := hw
  obtain ⟨cs, ho, hh⟩ := gd.sat i _ hi
  have hb := gd.le i b _ (lt_of_get hi) (by rw [hh]; exact one_self b _)
  refine ⟨_, fun a ha => ?_, h _ ⟨M, _, gd.cons_nil ⟨⟨cs, rfl, ho⟩, rfl⟩⟩⟩
  have hl : (loadVar T ⟨b, 0, none⟩).run P w = .ok (vof α cs) w := run_loadVar hT ho fun j u hu => by
    rw [Addr.add_lit, cell_of_row w b _ _ _ _ hb]; simpa using hu
  simp [results, hr, ha.get, hp, hv', asAddr, hl]
theorem finC3 {fn : Func} {R : Value → World → Prop} {t' u u2 b : Nat} {v' v2 : Value} (hr : fn.results = #[.cell t' T, .tmp u, .tmp u2]) (hw : Holds E w Γ) (hp : σ t' = .pointer (some ⟨b, 0, none⟩)) (hi : Γ[i]? = some (bx e b x)) (hT : TyA P T (GT.agg α) (GT.sz α))
    (hv' : σ u = v') (hv2 : σ u2 = v2) (h : ∀ v, Holds E w (rd v x :: Γ) → R (.tuple #[v, v', v2]) w) : finQ P n fn R .ret σ w := by
  obtain ⟨M, hs, gd⟩ := hw
  obtain ⟨cs, ho, hh⟩ := gd.sat i _ hi
  have hb := gd.le i b _ (lt_of_get hi) (by rw [hh]; exact one_self b _)
  refine ⟨_, fun a ha => ?_, h _ ⟨M, _, gd.cons_nil ⟨⟨cs, rfl, ho⟩, rfl⟩⟩⟩
  have hl : (loadVar T ⟨b, 0, none⟩).run P w = .ok (vof α cs) w := run_loadVar hT ho fun j u hu => by
    rw [Addr.add_lit, cell_of_row w b _ _ _ _ hb]; simpa using hu
  simp [results, hr, ha.get, hp, hv', hv2, asAddr, hl]

theorem run_load_bf {b m : Nat} {o : Oper} {f : α → β} (ho : o.op = .load T q) (hw : Holds E w Γ) (hx : ev σ q = .pointer (some ⟨b, m, none⟩)) (hi : Γ[i]? = some (bx e b x)) (hF : Fd m f) (hT : TyA P T (GT.agg β) (GT.sz β)) :
    ∃ v, (execOp (ev σ) o).run P w = .ok (.value v) w ∧ Holds E w (rd v (f x) :: Γ) := by
  obtain ⟨M, hs, gd⟩ := hw
  obtain ⟨cs, ho2, hh⟩ := gd.sat i _ hi
  have hb := gd.le i b _ (lt_of_get hi) (by rw [hh]; exact one_self b _)
  have ho' := hF M cs x ho2
  refine ⟨vof β ((cs.drop m).take (GT.sz β)), ?_, ⟨M, _, gd.cons_nil ⟨⟨_, rfl, ho'⟩, rfl⟩⟩⟩
  have hl : (loadVar T ⟨b, m, none⟩).run P w = .ok (vof β ((cs.drop m).take (GT.sz β))) w := run_loadVar hT ho' fun j u hu => by
    rw [Addr.add_lit, cell_of_row w b _ _ _ _ hb]
    rw [List.getElem?_take] at hu
    split at hu
    · rw [List.getElem?_drop] at hu; simpa using hu
    · cases hu
  unfold execOp; rw [ho]
  simp only [hx, Instr.loadAt, Instr.sureAddr, Sem.run_bind, Sem.run_pure, Result.andThen_ok, hl]
theorem gs_load_bfs {γ : Type} [Sc γ] {b m : Nat} {o : Oper} {f : α → γ} {C : Bool} (ho : o.op = .load T q) (hw : Holds E w Γ) (hx : C = true → ev σ q = .pointer (some ⟨b, m, none⟩)) (hi : Γ[i]? = some (bx e b x)) (hF : Fd m f) (hT : TyA P T false 1) :
    C = true → (execOp (ev σ) o).run P w = .ok (.value (Sc.toV (f x))) w := fun h => by
  obtain ⟨v, h1, h2⟩ := run_load_bf (f := f) ho hw (hx h) hi hF hT
  rw [h1, h2.ofSc (i := 0) rfl]
theorem gs_fa_b {b o' j m : Nat} {o : Oper} {C : Bool} (ho : o.op = .fieldAddr T q j) (hx : C = true → ev σ q = .pointer (some ⟨b, o', none⟩)) (hf : FAt P T j m) :
    C = true → (execOp (ev σ) o).run P w = .ok (.value (.pointer (some ⟨b, o' + m, none⟩))) w := fun h => by
  unfold execOp; rw [ho]
  simp only [hx h, Sem.run_bind, hf.run, Result.andThen_ok, Sem.run_pure, Addr.add_lit]
theorem cv_b {C b want : Bool} (h : (C && (b == want)) = true) : cv C (.bool b) = .bool want := by
  rw [cv_t (and_l h)]; have := and_r h; simp at this; rw [this]
theorem cv_nb {C b want : Bool} (h : (C && (b == want)) = false) : cv C (.bool b) = .bool (!want) ∨ cv C (.bool b) = undef := by
  cases C with
  | false => exact .inr rfl
  | true => left; cases b <;> cases want <;> first | rfl | (cases h)
theorem RL.conv {K K' : IntKind} {a : Int} {s s' : TypeId} (hg : Wn ops σ g) (hd : Nat.blt d n = true) (hx : ev σ q = .int K a) (hs : ∃ D, P.underlying s = some D) (ht : P.underlying s' = some (.int K'))
    (k : RL P n ops rest (upd σ d (.int K' (K'.wrap a))) w Q) : RL P n ops (⟨some d, .convert s s' q, ty, pos, af, g⟩ :: rest) σ w Q := by
  obtain ⟨D, hD⟩ := hs
  refine RL.val hg hd ?_ k
  have : (convert s s' (.int K a)).run P w = .ok (.int K' (K'.wrap a)) w := by
    unfold convert
    simp only [Sem.run_bind, run_underlying hD, run_underlying ht, Result.andThen_ok]
    cases D <;> rfl
  simp only [execOp, hx, Sem.run_bind, this, Result.andThen_ok, Sem.run_pure]

/-! ### Slice literals -/
theorem run_buildSlice {vs : List Value} {m : Nat} (hu : P.underlying t = some (.slice e)) (hz : ∃ z, (∀ w, (zeroValue e).run P w = .ok z w) ∧ z.cells.size = m) (hs : ∀ w, (sizeOf e).run P w = .ok m w) (hm : 0 < m)
    (hlen : vs.length * m ≤ 16777216) (hvs : ∀ v ∈ vs, v.cells.size = m) (w : World) :
    (Instr.buildSlice t vs.length (vs.zipIdx.map fun p => (p.2, p.1)).toArray).run P w =
      .ok (.slice (some ⟨w.heap.size, 0, none⟩) vs.length vs.length) (w.alloc (.cells (vs.flatMap fun v => v.cells.toList).toArray e)) := by
  obtain ⟨z, hz, hzs⟩ := hz
  have key : ∀ (us : List Value) (k : Nat) (cells : Array Value), cells.size = (k + us.length) * m → (∀ v ∈ us, v.cells.size = m) →
      ∃ c', Instr.fill (fun i => some (i * m, m)) cells ((us.zipIdx k).map fun p => (p.2, p.1)) = some c' ∧ c'.toList = cells.toList.take (k * m) ++ us.flatMap fun v => v.cells.toList := by
    intro us
    induction us with
    | nil => intro k cells hc _; exact ⟨cells, rfl, by simp at hc; rw [List.flatMap_nil, List.append_nil, List.take_of_length_le (by simp [hc])]⟩
    | cons u us ih =>
      intro k cells hc hu'
      have hcu := hu' u (by simp)
      simp only [List.length_cons] at hc
      have hkm : k * m + m ≤ cells.size := by
        rw [hc, show (k + (us.length + 1)) = (k + 1) + us.length by omega, Nat.add_mul, Nat.add_mul, Nat.one_mul]; omega
      have hsp := splice u.cells.toList cells (k * m) (by simp [hcu, hkm])
      simp only [Array.toArray_toList, Array.length_toList, hcu] at hsp
      have hsz : (u.cells.zipIdx.foldl (fun cs (c, j) => cs.setIfInBounds (k * m + j) c) cells).size = (k + 1 + us.length) * m := by
        have := congrArg List.length hsp
        simp only [Array.length_toList, List.length_append, List.length_take, List.length_drop, hcu] at this
        rw [this, Nat.min_eq_left (by omega)]
        have : (k + 1 + us.length) * m = cells.size := by rw [hc]; congr 1; omega
        omega
      obtain ⟨c', h1, h2⟩ := ih (k + 1) _ hsz (fun v hv => hu' v (by simp [hv]))
      refine ⟨c', ?_, ?_⟩
      · rw [List.zipIdx_cons, List.map_cons]
        simp only [Instr.fill]
        rw [if_neg (by simp [hcu]; omega)]
        exact h1
      · rw [h2, hsp, List.flatMap_cons]
        have e1 : (cells.toList.take (k * m) ++ u.cells.toList).length = (k + 1) * m := by
          rw [List.length_append, List.length_take, Array.length_toList, Array.length_toList, hcu, Nat.min_eq_left (by omega), Nat.add_mul, Nat.one_mul]
        rw [← e1, List.take_left, List.append_assoc]
  have h0 : (Array.map (fun i => z.cells[i % z.cells.size]!) (Array.range (vs.length * m))).size = (0 + vs.length) * m := by simp
  obtain ⟨c', h1, h2⟩ := key vs 0 _ h0 hvs
  simp only [Nat.zero_mul, List.take_zero, List.nil_append] at h2
  have hc' : c' = (vs.flatMap fun v => v.cells.toList).toArray := by rw [← h2]
  subst hc'
  unfold Instr.buildSlice
  simp only [Sem.run_bind, run_underlying hu, Result.andThen_ok, hs]
  rw [if_neg (by omega)]
  by_cases hv : vs.length * m = 0
  · have : vs = [] := by
      rcases Nat.mul_eq_zero.1 hv with h | h
      · exact List.eq_nil_of_length_eq_zero h
      · omega
    subst this
    have e0 : Array.range 0 = #[] := rfl
    simp [Instr.fill, newRow, newObj, Sem.run, e0]
  · rw [if_neg hv]
    simp only [Sem.run_bind, hz, Result.andThen_ok, Sem.run_pure]
    rw [h1]
    simp [newRow, newObj, Sem.run]
/-- The elements of a slice literal, with what they read as. -/
def Elems {α : Type} [GT α] (M : Heap) : List Value → List α → Prop
  | [], [] => True
  | v :: vs, x :: l => rdV M v x ∧ Elems M vs l
  | _, _ => False
theorem Elems.spec {M : Heap} : ∀ {vs : List Value} {l : List α}, Elems M vs l → vs.length = l.length ∧ (∀ v ∈ vs, v.cells.size = GT.sz α) ∧ Cells M (vs.flatMap fun v => v.cells.toList) l
  | [], [], _ => ⟨rfl, fun _ h => by simp at h, Cells.nil⟩
  | v :: vs, x :: l, h => by
    obtain ⟨h1, h2⟩ := h
    obtain ⟨a, b, c⟩ := Elems.spec h2
    refine ⟨by simp [a], fun u hu => ?_, ?_⟩
    · rcases List.mem_cons.1 hu with rfl | hu
      · rw [← GT.len h1.cells]; simp
      · exact b u hu
    · rw [List.flatMap_cons]
      exact (Cells.one h1.cells).append c
  | [], _ :: _, h => h.elim
  | _ :: _, [], h => h.elim
structure ZeT (P : Program) (e : TypeId) (m : Nat) : Prop where
  z : ∃ z, (∀ w, (zeroValue e).run P w = .ok z w) ∧ z.cells.size = m
  sz : ∀ w, (sizeOf e).run P w = .ok m w
theorem RL.bslice {m : Nat} {parts : Array (Nat × Operand)} {l : List α} (hg : Wn ops σ g) (hd : Nat.blt d n = true) (hw : Holds E w Γ) (vs : List Value) (hparts : parts.toList.map (fun p => (p.1, ev σ p.2)) = vs.zipIdx.map fun p => (p.2, p.1))
    (hl : m = vs.length) (hm : Nat.ble (m * GT.sz α) 16777216 = true) (hT : SlT P t e (GT.sz α)) (hz : ZeT P e (GT.sz α)) (hel : ∀ M hs, Good E w M hs Γ → Elems M vs l)
    (k : ∀ v w', Holds E w' (own e v l :: Γ) → RL P n ops rest (upd σ d v) w' Q) : RL P n ops (⟨some d, .buildSlice t m parts, ty, pos, af, g⟩ :: rest) σ w Q := by
  subst hl
  have hm' := Nat.ble_eq ▸ hm
  obtain ⟨M0, hs0, gd0⟩ := hw
  obtain ⟨hlen, hsz, hcells⟩ := (hel M0 hs0 gd0).spec
  have hle : vs.length ≤ vs.length * GT.sz α := Nat.le_mul_of_pos_right _ GT.pos
  have hrun := run_buildSlice (P := P) hT.und hz.z hT.sz GT.pos hm' hsz w
  refine RL.val (v := .slice (some ⟨w.heap.size, 0, none⟩) vs.length vs.length) (w' := w.alloc (.cells (vs.flatMap fun v => v.cells.toList).toArray e)) hg hd ?_ (k _ _ (Holds.alloc ⟨M0, hs0, gd0⟩ _ fun M hs gd => ?_))
  · have e1 : parts.map (fun (i, x) => (i, ev σ x)) = (vs.zipIdx.map fun p => (p.2, p.1)).toArray := by rw [← hparts]; cases parts; simp
    simp only [execOp, Sem.run_bind]
    rw [e1, hrun]
    rfl
  · obtain ⟨_, _, hc⟩ := (hel M hs gd).spec
    refine .inr ⟨w.heap.size, 0, vs.length, _, _, by rw [hlen], by omega, by simp only [maxLen]; omega, rfl, ?_, ?_, hc⟩
    · simp only [Nat.zero_add, List.size_toArray, hc.1, hlen]; exact Nat.le_refl _
    · simp only [List.drop_zero]
      rw [← hc.1]
      exact List.take_length
end

/-! ### Functions as values -/
section
variable {α β ρ : Type} [GT α] [GT β] {P : Program} {E : World} {Γ Γ' : List HP} {fv : Value}
/-- The function value computes φ, whatever has come before the entries Γ. -/
def Fn1 (P : Program) (E : World) (Γ : List HP) (fv : Value) (φ : α → Option ρ) (toV : ρ → Value) : Prop :=
  ∃ f cap, fv = .func (.func f) #[] (List.toArray cap) ∧ Fnc P f ∧ ∀ (w : World) (Γl : List HP) (v : Value) (x : α) (r : ρ) (i : Nat),
    Holds E w (Γl ++ Γ) → (Γl ++ Γ)[i]? = some (rd v x) → φ x = some r → Calls P f ([v] ++ cap).toArray w (Ret fun u w' => u = toV r ∧ Holds E w' (Γl ++ Γ))
def Fn2 (P : Program) (E : World) (Γ : List HP) (fv : Value) (φ : α → β → Option ρ) (toV : ρ → Value) : Prop :=
  ∃ f cap, fv = .func (.func f) #[] (List.toArray cap) ∧ Fnc P f ∧ ∀ (w : World) (Γl : List HP) (v v' : Value) (x : α) (y : β) (r : ρ) (i j : Nat),
    Holds E w (Γl ++ Γ) → (Γl ++ Γ)[i]? = some (rd v x) → (Γl ++ Γ)[j]? = some (rd v' y) → φ x y = some r → Calls P f ([v, v'] ++ cap).toArray w (Ret fun u w' => u = toV r ∧ Holds E w' (Γl ++ Γ))
theorem Fn1.lift {φ : α → Option ρ} {toV : ρ → Value} (h : Fn1 P E Γ fv φ toV) (m : Nat) (hd : Γ'.drop m = Γ) : Fn1 P E Γ' fv φ toV := by
  obtain ⟨f, cap, e, hf, hc⟩ := h
  subst hd
  refine ⟨f, cap, e, hf, fun w Γl v x r i hw hi hr => ?_⟩
  have e2 : Γl ++ Γ' = (Γl ++ Γ'.take m) ++ Γ'.drop m := by rw [List.append_assoc, List.take_append_drop]
  rw [e2] at hw hi ⊢
  exact hc w _ v x r i hw hi hr
theorem Fn2.lift {φ : α → β → Option ρ} {toV : ρ → Value} (h : Fn2 P E Γ fv φ toV) (m : Nat) (hd : Γ'.drop m = Γ) : Fn2 P E Γ' fv φ toV := by
  obtain ⟨f, cap, e, hf, hc⟩ := h
  subst hd
  refine ⟨f, cap, e, hf, fun w Γl v v' x y r i j hw hi hj hr => ?_⟩
  have e2 : Γl ++ Γ' = (Γl ++ Γ'.take m) ++ Γ'.drop m := by rw [List.append_assoc, List.take_append_drop]
  rw [e2] at hw hi hj ⊢
  exact hc w _ v v' x y r i j hw hi hj hr
theorem up_get {Γl Γ : List HP} {j : Nat} {Pr : HP} (h : Γ[j]? = some Pr) : (Γl ++ Γ)[Γl.length + j]? = some Pr := by
  rw [List.getElem?_append_right (by omega), Nat.add_sub_cancel_left]; exact h

variable {n : Nat} {σ : Nat → Value} {w : World} {Q : Post} {i j : Nat}
variable {ops : Array Oper} {rest : List Oper} {d : Nat} {ty : TypeId} {pos : String} {af : Array Edge} {g : Option (Nat × Bool)} {v v' : Value} {q r r' : Operand} {ts : Array TypeId}
theorem RL.callF1 {φ : α → Option ρ} {toV : ρ → Value} {x : α} {y : ρ} (hg : Wn ops σ g) (hd : Nat.blt d n = true) (hw : Holds E w Γ) (hq : ev σ q = fv) (hf : Fn1 P E Γ' fv φ toV) (m : Nat) (hdr : Γ.drop m = Γ')
    (hx : ev σ r = v) (hi : Γ[i]? = some (rd v x)) (hr : φ x = some y) (k : ∀ w', Holds E w' Γ → RL P n ops rest (upd σ d (toV y)) w' Q) :
    RL P n ops (⟨some d, .call ⟨.value q, #[r], ts⟩, ty, pos, af, g⟩ :: rest) σ w Q := by
  obtain ⟨f, cap, e, hF, hc⟩ := hf.lift m hdr
  refine RL.callv hg hd hF (by rw [hq, e]) [v] (by simp [hx]) (Calls_ret (hc w [] v x y i (by simpa using hw) (by simpa using hi) hr) ?_)
  rintro u w' ⟨rfl, h⟩
  exact k w' (by simpa using h)
theorem RL.callF2 {φ : α → β → Option ρ} {toV : ρ → Value} {x : α} {x' : β} {y : ρ} (hg : Wn ops σ g) (hd : Nat.blt d n = true) (hw : Holds E w Γ) (hq : ev σ q = fv) (hf : Fn2 P E Γ' fv φ toV) (m : Nat) (hdr : Γ.drop m = Γ')
    (hx : ev σ r = v) (hx' : ev σ r' = v') (hi : Γ[i]? = some (rd v x)) (hj : Γ[j]? = some (rd v' x')) (hr : φ x x' = some y) (k : ∀ w', Holds E w' Γ → RL P n ops rest (upd σ d (toV y)) w' Q) :
    RL P n ops (⟨some d, .call ⟨.value q, #[r, r'], ts⟩, ty, pos, af, g⟩ :: rest) σ w Q := by
  obtain ⟨f, cap, e, hF, hc⟩ := hf.lift m hdr
  refine RL.callv hg hd hF (by rw [hq, e]) [v, v'] (by simp [hx, hx']) (Calls_ret (hc w [] v v' x x' y i j (by simpa using hw) (by simpa using hi) (by simpa using hj) hr) ?_)
  rintro u w' ⟨rfl, h⟩
  exact k w' (by simpa using h)
end
end Go.Gk
