/-
  Maps whose values own slices: the raw map (mp) beside the values' own parts (mbag). No statement of the seed is proved here.
-/
import Derived.Test.YtghiafpkpfipgaaGreatDoorK20
set_option linter.unusedVariables false
set_option linter.unusedSimpArgs false
set_option linter.unusedSectionVars false
namespace Go.Gk
open Go
section
variable {κ ν ρ : Type} [GT κ] [KV κ] [DecidableEq κ]
end
section
variable {κ β : Type} [GT κ] [KV κ] [DecidableEq κ] [GT β] {E w : World} {Γ : List HP} {i j b o : Nat} {e e' : TypeId} {v u : Value} {mr : List (κ × RV)} {m : List (κ × List β)} {k : κ} {y : List β}
/-- the values' own slices; that of key h (if it is one) is lent out -/
def mbag (e' : TypeId) (mr : List (κ × RV)) (m : List (κ × List β)) (h : Option κ) : HP :=
  ⟨fun M hp => mr.map Prod.fst = m.map Prod.fst ∧ (bag (XS e' β) (mr.map Prod.snd) (m.map Prod.snd) (h.bind (mfind m))).ok M hp, fun hk ⟨a, b⟩ => ⟨a, (bag (XS e' β) _ _ _).mono hk b⟩⟩
theorem Ents.raw {M h : Heap} (hd : ∀ b o, h b = some o → M b = none) : ∀ {es : List MapEntry} {mr : List (κ × RV)} {m : List (κ × List β)}, Ents M es mr → mr.map Prod.fst = m.map Prod.fst →
    (∀ (i : Nat) u x, (mr.map Prod.snd)[i]? = some u → (m.map Prod.snd)[i]? = some x → ∃ h', (∀ b o, h' b = some o → h b = some o) ∧ ownV e' M h' (RV.v u) x) → Ents (hor M h) es m
  | [], [], [], _, _, _ => trivial
  | en :: es, p :: mr, q :: m, ⟨h1, h2, h3⟩, hk, hx => by
    simp only [List.map_cons, List.cons.injEq] at hk
    obtain ⟨h', hs, ho⟩ := hx 0 p.2 q.2 rfl rfl
    refine ⟨by rw [h1, hk.1], ?_, Ents.raw hd h3 hk.2 (fun i u x hu hx' => hx (i + 1) u x (by simpa using hu) (by simpa using hx'))⟩
    have : en.val = p.2.v := rdV_sc.1 h2
    rw [this]
    refine rdV_list.2 (sliceOk.mono (fun b o hb => ?_) (ownV.sl (fun b o hb => hd b o (hs b o hb)) ho))
    unfold hor at hb ⊢
    cases hM : M b with
    | some o' => rw [hM] at hb; exact hb
    | none => rw [hM] at hb; exact hs b o hb
  | [], p :: mr, _, h, _, _ => h.elim
  | _ :: _, [], _, h, _, _ => h.elim
  | [], [], q :: m, _, hk, _ => by simp at hk
  | _ :: _, p :: mr, [], _, hk, _ => by simp at hk
end
section
variable {κ β : Type} [GT κ] [KV κ] [DecidableEq κ] [GT β] {P : Program} {n : Nat} {σ : Nat → Value} {w : World} {Q : Post} {E : World} {Γ : List HP} {i j b o : Nat}
variable {ops : Array Oper} {rest : List Oper} {d : Nat} {ty T kt et e' : TypeId} {pos : String} {af : Array Edge} {g : Option (Nat × Bool)} {v u : Value} {q qk qv : Operand} {mr : List (κ × RV)} {m : List (κ × List β)} {k : κ} {y : List β}
end
end Go.Gk
