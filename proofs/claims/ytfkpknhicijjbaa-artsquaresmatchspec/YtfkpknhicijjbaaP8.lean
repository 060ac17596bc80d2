/-
  Plain laws: the square of a bore. No statement of the seed is proved here.
-/
import Derived.Test.YtfkpknhicijjbaaB
import Derived.Test.YtfkpknhicijjbaaQ1
set_option linter.unusedVariables false
set_option linter.unusedSimpArgs false
set_option linter.unusedSectionVars false
namespace Go.Gk
open Go
section
variable {N : Nat}
theorem wrap_id {n : Int} (h : -9223372036854775808 ≤ n ∧ n ≤ 9223372036854775807) : IntKind.wrap .i64 n = n := by rw [IntKind.wrap_i64]; omega
def within_ (n lo hi : Int) : Bool := decide (n ≥ lo) && decide (n ≤ hi)
def isAt_ (n : Int) : Bool := within_ n (-1000000) 1000000
def isPt_ (p : Point) : Bool := isAt_ p.X && isAt_ p.Y
def isRect_ (r : Rect) : Bool := isAt_ r.X0 && (isAt_ r.Y0 && (isAt_ r.X1 && isAt_ r.Y1))
theorem sIsAt_eq (n : Int) : shape_IsAt N n = some (isAt_ n) := rfl
theorem sIsPoint_eq (p : Point) : shape_IsPoint N p = some (isPt_ p) := by
  unfold shape_IsPoint isPt_
  rw [sIsAt_eq, bnd_some, sIsAt_eq]
  cases isAt_ p.X <;> rfl
theorem rIsPoint_eq (p : Point) : etchhouseref1_IsPoint N p = some (isPt_ p) := by
  have e : ∀ n, etchhouseref1_At N n = some (isAt_ n) := fun _ => rfl
  unfold etchhouseref1_IsPoint isPt_
  rw [e, bnd_some, e]
  cases isAt_ p.X <;> rfl
theorem sIsRect_eq (r : Rect) : shape_isRect N r = some (isRect_ r) := by
  unfold shape_isRect isRect_
  simp only [sIsAt_eq, bnd_some]
  cases isAt_ r.X0 <;> cases isAt_ r.Y0 <;> cases isAt_ r.X1 <;> rfl
theorem compact_two {a b : Int} (h : a ≠ b) : slices_Compact_int (N + 4) [a, b] = some [a, b] := by
  have e : (b == a) = false := by rw [beq_eq_false_iff_ne]; exact fun e => h e.symm
  have w1 : IntKind.wrap .i64 ((1 : Int) - 1) = 0 := by decide
  have w2 : IntKind.wrap .i64 ((1 : Int) + 1) = 2 := by decide
  unfold slices_Compact_int
  have e1 : idx [a, b] 1 = some b := rfl
  have e2 : idx [a, b] 0 = some a := rfl
  have l2 : (([a, b] : List Int).length : Int) = 2 := rfl
  rw [l2, show decide ((2 : Int) < 2) = false by decide, cond_false]
  rw [itr.eq_def]
  dsimp only
  rw [show decide ((1 : Int) < 2) = true by decide, cond_true, e1, bnd_some, w1, e2, bnd_some, e, cond_false, bnd_some, w2]
  dsimp only
  rw [itr.eq_def]
  dsimp only
  rw [show decide ((2 : Int) < 2) = false by decide, cond_false, bnd_some]
  rfl
theorem wrap0 (x : Int) : IntKind.wrap .i64 (x - x) = 0 := by rw [Int.sub_self]; decide
theorem SetOf_one {r : Rect} (hx : r.X0 < r.X1) (hy : r.Y0 < r.Y1) : shape_SetOf (N + 16) [r] = some [⟨r.Y0, r.Y1, [r.X0, r.X1]⟩] := by
  have s1 : gSort (shape_SetOf_c1 (N + 16)) [r] = some [r] := gSort_one (by unfold shape_SetOf_c1; rw [wrap0])
  have s2 : gSort (shape_stretches_c1 (N + 16)) [r] = some [r] := gSort_one (by unfold shape_stretches_c1; rw [wrap0])
  have s3 : gSortI [r.Y0, r.Y1] = some [r.Y0, r.Y1] := gSortI_sorted (by simp; omega) (by simp)
  have c1 : slices_Clone_Rect (N + 16) [r] = some [r] := rfl
  have f1 : ∀ φ, slices_DeleteFunc_Rect (N + 16) [] φ = some [] := fun φ => rfl
  have st : shape_stretches (N + 16) [r] = some ([r.X0, r.X1], [r]) := by
    unfold shape_stretches
    rw [s2, bnd_some]
    rfl
  have pu : ∀ b : shape_Band, b.Xs = [r.X0, r.X1] → b.Y0 < b.Y1 → shape_Set_push (N + 16) [] b = some [b] := fun b h1 h2 => by
    unfold shape_Set_push
    rw [h1, decide_eq_false (show ¬ b.Y1 ≤ b.Y0 by omega)]
    rfl
  unfold shape_SetOf
  rw [c1, bnd_some, s1, bnd_some]
  have ys : (fld ([r] : List Rect).length (fun (k35 : Nat) (s36 : (List Int)) => ((idx [r] (k35 : Int)).bind fun (x54 : Rect) => (app 8 s36 ([x54.Y0, x54.Y1] : (List Int))).bind fun (x58 : (List Int)) => some x58 : Option ((List Int)))) ([] : (List Int))) = some [r.Y0, r.Y1] := rfl
  rw [ys, bnd_some, s3, bnd_some, compact_two (N := N + 12) (by omega), bnd_some]
  have l2 : (([r.Y0, r.Y1] : List Int).length : Int) = 2 := rfl
  have l1 : (([r] : List Rect).length : Int) = 1 := rfl
  have w1 : IntKind.wrap .i64 ((0 : Int) + 1) = 1 := by decide
  have w2 : IntKind.wrap .i64 ((1 : Int) + 1) = 2 := by decide
  have i0 : idx [r.Y0, r.Y1] 0 = some r.Y0 := rfl
  have i1 : idx [r.Y0, r.Y1] 1 = some r.Y1 := rfl
  have j0 : idx [r] 0 = some r := rfl
  have a1 : app 32 ([] : List Rect) [r] = some [r] := rfl
  rw [l2, l1]
  rw [itr.eq_def]
  dsimp only
  rw [w1, show decide ((1 : Int) < 2) = true by decide, cond_true, f1, bnd_some]
  rw [itr.eq_def]
  dsimp only
  rw [show decide ((0 : Int) < 1) = true by decide, cond_true, j0, bnd_some, i0, bnd_some, bnd_some, show decide (r.Y0 ≤ r.Y0) = true by simp, cond_true, bnd_some, a1, bnd_some, w1, bnd_some]
  dsimp only
  rw [itr.eq_def]
  dsimp only
  rw [show decide ((1 : Int) < 1) = false by decide, cond_false, bnd_some, cond_false, bnd_some, bnd_some]
  unfold Fo.cs
  dsimp only
  rw [bnd_some, i1, bnd_some, st, bnd_some, pu _ rfl hy, bnd_some, bnd_some]
  dsimp only
  rw [itr.eq_def]
  dsimp only
  rw [w2, show decide ((2 : Int) < 2) = false by decide, cond_false, bnd_some]
  rfl
theorem Fits_one {r : Rect} (hx : r.X0 < r.X1) : shape_Set_Fits N [⟨r.Y0, r.Y1, [r.X0, r.X1]⟩] = some (isRect_ r) := by
  have ar : shape_Set_Around N [⟨r.Y0, r.Y1, [r.X0, r.X1]⟩] = some r := by
    have e1 : (if r.X0 < r.X0 then r.X0 else r.X0) = r.X0 := by split <;> rfl
    have e2 : (if r.X1 < r.X1 then r.X1 else r.X1) = r.X1 := by split <;> rfl
    show some ({ X0 := (if r.X0 < r.X0 then r.X0 else r.X0), Y0 := r.Y0, X1 := (if r.X1 < r.X1 then r.X1 else r.X1), Y1 := r.Y1 } : Rect) = some r
    rw [e1, e2]
  unfold shape_Set_Fits
  rw [ar, bnd_some, sIsRect_eq]
  rfl
def sq_ (b : Bore) : Rect := ⟨b.At.X - b.Size / 2, b.At.Y - b.Size / 2, b.At.X - b.Size / 2 + b.Size, b.At.Y - b.Size / 2 + b.Size⟩
def fine_ (b : Bore) : Bool := within_ b.Size 1 10000 && isPt_ b.At
def square_ (b : Bore) : Rect × Int := if fine_ b && isRect_ (sq_ b) then (sq_ b, 0) else (⟨0, 0, 0, 0⟩, 1)
theorem fine_bounds {b : Bore} (h : fine_ b = true) : (1 ≤ b.Size ∧ b.Size ≤ 10000) ∧ (-1000000 ≤ b.At.X ∧ b.At.X ≤ 1000000) ∧ (-1000000 ≤ b.At.Y ∧ b.At.Y ≤ 1000000) := by
  simp only [fine_, within_, isPt_, isAt_, Bool.and_eq_true, decide_eq_true_iff] at h
  omega
theorem SquareOf_eq {b : Bore} (h : fine_ b = true) : copper_SquareOf N b = some (sq_ b) := by
  obtain ⟨h1, h2, h3⟩ := fine_bounds h
  have t : Int.tdiv b.Size 2 = b.Size / 2 := Int.tdiv_eq_ediv_of_nonneg (by omega)
  unfold copper_SquareOf sq_
  rw [t, wrap_id (n := b.Size / 2) (by omega), wrap_id (n := b.At.X - b.Size / 2) (by omega), wrap_id (n := b.At.Y - b.Size / 2) (by omega), wrap_id (by omega), wrap_id (by omega)]
theorem copper_Square_eq {b : Bore} : copper_Square (N + 16) b = some (square_ b) := by
  have e0 : copper_within (N + 16) b.Size 1 10000 = some (within_ b.Size 1 10000) := rfl
  have e1 : (bif (!(within_ b.Size 1 10000)) then (some true) else (some (!(isPt_ b.At)))) = some (!fine_ b) := by unfold fine_; cases within_ b.Size 1 10000 <;> rfl
  unfold copper_Square square_
  rw [e0, bnd_some, sIsPoint_eq, bnd_some, e1, bnd_some]
  cases hf : fine_ b with
  | false => rfl
  | true =>
    obtain ⟨h1, h2, h3⟩ := fine_bounds hf
    have hx : (sq_ b).X0 < (sq_ b).X1 := by simp only [sq_]; omega
    have hy : (sq_ b).Y0 < (sq_ b).Y1 := by simp only [sq_]; omega
    rw [Bool.not_true, cond_false, SquareOf_eq hf, bnd_some, SetOf_one hx hy, bnd_some, Fits_one hx, bnd_some]
    cases isRect_ (sq_ b) <;> rfl
theorem ref_Square_eq {b : Bore} : etchhouseref5_Square N b = some (square_ b) := by
  have e0 : etchhouseref5_within N b.Size 1 10000 = some (within_ b.Size 1 10000) := rfl
  have e1 : (bif (!(within_ b.Size 1 10000)) then (some true) else (some (!(isPt_ b.At)))) = some (!fine_ b) := by unfold fine_; cases within_ b.Size 1 10000 <;> rfl
  have e2 : ∀ n, etchhouseref1_At N n = some (isAt_ n) := fun _ => rfl
  have ck : etchhouseref5_checkSquare N b = some (if fine_ b && isRect_ (sq_ b) then 0 else 1) := by
    unfold etchhouseref5_checkSquare
    rw [e0, bnd_some, rIsPoint_eq, bnd_some, e1, bnd_some]
    cases hf : fine_ b with
    | false => rfl
    | true =>
      have e3 : etchhouseref5_SquareOf N b = some (sq_ b) := SquareOf_eq (N := N) hf
      rw [Bool.not_true, cond_false, e3, bnd_some]
      simp only [e2, bnd_some]
      unfold isRect_
      cases isAt_ (sq_ b).X0 <;> cases isAt_ (sq_ b).Y0 <;> cases isAt_ (sq_ b).X1 <;> cases isAt_ (sq_ b).Y1 <;> rfl
  unfold etchhouseref5_Square square_
  rw [ck, bnd_some]
  cases hf : fine_ b with
  | false => rfl
  | true =>
    have e3 : etchhouseref5_SquareOf N b = some (sq_ b) := SquareOf_eq (N := N) hf
    rw [e3]
    cases isRect_ (sq_ b) <;> rfl
theorem awake5_eq : etchhouselaw5_awake (N + 16) = some true := by
  unfold etchhouselaw5_awake
  rw [copper_Square_eq, bnd_some]
  rfl
theorem ArtSquaresMatchSpec_eq {b : Bore} (hN : 4194304 ≤ N) : etchhouselaw5_ArtSquaresMatchSpec N b = some true := by
  obtain ⟨M, rfl⟩ : ∃ M, N = M + 16 := ⟨N - 16, by omega⟩
  unfold etchhouselaw5_ArtSquaresMatchSpec
  rw [copper_Square_eq, bnd_some, ref_Square_eq, bnd_some, awake5_eq]
  simp
end
end Go.Gk
