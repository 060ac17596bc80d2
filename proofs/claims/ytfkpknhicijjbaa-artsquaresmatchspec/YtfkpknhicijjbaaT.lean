/-
  Printed by gen.py: Go types as plain structures, and closed facts on the loaded program.
-/
import Derived.Test.YtfkpknhicijjbaaProg
import Derived.Test.YtfkpknhicijjbaaD
import Derived.Test.YtfkpknhicijjbaaK17
set_option linter.unusedVariables false
set_option linter.unusedSimpArgs false
set_option linter.unusedSectionVars false
set_option maxRecDepth 100000
set_option maxHeartbeats 4000000

namespace Go.Gk
open Go Go.Proofs
instance instGTPoint : GT Point := GT.via (fun x => (x.X, x.Y))
instance instKVPoint : KV Point := instKVvia (fun (x : Point) => (x.X, x.Y))
theorem fd_Point_0 : Fd 0 (fun x : Point => x.X) := fun M cs x h => (Fd.fst (α := Int) (β := Int) Fd.self (by decide)) M cs (x.X, x.Y) h
theorem fs_Point_0 : Fs 0 Int (fun (x : Point) y => { x with X := y }) := fun M cs ds x y h h2 => (Fs.fst (α := Int) (β := Int) Fs.self (by decide)) M cs ds (x.X, x.Y) y h h2
theorem fd_Point_1 : Fd 1 (fun x : Point => x.Y) := fun M cs x h => (Fd.snd (α := Int) (β := Int) Fd.self rfl) M cs (x.X, x.Y) h
theorem fs_Point_1 : Fs 1 Int (fun (x : Point) y => { x with Y := y }) := fun M cs ds x y h h2 => (Fs.snd (α := Int) (β := Int) Fs.self rfl) M cs ds (x.X, x.Y) y h h2
instance instGTBore : GT Bore := GT.via (fun x => (x.At, x.Size, x.From, x.To, x.Plated))
theorem fd_Bore_0 : Fd 0 (fun x : Bore => x.At) := fun M cs x h => (Fd.fst (α := Point) (β := Int × Int × Int × Bool) Fd.self (by decide)) M cs (x.At, x.Size, x.From, x.To, x.Plated) h
theorem fs_Bore_0 : Fs 0 Point (fun (x : Bore) y => { x with At := y }) := fun M cs ds x y h h2 => (Fs.fst (α := Point) (β := Int × Int × Int × Bool) Fs.self (by decide)) M cs ds (x.At, x.Size, x.From, x.To, x.Plated) y h h2
theorem fd_Bore_1 : Fd 2 (fun x : Bore => x.Size) := fun M cs x h => (Fd.snd (α := Point) (β := Int × Int × Int × Bool) (Fd.fst (α := Int) (β := Int × Int × Bool) Fd.self (by decide)) rfl) M cs (x.At, x.Size, x.From, x.To, x.Plated) h
theorem fs_Bore_1 : Fs 2 Int (fun (x : Bore) y => { x with Size := y }) := fun M cs ds x y h h2 => (Fs.snd (α := Point) (β := Int × Int × Int × Bool) (Fs.fst (α := Int) (β := Int × Int × Bool) Fs.self (by decide)) rfl) M cs ds (x.At, x.Size, x.From, x.To, x.Plated) y h h2
theorem fd_Bore_2 : Fd 3 (fun x : Bore => x.From) := fun M cs x h => (Fd.snd (α := Point) (β := Int × Int × Int × Bool) (Fd.snd (α := Int) (β := Int × Int × Bool) (Fd.fst (α := Int) (β := Int × Bool) Fd.self (by decide)) rfl) rfl) M cs (x.At, x.Size, x.From, x.To, x.Plated) h
theorem fs_Bore_2 : Fs 3 Int (fun (x : Bore) y => { x with From := y }) := fun M cs ds x y h h2 => (Fs.snd (α := Point) (β := Int × Int × Int × Bool) (Fs.snd (α := Int) (β := Int × Int × Bool) (Fs.fst (α := Int) (β := Int × Bool) Fs.self (by decide)) rfl) rfl) M cs ds (x.At, x.Size, x.From, x.To, x.Plated) y h h2
theorem fd_Bore_3 : Fd 4 (fun x : Bore => x.To) := fun M cs x h => (Fd.snd (α := Point) (β := Int × Int × Int × Bool) (Fd.snd (α := Int) (β := Int × Int × Bool) (Fd.snd (α := Int) (β := Int × Bool) (Fd.fst (α := Int) (β := Bool) Fd.self (by decide)) rfl) rfl) rfl) M cs (x.At, x.Size, x.From, x.To, x.Plated) h
theorem fs_Bore_3 : Fs 4 Int (fun (x : Bore) y => { x with To := y }) := fun M cs ds x y h h2 => (Fs.snd (α := Point) (β := Int × Int × Int × Bool) (Fs.snd (α := Int) (β := Int × Int × Bool) (Fs.snd (α := Int) (β := Int × Bool) (Fs.fst (α := Int) (β := Bool) Fs.self (by decide)) rfl) rfl) rfl) M cs ds (x.At, x.Size, x.From, x.To, x.Plated) y h h2
theorem fd_Bore_4 : Fd 5 (fun x : Bore => x.Plated) := fun M cs x h => (Fd.snd (α := Point) (β := Int × Int × Int × Bool) (Fd.snd (α := Int) (β := Int × Int × Bool) (Fd.snd (α := Int) (β := Int × Bool) (Fd.snd (α := Int) (β := Bool) Fd.self rfl) rfl) rfl) rfl) M cs (x.At, x.Size, x.From, x.To, x.Plated) h
theorem fs_Bore_4 : Fs 5 Bool (fun (x : Bore) y => { x with Plated := y }) := fun M cs ds x y h h2 => (Fs.snd (α := Point) (β := Int × Int × Int × Bool) (Fs.snd (α := Int) (β := Int × Int × Bool) (Fs.snd (α := Int) (β := Int × Bool) (Fs.snd (α := Int) (β := Bool) Fs.self rfl) rfl) rfl) rfl) M cs ds (x.At, x.Size, x.From, x.To, x.Plated) y h h2
instance instGTRect : GT Rect := GT.via (fun x => (x.X0, x.Y0, x.X1, x.Y1))
instance instKVRect : KV Rect := instKVvia (fun (x : Rect) => (x.X0, x.Y0, x.X1, x.Y1))
theorem fd_Rect_0 : Fd 0 (fun x : Rect => x.X0) := fun M cs x h => (Fd.fst (α := Int) (β := Int × Int × Int) Fd.self (by decide)) M cs (x.X0, x.Y0, x.X1, x.Y1) h
theorem fs_Rect_0 : Fs 0 Int (fun (x : Rect) y => { x with X0 := y }) := fun M cs ds x y h h2 => (Fs.fst (α := Int) (β := Int × Int × Int) Fs.self (by decide)) M cs ds (x.X0, x.Y0, x.X1, x.Y1) y h h2
theorem fd_Rect_1 : Fd 1 (fun x : Rect => x.Y0) := fun M cs x h => (Fd.snd (α := Int) (β := Int × Int × Int) (Fd.fst (α := Int) (β := Int × Int) Fd.self (by decide)) rfl) M cs (x.X0, x.Y0, x.X1, x.Y1) h
theorem fs_Rect_1 : Fs 1 Int (fun (x : Rect) y => { x with Y0 := y }) := fun M cs ds x y h h2 => (Fs.snd (α := Int) (β := Int × Int × Int) (Fs.fst (α := Int) (β := Int × Int) Fs.self (by decide)) rfl) M cs ds (x.X0, x.Y0, x.X1, x.Y1) y h h2
theorem fd_Rect_2 : Fd 2 (fun x : Rect => x.X1) := fun M cs x h => (Fd.snd (α := Int) (β := Int × Int × Int) (Fd.snd (α := Int) (β := Int × Int) (Fd.fst (α := Int) (β := Int) Fd.self (by decide)) rfl) rfl) M cs (x.X0, x.Y0, x.X1, x.Y1) h
theorem fs_Rect_2 : Fs 2 Int (fun (x : Rect) y => { x with X1 := y }) := fun M cs ds x y h h2 => (Fs.snd (α := Int) (β := Int × Int × Int) (Fs.snd (α := Int) (β := Int × Int) (Fs.fst (α := Int) (β := Int) Fs.self (by decide)) rfl) rfl) M cs ds (x.X0, x.Y0, x.X1, x.Y1) y h h2
theorem fd_Rect_3 : Fd 3 (fun x : Rect => x.Y1) := fun M cs x h => (Fd.snd (α := Int) (β := Int × Int × Int) (Fd.snd (α := Int) (β := Int × Int) (Fd.snd (α := Int) (β := Int) Fd.self rfl) rfl) rfl) M cs (x.X0, x.Y0, x.X1, x.Y1) h
theorem fs_Rect_3 : Fs 3 Int (fun (x : Rect) y => { x with Y1 := y }) := fun M cs ds x y h h2 => (Fs.snd (α := Int) (β := Int × Int × Int) (Fs.snd (α := Int) (β := Int × Int) (Fs.snd (α := Int) (β := Int) Fs.self rfl) rfl) rfl) M cs ds (x.X0, x.Y0, x.X1, x.Y1) y h h2
instance instGTshape_Band : GT shape_Band := GT.via (fun x => (x.Y0, x.Y1, x.Xs))
theorem fd_shape_Band_0 : Fd 0 (fun x : shape_Band => x.Y0) := fun M cs x h => (Fd.fst (α := Int) (β := Int × (List Int)) Fd.self (by decide)) M cs (x.Y0, x.Y1, x.Xs) h
theorem fs_shape_Band_0 : Fs 0 Int (fun (x : shape_Band) y => { x with Y0 := y }) := fun M cs ds x y h h2 => (Fs.fst (α := Int) (β := Int × (List Int)) Fs.self (by decide)) M cs ds (x.Y0, x.Y1, x.Xs) y h h2
theorem fd_shape_Band_1 : Fd 1 (fun x : shape_Band => x.Y1) := fun M cs x h => (Fd.snd (α := Int) (β := Int × (List Int)) (Fd.fst (α := Int) (β := (List Int)) Fd.self (by decide)) rfl) M cs (x.Y0, x.Y1, x.Xs) h
theorem fs_shape_Band_1 : Fs 1 Int (fun (x : shape_Band) y => { x with Y1 := y }) := fun M cs ds x y h h2 => (Fs.snd (α := Int) (β := Int × (List Int)) (Fs.fst (α := Int) (β := (List Int)) Fs.self (by decide)) rfl) M cs ds (x.Y0, x.Y1, x.Xs) y h h2
theorem fd_shape_Band_2 : Fd 2 (fun x : shape_Band => x.Xs) := fun M cs x h => (Fd.snd (α := Int) (β := Int × (List Int)) (Fd.snd (α := Int) (β := (List Int)) Fd.self rfl) rfl) M cs (x.Y0, x.Y1, x.Xs) h
theorem fs_shape_Band_2 : Fs 2 (List Int) (fun (x : shape_Band) y => { x with Xs := y }) := fun M cs ds x y h h2 => (Fs.snd (α := Int) (β := Int × (List Int)) (Fs.snd (α := Int) (β := (List Int)) Fs.self rfl) rfl) M cs ds (x.Y0, x.Y1, x.Xs) y h h2
theorem z_Point (M : Heap) : GT.ok M (#[(.int .i64 0), (.int .i64 0)] : Array Value).toList (⟨0, 0⟩ : Point) := ⟨[(.int .i64 0)], [(.int .i64 0)], rfl, (show GT.ok M [(.int .i64 0)] (0 : Int) from rfl), (show GT.ok M [(.int .i64 0)] (0 : Int) from rfl)⟩
theorem z_Bore (M : Heap) : GT.ok M (#[(.int .i64 0), (.int .i64 0), (.int .i64 0), (.int .i64 0), (.int .i64 0), (.bool false)] : Array Value).toList (⟨⟨0, 0⟩, 0, 0, 0, false⟩ : Bore) := ⟨[(.int .i64 0), (.int .i64 0)], [(.int .i64 0), (.int .i64 0), (.int .i64 0), (.bool false)], rfl, (show GT.ok M [(.int .i64 0), (.int .i64 0)] (⟨0, 0⟩ : Point) from z_Point M), ⟨[(.int .i64 0)], [(.int .i64 0), (.int .i64 0), (.bool false)], rfl, (show GT.ok M [(.int .i64 0)] (0 : Int) from rfl), ⟨[(.int .i64 0)], [(.int .i64 0), (.bool false)], rfl, (show GT.ok M [(.int .i64 0)] (0 : Int) from rfl), ⟨[(.int .i64 0)], [(.bool false)], rfl, (show GT.ok M [(.int .i64 0)] (0 : Int) from rfl), (show GT.ok M [(.bool false)] (false : Bool) from rfl)⟩⟩⟩⟩
theorem z_Rect (M : Heap) : GT.ok M (#[(.int .i64 0), (.int .i64 0), (.int .i64 0), (.int .i64 0)] : Array Value).toList (⟨0, 0, 0, 0⟩ : Rect) := ⟨[(.int .i64 0)], [(.int .i64 0), (.int .i64 0), (.int .i64 0)], rfl, (show GT.ok M [(.int .i64 0)] (0 : Int) from rfl), ⟨[(.int .i64 0)], [(.int .i64 0), (.int .i64 0)], rfl, (show GT.ok M [(.int .i64 0)] (0 : Int) from rfl), ⟨[(.int .i64 0)], [(.int .i64 0)], rfl, (show GT.ok M [(.int .i64 0)] (0 : Int) from rfl), (show GT.ok M [(.int .i64 0)] (0 : Int) from rfl)⟩⟩⟩
theorem z_shape_Band (M : Heap) : GT.ok M (#[(.int .i64 0), (.int .i64 0), (.slice none 0 0)] : Array Value).toList (⟨0, 0, []⟩ : shape_Band) := ⟨[(.int .i64 0)], [(.int .i64 0), (.slice none 0 0)], rfl, (show GT.ok M [(.int .i64 0)] (0 : Int) from rfl), ⟨[(.int .i64 0)], [(.slice none 0 0)], rfl, (show GT.ok M [(.int .i64 0)] (0 : Int) from rfl), (show GT.ok M [(.slice none 0 0)] ([] : (List Int)) from ⟨_, rfl, none, 0, 0, rfl, rfl, Nat.le_refl _, by simp [maxLen], fun _ _ h => by simp at h⟩)⟩⟩
theorem ty25 : TyA Try.prog 25 true 6 := ⟨fun _ => by kernel_rfl, fun _ => by kernel_rfl⟩
theorem ze27 : ZeT Try.prog 27 4 := ⟨⟨(.agg #[(.int .i64 0), (.int .i64 0), (.int .i64 0), (.int .i64 0)]), fun _ => by kernel_rfl, rfl⟩, fun _ => by kernel_rfl⟩
theorem fa25_1 : FAt Try.prog 25 1 2 := ⟨fun _ _ => by kernel_rfl⟩
theorem ty3 : TyA Try.prog 3 false 1 := ⟨fun _ => by kernel_rfl, fun _ => by kernel_rfl⟩
theorem fn12 : Fnc Try.prog 12 := ⟨fun _ _ => run_callFunc Try.func12 (by kernel_rfl) rfl⟩
theorem fa25_0 : FAt Try.prog 25 0 0 := ⟨fun _ _ => by kernel_rfl⟩
theorem ty23 : TyA Try.prog 23 true 2 := ⟨fun _ => by kernel_rfl, fun _ => by kernel_rfl⟩
theorem fa23_0 : FAt Try.prog 23 0 0 := ⟨fun _ _ => by kernel_rfl⟩
theorem fn53 : Fnc Try.prog 53 := ⟨fun _ _ => run_callFunc Try.func53 (by kernel_rfl) rfl⟩
theorem fn29 : Fnc Try.prog 29 := ⟨fun _ _ => run_callFunc Try.func29 (by kernel_rfl) rfl⟩
theorem fa23_1 : FAt Try.prog 23 1 1 := ⟨fun _ _ => by kernel_rfl⟩
theorem fn13 : Fnc Try.prog 13 := ⟨fun _ _ => run_callFunc Try.func13 (by kernel_rfl) rfl⟩
theorem st27 : StT Try.prog 27 [(0, 1), (1, 1), (2, 1), (3, 1)] #[(.int .i64 0), (.int .i64 0), (.int .i64 0), (.int .i64 0)] := StT.of Try.underlying27 (z := (.agg #[(.int .i64 0), (.int .i64 0), (.int .i64 0), (.int .i64 0)])) (fun _ => by kernel_rfl) (fun _ => by kernel_rfl)
theorem ty27 : TyA Try.prog 27 true 4 := ⟨fun _ => by kernel_rfl, fun _ => by kernel_rfl⟩
theorem mixed : Try.prog.follows .mixedOrders = true := by kernel_rfl
theorem fn14 : Fnc Try.prog 14 := ⟨fun _ _ => run_callFunc Try.func14 (by kernel_rfl) rfl⟩
theorem sl38 : SlT Try.prog 38 27 4 := ⟨by kernel_rfl, fun _ => by kernel_rfl⟩
theorem un38 : Try.prog.underlying 38 = some (.slice 27) := by kernel_rfl
theorem el38 : ElT Try.prog 38 27 4 32 := ElT.of (z := (.agg #[(.int .i64 0), (.int .i64 0), (.int .i64 0), (.int .i64 0)])) (by kernel_rfl) (by kernel_rfl) rfl (by decide)
theorem fn30 : Fnc Try.prog 30 := ⟨fun _ _ => run_callFunc Try.func30 (by kernel_rfl) rfl⟩
theorem fa27_1 : FAt Try.prog 27 1 1 := ⟨fun _ _ => by kernel_rfl⟩
theorem fn32 : Fnc Try.prog 32 := ⟨fun _ _ => run_callFunc Try.func32 (by kernel_rfl) rfl⟩
theorem fn31 : Fnc Try.prog 31 := ⟨fun _ _ => run_callFunc Try.func31 (by kernel_rfl) rfl⟩
theorem zc75 : ZeC Try.prog 75 [(.slice none 0 0)] := ⟨(.slice none 0 0), fun _ => by kernel_rfl, rfl⟩
theorem ty75 : TyA Try.prog 75 false 1 := ⟨fun _ => by kernel_rfl, fun _ => by kernel_rfl⟩
theorem fa27_3 : FAt Try.prog 27 3 3 := ⟨fun _ _ => by kernel_rfl⟩
theorem sl75 : SlT Try.prog 75 3 1 := ⟨by kernel_rfl, fun _ => by kernel_rfl⟩
theorem ze3 : ZeT Try.prog 3 1 := ⟨⟨(.int .i64 0), fun _ => by kernel_rfl, rfl⟩, fun _ => by kernel_rfl⟩
theorem el75 : ElT Try.prog 75 3 1 8 := ElT.of (z := (.int .i64 0)) (by kernel_rfl) (by kernel_rfl) rfl (by decide)
theorem fn33 : Fnc Try.prog 33 := ⟨fun _ _ => run_callFunc Try.func33 (by kernel_rfl) rfl⟩
theorem un75 : Try.prog.underlying 75 = some (.slice 3) := by kernel_rfl
theorem zd3 : ZeD Try.prog 3 (0 : Int) := ZeD.of (Z := (.int .i64 0)) (by kernel_rfl) (fun M => rfl)
theorem fn34 : Fnc Try.prog 34 := ⟨fun _ _ => run_callFunc Try.func34 (by kernel_rfl) rfl⟩
theorem fn57 : Fnc Try.prog 57 := ⟨fun _ _ => run_callFunc Try.func57 (by kernel_rfl) rfl⟩
theorem zd27 : ZeD Try.prog 27 (⟨0, 0, 0, 0⟩ : Rect) := ZeD.of (Z := (.agg #[(.int .i64 0), (.int .i64 0), (.int .i64 0), (.int .i64 0)])) (by kernel_rfl) (fun M => (z_Rect M))
theorem fn36 : Fnc Try.prog 36 := ⟨fun _ _ => run_callFunc Try.func36 (by kernel_rfl) rfl⟩
theorem fn35 : Fnc Try.prog 35 := ⟨fun _ _ => run_callFunc Try.func35 (by kernel_rfl) rfl⟩
theorem fa27_0 : FAt Try.prog 27 0 0 := ⟨fun _ _ => by kernel_rfl⟩
theorem fn59 : Fnc Try.prog 59 := ⟨fun _ _ => run_callFunc Try.func59 (by kernel_rfl) rfl⟩
theorem fa27_2 : FAt Try.prog 27 2 2 := ⟨fun _ _ => by kernel_rfl⟩
theorem fn38 : Fnc Try.prog 38 := ⟨fun _ _ => run_callFunc Try.func38 (by kernel_rfl) rfl⟩
theorem st83 : StT Try.prog 83 [(0, 1), (1, 1), (2, 1)] #[(.int .i64 0), (.int .i64 0), (.slice none 0 0)] := StT.of Try.underlying83 (z := (.agg #[(.int .i64 0), (.int .i64 0), (.slice none 0 0)])) (fun _ => by kernel_rfl) (fun _ => by kernel_rfl)
theorem fa83_2 : FAt Try.prog 83 2 2 := ⟨fun _ _ => by kernel_rfl⟩
theorem fa83_1 : FAt Try.prog 83 1 1 := ⟨fun _ _ => by kernel_rfl⟩
theorem fa83_0 : FAt Try.prog 83 0 0 := ⟨fun _ _ => by kernel_rfl⟩
theorem un53 : Try.prog.underlying 53 = some (.slice 83) := by kernel_rfl
theorem sl53 : SlT Try.prog 53 83 3 := ⟨by kernel_rfl, fun _ => by kernel_rfl⟩
theorem fn58 : Fnc Try.prog 58 := ⟨fun _ _ => run_callFunc Try.func58 (by kernel_rfl) rfl⟩
theorem ty83 : TyA Try.prog 83 true 3 := ⟨fun _ => by kernel_rfl, fun _ => by kernel_rfl⟩
theorem ze83 : ZeT Try.prog 83 3 := ⟨⟨(.agg #[(.int .i64 0), (.int .i64 0), (.slice none 0 0)]), fun _ => by kernel_rfl, rfl⟩, fun _ => by kernel_rfl⟩
theorem el53 : ElT Try.prog 53 83 3 40 := ElT.of (z := (.agg #[(.int .i64 0), (.int .i64 0), (.slice none 0 0)])) (by kernel_rfl) (by kernel_rfl) rfl (by decide)
theorem fn37 : Fnc Try.prog 37 := ⟨fun _ _ => run_callFunc Try.func37 (by kernel_rfl) rfl⟩
theorem fn15 : Fnc Try.prog 15 := ⟨fun _ _ => run_callFunc Try.func15 (by kernel_rfl) rfl⟩
theorem fn40 : Fnc Try.prog 40 := ⟨fun _ _ => run_callFunc Try.func40 (by kernel_rfl) rfl⟩
theorem fn39 : Fnc Try.prog 39 := ⟨fun _ _ => run_callFunc Try.func39 (by kernel_rfl) rfl⟩
theorem fn16 : Fnc Try.prog 16 := ⟨fun _ _ => run_callFunc Try.func16 (by kernel_rfl) rfl⟩
theorem fn5 : Fnc Try.prog 5 := ⟨fun _ _ => run_callFunc Try.func5 (by kernel_rfl) rfl⟩
theorem fn41 : Fnc Try.prog 41 := ⟨fun _ _ => run_callFunc Try.func41 (by kernel_rfl) rfl⟩
theorem fn60 : Fnc Try.prog 60 := ⟨fun _ _ => run_callFunc Try.func60 (by kernel_rfl) rfl⟩
theorem fn43 : Fnc Try.prog 43 := ⟨fun _ _ => run_callFunc Try.func43 (by kernel_rfl) rfl⟩
theorem fn42 : Fnc Try.prog 42 := ⟨fun _ _ => run_callFunc Try.func42 (by kernel_rfl) rfl⟩
theorem fn18 : Fnc Try.prog 18 := ⟨fun _ _ => run_callFunc Try.func18 (by kernel_rfl) rfl⟩
theorem fn17 : Fnc Try.prog 17 := ⟨fun _ _ => run_callFunc Try.func17 (by kernel_rfl) rfl⟩
theorem fn6 : Fnc Try.prog 6 := ⟨fun _ _ => run_callFunc Try.func6 (by kernel_rfl) rfl⟩
theorem un3 : Try.prog.underlying 3 = some (.int .i64) := by kernel_rfl
theorem eqt27 : EqT Try.prog 27 Rect := ⟨fun M cs ds a b w ha hb => by
  obtain ⟨_, _, rfl, rfl, ⟨_, _, rfl, rfl, ⟨_, _, rfl, rfl, rfl⟩⟩⟩ := ha
  obtain ⟨_, _, rfl, rfl, ⟨_, _, rfl, rfl, ⟨_, _, rfl, rfl, rfl⟩⟩⟩ := hb
  refine (run_equal_struct (d := 9999) Try.underlying27 (by kernel_rfl) (EqL.cons (by decide) (run_part1 ty3 rfl _) (run_part1 ty3 rfl _) (run_eq_int un3 _ _ w) (EqL.cons (by decide) (run_part1 ty3 rfl _) (run_part1 ty3 rfl _) (run_eq_int un3 _ _ w) (EqL.cons (by decide) (run_part1 ty3 rfl _) (run_part1 ty3 rfl _) (run_eq_int un3 _ _ w) (EqL.cons (by decide) (run_part1 ty3 rfl _) (run_part1 ty3 rfl _) (run_eq_int un3 _ _ w) EqL.nil))))).trans ?_
  congr 1
  cases a; cases b
  rw [Bool.eq_iff_iff]
  simp, by kernel_rfl⟩
theorem st25 : StT Try.prog 25 [(0, 2), (2, 1), (3, 1), (4, 1), (5, 1)] #[(.int .i64 0), (.int .i64 0), (.int .i64 0), (.int .i64 0), (.int .i64 0), (.bool false)] := StT.of Try.underlying25 (z := (.agg #[(.int .i64 0), (.int .i64 0), (.int .i64 0), (.int .i64 0), (.int .i64 0), (.bool false)])) (fun _ => by kernel_rfl) (fun _ => by kernel_rfl)
theorem fn7 : Fnc Try.prog 7 := ⟨fun _ _ => run_callFunc Try.func7 (by kernel_rfl) rfl⟩
end Go.Gk
