/-
  Printed by gen.py: how much a datum holds.
-/
import Derived.Test.YtfkpknhicijjbaaD
import Derived.Test.YtfkpknhicijjbaaP1
namespace Go.Gk
open Go
instance : Bk Point := ⟨fun x => bk x.X + bk x.Y + 1, fun _ => by omega⟩
theorem bk_Point (x : Point) : bk x = bk x.X + bk x.Y + 1 := rfl
instance : Bk Bore := ⟨fun x => bk x.At + bk x.Size + bk x.From + bk x.To + bk x.Plated + 1, fun _ => by omega⟩
theorem bk_Bore (x : Bore) : bk x = bk x.At + bk x.Size + bk x.From + bk x.To + bk x.Plated + 1 := rfl
instance : Bk Rect := ⟨fun x => bk x.X0 + bk x.Y0 + bk x.X1 + bk x.Y1 + 1, fun _ => by omega⟩
theorem bk_Rect (x : Rect) : bk x = bk x.X0 + bk x.Y0 + bk x.X1 + bk x.Y1 + 1 := rfl
instance : Bk shape_Band := ⟨fun x => bk x.Y0 + bk x.Y1 + bk x.Xs + 1, fun _ => by omega⟩
theorem bk_shape_Band (x : shape_Band) : bk x = bk x.Y0 + bk x.Y1 + bk x.Xs + 1 := rfl
end Go.Gk
