/-
  Printed by gen.py: how much a datum holds.
-/
import Derived.Test.YtghiafpkpfipgaaGreatDoorD
import Derived.Test.YtghiafpkpfipgaaGreatDoorP1
namespace Go.Gk
open Go
instance : Bk PinType := ⟨fun x => bk x.Name + bk x.Kind + bk x.Group + 1, fun _ => by omega⟩
theorem bk_PinType (x : PinType) : bk x = bk x.Name + bk x.Kind + bk x.Group + 1 := rfl
instance : Bk PartType := ⟨fun x => bk x.Name + bk x.Pins + 1, fun _ => by omega⟩
theorem bk_PartType (x : PartType) : bk x = bk x.Name + bk x.Pins + 1 := rfl
instance : Bk Part := ⟨fun x => bk x.Name + bk x.Type_ + 1, fun _ => by omega⟩
theorem bk_Part (x : Part) : bk x = bk x.Name + bk x.Type_ + 1 := rfl
instance : Bk Pin := ⟨fun x => bk x.Part + bk x.Pin + 1, fun _ => by omega⟩
theorem bk_Pin (x : Pin) : bk x = bk x.Part + bk x.Pin + 1 := rfl
instance : Bk Net := ⟨fun x => bk x.Name + bk x.Pins + bk x.Ports + 1, fun _ => by omega⟩
theorem bk_Net (x : Net) : bk x = bk x.Name + bk x.Pins + bk x.Ports + 1 := rfl
instance : Bk Netlist := ⟨fun x => bk x.Parts + bk x.Nets + 1, fun _ => by omega⟩
theorem bk_Netlist (x : Netlist) : bk x = bk x.Parts + bk x.Nets + 1 := rfl
end Go.Gk
