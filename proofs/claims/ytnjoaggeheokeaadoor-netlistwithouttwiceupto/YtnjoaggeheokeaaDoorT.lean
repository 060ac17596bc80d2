/-
  Printed by gen.py: Go types as plain structures, and closed facts on the loaded program.
-/
import Derived.Test.YtnjoaggeheokeaaDoorProg
import Derived.Test.YtnjoaggeheokeaaDoorD
import Derived.Test.YtnjoaggeheokeaaDoorK22
set_option linter.unusedVariables false
set_option linter.unusedSimpArgs false
set_option linter.unusedSectionVars false
set_option maxRecDepth 100000
set_option maxHeartbeats 4000000

namespace Go.Gk
open Go Go.Proofs
instance instGTPinType : GT PinType := GT.via (fun x => (x.Name, x.Kind, x.Group))
instance instKVPinType : KV PinType := instKVvia (fun (x : PinType) => (x.Name, x.Kind, x.Group))
theorem fd_PinType_0 : Fd 0 (fun x : PinType => x.Name) := fun M cs x h => (Fd.fst (α := Str) (β := Int × Int) Fd.self (by decide)) M cs (x.Name, x.Kind, x.Group) h
theorem fs_PinType_0 : Fs 0 Str (fun (x : PinType) y => { x with Name := y }) := fun M cs ds x y h h2 => (Fs.fst (α := Str) (β := Int × Int) Fs.self (by decide)) M cs ds (x.Name, x.Kind, x.Group) y h h2
theorem fd_PinType_1 : Fd 1 (fun x : PinType => x.Kind) := fun M cs x h => (Fd.snd (α := Str) (β := Int × Int) (Fd.fst (α := Int) (β := Int) Fd.self (by decide)) rfl) M cs (x.Name, x.Kind, x.Group) h
theorem fs_PinType_1 : Fs 1 Int (fun (x : PinType) y => { x with Kind := y }) := fun M cs ds x y h h2 => (Fs.snd (α := Str) (β := Int × Int) (Fs.fst (α := Int) (β := Int) Fs.self (by decide)) rfl) M cs ds (x.Name, x.Kind, x.Group) y h h2
theorem fd_PinType_2 : Fd 2 (fun x : PinType => x.Group) := fun M cs x h => (Fd.snd (α := Str) (β := Int × Int) (Fd.snd (α := Int) (β := Int) Fd.self rfl) rfl) M cs (x.Name, x.Kind, x.Group) h
theorem fs_PinType_2 : Fs 2 Int (fun (x : PinType) y => { x with Group := y }) := fun M cs ds x y h h2 => (Fs.snd (α := Str) (β := Int × Int) (Fs.snd (α := Int) (β := Int) Fs.self rfl) rfl) M cs ds (x.Name, x.Kind, x.Group) y h h2
instance instGTPartType : GT PartType := GT.via (fun x => (x.Name, x.Pins))
theorem fd_PartType_0 : Fd 0 (fun x : PartType => x.Name) := fun M cs x h => (Fd.fst (α := Str) (β := (List PinType)) Fd.self (by decide)) M cs (x.Name, x.Pins) h
theorem fs_PartType_0 : Fs 0 Str (fun (x : PartType) y => { x with Name := y }) := fun M cs ds x y h h2 => (Fs.fst (α := Str) (β := (List PinType)) Fs.self (by decide)) M cs ds (x.Name, x.Pins) y h h2
theorem fd_PartType_1 : Fd 1 (fun x : PartType => x.Pins) := fun M cs x h => (Fd.snd (α := Str) (β := (List PinType)) Fd.self rfl) M cs (x.Name, x.Pins) h
theorem fs_PartType_1 : Fs 1 (List PinType) (fun (x : PartType) y => { x with Pins := y }) := fun M cs ds x y h h2 => (Fs.snd (α := Str) (β := (List PinType)) Fs.self rfl) M cs ds (x.Name, x.Pins) y h h2
instance instGTPart : GT Part := GT.via (fun x => (x.Name, x.Type_))
instance instKVPart : KV Part := instKVvia (fun (x : Part) => (x.Name, x.Type_))
theorem fd_Part_0 : Fd 0 (fun x : Part => x.Name) := fun M cs x h => (Fd.fst (α := Str) (β := Str) Fd.self (by decide)) M cs (x.Name, x.Type_) h
theorem fs_Part_0 : Fs 0 Str (fun (x : Part) y => { x with Name := y }) := fun M cs ds x y h h2 => (Fs.fst (α := Str) (β := Str) Fs.self (by decide)) M cs ds (x.Name, x.Type_) y h h2
theorem fd_Part_1 : Fd 1 (fun x : Part => x.Type_) := fun M cs x h => (Fd.snd (α := Str) (β := Str) Fd.self rfl) M cs (x.Name, x.Type_) h
theorem fs_Part_1 : Fs 1 Str (fun (x : Part) y => { x with Type_ := y }) := fun M cs ds x y h h2 => (Fs.snd (α := Str) (β := Str) Fs.self rfl) M cs ds (x.Name, x.Type_) y h h2
instance instGTPin : GT Pin := GT.via (fun x => (x.Part, x.Pin))
instance instKVPin : KV Pin := instKVvia (fun (x : Pin) => (x.Part, x.Pin))
theorem fd_Pin_0 : Fd 0 (fun x : Pin => x.Part) := fun M cs x h => (Fd.fst (α := Str) (β := Str) Fd.self (by decide)) M cs (x.Part, x.Pin) h
theorem fs_Pin_0 : Fs 0 Str (fun (x : Pin) y => { x with Part := y }) := fun M cs ds x y h h2 => (Fs.fst (α := Str) (β := Str) Fs.self (by decide)) M cs ds (x.Part, x.Pin) y h h2
theorem fd_Pin_1 : Fd 1 (fun x : Pin => x.Pin) := fun M cs x h => (Fd.snd (α := Str) (β := Str) Fd.self rfl) M cs (x.Part, x.Pin) h
theorem fs_Pin_1 : Fs 1 Str (fun (x : Pin) y => { x with Pin := y }) := fun M cs ds x y h h2 => (Fs.snd (α := Str) (β := Str) Fs.self rfl) M cs ds (x.Part, x.Pin) y h h2
instance instGTNet : GT Net := GT.via (fun x => (x.Name, x.Pins, x.Ports))
theorem fd_Net_0 : Fd 0 (fun x : Net => x.Name) := fun M cs x h => (Fd.fst (α := Str) (β := (List Pin) × (List Str)) Fd.self (by decide)) M cs (x.Name, x.Pins, x.Ports) h
theorem fs_Net_0 : Fs 0 Str (fun (x : Net) y => { x with Name := y }) := fun M cs ds x y h h2 => (Fs.fst (α := Str) (β := (List Pin) × (List Str)) Fs.self (by decide)) M cs ds (x.Name, x.Pins, x.Ports) y h h2
theorem fd_Net_1 : Fd 1 (fun x : Net => x.Pins) := fun M cs x h => (Fd.snd (α := Str) (β := (List Pin) × (List Str)) (Fd.fst (α := (List Pin)) (β := (List Str)) Fd.self (by decide)) rfl) M cs (x.Name, x.Pins, x.Ports) h
theorem fs_Net_1 : Fs 1 (List Pin) (fun (x : Net) y => { x with Pins := y }) := fun M cs ds x y h h2 => (Fs.snd (α := Str) (β := (List Pin) × (List Str)) (Fs.fst (α := (List Pin)) (β := (List Str)) Fs.self (by decide)) rfl) M cs ds (x.Name, x.Pins, x.Ports) y h h2
theorem fd_Net_2 : Fd 2 (fun x : Net => x.Ports) := fun M cs x h => (Fd.snd (α := Str) (β := (List Pin) × (List Str)) (Fd.snd (α := (List Pin)) (β := (List Str)) Fd.self rfl) rfl) M cs (x.Name, x.Pins, x.Ports) h
theorem fs_Net_2 : Fs 2 (List Str) (fun (x : Net) y => { x with Ports := y }) := fun M cs ds x y h h2 => (Fs.snd (α := Str) (β := (List Pin) × (List Str)) (Fs.snd (α := (List Pin)) (β := (List Str)) Fs.self rfl) rfl) M cs ds (x.Name, x.Pins, x.Ports) y h h2
instance instGTNetlist : GT Netlist := GT.via (fun x => (x.Parts, x.Nets))
theorem fd_Netlist_0 : Fd 0 (fun x : Netlist => x.Parts) := fun M cs x h => (Fd.fst (α := (List Part)) (β := (List Net)) Fd.self (by decide)) M cs (x.Parts, x.Nets) h
theorem fs_Netlist_0 : Fs 0 (List Part) (fun (x : Netlist) y => { x with Parts := y }) := fun M cs ds x y h h2 => (Fs.fst (α := (List Part)) (β := (List Net)) Fs.self (by decide)) M cs ds (x.Parts, x.Nets) y h h2
theorem fd_Netlist_1 : Fd 1 (fun x : Netlist => x.Nets) := fun M cs x h => (Fd.snd (α := (List Part)) (β := (List Net)) Fd.self rfl) M cs (x.Parts, x.Nets) h
theorem fs_Netlist_1 : Fs 1 (List Net) (fun (x : Netlist) y => { x with Nets := y }) := fun M cs ds x y h h2 => (Fs.snd (α := (List Part)) (β := (List Net)) Fs.self rfl) M cs ds (x.Parts, x.Nets) y h h2
instance instGTFinding : GT Finding := GT.via (fun x => (x.Kind, x.Net, x.Pins))
theorem fd_Finding_0 : Fd 0 (fun x : Finding => x.Kind) := fun M cs x h => (Fd.fst (α := Int) (β := Str × (List Pin)) Fd.self (by decide)) M cs (x.Kind, x.Net, x.Pins) h
theorem fs_Finding_0 : Fs 0 Int (fun (x : Finding) y => { x with Kind := y }) := fun M cs ds x y h h2 => (Fs.fst (α := Int) (β := Str × (List Pin)) Fs.self (by decide)) M cs ds (x.Kind, x.Net, x.Pins) y h h2
theorem fd_Finding_1 : Fd 1 (fun x : Finding => x.Net) := fun M cs x h => (Fd.snd (α := Int) (β := Str × (List Pin)) (Fd.fst (α := Str) (β := (List Pin)) Fd.self (by decide)) rfl) M cs (x.Kind, x.Net, x.Pins) h
theorem fs_Finding_1 : Fs 1 Str (fun (x : Finding) y => { x with Net := y }) := fun M cs ds x y h h2 => (Fs.snd (α := Int) (β := Str × (List Pin)) (Fs.fst (α := Str) (β := (List Pin)) Fs.self (by decide)) rfl) M cs ds (x.Kind, x.Net, x.Pins) y h h2
theorem fd_Finding_2 : Fd 2 (fun x : Finding => x.Pins) := fun M cs x h => (Fd.snd (α := Int) (β := Str × (List Pin)) (Fd.snd (α := Str) (β := (List Pin)) Fd.self rfl) rfl) M cs (x.Kind, x.Net, x.Pins) h
theorem fs_Finding_2 : Fs 2 (List Pin) (fun (x : Finding) y => { x with Pins := y }) := fun M cs ds x y h h2 => (Fs.snd (α := Int) (β := Str × (List Pin)) (Fs.snd (α := Str) (β := (List Pin)) Fs.self rfl) rfl) M cs ds (x.Kind, x.Net, x.Pins) y h h2
instance instGTListChange : GT ListChange := GT.via (fun x => (x.Kind, x.Name, x.Pin))
instance instKVListChange : KV ListChange := instKVvia (fun (x : ListChange) => (x.Kind, x.Name, x.Pin))
theorem fd_ListChange_0 : Fd 0 (fun x : ListChange => x.Kind) := fun M cs x h => (Fd.fst (α := Int) (β := Str × Str) Fd.self (by decide)) M cs (x.Kind, x.Name, x.Pin) h
theorem fs_ListChange_0 : Fs 0 Int (fun (x : ListChange) y => { x with Kind := y }) := fun M cs ds x y h h2 => (Fs.fst (α := Int) (β := Str × Str) Fs.self (by decide)) M cs ds (x.Kind, x.Name, x.Pin) y h h2
theorem fd_ListChange_1 : Fd 1 (fun x : ListChange => x.Name) := fun M cs x h => (Fd.snd (α := Int) (β := Str × Str) (Fd.fst (α := Str) (β := Str) Fd.self (by decide)) rfl) M cs (x.Kind, x.Name, x.Pin) h
theorem fs_ListChange_1 : Fs 1 Str (fun (x : ListChange) y => { x with Name := y }) := fun M cs ds x y h h2 => (Fs.snd (α := Int) (β := Str × Str) (Fs.fst (α := Str) (β := Str) Fs.self (by decide)) rfl) M cs ds (x.Kind, x.Name, x.Pin) y h h2
theorem fd_ListChange_2 : Fd 2 (fun x : ListChange => x.Pin) := fun M cs x h => (Fd.snd (α := Int) (β := Str × Str) (Fd.snd (α := Str) (β := Str) Fd.self rfl) rfl) M cs (x.Kind, x.Name, x.Pin) h
theorem fs_ListChange_2 : Fs 2 Str (fun (x : ListChange) y => { x with Pin := y }) := fun M cs ds x y h h2 => (Fs.snd (α := Int) (β := Str × Str) (Fs.snd (α := Str) (β := Str) Fs.self rfl) rfl) M cs ds (x.Kind, x.Name, x.Pin) y h h2
theorem z_Netlist (M : Heap) : GT.ok M (#[(.slice none 0 0), (.slice none 0 0)] : Array Value).toList (⟨[], []⟩ : Netlist) := ⟨[(.slice none 0 0)], [(.slice none 0 0)], rfl, (show GT.ok M [(.slice none 0 0)] ([] : (List Part)) from ⟨_, rfl, none, 0, 0, rfl, rfl, Nat.le_refl _, by simp [maxLen], fun _ _ h => by simp at h⟩), (show GT.ok M [(.slice none 0 0)] ([] : (List Net)) from ⟨_, rfl, none, 0, 0, rfl, rfl, Nat.le_refl _, by simp [maxLen], fun _ _ h => by simp at h⟩)⟩
theorem z_Pin (M : Heap) : GT.ok M (#[(.string ⟨#[]⟩), (.string ⟨#[]⟩)] : Array Value).toList (⟨⟨[]⟩, ⟨[]⟩⟩ : Pin) := ⟨[(.string ⟨#[]⟩)], [(.string ⟨#[]⟩)], rfl, (show GT.ok M [(.string ⟨#[]⟩)] (⟨[]⟩ : Str) from rfl), (show GT.ok M [(.string ⟨#[]⟩)] (⟨[]⟩ : Str) from rfl)⟩
theorem z_ListChange (M : Heap) : GT.ok M (#[(.int .i64 0), (.string ⟨#[]⟩), (.string ⟨#[]⟩)] : Array Value).toList (⟨0, ⟨[]⟩, ⟨[]⟩⟩ : ListChange) := ⟨[(.int .i64 0)], [(.string ⟨#[]⟩), (.string ⟨#[]⟩)], rfl, (show GT.ok M [(.int .i64 0)] (0 : Int) from rfl), ⟨[(.string ⟨#[]⟩)], [(.string ⟨#[]⟩)], rfl, (show GT.ok M [(.string ⟨#[]⟩)] (⟨[]⟩ : Str) from rfl), (show GT.ok M [(.string ⟨#[]⟩)] (⟨[]⟩ : Str) from rfl)⟩⟩
theorem z_Net (M : Heap) : GT.ok M (#[(.string ⟨#[]⟩), (.slice none 0 0), (.slice none 0 0)] : Array Value).toList (⟨⟨[]⟩, [], []⟩ : Net) := ⟨[(.string ⟨#[]⟩)], [(.slice none 0 0), (.slice none 0 0)], rfl, (show GT.ok M [(.string ⟨#[]⟩)] (⟨[]⟩ : Str) from rfl), ⟨[(.slice none 0 0)], [(.slice none 0 0)], rfl, (show GT.ok M [(.slice none 0 0)] ([] : (List Pin)) from ⟨_, rfl, none, 0, 0, rfl, rfl, Nat.le_refl _, by simp [maxLen], fun _ _ h => by simp at h⟩), (show GT.ok M [(.slice none 0 0)] ([] : (List Str)) from ⟨_, rfl, none, 0, 0, rfl, rfl, Nat.le_refl _, by simp [maxLen], fun _ _ h => by simp at h⟩)⟩⟩
theorem z_PinType (M : Heap) : GT.ok M (#[(.string ⟨#[]⟩), (.int .i64 0), (.int .i64 0)] : Array Value).toList (⟨⟨[]⟩, 0, 0⟩ : PinType) := ⟨[(.string ⟨#[]⟩)], [(.int .i64 0), (.int .i64 0)], rfl, (show GT.ok M [(.string ⟨#[]⟩)] (⟨[]⟩ : Str) from rfl), ⟨[(.int .i64 0)], [(.int .i64 0)], rfl, (show GT.ok M [(.int .i64 0)] (0 : Int) from rfl), (show GT.ok M [(.int .i64 0)] (0 : Int) from rfl)⟩⟩
theorem z_PartType (M : Heap) : GT.ok M (#[(.string ⟨#[]⟩), (.slice none 0 0)] : Array Value).toList (⟨⟨[]⟩, []⟩ : PartType) := ⟨[(.string ⟨#[]⟩)], [(.slice none 0 0)], rfl, (show GT.ok M [(.string ⟨#[]⟩)] (⟨[]⟩ : Str) from rfl), (show GT.ok M [(.slice none 0 0)] ([] : (List PinType)) from ⟨_, rfl, none, 0, 0, rfl, rfl, Nat.le_refl _, by simp [maxLen], fun _ _ h => by simp at h⟩)⟩
theorem z_Part (M : Heap) : GT.ok M (#[(.string ⟨#[]⟩), (.string ⟨#[]⟩)] : Array Value).toList (⟨⟨[]⟩, ⟨[]⟩⟩ : Part) := ⟨[(.string ⟨#[]⟩)], [(.string ⟨#[]⟩)], rfl, (show GT.ok M [(.string ⟨#[]⟩)] (⟨[]⟩ : Str) from rfl), (show GT.ok M [(.string ⟨#[]⟩)] (⟨[]⟩ : Str) from rfl)⟩
theorem z_Finding (M : Heap) : GT.ok M (#[(.int .i64 0), (.string ⟨#[]⟩), (.slice none 0 0)] : Array Value).toList (⟨0, ⟨[]⟩, []⟩ : Finding) := ⟨[(.int .i64 0)], [(.string ⟨#[]⟩), (.slice none 0 0)], rfl, (show GT.ok M [(.int .i64 0)] (0 : Int) from rfl), ⟨[(.string ⟨#[]⟩)], [(.slice none 0 0)], rfl, (show GT.ok M [(.string ⟨#[]⟩)] (⟨[]⟩ : Str) from rfl), (show GT.ok M [(.slice none 0 0)] ([] : (List Pin)) from ⟨_, rfl, none, 0, 0, rfl, rfl, Nat.le_refl _, by simp [maxLen], fun _ _ h => by simp at h⟩)⟩⟩
structure Net_r1 where
  Name : Str
  Pins : RV
  Ports : (List Str)
  deriving Inhabited
instance instGTNet_r1 : GT Net_r1 := GT.via (fun x => (x.Name, x.Pins, x.Ports))
theorem fd_Net_r1_0 : Fd 0 (fun x : Net_r1 => x.Name) := fun M cs x h => (Fd.fst (α := Str) (β := RV × (List Str)) Fd.self (by decide)) M cs (x.Name, x.Pins, x.Ports) h
theorem fs_Net_r1_0 : Fs 0 Str (fun (x : Net_r1) y => { x with Name := y }) := fun M cs ds x y h h2 => (Fs.fst (α := Str) (β := RV × (List Str)) Fs.self (by decide)) M cs ds (x.Name, x.Pins, x.Ports) y h h2
theorem fd_Net_r1_1 : Fd 1 (fun x : Net_r1 => x.Pins) := fun M cs x h => (Fd.snd (α := Str) (β := RV × (List Str)) (Fd.fst (α := RV) (β := (List Str)) Fd.self (by decide)) rfl) M cs (x.Name, x.Pins, x.Ports) h
theorem fs_Net_r1_1 : Fs 1 RV (fun (x : Net_r1) y => { x with Pins := y }) := fun M cs ds x y h h2 => (Fs.snd (α := Str) (β := RV × (List Str)) (Fs.fst (α := RV) (β := (List Str)) Fs.self (by decide)) rfl) M cs ds (x.Name, x.Pins, x.Ports) y h h2
theorem fd_Net_r1_2 : Fd 2 (fun x : Net_r1 => x.Ports) := fun M cs x h => (Fd.snd (α := Str) (β := RV × (List Str)) (Fd.snd (α := RV) (β := (List Str)) Fd.self rfl) rfl) M cs (x.Name, x.Pins, x.Ports) h
theorem fs_Net_r1_2 : Fs 2 (List Str) (fun (x : Net_r1) y => { x with Ports := y }) := fun M cs ds x y h h2 => (Fs.snd (α := Str) (β := RV × (List Str)) (Fs.snd (α := RV) (β := (List Str)) Fs.self rfl) rfl) M cs ds (x.Name, x.Pins, x.Ports) y h h2
def XF_Net_r1 : XT Net_r1 Net := ⟨fun u x => u.Name = x.Name ∧ u.Ports = x.Ports, fun M h u x => (u.Name = x.Name ∧ u.Ports = x.Ports) ∧ ownV 28 M h u.Pins.v x.Pins, fun {M M' h u x} hk hh => ⟨hh.1, (own 28 u.Pins.v x.Pins).mono hk hh.2⟩, fun h => h.1⟩
theorem xo_Net_r1 : XO XF_Net_r1 28 1 (fun u => u.Pins) (fun u r => { u with Pins := r }) (fun x => x.Pins) (fun x y => { x with Pins := y }) := ⟨fd_Net_r1_1, fs_Net_r1_1, by decide, fun h => h.2, fun hr ho => ⟨hr, ho⟩⟩
theorem xp_Net_r1 : XP XF_Net_r1 28 1 (fun u r => { u with Pins := r }) (fun x y => { x with Pins := y }) := ⟨fs_Net_r1_1, by decide, fun hr ho => ⟨hr, ho⟩⟩
theorem xoth_Net_r1_0 : ∀ M h u x y, XF_Net_r1.ok M h u x → XF_Net_r1.ok M h { u with Name := y } { x with Name := y } := fun M h u x y hh => by obtain ⟨⟨e0, e2⟩, ho⟩ := hh; exact ⟨⟨rfl, e2⟩, ho⟩
theorem xrest_Net_r1_0 : ∀ u x y, XF_Net_r1.rest u x → XF_Net_r1.rest { u with Name := y } { x with Name := y } := fun u x y hh => by obtain ⟨e0, e2⟩ := hh; exact ⟨rfl, e2⟩
theorem xoth_Net_r1_2 : ∀ M h u x y, XF_Net_r1.ok M h u x → XF_Net_r1.ok M h { u with Ports := y } { x with Ports := y } := fun M h u x y hh => by obtain ⟨⟨e0, e2⟩, ho⟩ := hh; exact ⟨⟨e0, rfl⟩, ho⟩
theorem xrest_Net_r1_2 : ∀ u x y, XF_Net_r1.rest u x → XF_Net_r1.rest { u with Ports := y } { x with Ports := y } := fun u x y hh => by obtain ⟨e0, e2⟩ := hh; exact ⟨e0, rfl⟩
theorem xraw_Net_r1 : ∀ M cs (x : Net), GT.ok M cs x → ∃ u : Net_r1, GT.ok M cs u ∧ XF_Net_r1.rest u x ∧ sliceOk M u.Pins.v x.Pins := fun M cs x h => by
  obtain ⟨c0, d0, hd0, a0, c1, d1, hd1, ⟨v, hv, hs⟩, a2⟩ := h
  have h1 : (rv v).v = v := rv_v (by obtain ⟨a, n, c, e, _⟩ := hs; rw [e]; rfl)
  have hr : c1 = [Sc.toV (rv v)] := by rw [hv]; show [v] = [(rv v).v]; rw [h1]
  exact ⟨⟨x.Name, rv v, x.Ports⟩, ⟨c0, d0, hd0, a0, ⟨c1, d1, hd1, hr, a2⟩⟩, ⟨rfl, rfl⟩, by show sliceOk M (rv v).v x.Pins; rw [h1]; exact hs⟩
theorem xrd_Net_r1 (M h : Heap) (u : Net_r1) (x : Net) (cs : List Value) (hd : ∀ b o, h b = some o → M b = none) (hx : XF_Net_r1.ok M h u x) (hc : GT.ok M cs u) : GT.ok (hor M h) cs x := by
  obtain ⟨⟨e0, e2⟩, ho⟩ := hx
  obtain ⟨c0, d0, hd0, a0, c1, d1, hd1, a1, a2⟩ := hc
  exact ⟨c0, d0, hd0, GT.mono (hle_hor M h) (show GT.ok M c0 x.Name from e0 ▸ (show GT.ok M c0 u.Name from a0)), ⟨c1, d1, hd1, ⟨u.Pins.v, a1, ownV.sl hd ho⟩, GT.mono (hle_hor M h) (show GT.ok M d1 x.Ports from e2 ▸ (show GT.ok M d1 u.Ports from a2))⟩⟩
theorem ty26 : TyA Tryd.prog 26 true 2 := ⟨fun _ => by kernel_rfl, fun _ => by kernel_rfl⟩
theorem ty28 : TyA Tryd.prog 28 true 2 := ⟨fun _ => by kernel_rfl, fun _ => by kernel_rfl⟩
theorem ty22 : TyA Tryd.prog 22 false 1 := ⟨fun _ => by kernel_rfl, fun _ => by kernel_rfl⟩
theorem un22 : Tryd.prog.underlying 22 = some (.slice 85) := by kernel_rfl
theorem sl22 : SlT Tryd.prog 22 85 2 := ⟨by kernel_rfl, fun _ => by kernel_rfl⟩
theorem ty85 : TyA Tryd.prog 85 true 2 := ⟨fun _ => by kernel_rfl, fun _ => by kernel_rfl⟩
theorem ze85 : ZeT Tryd.prog 85 2 := ⟨⟨(.agg #[(.string ⟨#[]⟩), (.slice none 0 0)]), fun _ => by kernel_rfl, rfl⟩, fun _ => by kernel_rfl⟩
theorem fa85_0 : FAt Tryd.prog 85 0 0 := ⟨fun _ _ => by kernel_rfl⟩
theorem ty9 : TyA Tryd.prog 9 false 1 := ⟨fun _ => by kernel_rfl, fun _ => by kernel_rfl⟩
theorem un9 : Tryd.prog.underlying 9 = some (.string) := by kernel_rfl
theorem x159 (a : Str) (b : Int) (w : World) : (callFunc 159 [(str a), (.int .u8 b)].toArray).run Tryd.prog w = .ok (.value (vi (Lib.indexByte a.toL (Int.toNat b).toUInt8))) w := xcall Tryd.func159 (by kernel_rfl) (by kernel_rfl) (by kernel_rfl) (e := Extern.BytealgIndexByte.indexByte) (by kernel_rfl) (Lib.run_indexByteString _ _ w)
theorem fn147 : Fnc Tryd.prog 147 := ⟨fun _ _ => run_callFunc Tryd.func147 (by kernel_rfl) rfl⟩
theorem fn131 : Fnc Tryd.prog 131 := ⟨fun _ _ => run_callFunc Tryd.func131 (by kernel_rfl) rfl⟩
theorem fn96 : Fnc Tryd.prog 96 := ⟨fun _ _ => run_callFunc Tryd.func96 (by kernel_rfl) rfl⟩
theorem fa85_1 : FAt Tryd.prog 85 1 1 := ⟨fun _ _ => by kernel_rfl⟩
theorem ty83 : TyA Tryd.prog 83 false 1 := ⟨fun _ => by kernel_rfl, fun _ => by kernel_rfl⟩
theorem un83 : Tryd.prog.underlying 83 = some (.slice 82) := by kernel_rfl
theorem sl83 : SlT Tryd.prog 83 82 3 := ⟨by kernel_rfl, fun _ => by kernel_rfl⟩
theorem ty82 : TyA Tryd.prog 82 true 3 := ⟨fun _ => by kernel_rfl, fun _ => by kernel_rfl⟩
theorem ze82 : ZeT Tryd.prog 82 3 := ⟨⟨(.agg #[(.string ⟨#[]⟩), (.int .i64 0), (.int .i64 0)]), fun _ => by kernel_rfl, rfl⟩, fun _ => by kernel_rfl⟩
theorem fa82_0 : FAt Tryd.prog 82 0 0 := ⟨fun _ _ => by kernel_rfl⟩
theorem fa82_1 : FAt Tryd.prog 82 1 1 := ⟨fun _ _ => by kernel_rfl⟩
theorem ty3 : TyA Tryd.prog 3 false 1 := ⟨fun _ => by kernel_rfl, fun _ => by kernel_rfl⟩
theorem fa82_2 : FAt Tryd.prog 82 2 2 := ⟨fun _ _ => by kernel_rfl⟩
theorem mixed : Tryd.prog.follows .mixedOrders = true := by kernel_rfl
theorem fn148 : Fnc Tryd.prog 148 := ⟨fun _ _ => run_callFunc Tryd.func148 (by kernel_rfl) rfl⟩
theorem fn133 : Fnc Tryd.prog 133 := ⟨fun _ _ => run_callFunc Tryd.func133 (by kernel_rfl) rfl⟩
theorem fn132 : Fnc Tryd.prog 132 := ⟨fun _ _ => run_callFunc Tryd.func132 (by kernel_rfl) rfl⟩
theorem fn97 : Fnc Tryd.prog 97 := ⟨fun _ _ => run_callFunc Tryd.func97 (by kernel_rfl) rfl⟩
theorem fn40 : Fnc Tryd.prog 40 := ⟨fun _ _ => run_callFunc Tryd.func40 (by kernel_rfl) rfl⟩
theorem fa26_0 : FAt Tryd.prog 26 0 0 := ⟨fun _ _ => by kernel_rfl⟩
theorem ty23 : TyA Tryd.prog 23 false 1 := ⟨fun _ => by kernel_rfl, fun _ => by kernel_rfl⟩
theorem un23 : Tryd.prog.underlying 23 = some (.slice 87) := by kernel_rfl
theorem sl23 : SlT Tryd.prog 23 87 2 := ⟨by kernel_rfl, fun _ => by kernel_rfl⟩
theorem ty87 : TyA Tryd.prog 87 true 2 := ⟨fun _ => by kernel_rfl, fun _ => by kernel_rfl⟩
theorem ze87 : ZeT Tryd.prog 87 2 := ⟨⟨(.agg #[(.string ⟨#[]⟩), (.string ⟨#[]⟩)]), fun _ => by kernel_rfl, rfl⟩, fun _ => by kernel_rfl⟩
theorem fa87_0 : FAt Tryd.prog 87 0 0 := ⟨fun _ _ => by kernel_rfl⟩
theorem fa87_1 : FAt Tryd.prog 87 1 1 := ⟨fun _ _ => by kernel_rfl⟩
theorem un3 : Tryd.prog.underlying 3 = some (.int .i64) := by kernel_rfl
theorem un180 : Tryd.prog.underlying 180 = some (.int .u64) := by kernel_rfl
theorem x149 (a : Str) (b : Str) (w : World) : (callFunc 149 [(str a), (str b)].toArray).run Tryd.prog w = .ok (.value (vi (Lib.compareBytes a.toL b.toL))) w := xcall Tryd.func149 (by kernel_rfl) (by kernel_rfl) (by kernel_rfl) (e := Extern.BytealgCompare.compare) (by kernel_rfl) (Lib.run_compareString _ _ w)
theorem fn137 : Fnc Tryd.prog 137 := ⟨fun _ _ => run_callFunc Tryd.func137 (by kernel_rfl) rfl⟩
theorem fn107 : Fnc Tryd.prog 107 := ⟨fun _ _ => run_callFunc Tryd.func107 (by kernel_rfl) rfl⟩
theorem fn106 : Fnc Tryd.prog 106 := ⟨fun _ _ => run_callFunc Tryd.func106 (by kernel_rfl) rfl⟩
theorem fn105 : Fnc Tryd.prog 105 := ⟨fun _ _ => run_callFunc Tryd.func105 (by kernel_rfl) rfl⟩
theorem fn50 : Fnc Tryd.prog 50 := ⟨fun _ _ => run_callFunc Tryd.func50 (by kernel_rfl) rfl⟩
theorem x156 (a : Str) (b : Int) (w : World) : (callFunc 156 [(str a), (.int .u8 b)].toArray).run Tryd.prog w = .ok (.value (vi ((Lib.countByte a.toL (Int.toNat b).toUInt8 : Nat) : Int))) w := xcall Tryd.func156 (by kernel_rfl) (by kernel_rfl) (by kernel_rfl) (e := Extern.BytealgCount.count) (by kernel_rfl) (Lib.run_countString _ _ w)
theorem fn139 : Fnc Tryd.prog 139 := ⟨fun _ _ => run_callFunc Tryd.func139 (by kernel_rfl) rfl⟩
theorem fn142 : Fnc Tryd.prog 142 := ⟨fun _ _ => run_callFunc Tryd.func142 (by kernel_rfl) rfl⟩
theorem fn141 : Fnc Tryd.prog 141 := ⟨fun _ _ => run_callFunc Tryd.func141 (by kernel_rfl) rfl⟩
theorem el55 : ElT Tryd.prog 55 9 1 16 := ElT.of (z := (.string ⟨#[]⟩)) (by kernel_rfl) (by kernel_rfl) rfl (by decide)
theorem zd9 : ZeD Tryd.prog 9 (⟨[]⟩ : Str) := ZeD.of (Z := (.string ⟨#[]⟩)) (by kernel_rfl) (fun M => rfl)
theorem sl55 : SlT Tryd.prog 55 9 1 := ⟨by kernel_rfl, fun _ => by kernel_rfl⟩
theorem fn114 : Fnc Tryd.prog 114 := ⟨fun _ _ => run_callFunc Tryd.func114 (by kernel_rfl) rfl⟩
theorem fn60 : Fnc Tryd.prog 60 := ⟨fun _ _ => run_callFunc Tryd.func60 (by kernel_rfl) rfl⟩
theorem un55 : Tryd.prog.underlying 55 = some (.slice 9) := by kernel_rfl
theorem fn134 : Fnc Tryd.prog 134 := ⟨fun _ _ => run_callFunc Tryd.func134 (by kernel_rfl) rfl⟩
theorem fn99 : Fnc Tryd.prog 99 := ⟨fun _ _ => run_callFunc Tryd.func99 (by kernel_rfl) rfl⟩
theorem fn98 : Fnc Tryd.prog 98 := ⟨fun _ _ => run_callFunc Tryd.func98 (by kernel_rfl) rfl⟩
theorem fn42 : Fnc Tryd.prog 42 := ⟨fun _ _ => run_callFunc Tryd.func42 (by kernel_rfl) rfl⟩
theorem fn41 : Fnc Tryd.prog 41 := ⟨fun _ _ => run_callFunc Tryd.func41 (by kernel_rfl) rfl⟩
theorem fa26_1 : FAt Tryd.prog 26 1 1 := ⟨fun _ _ => by kernel_rfl⟩
theorem ty24 : TyA Tryd.prog 24 false 1 := ⟨fun _ => by kernel_rfl, fun _ => by kernel_rfl⟩
theorem un24 : Tryd.prog.underlying 24 = some (.slice 64) := by kernel_rfl
theorem sl24 : SlT Tryd.prog 24 64 3 := ⟨by kernel_rfl, fun _ => by kernel_rfl⟩
theorem ty64 : TyA Tryd.prog 64 true 3 := ⟨fun _ => by kernel_rfl, fun _ => by kernel_rfl⟩
theorem ze64 : ZeT Tryd.prog 64 3 := ⟨⟨(.agg #[(.string ⟨#[]⟩), (.slice none 0 0), (.slice none 0 0)]), fun _ => by kernel_rfl, rfl⟩, fun _ => by kernel_rfl⟩
theorem fa64_0 : FAt Tryd.prog 64 0 0 := ⟨fun _ _ => by kernel_rfl⟩
theorem fa64_1 : FAt Tryd.prog 64 1 1 := ⟨fun _ _ => by kernel_rfl⟩
theorem ty33 : TyA Tryd.prog 33 false 1 := ⟨fun _ => by kernel_rfl, fun _ => by kernel_rfl⟩
theorem un33 : Tryd.prog.underlying 33 = some (.slice 28) := by kernel_rfl
theorem fa28_0 : FAt Tryd.prog 28 0 0 := ⟨fun _ _ => by kernel_rfl⟩
theorem fn109 : Fnc Tryd.prog 109 := ⟨fun _ _ => run_callFunc Tryd.func109 (by kernel_rfl) rfl⟩
theorem fn108 : Fnc Tryd.prog 108 := ⟨fun _ _ => run_callFunc Tryd.func108 (by kernel_rfl) rfl⟩
theorem fn51 : Fnc Tryd.prog 51 := ⟨fun _ _ => run_callFunc Tryd.func51 (by kernel_rfl) rfl⟩
theorem fa28_1 : FAt Tryd.prog 28 1 1 := ⟨fun _ _ => by kernel_rfl⟩
theorem fn111 : Fnc Tryd.prog 111 := ⟨fun _ _ => run_callFunc Tryd.func111 (by kernel_rfl) rfl⟩
theorem fn110 : Fnc Tryd.prog 110 := ⟨fun _ _ => run_callFunc Tryd.func110 (by kernel_rfl) rfl⟩
theorem fn52 : Fnc Tryd.prog 52 := ⟨fun _ _ => run_callFunc Tryd.func52 (by kernel_rfl) rfl⟩
theorem fn36 : Fnc Tryd.prog 36 := ⟨fun _ _ => run_callFunc Tryd.func36 (by kernel_rfl) rfl⟩
theorem sl33 : SlT Tryd.prog 33 28 2 := ⟨by kernel_rfl, fun _ => by kernel_rfl⟩
theorem ze28 : ZeT Tryd.prog 28 2 := ⟨⟨(.agg #[(.string ⟨#[]⟩), (.string ⟨#[]⟩)]), fun _ => by kernel_rfl, rfl⟩, fun _ => by kernel_rfl⟩
theorem fn100 : Fnc Tryd.prog 100 := ⟨fun _ _ => run_callFunc Tryd.func100 (by kernel_rfl) rfl⟩
theorem eqt28 : EqT Tryd.prog 28 Pin := ⟨fun M cs ds a b w ha hb => by
  obtain ⟨_, _, rfl, rfl, rfl⟩ := ha
  obtain ⟨_, _, rfl, rfl, rfl⟩ := hb
  refine (run_equal_struct (d := 9999) Tryd.underlying28 (by kernel_rfl) (EqL.cons (by decide) (run_part1 ty9 rfl _) (run_part1 ty9 rfl _) (run_eq_str un9 _ _ w) (EqL.cons (by decide) (run_part1 ty9 rfl _) (run_part1 ty9 rfl _) (run_eq_str un9 _ _ w) EqL.nil))).trans ?_
  congr 1
  cases a; cases b
  rw [Bool.eq_iff_iff]
  simp, by kernel_rfl⟩
theorem key28 : KeyT Tryd.prog 28 Pin := KeyT.struct Tryd.underlying28 rfl eqt28 (fun k => (CkL.cons (by decide) (run_part1 ty9 rfl) (fun b w => MapKept.run_checkKey un9 (k := Gk.str k.Part) trivial b 9998) (CkL.cons (by decide) (run_part1 ty9 rfl) (fun b w => MapKept.run_checkKey un9 (k := Gk.str k.Pin) trivial b 9998) CkL.nil))) (fun k x hx => by
  have hx : x ∈ [Sc.toV k.Part, Sc.toV k.Pin] := hx
  simp only [List.mem_cons, List.not_mem_nil, or_false] at hx
  rcases hx with rfl | rfl
  · exact MapKept.sameBits_self (d := .string) (k := Gk.str k.Part) trivial _
  · exact MapKept.sameBits_self (d := .string) (k := Gk.str k.Pin) trivial _)
theorem mt77 : MapT Tryd.prog 77 28 4 Pin Bool (false : Bool) := ⟨by kernel_rfl, key28, zero_of (Z := (.bool false)) (by kernel_rfl) (fun M => ⟨_, rfl, rfl⟩)⟩
theorem fn44 : Fnc Tryd.prog 44 := ⟨fun _ _ => run_callFunc Tryd.func44 (by kernel_rfl) rfl⟩
theorem fn43 : Fnc Tryd.prog 43 := ⟨fun _ _ => run_callFunc Tryd.func43 (by kernel_rfl) rfl⟩
theorem fa64_2 : FAt Tryd.prog 64 2 2 := ⟨fun _ _ => by kernel_rfl⟩
theorem ty55 : TyA Tryd.prog 55 false 1 := ⟨fun _ => by kernel_rfl, fun _ => by kernel_rfl⟩
theorem fn13 : Fnc Tryd.prog 13 := ⟨fun _ _ => run_callFunc Tryd.func13 (by kernel_rfl) rfl⟩
theorem mt72 : MapT Tryd.prog 72 28 3 Pin Int (0 : Int) := ⟨by kernel_rfl, key28, zero_of (Z := (.int .i64 0)) (by kernel_rfl) (fun M => ⟨_, rfl, rfl⟩)⟩
theorem fn37 : Fnc Tryd.prog 37 := ⟨fun _ _ => run_callFunc Tryd.func37 (by kernel_rfl) rfl⟩
theorem fn11 : Fnc Tryd.prog 11 := ⟨fun _ _ => run_callFunc Tryd.func11 (by kernel_rfl) rfl⟩
theorem fn136 : Fnc Tryd.prog 136 := ⟨fun _ _ => run_callFunc Tryd.func136 (by kernel_rfl) rfl⟩
theorem fn135 : Fnc Tryd.prog 135 := ⟨fun _ _ => run_callFunc Tryd.func135 (by kernel_rfl) rfl⟩
theorem fn101 : Fnc Tryd.prog 101 := ⟨fun _ _ => run_callFunc Tryd.func101 (by kernel_rfl) rfl⟩
theorem fn45 : Fnc Tryd.prog 45 := ⟨fun _ _ => run_callFunc Tryd.func45 (by kernel_rfl) rfl⟩
theorem fn102 : Fnc Tryd.prog 102 := ⟨fun _ _ => run_callFunc Tryd.func102 (by kernel_rfl) rfl⟩
theorem fn69 : Fnc Tryd.prog 69 := ⟨fun _ _ => run_callFunc Tryd.func69 (by kernel_rfl) rfl⟩
theorem fn68 : Fnc Tryd.prog 68 := ⟨fun _ _ => run_callFunc Tryd.func68 (by kernel_rfl) rfl⟩
theorem fn94 : Fnc Tryd.prog 94 := ⟨fun _ _ => run_callFunc Tryd.func94 (by kernel_rfl) rfl⟩
theorem fn38 : Fnc Tryd.prog 38 := ⟨fun _ _ => run_callFunc Tryd.func38 (by kernel_rfl) rfl⟩
theorem fn103 : Fnc Tryd.prog 103 := ⟨fun _ _ => run_callFunc Tryd.func103 (by kernel_rfl) rfl⟩
theorem fn130 : Fnc Tryd.prog 130 := ⟨fun _ _ => run_callFunc Tryd.func130 (by kernel_rfl) rfl⟩
theorem fn95 : Fnc Tryd.prog 95 := ⟨fun _ _ => run_callFunc Tryd.func95 (by kernel_rfl) rfl⟩
theorem fn104 : Fnc Tryd.prog 104 := ⟨fun _ _ => run_callFunc Tryd.func104 (by kernel_rfl) rfl⟩
theorem fn46 : Fnc Tryd.prog 46 := ⟨fun _ _ => run_callFunc Tryd.func46 (by kernel_rfl) rfl⟩
theorem fn14 : Fnc Tryd.prog 14 := ⟨fun _ _ => run_callFunc Tryd.func14 (by kernel_rfl) rfl⟩
theorem fn39 : Fnc Tryd.prog 39 := ⟨fun _ _ => run_callFunc Tryd.func39 (by kernel_rfl) rfl⟩
theorem fn12 : Fnc Tryd.prog 12 := ⟨fun _ _ => run_callFunc Tryd.func12 (by kernel_rfl) rfl⟩
theorem un4 : Tryd.prog.underlying 4 = some (.bool) := by kernel_rfl
theorem st28 : StT Tryd.prog 28 [(0, 1), (1, 1)] #[(.string ⟨#[]⟩), (.string ⟨#[]⟩)] := StT.of Tryd.underlying28 (z := (.agg #[(.string ⟨#[]⟩), (.string ⟨#[]⟩)])) (fun _ => by kernel_rfl) (fun _ => by kernel_rfl)
theorem el33 : ElT Tryd.prog 33 28 2 32 := ElT.of (z := (.agg #[(.string ⟨#[]⟩), (.string ⟨#[]⟩)])) (by kernel_rfl) (by kernel_rfl) rfl (by decide)
theorem fn67 : Fnc Tryd.prog 67 := ⟨fun _ _ => run_callFunc Tryd.func67 (by kernel_rfl) rfl⟩
theorem fn47 : Fnc Tryd.prog 47 := ⟨fun _ _ => run_callFunc Tryd.func47 (by kernel_rfl) rfl⟩
theorem fn15 : Fnc Tryd.prog 15 := ⟨fun _ _ => run_callFunc Tryd.func15 (by kernel_rfl) rfl⟩
theorem fn48 : Fnc Tryd.prog 48 := ⟨fun _ _ => run_callFunc Tryd.func48 (by kernel_rfl) rfl⟩
theorem fn16 : Fnc Tryd.prog 16 := ⟨fun _ _ => run_callFunc Tryd.func16 (by kernel_rfl) rfl⟩
theorem fn17 : Fnc Tryd.prog 17 := ⟨fun _ _ => run_callFunc Tryd.func17 (by kernel_rfl) rfl⟩
theorem st82 : StT Tryd.prog 82 [(0, 1), (1, 1), (2, 1)] #[(.string ⟨#[]⟩), (.int .i64 0), (.int .i64 0)] := StT.of Tryd.underlying82 (z := (.agg #[(.string ⟨#[]⟩), (.int .i64 0), (.int .i64 0)])) (fun _ => by kernel_rfl) (fun _ => by kernel_rfl)
theorem st85 : StT Tryd.prog 85 [(0, 1), (1, 1)] #[(.string ⟨#[]⟩), (.slice none 0 0)] := StT.of Tryd.underlying85 (z := (.agg #[(.string ⟨#[]⟩), (.slice none 0 0)])) (fun _ => by kernel_rfl) (fun _ => by kernel_rfl)
theorem st87 : StT Tryd.prog 87 [(0, 1), (1, 1)] #[(.string ⟨#[]⟩), (.string ⟨#[]⟩)] := StT.of Tryd.underlying87 (z := (.agg #[(.string ⟨#[]⟩), (.string ⟨#[]⟩)])) (fun _ => by kernel_rfl) (fun _ => by kernel_rfl)
theorem st26 : StT Tryd.prog 26 [(0, 1), (1, 1)] #[(.slice none 0 0), (.slice none 0 0)] := StT.of Tryd.underlying26 (z := (.agg #[(.slice none 0 0), (.slice none 0 0)])) (fun _ => by kernel_rfl) (fun _ => by kernel_rfl)
theorem fn18 : Fnc Tryd.prog 18 := ⟨fun _ _ => run_callFunc Tryd.func18 (by kernel_rfl) rfl⟩
theorem zc39 : ZeC Tryd.prog 39 [(.slice none 0 0)] := ⟨(.slice none 0 0), fun _ => by kernel_rfl, rfl⟩
theorem ty39 : TyA Tryd.prog 39 false 1 := ⟨fun _ => by kernel_rfl, fun _ => by kernel_rfl⟩
theorem fn55 : Fnc Tryd.prog 55 := ⟨fun _ _ => run_callFunc Tryd.func55 (by kernel_rfl) rfl⟩
theorem st96 : StT Tryd.prog 96 [(0, 1), (1, 1), (2, 1)] #[(.int .i64 0), (.string ⟨#[]⟩), (.slice none 0 0)] := StT.of Tryd.underlying96 (z := (.agg #[(.int .i64 0), (.string ⟨#[]⟩), (.slice none 0 0)])) (fun _ => by kernel_rfl) (fun _ => by kernel_rfl)
theorem sl39 : SlT Tryd.prog 39 96 3 := ⟨by kernel_rfl, fun _ => by kernel_rfl⟩
theorem ze96 : ZeT Tryd.prog 96 3 := ⟨⟨(.agg #[(.int .i64 0), (.string ⟨#[]⟩), (.slice none 0 0)]), fun _ => by kernel_rfl, rfl⟩, fun _ => by kernel_rfl⟩
theorem el39 : ElT Tryd.prog 39 96 3 48 := ElT.of (z := (.agg #[(.int .i64 0), (.string ⟨#[]⟩), (.slice none 0 0)])) (by kernel_rfl) (by kernel_rfl) rfl (by decide)
theorem zc64 : ZeC Tryd.prog 64 [(.string ⟨#[]⟩), (.slice none 0 0), (.slice none 0 0)] := ⟨(.agg #[(.string ⟨#[]⟩), (.slice none 0 0), (.slice none 0 0)]), fun _ => by kernel_rfl, rfl⟩
theorem zc92 : ZeC Tryd.prog 92 [(.map none)] := ⟨(.map none), fun _ => by kernel_rfl, rfl⟩
theorem ty92 : TyA Tryd.prog 92 false 1 := ⟨fun _ => by kernel_rfl, fun _ => by kernel_rfl⟩
theorem fn49 : Fnc Tryd.prog 49 := ⟨fun _ _ => run_callFunc Tryd.func49 (by kernel_rfl) rfl⟩
theorem mtr92 : MapT Tryd.prog 92 3 33 Int RV rvz := ⟨by kernel_rfl, (KeyT.int un3), zero_of (Z := (.slice none 0 0)) (by kernel_rfl) (fun M => rdV_sc.2 rfl)⟩
theorem mt92 : MapT Tryd.prog 92 3 33 Int (List Pin) ([] : (List Pin)) := ⟨by kernel_rfl, (KeyT.int un3), zero_of (Z := (.slice none 0 0)) (by kernel_rfl) (fun M => ⟨_, rfl, ⟨_, rfl, none, 0, 0, rfl, rfl, Nat.le_refl _, by simp [maxLen], fun _ _ h => by simp at h⟩⟩)⟩
theorem fn53 : Fnc Tryd.prog 53 := ⟨fun _ _ => run_callFunc Tryd.func53 (by kernel_rfl) rfl⟩
theorem fn54 : Fnc Tryd.prog 54 := ⟨fun _ _ => run_callFunc Tryd.func54 (by kernel_rfl) rfl⟩
theorem fn19 : Fnc Tryd.prog 19 := ⟨fun _ _ => run_callFunc Tryd.func19 (by kernel_rfl) rfl⟩
theorem sl138 : SlT Tryd.prog 138 3 1 := ⟨by kernel_rfl, fun _ => by kernel_rfl⟩
theorem ze3 : ZeT Tryd.prog 3 1 := ⟨⟨(.int .i64 0), fun _ => by kernel_rfl, rfl⟩, fun _ => by kernel_rfl⟩
theorem fn57 : Fnc Tryd.prog 57 := ⟨fun _ _ => run_callFunc Tryd.func57 (by kernel_rfl) rfl⟩
theorem un138 : Tryd.prog.underlying 138 = some (.slice 3) := by kernel_rfl
theorem fn150 : Fnc Tryd.prog 150 := ⟨fun _ _ => run_callFunc Tryd.func150 (by kernel_rfl) rfl⟩
theorem fn138 : Fnc Tryd.prog 138 := ⟨fun _ _ => run_callFunc Tryd.func138 (by kernel_rfl) rfl⟩
theorem fn112 : Fnc Tryd.prog 112 := ⟨fun _ _ => run_callFunc Tryd.func112 (by kernel_rfl) rfl⟩
theorem fn56 : Fnc Tryd.prog 56 := ⟨fun _ _ => run_callFunc Tryd.func56 (by kernel_rfl) rfl⟩
theorem fn20 : Fnc Tryd.prog 20 := ⟨fun _ _ => run_callFunc Tryd.func20 (by kernel_rfl) rfl⟩
theorem un39 : Tryd.prog.underlying 39 = some (.slice 96) := by kernel_rfl
theorem fa96_0 : FAt Tryd.prog 96 0 0 := ⟨fun _ _ => by kernel_rfl⟩
theorem fa96_1 : FAt Tryd.prog 96 1 1 := ⟨fun _ _ => by kernel_rfl⟩
theorem fa96_2 : FAt Tryd.prog 96 2 2 := ⟨fun _ _ => by kernel_rfl⟩
theorem fn21 : Fnc Tryd.prog 21 := ⟨fun _ _ => run_callFunc Tryd.func21 (by kernel_rfl) rfl⟩
theorem ze26 : ZeT Tryd.prog 26 2 := ⟨⟨(.agg #[(.slice none 0 0), (.slice none 0 0)]), fun _ => by kernel_rfl, rfl⟩, fun _ => by kernel_rfl⟩
theorem zc26 : ZeC Tryd.prog 26 [(.slice none 0 0), (.slice none 0 0)] := ⟨(.agg #[(.slice none 0 0), (.slice none 0 0)]), fun _ => by kernel_rfl, rfl⟩
theorem fn113 : Fnc Tryd.prog 113 := ⟨fun _ _ => run_callFunc Tryd.func113 (by kernel_rfl) rfl⟩
theorem fn58 : Fnc Tryd.prog 58 := ⟨fun _ _ => run_callFunc Tryd.func58 (by kernel_rfl) rfl⟩
theorem el23 : ElT Tryd.prog 23 87 2 32 := ElT.of (z := (.agg #[(.string ⟨#[]⟩), (.string ⟨#[]⟩)])) (by kernel_rfl) (by kernel_rfl) rfl (by decide)
theorem fn158 : Fnc Tryd.prog 158 := ⟨fun _ _ => run_callFunc Tryd.func158 (by kernel_rfl) rfl⟩
theorem fn145 : Fnc Tryd.prog 145 := ⟨fun _ _ => run_callFunc Tryd.func145 (by kernel_rfl) rfl⟩
theorem fn124 : Fnc Tryd.prog 124 := ⟨fun _ _ => run_callFunc Tryd.func124 (by kernel_rfl) rfl⟩
theorem fn123 : Fnc Tryd.prog 123 := ⟨fun _ _ => run_callFunc Tryd.func123 (by kernel_rfl) rfl⟩
theorem fn83 : Fnc Tryd.prog 83 := ⟨fun _ _ => run_callFunc Tryd.func83 (by kernel_rfl) rfl⟩
theorem st64 : StT Tryd.prog 64 [(0, 1), (1, 1), (2, 1)] #[(.string ⟨#[]⟩), (.slice none 0 0), (.slice none 0 0)] := StT.of Tryd.underlying64 (z := (.agg #[(.string ⟨#[]⟩), (.slice none 0 0), (.slice none 0 0)])) (fun _ => by kernel_rfl) (fun _ => by kernel_rfl)
theorem el24 : ElT Tryd.prog 24 64 3 64 := ElT.of (z := (.agg #[(.string ⟨#[]⟩), (.slice none 0 0), (.slice none 0 0)])) (by kernel_rfl) (by kernel_rfl) rfl (by decide)
theorem fn59 : Fnc Tryd.prog 59 := ⟨fun _ _ => run_callFunc Tryd.func59 (by kernel_rfl) rfl⟩
theorem fn22 : Fnc Tryd.prog 22 := ⟨fun _ _ => run_callFunc Tryd.func22 (by kernel_rfl) rfl⟩
theorem fn61 : Fnc Tryd.prog 61 := ⟨fun _ _ => run_callFunc Tryd.func61 (by kernel_rfl) rfl⟩
theorem fn62 : Fnc Tryd.prog 62 := ⟨fun _ _ => run_callFunc Tryd.func62 (by kernel_rfl) rfl⟩
theorem fn23 : Fnc Tryd.prog 23 := ⟨fun _ _ => run_callFunc Tryd.func23 (by kernel_rfl) rfl⟩
theorem eqt87 : EqT Tryd.prog 87 Part := ⟨fun M cs ds a b w ha hb => by
  obtain ⟨_, _, rfl, rfl, rfl⟩ := ha
  obtain ⟨_, _, rfl, rfl, rfl⟩ := hb
  refine (run_equal_struct (d := 9999) Tryd.underlying87 (by kernel_rfl) (EqL.cons (by decide) (run_part1 ty9 rfl _) (run_part1 ty9 rfl _) (run_eq_str un9 _ _ w) (EqL.cons (by decide) (run_part1 ty9 rfl _) (run_part1 ty9 rfl _) (run_eq_str un9 _ _ w) EqL.nil))).trans ?_
  congr 1
  cases a; cases b
  rw [Bool.eq_iff_iff]
  simp, by kernel_rfl⟩
theorem fn63 : Fnc Tryd.prog 63 := ⟨fun _ _ => run_callFunc Tryd.func63 (by kernel_rfl) rfl⟩
theorem fn64 : Fnc Tryd.prog 64 := ⟨fun _ _ => run_callFunc Tryd.func64 (by kernel_rfl) rfl⟩
theorem fn24 : Fnc Tryd.prog 24 := ⟨fun _ _ => run_callFunc Tryd.func24 (by kernel_rfl) rfl⟩
theorem fn65 : Fnc Tryd.prog 65 := ⟨fun _ _ => run_callFunc Tryd.func65 (by kernel_rfl) rfl⟩
theorem zc48 : ZeC Tryd.prog 48 [(.slice none 0 0)] := ⟨(.slice none 0 0), fun _ => by kernel_rfl, rfl⟩
theorem ty48 : TyA Tryd.prog 48 false 1 := ⟨fun _ => by kernel_rfl, fun _ => by kernel_rfl⟩
theorem st53 : StT Tryd.prog 53 [(0, 1), (1, 1), (2, 1)] #[(.int .i64 0), (.string ⟨#[]⟩), (.string ⟨#[]⟩)] := StT.of Tryd.underlying53 (z := (.agg #[(.int .i64 0), (.string ⟨#[]⟩), (.string ⟨#[]⟩)])) (fun _ => by kernel_rfl) (fun _ => by kernel_rfl)
theorem sl48 : SlT Tryd.prog 48 53 3 := ⟨by kernel_rfl, fun _ => by kernel_rfl⟩
theorem ze53 : ZeT Tryd.prog 53 3 := ⟨⟨(.agg #[(.int .i64 0), (.string ⟨#[]⟩), (.string ⟨#[]⟩)]), fun _ => by kernel_rfl, rfl⟩, fun _ => by kernel_rfl⟩
theorem el48 : ElT Tryd.prog 48 53 3 40 := ElT.of (z := (.agg #[(.int .i64 0), (.string ⟨#[]⟩), (.string ⟨#[]⟩)])) (by kernel_rfl) (by kernel_rfl) rfl (by decide)
theorem fn66 : Fnc Tryd.prog 66 := ⟨fun _ _ => run_callFunc Tryd.func66 (by kernel_rfl) rfl⟩
theorem fn25 : Fnc Tryd.prog 25 := ⟨fun _ _ => run_callFunc Tryd.func25 (by kernel_rfl) rfl⟩
theorem fn70 : Fnc Tryd.prog 70 := ⟨fun _ _ => run_callFunc Tryd.func70 (by kernel_rfl) rfl⟩
theorem sl157 : SlT Tryd.prog 157 48 1 := ⟨by kernel_rfl, fun _ => by kernel_rfl⟩
theorem ze48 : ZeT Tryd.prog 48 1 := ⟨⟨(.slice none 0 0), fun _ => by kernel_rfl, rfl⟩, fun _ => by kernel_rfl⟩
theorem un157 : Tryd.prog.underlying 157 = some (.slice 48) := by kernel_rfl
theorem un48 : Tryd.prog.underlying 48 = some (.slice 53) := by kernel_rfl
theorem zd53 : ZeD Tryd.prog 53 (⟨0, ⟨[]⟩, ⟨[]⟩⟩ : ListChange) := ZeD.of (Z := (.agg #[(.int .i64 0), (.string ⟨#[]⟩), (.string ⟨#[]⟩)])) (by kernel_rfl) (fun M => (z_ListChange M))
theorem fn115 : Fnc Tryd.prog 115 := ⟨fun _ _ => run_callFunc Tryd.func115 (by kernel_rfl) rfl⟩
theorem fn71 : Fnc Tryd.prog 71 := ⟨fun _ _ => run_callFunc Tryd.func71 (by kernel_rfl) rfl⟩
theorem fn26 : Fnc Tryd.prog 26 := ⟨fun _ _ => run_callFunc Tryd.func26 (by kernel_rfl) rfl⟩
theorem ty53 : TyA Tryd.prog 53 true 3 := ⟨fun _ => by kernel_rfl, fun _ => by kernel_rfl⟩
theorem eqt53 : EqT Tryd.prog 53 ListChange := ⟨fun M cs ds a b w ha hb => by
  obtain ⟨_, _, rfl, rfl, ⟨_, _, rfl, rfl, rfl⟩⟩ := ha
  obtain ⟨_, _, rfl, rfl, ⟨_, _, rfl, rfl, rfl⟩⟩ := hb
  refine (run_equal_struct (d := 9999) Tryd.underlying53 (by kernel_rfl) (EqL.cons (by decide) (run_part1 ty3 rfl _) (run_part1 ty3 rfl _) (run_eq_int un3 _ _ w) (EqL.cons (by decide) (run_part1 ty9 rfl _) (run_part1 ty9 rfl _) (run_eq_str un9 _ _ w) (EqL.cons (by decide) (run_part1 ty9 rfl _) (run_part1 ty9 rfl _) (run_eq_str un9 _ _ w) EqL.nil)))).trans ?_
  congr 1
  cases a; cases b
  rw [Bool.eq_iff_iff]
  simp, by kernel_rfl⟩
theorem fn27 : Fnc Tryd.prog 27 := ⟨fun _ _ => run_callFunc Tryd.func27 (by kernel_rfl) rfl⟩
theorem fn73 : Fnc Tryd.prog 73 := ⟨fun _ _ => run_callFunc Tryd.func73 (by kernel_rfl) rfl⟩
theorem fn72 : Fnc Tryd.prog 72 := ⟨fun _ _ => run_callFunc Tryd.func72 (by kernel_rfl) rfl⟩
theorem fn116 : Fnc Tryd.prog 116 := ⟨fun _ _ => run_callFunc Tryd.func116 (by kernel_rfl) rfl⟩
theorem fn117 : Fnc Tryd.prog 117 := ⟨fun _ _ => run_callFunc Tryd.func117 (by kernel_rfl) rfl⟩
theorem fn74 : Fnc Tryd.prog 74 := ⟨fun _ _ => run_callFunc Tryd.func74 (by kernel_rfl) rfl⟩
theorem fn157 : Fnc Tryd.prog 157 := ⟨fun _ _ => run_callFunc Tryd.func157 (by kernel_rfl) rfl⟩
theorem fn143 : Fnc Tryd.prog 143 := ⟨fun _ _ => run_callFunc Tryd.func143 (by kernel_rfl) rfl⟩
theorem fn144 : Fnc Tryd.prog 144 := ⟨fun _ _ => run_callFunc Tryd.func144 (by kernel_rfl) rfl⟩
theorem fn119 : Fnc Tryd.prog 119 := ⟨fun _ _ => run_callFunc Tryd.func119 (by kernel_rfl) rfl⟩
theorem fn77 : Fnc Tryd.prog 77 := ⟨fun _ _ => run_callFunc Tryd.func77 (by kernel_rfl) rfl⟩
theorem fn118 : Fnc Tryd.prog 118 := ⟨fun _ _ => run_callFunc Tryd.func118 (by kernel_rfl) rfl⟩
theorem zd87 : ZeD Tryd.prog 87 (⟨⟨[]⟩, ⟨[]⟩⟩ : Part) := ZeD.of (Z := (.agg #[(.string ⟨#[]⟩), (.string ⟨#[]⟩)])) (by kernel_rfl) (fun M => (z_Part M))
theorem fn76 : Fnc Tryd.prog 76 := ⟨fun _ _ => run_callFunc Tryd.func76 (by kernel_rfl) rfl⟩
theorem fn75 : Fnc Tryd.prog 75 := ⟨fun _ _ => run_callFunc Tryd.func75 (by kernel_rfl) rfl⟩
theorem fn120 : Fnc Tryd.prog 120 := ⟨fun _ _ => run_callFunc Tryd.func120 (by kernel_rfl) rfl⟩
theorem zd28 : ZeD Tryd.prog 28 (⟨⟨[]⟩, ⟨[]⟩⟩ : Pin) := ZeD.of (Z := (.agg #[(.string ⟨#[]⟩), (.string ⟨#[]⟩)])) (by kernel_rfl) (fun M => (z_Pin M))
theorem fn79 : Fnc Tryd.prog 79 := ⟨fun _ _ => run_callFunc Tryd.func79 (by kernel_rfl) rfl⟩
theorem fn78 : Fnc Tryd.prog 78 := ⟨fun _ _ => run_callFunc Tryd.func78 (by kernel_rfl) rfl⟩
theorem fn121 : Fnc Tryd.prog 121 := ⟨fun _ _ => run_callFunc Tryd.func121 (by kernel_rfl) rfl⟩
theorem zd64 : ZeD Tryd.prog 64 (⟨⟨[]⟩, [], []⟩ : Net) := ZeD.of (Z := (.agg #[(.string ⟨#[]⟩), (.slice none 0 0), (.slice none 0 0)])) (by kernel_rfl) (fun M => (z_Net M))
theorem fn81 : Fnc Tryd.prog 81 := ⟨fun _ _ => run_callFunc Tryd.func81 (by kernel_rfl) rfl⟩
theorem fn80 : Fnc Tryd.prog 80 := ⟨fun _ _ => run_callFunc Tryd.func80 (by kernel_rfl) rfl⟩
theorem fn28 : Fnc Tryd.prog 28 := ⟨fun _ _ => run_callFunc Tryd.func28 (by kernel_rfl) rfl⟩
theorem fn29 : Fnc Tryd.prog 29 := ⟨fun _ _ => run_callFunc Tryd.func29 (by kernel_rfl) rfl⟩
theorem fn122 : Fnc Tryd.prog 122 := ⟨fun _ _ => run_callFunc Tryd.func122 (by kernel_rfl) rfl⟩
theorem fn82 : Fnc Tryd.prog 82 := ⟨fun _ _ => run_callFunc Tryd.func82 (by kernel_rfl) rfl⟩
theorem fn30 : Fnc Tryd.prog 30 := ⟨fun _ _ => run_callFunc Tryd.func30 (by kernel_rfl) rfl⟩
theorem zc125 : ZeC Tryd.prog 125 [(.pointer none), (.slice none 0 0)] := ⟨(.agg #[(.pointer none), (.slice none 0 0)]), fun _ => by kernel_rfl, rfl⟩
theorem fn127 : Fnc Tryd.prog 127 := ⟨fun _ _ => run_callFunc Tryd.func127 (by kernel_rfl) rfl⟩
theorem fn126 : Fnc Tryd.prog 126 := ⟨fun _ _ => run_callFunc Tryd.func126 (by kernel_rfl) rfl⟩
theorem fn88 : Fnc Tryd.prog 88 := ⟨fun _ _ => run_callFunc Tryd.func88 (by kernel_rfl) rfl⟩
theorem fn87 : Fnc Tryd.prog 87 := ⟨fun _ _ => run_callFunc Tryd.func87 (by kernel_rfl) rfl⟩
theorem el138 : ElT Tryd.prog 138 3 1 8 := ElT.of (z := (.int .i64 0)) (by kernel_rfl) (by kernel_rfl) rfl (by decide)
theorem zd3 : ZeD Tryd.prog 3 (0 : Int) := ZeD.of (Z := (.int .i64 0)) (by kernel_rfl) (fun M => rfl)
theorem st172 : StT Tryd.prog 172 [(0, 1)] #[(.slice none 0 0)] := StT.of Tryd.underlying172 (z := (.agg #[(.slice none 0 0)])) (fun _ => by kernel_rfl) (fun _ => by kernel_rfl)
theorem fa172_0 : FAt Tryd.prog 172 0 0 := ⟨fun _ _ => by kernel_rfl⟩
theorem ty138 : TyA Tryd.prog 138 false 1 := ⟨fun _ => by kernel_rfl, fun _ => by kernel_rfl⟩
theorem fn89 : Fnc Tryd.prog 89 := ⟨fun _ _ => run_callFunc Tryd.func89 (by kernel_rfl) rfl⟩
theorem fn128 : Fnc Tryd.prog 128 := ⟨fun _ _ => run_callFunc Tryd.func128 (by kernel_rfl) rfl⟩
theorem fn90 : Fnc Tryd.prog 90 := ⟨fun _ _ => run_callFunc Tryd.func90 (by kernel_rfl) rfl⟩
theorem un136 : Tryd.prog.underlying 136 = some (.slice 138) := by kernel_rfl
theorem mt173 : MapT Tryd.prog 173 3 3 Int Int (0 : Int) := ⟨by kernel_rfl, (KeyT.int un3), zero_of (Z := (.int .i64 0)) (by kernel_rfl) (fun M => ⟨_, rfl, rfl⟩)⟩
theorem sl136 : SlT Tryd.prog 136 138 1 := ⟨by kernel_rfl, fun _ => by kernel_rfl⟩
theorem ze138 : ZeT Tryd.prog 138 1 := ⟨⟨(.slice none 0 0), fun _ => by kernel_rfl, rfl⟩, fun _ => by kernel_rfl⟩
theorem el136 : ElT Tryd.prog 136 138 1 24 := ElT.of (z := (.slice none 0 0)) (by kernel_rfl) (by kernel_rfl) rfl (by decide)
theorem fn91 : Fnc Tryd.prog 91 := ⟨fun _ _ => run_callFunc Tryd.func91 (by kernel_rfl) rfl⟩
theorem ze9 : ZeT Tryd.prog 9 1 := ⟨⟨(.string ⟨#[]⟩), fun _ => by kernel_rfl, rfl⟩, fun _ => by kernel_rfl⟩
theorem sl66 : SlT Tryd.prog 66 55 1 := ⟨by kernel_rfl, fun _ => by kernel_rfl⟩
theorem ze55 : ZeT Tryd.prog 55 1 := ⟨⟨(.slice none 0 0), fun _ => by kernel_rfl, rfl⟩, fun _ => by kernel_rfl⟩
theorem el66 : ElT Tryd.prog 66 55 1 24 := ElT.of (z := (.slice none 0 0)) (by kernel_rfl) (by kernel_rfl) rfl (by decide)
theorem fn33 : Fnc Tryd.prog 33 := ⟨fun _ _ => run_callFunc Tryd.func33 (by kernel_rfl) rfl⟩
theorem fn129 : Fnc Tryd.prog 129 := ⟨fun _ _ => run_callFunc Tryd.func129 (by kernel_rfl) rfl⟩
theorem fn92 : Fnc Tryd.prog 92 := ⟨fun _ _ => run_callFunc Tryd.func92 (by kernel_rfl) rfl⟩
theorem el140 : ElT Tryd.prog 140 4 1 1 := ElT.of (z := (.bool false)) (by kernel_rfl) (by kernel_rfl) rfl (by decide)
theorem zd4 : ZeD Tryd.prog 4 (false : Bool) := ZeD.of (Z := (.bool false)) (by kernel_rfl) (fun M => rfl)
theorem sl140 : SlT Tryd.prog 140 4 1 := ⟨by kernel_rfl, fun _ => by kernel_rfl⟩
theorem ty4 : TyA Tryd.prog 4 false 1 := ⟨fun _ => by kernel_rfl, fun _ => by kernel_rfl⟩
theorem un140 : Tryd.prog.underlying 140 = some (.slice 4) := by kernel_rfl
theorem fn93 : Fnc Tryd.prog 93 := ⟨fun _ _ => run_callFunc Tryd.func93 (by kernel_rfl) rfl⟩
theorem fn34 : Fnc Tryd.prog 34 := ⟨fun _ _ => run_callFunc Tryd.func34 (by kernel_rfl) rfl⟩
theorem un66 : Tryd.prog.underlying 66 = some (.slice 55) := by kernel_rfl
theorem fn35 : Fnc Tryd.prog 35 := ⟨fun _ _ => run_callFunc Tryd.func35 (by kernel_rfl) rfl⟩
end Go.Gk
