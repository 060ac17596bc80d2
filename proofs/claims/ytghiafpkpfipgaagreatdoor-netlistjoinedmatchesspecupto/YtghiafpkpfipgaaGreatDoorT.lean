/-
  Printed by gen.py: Go types as plain structures, and closed facts on the loaded program.
-/
import Derived.Test.YtghiafpkpfipgaaGreatDoorProg
import Derived.Test.YtghiafpkpfipgaaGreatDoorD
import Derived.Test.YtghiafpkpfipgaaGreatDoorK22
import Derived.Test.YtghiafpkpfipgaaGreatDoorK26
set_option linter.unusedVariables false
set_option linter.unusedSimpArgs false
set_option linter.unusedSectionVars false
set_option maxRecDepth 100000
set_option maxHeartbeats 4000000

namespace Go.Gk
open Go Go.Proofs
instance instGTPinType : GT PinType := GT.via (fun x => (x.Name, x.Kind, x.Group))
instance instKVPinType : KV PinType := instKVvia (fun (x : PinType) => (x.Name, x.Kind, x.Group))
theorem fd_PinType_0 : Fd 0 (fun x : PinType => x.Name) := fun M cs x h => (Fd.fst (α := Str) (β := Int × Int) Fd.self (by decide)) M cs (x.Name, x.Kind, x.Group) h
theorem fs_PinType_0 : Fs 0 Str (fun (x : PinType) y => { x with Name := y }) := fun M cs ds x y h h2 => (Fs.fst (α := Str) (β := Int × Int) Fs.self (by decide)) M cs ds (x.Name, x.Kind, x.Group) y h h2
theorem fd_PinType_1 : Fd 1 (fun x : PinType => x.Kind) := fun M cs x h => (Fd.snd (α := Str) (β := Int × Int) (Fd.fst (α := Int) (β := Int) Fd.self (by decide)) rfl) M cs (x.Name, x.Kind, x.Group) h
theorem fs_PinType_1 : Fs 1 Int (fun (x : PinType) y => { x with Kind := y }) := fun M cs ds x y h h2 => (Fs.snd (α := Str) (β := Int × Int) (Fs.fst (α := Int) (β := Int) Fs.self (by decide)) rfl) M cs ds (x.Name, x.Kind, x.Group) y h h2
theorem fd_PinType_2 : Fd 2 (fun x : PinType => x.Group) := fun M cs x h => (Fd.snd (α := Str) (β := Int × Int) (Fd.snd (α := Int) (β := Int) Fd.self rfl) rfl) M cs (x.Name, x.Kind, x.Group) h
instance instGTPartType : GT PartType := GT.via (fun x => (x.Name, x.Pins))
theorem fd_PartType_0 : Fd 0 (fun x : PartType => x.Name) := fun M cs x h => (Fd.fst (α := Str) (β := (List PinType)) Fd.self (by decide)) M cs (x.Name, x.Pins) h
theorem fs_PartType_0 : Fs 0 Str (fun (x : PartType) y => { x with Name := y }) := fun M cs ds x y h h2 => (Fs.fst (α := Str) (β := (List PinType)) Fs.self (by decide)) M cs ds (x.Name, x.Pins) y h h2
theorem fd_PartType_1 : Fd 1 (fun x : PartType => x.Pins) := fun M cs x h => (Fd.snd (α := Str) (β := (List PinType)) Fd.self rfl) M cs (x.Name, x.Pins) h
theorem fs_PartType_1 : Fs 1 (List PinType) (fun (x : PartType) y => { x with Pins := y }) := fun M cs ds x y h h2 => (Fs.snd (α := Str) (β := (List PinType)) Fs.self rfl) M cs ds (x.Name, x.Pins) y h h2
instance instGTPart : GT Part := GT.via (fun x => (x.Name, x.Type_))
instance instKVPart : KV Part := instKVvia (fun (x : Part) => (x.Name, x.Type_))
theorem fd_Part_0 : Fd 0 (fun x : Part => x.Name) := fun M cs x h => (Fd.fst (α := Str) (β := Str) Fd.self (by decide)) M cs (x.Name, x.Type_) h
theorem fs_Part_0 : Fs 0 Str (fun (x : Part) y => { x with Name := y }) := fun M cs ds x y h h2 => (Fs.fst (α := Str) (β := Str) Fs.self (by decide)) M cs ds (x.Name, x.Type_) y h h2
theorem fd_Part_1 : Fd 1 (fun x : Part => x.Type_) := fun M cs x h => (Fd.snd (α := Str) (β := Str) Fd.self rfl) M cs (x.Name, x.Type_) h
theorem fs_Part_1 : Fs 1 Str (fun (x : Part) y => { x with Type_ := y }) := fun M cs ds x y h h2 => (Fs.snd (α := Str) (β := Str) Fs.self rfl) M cs ds (x.Name, x.Type_) y h h2
instance instGTPin : GT Pin := GT.via (fun x => (x.Part, x.Pin))
instance instKVPin : KV Pin := instKVvia (fun (x : Pin) => (x.Part, x.Pin))
theorem fd_Pin_0 : Fd 0 (fun x : Pin => x.Part) := fun M cs x h => (Fd.fst (α := Str) (β := Str) Fd.self (by decide)) M cs (x.Part, x.Pin) h
theorem fs_Pin_0 : Fs 0 Str (fun (x : Pin) y => { x with Part := y }) := fun M cs ds x y h h2 => (Fs.fst (α := Str) (β := Str) Fs.self (by decide)) M cs ds (x.Part, x.Pin) y h h2
theorem fd_Pin_1 : Fd 1 (fun x : Pin => x.Pin) := fun M cs x h => (Fd.snd (α := Str) (β := Str) Fd.self rfl) M cs (x.Part, x.Pin) h
theorem fs_Pin_1 : Fs 1 Str (fun (x : Pin) y => { x with Pin := y }) := fun M cs ds x y h h2 => (Fs.snd (α := Str) (β := Str) Fs.self rfl) M cs ds (x.Part, x.Pin) y h h2
instance instGTNet : GT Net := GT.via (fun x => (x.Name, x.Pins, x.Ports))
theorem fd_Net_0 : Fd 0 (fun x : Net => x.Name) := fun M cs x h => (Fd.fst (α := Str) (β := (List Pin) × (List Str)) Fd.self (by decide)) M cs (x.Name, x.Pins, x.Ports) h
theorem fs_Net_0 : Fs 0 Str (fun (x : Net) y => { x with Name := y }) := fun M cs ds x y h h2 => (Fs.fst (α := Str) (β := (List Pin) × (List Str)) Fs.self (by decide)) M cs ds (x.Name, x.Pins, x.Ports) y h h2
theorem fd_Net_1 : Fd 1 (fun x : Net => x.Pins) := fun M cs x h => (Fd.snd (α := Str) (β := (List Pin) × (List Str)) (Fd.fst (α := (List Pin)) (β := (List Str)) Fd.self (by decide)) rfl) M cs (x.Name, x.Pins, x.Ports) h
theorem fs_Net_1 : Fs 1 (List Pin) (fun (x : Net) y => { x with Pins := y }) := fun M cs ds x y h h2 => (Fs.snd (α := Str) (β := (List Pin) × (List Str)) (Fs.fst (α := (List Pin)) (β := (List Str)) Fs.self (by decide)) rfl) M cs ds (x.Name, x.Pins, x.Ports) y h h2
theorem fd_Net_2 : Fd 2 (fun x : Net => x.Ports) := fun M cs x h => (Fd.snd (α := Str) (β := (List Pin) × (List Str)) (Fd.snd (α := (List Pin)) (β := (List Str)) Fd.self rfl) rfl) M cs (x.Name, x.Pins, x.Ports) h
instance instGTNetlist : GT Netlist := GT.via (fun x => (x.Parts, x.Nets))
theorem fd_Netlist_0 : Fd 0 (fun x : Netlist => x.Parts) := fun M cs x h => (Fd.fst (α := (List Part)) (β := (List Net)) Fd.self (by decide)) M cs (x.Parts, x.Nets) h
theorem fs_Netlist_0 : Fs 0 (List Part) (fun (x : Netlist) y => { x with Parts := y }) := fun M cs ds x y h h2 => (Fs.fst (α := (List Part)) (β := (List Net)) Fs.self (by decide)) M cs ds (x.Parts, x.Nets) y h h2
theorem fd_Netlist_1 : Fd 1 (fun x : Netlist => x.Nets) := fun M cs x h => (Fd.snd (α := (List Part)) (β := (List Net)) Fd.self rfl) M cs (x.Parts, x.Nets) h
theorem z_Netlist (M : Heap) : GT.ok M (#[(.slice none 0 0), (.slice none 0 0)] : Array Value).toList (⟨[], []⟩ : Netlist) := ⟨[(.slice none 0 0)], [(.slice none 0 0)], rfl, (show GT.ok M [(.slice none 0 0)] ([] : (List Part)) from ⟨_, rfl, none, 0, 0, rfl, rfl, Nat.le_refl _, by simp [maxLen], fun _ _ h => by simp at h⟩), (show GT.ok M [(.slice none 0 0)] ([] : (List Net)) from ⟨_, rfl, none, 0, 0, rfl, rfl, Nat.le_refl _, by simp [maxLen], fun _ _ h => by simp at h⟩)⟩
theorem z_Net (M : Heap) : GT.ok M (#[(.string ⟨#[]⟩), (.slice none 0 0), (.slice none 0 0)] : Array Value).toList (⟨⟨[]⟩, [], []⟩ : Net) := ⟨[(.string ⟨#[]⟩)], [(.slice none 0 0), (.slice none 0 0)], rfl, (show GT.ok M [(.string ⟨#[]⟩)] (⟨[]⟩ : Str) from rfl), ⟨[(.slice none 0 0)], [(.slice none 0 0)], rfl, (show GT.ok M [(.slice none 0 0)] ([] : (List Pin)) from ⟨_, rfl, none, 0, 0, rfl, rfl, Nat.le_refl _, by simp [maxLen], fun _ _ h => by simp at h⟩), (show GT.ok M [(.slice none 0 0)] ([] : (List Str)) from ⟨_, rfl, none, 0, 0, rfl, rfl, Nat.le_refl _, by simp [maxLen], fun _ _ h => by simp at h⟩)⟩⟩
theorem z_Pin (M : Heap) : GT.ok M (#[(.string ⟨#[]⟩), (.string ⟨#[]⟩)] : Array Value).toList (⟨⟨[]⟩, ⟨[]⟩⟩ : Pin) := ⟨[(.string ⟨#[]⟩)], [(.string ⟨#[]⟩)], rfl, (show GT.ok M [(.string ⟨#[]⟩)] (⟨[]⟩ : Str) from rfl), (show GT.ok M [(.string ⟨#[]⟩)] (⟨[]⟩ : Str) from rfl)⟩
theorem z_Part (M : Heap) : GT.ok M (#[(.string ⟨#[]⟩), (.string ⟨#[]⟩)] : Array Value).toList (⟨⟨[]⟩, ⟨[]⟩⟩ : Part) := ⟨[(.string ⟨#[]⟩)], [(.string ⟨#[]⟩)], rfl, (show GT.ok M [(.string ⟨#[]⟩)] (⟨[]⟩ : Str) from rfl), (show GT.ok M [(.string ⟨#[]⟩)] (⟨[]⟩ : Str) from rfl)⟩
theorem z_PinType (M : Heap) : GT.ok M (#[(.string ⟨#[]⟩), (.int .i64 0), (.int .i64 0)] : Array Value).toList (⟨⟨[]⟩, 0, 0⟩ : PinType) := ⟨[(.string ⟨#[]⟩)], [(.int .i64 0), (.int .i64 0)], rfl, (show GT.ok M [(.string ⟨#[]⟩)] (⟨[]⟩ : Str) from rfl), ⟨[(.int .i64 0)], [(.int .i64 0)], rfl, (show GT.ok M [(.int .i64 0)] (0 : Int) from rfl), (show GT.ok M [(.int .i64 0)] (0 : Int) from rfl)⟩⟩
theorem z_PartType (M : Heap) : GT.ok M (#[(.string ⟨#[]⟩), (.slice none 0 0)] : Array Value).toList (⟨⟨[]⟩, []⟩ : PartType) := ⟨[(.string ⟨#[]⟩)], [(.slice none 0 0)], rfl, (show GT.ok M [(.string ⟨#[]⟩)] (⟨[]⟩ : Str) from rfl), (show GT.ok M [(.slice none 0 0)] ([] : (List PinType)) from ⟨_, rfl, none, 0, 0, rfl, rfl, Nat.le_refl _, by simp [maxLen], fun _ _ h => by simp at h⟩)⟩
structure Net_r1 where
  Name : Str
  Pins : RV
  Ports : (List Str)
  deriving Inhabited
instance instGTNet_r1 : GT Net_r1 := GT.via (fun x => (x.Name, x.Pins, x.Ports))
theorem fd_Net_r1_1 : Fd 1 (fun x : Net_r1 => x.Pins) := fun M cs x h => (Fd.snd (α := Str) (β := RV × (List Str)) (Fd.fst (α := RV) (β := (List Str)) Fd.self (by decide)) rfl) M cs (x.Name, x.Pins, x.Ports) h
theorem fs_Net_r1_1 : Fs 1 RV (fun (x : Net_r1) y => { x with Pins := y }) := fun M cs ds x y h h2 => (Fs.snd (α := Str) (β := RV × (List Str)) (Fs.fst (α := RV) (β := (List Str)) Fs.self (by decide)) rfl) M cs ds (x.Name, x.Pins, x.Ports) y h h2
theorem fs_Net_r1_2 : Fs 2 (List Str) (fun (x : Net_r1) y => { x with Ports := y }) := fun M cs ds x y h h2 => (Fs.snd (α := Str) (β := RV × (List Str)) (Fs.snd (α := RV) (β := (List Str)) Fs.self rfl) rfl) M cs ds (x.Name, x.Pins, x.Ports) y h h2
def XF_Net_r1 : XT Net_r1 Net := ⟨fun u x => u.Name = x.Name ∧ u.Ports = x.Ports, fun M h u x => (u.Name = x.Name ∧ u.Ports = x.Ports) ∧ ownV 43 M h u.Pins.v x.Pins, fun {M M' h u x} hk hh => ⟨hh.1, (own 43 u.Pins.v x.Pins).mono hk hh.2⟩, fun h => h.1⟩
theorem xo_Net_r1 : XO XF_Net_r1 43 1 (fun u => u.Pins) (fun u r => { u with Pins := r }) (fun x => x.Pins) (fun x y => { x with Pins := y }) := ⟨fd_Net_r1_1, fs_Net_r1_1, by decide, fun h => h.2, fun hr ho => ⟨hr, ho⟩⟩
theorem xp_Net_r1 : XP XF_Net_r1 43 1 (fun u r => { u with Pins := r }) (fun x y => { x with Pins := y }) := ⟨fs_Net_r1_1, by decide, fun hr ho => ⟨hr, ho⟩⟩
theorem xoth_Net_r1_2 : ∀ M h u x y, XF_Net_r1.ok M h u x → XF_Net_r1.ok M h { u with Ports := y } { x with Ports := y } := fun M h u x y hh => by obtain ⟨⟨e0, e2⟩, ho⟩ := hh; exact ⟨⟨e0, rfl⟩, ho⟩
theorem xrest_Net_r1_2 : ∀ u x y, XF_Net_r1.rest u x → XF_Net_r1.rest { u with Ports := y } { x with Ports := y } := fun u x y hh => by obtain ⟨e0, e2⟩ := hh; exact ⟨e0, rfl⟩
theorem xraw_Net_r1 : ∀ M cs (x : Net), GT.ok M cs x → ∃ u : Net_r1, GT.ok M cs u ∧ XF_Net_r1.rest u x ∧ sliceOk M u.Pins.v x.Pins := fun M cs x h => by
  obtain ⟨c0, d0, hd0, a0, c1, d1, hd1, ⟨v, hv, hs⟩, a2⟩ := h
  have h1 : (rv v).v = v := rv_v (by obtain ⟨a, n, c, e, _⟩ := hs; rw [e]; rfl)
  have hr : c1 = [Sc.toV (rv v)] := by rw [hv]; show [v] = [(rv v).v]; rw [h1]
  exact ⟨⟨x.Name, rv v, x.Ports⟩, ⟨c0, d0, hd0, a0, ⟨c1, d1, hd1, hr, a2⟩⟩, ⟨rfl, rfl⟩, by show sliceOk M (rv v).v x.Pins; rw [h1]; exact hs⟩
theorem xrd_Net_r1 (M h : Heap) (u : Net_r1) (x : Net) (cs : List Value) (hd : ∀ b o, h b = some o → M b = none) (hx : XF_Net_r1.ok M h u x) (hc : GT.ok M cs u) : GT.ok (hor M h) cs x := by
  obtain ⟨⟨e0, e2⟩, ho⟩ := hx
  obtain ⟨c0, d0, hd0, a0, c1, d1, hd1, a1, a2⟩ := hc
  exact ⟨c0, d0, hd0, GT.mono (hle_hor M h) (show GT.ok M c0 x.Name from e0 ▸ (show GT.ok M c0 u.Name from a0)), ⟨c1, d1, hd1, ⟨u.Pins.v, a1, ownV.sl hd ho⟩, GT.mono (hle_hor M h) (show GT.ok M d1 x.Ports from e2 ▸ (show GT.ok M d1 u.Ports from a2))⟩⟩
theorem ty26 : TyA Tryz.prog 26 true 2 := ⟨fun _ => by kernel_rfl, fun _ => by kernel_rfl⟩
theorem ze26 : ZeT Tryz.prog 26 2 := ⟨⟨(.agg #[(.slice none 0 0), (.slice none 0 0)]), fun _ => by kernel_rfl, rfl⟩, fun _ => by kernel_rfl⟩
theorem ty22 : TyA Tryz.prog 22 false 1 := ⟨fun _ => by kernel_rfl, fun _ => by kernel_rfl⟩
theorem un22 : Tryz.prog.underlying 22 = some (.slice 58) := by kernel_rfl
theorem sl22 : SlT Tryz.prog 22 58 2 := ⟨by kernel_rfl, fun _ => by kernel_rfl⟩
theorem ty58 : TyA Tryz.prog 58 true 2 := ⟨fun _ => by kernel_rfl, fun _ => by kernel_rfl⟩
theorem ze58 : ZeT Tryz.prog 58 2 := ⟨⟨(.agg #[(.string ⟨#[]⟩), (.slice none 0 0)]), fun _ => by kernel_rfl, rfl⟩, fun _ => by kernel_rfl⟩
theorem fa58_0 : FAt Tryz.prog 58 0 0 := ⟨fun _ _ => by kernel_rfl⟩
theorem ty9 : TyA Tryz.prog 9 false 1 := ⟨fun _ => by kernel_rfl, fun _ => by kernel_rfl⟩
theorem un9 : Tryz.prog.underlying 9 = some (.string) := by kernel_rfl
theorem x101 (a : Str) (b : Int) (w : World) : (callFunc 101 [(str a), (.int .u8 b)].toArray).run Tryz.prog w = .ok (.value (vi (Lib.indexByte a.toL (Int.toNat b).toUInt8))) w := xcall Tryz.func101 (by kernel_rfl) (by kernel_rfl) (by kernel_rfl) (e := Extern.BytealgIndexByte.indexByte) (by kernel_rfl) (Lib.run_indexByteString _ _ w)
theorem fn93 : Fnc Tryz.prog 93 := ⟨fun _ _ => run_callFunc Tryz.func93 (by kernel_rfl) rfl⟩
theorem fn70 : Fnc Tryz.prog 70 := ⟨fun _ _ => run_callFunc Tryz.func70 (by kernel_rfl) rfl⟩
theorem fn42 : Fnc Tryz.prog 42 := ⟨fun _ _ => run_callFunc Tryz.func42 (by kernel_rfl) rfl⟩
theorem fa58_1 : FAt Tryz.prog 58 1 1 := ⟨fun _ _ => by kernel_rfl⟩
theorem ty56 : TyA Tryz.prog 56 false 1 := ⟨fun _ => by kernel_rfl, fun _ => by kernel_rfl⟩
theorem un56 : Tryz.prog.underlying 56 = some (.slice 55) := by kernel_rfl
theorem sl56 : SlT Tryz.prog 56 55 3 := ⟨by kernel_rfl, fun _ => by kernel_rfl⟩
theorem ty55 : TyA Tryz.prog 55 true 3 := ⟨fun _ => by kernel_rfl, fun _ => by kernel_rfl⟩
theorem ze55 : ZeT Tryz.prog 55 3 := ⟨⟨(.agg #[(.string ⟨#[]⟩), (.int .i64 0), (.int .i64 0)]), fun _ => by kernel_rfl, rfl⟩, fun _ => by kernel_rfl⟩
theorem fa55_0 : FAt Tryz.prog 55 0 0 := ⟨fun _ _ => by kernel_rfl⟩
theorem fa55_1 : FAt Tryz.prog 55 1 1 := ⟨fun _ _ => by kernel_rfl⟩
theorem ty3 : TyA Tryz.prog 3 false 1 := ⟨fun _ => by kernel_rfl, fun _ => by kernel_rfl⟩
theorem fa55_2 : FAt Tryz.prog 55 2 2 := ⟨fun _ _ => by kernel_rfl⟩
theorem mixed : Tryz.prog.follows .mixedOrders = true := by kernel_rfl
theorem fn94 : Fnc Tryz.prog 94 := ⟨fun _ _ => run_callFunc Tryz.func94 (by kernel_rfl) rfl⟩
theorem fn72 : Fnc Tryz.prog 72 := ⟨fun _ _ => run_callFunc Tryz.func72 (by kernel_rfl) rfl⟩
theorem fn71 : Fnc Tryz.prog 71 := ⟨fun _ _ => run_callFunc Tryz.func71 (by kernel_rfl) rfl⟩
theorem fn43 : Fnc Tryz.prog 43 := ⟨fun _ _ => run_callFunc Tryz.func43 (by kernel_rfl) rfl⟩
theorem fn24 : Fnc Tryz.prog 24 := ⟨fun _ _ => run_callFunc Tryz.func24 (by kernel_rfl) rfl⟩
theorem fa26_0 : FAt Tryz.prog 26 0 0 := ⟨fun _ _ => by kernel_rfl⟩
theorem ty23 : TyA Tryz.prog 23 false 1 := ⟨fun _ => by kernel_rfl, fun _ => by kernel_rfl⟩
theorem un23 : Tryz.prog.underlying 23 = some (.slice 48) := by kernel_rfl
theorem sl23 : SlT Tryz.prog 23 48 2 := ⟨by kernel_rfl, fun _ => by kernel_rfl⟩
theorem ty48 : TyA Tryz.prog 48 true 2 := ⟨fun _ => by kernel_rfl, fun _ => by kernel_rfl⟩
theorem ze48 : ZeT Tryz.prog 48 2 := ⟨⟨(.agg #[(.string ⟨#[]⟩), (.string ⟨#[]⟩)]), fun _ => by kernel_rfl, rfl⟩, fun _ => by kernel_rfl⟩
theorem fa48_0 : FAt Tryz.prog 48 0 0 := ⟨fun _ _ => by kernel_rfl⟩
theorem fa48_1 : FAt Tryz.prog 48 1 1 := ⟨fun _ _ => by kernel_rfl⟩
theorem un3 : Tryz.prog.underlying 3 = some (.int .i64) := by kernel_rfl
theorem un75 : Tryz.prog.underlying 75 = some (.int .u64) := by kernel_rfl
theorem x81 (a : Str) (b : Str) (w : World) : (callFunc 81 [(str a), (str b)].toArray).run Tryz.prog w = .ok (.value (vi (Lib.compareBytes a.toL b.toL))) w := xcall Tryz.func81 (by kernel_rfl) (by kernel_rfl) (by kernel_rfl) (e := Extern.BytealgCompare.compare) (by kernel_rfl) (Lib.run_compareString _ _ w)
theorem fn50 : Fnc Tryz.prog 50 := ⟨fun _ _ => run_callFunc Tryz.func50 (by kernel_rfl) rfl⟩
theorem fn32 : Fnc Tryz.prog 32 := ⟨fun _ _ => run_callFunc Tryz.func32 (by kernel_rfl) rfl⟩
theorem fn74 : Fnc Tryz.prog 74 := ⟨fun _ _ => run_callFunc Tryz.func74 (by kernel_rfl) rfl⟩
theorem fn73 : Fnc Tryz.prog 73 := ⟨fun _ _ => run_callFunc Tryz.func73 (by kernel_rfl) rfl⟩
theorem fn44 : Fnc Tryz.prog 44 := ⟨fun _ _ => run_callFunc Tryz.func44 (by kernel_rfl) rfl⟩
theorem x104 (a : Str) (b : Int) (w : World) : (callFunc 104 [(str a), (.int .u8 b)].toArray).run Tryz.prog w = .ok (.value (vi ((Lib.countByte a.toL (Int.toNat b).toUInt8 : Nat) : Int))) w := xcall Tryz.func104 (by kernel_rfl) (by kernel_rfl) (by kernel_rfl) (e := Extern.BytealgCount.count) (by kernel_rfl) (Lib.run_countString _ _ w)
theorem fn105 : Fnc Tryz.prog 105 := ⟨fun _ _ => run_callFunc Tryz.func105 (by kernel_rfl) rfl⟩
theorem fn97 : Fnc Tryz.prog 97 := ⟨fun _ _ => run_callFunc Tryz.func97 (by kernel_rfl) rfl⟩
theorem fn96 : Fnc Tryz.prog 96 := ⟨fun _ _ => run_callFunc Tryz.func96 (by kernel_rfl) rfl⟩
theorem el36 : ElT Tryz.prog 36 9 1 16 := ElT.of (z := (.string ⟨#[]⟩)) (by kernel_rfl) (by kernel_rfl) rfl (by decide)
theorem zd9 : ZeD Tryz.prog 9 (⟨[]⟩ : Str) := ZeD.of (Z := (.string ⟨#[]⟩)) (by kernel_rfl) (fun M => rfl)
theorem sl36 : SlT Tryz.prog 36 9 1 := ⟨by kernel_rfl, fun _ => by kernel_rfl⟩
theorem fn76 : Fnc Tryz.prog 76 := ⟨fun _ _ => run_callFunc Tryz.func76 (by kernel_rfl) rfl⟩
theorem fn46 : Fnc Tryz.prog 46 := ⟨fun _ _ => run_callFunc Tryz.func46 (by kernel_rfl) rfl⟩
theorem un36 : Tryz.prog.underlying 36 = some (.slice 9) := by kernel_rfl
theorem fn75 : Fnc Tryz.prog 75 := ⟨fun _ _ => run_callFunc Tryz.func75 (by kernel_rfl) rfl⟩
theorem fn47 : Fnc Tryz.prog 47 := ⟨fun _ _ => run_callFunc Tryz.func47 (by kernel_rfl) rfl⟩
theorem fn45 : Fnc Tryz.prog 45 := ⟨fun _ _ => run_callFunc Tryz.func45 (by kernel_rfl) rfl⟩
theorem fn26 : Fnc Tryz.prog 26 := ⟨fun _ _ => run_callFunc Tryz.func26 (by kernel_rfl) rfl⟩
theorem fn25 : Fnc Tryz.prog 25 := ⟨fun _ _ => run_callFunc Tryz.func25 (by kernel_rfl) rfl⟩
theorem fa26_1 : FAt Tryz.prog 26 1 1 := ⟨fun _ _ => by kernel_rfl⟩
theorem ty24 : TyA Tryz.prog 24 false 1 := ⟨fun _ => by kernel_rfl, fun _ => by kernel_rfl⟩
theorem un24 : Tryz.prog.underlying 24 = some (.slice 38) := by kernel_rfl
theorem sl24 : SlT Tryz.prog 24 38 3 := ⟨by kernel_rfl, fun _ => by kernel_rfl⟩
theorem ty38 : TyA Tryz.prog 38 true 3 := ⟨fun _ => by kernel_rfl, fun _ => by kernel_rfl⟩
theorem ze38 : ZeT Tryz.prog 38 3 := ⟨⟨(.agg #[(.string ⟨#[]⟩), (.slice none 0 0), (.slice none 0 0)]), fun _ => by kernel_rfl, rfl⟩, fun _ => by kernel_rfl⟩
theorem fa38_0 : FAt Tryz.prog 38 0 0 := ⟨fun _ _ => by kernel_rfl⟩
theorem fa38_1 : FAt Tryz.prog 38 1 1 := ⟨fun _ _ => by kernel_rfl⟩
theorem ty35 : TyA Tryz.prog 35 false 1 := ⟨fun _ => by kernel_rfl, fun _ => by kernel_rfl⟩
theorem un35 : Tryz.prog.underlying 35 = some (.slice 43) := by kernel_rfl
theorem ty43 : TyA Tryz.prog 43 true 2 := ⟨fun _ => by kernel_rfl, fun _ => by kernel_rfl⟩
theorem fa43_0 : FAt Tryz.prog 43 0 0 := ⟨fun _ _ => by kernel_rfl⟩
theorem fn78 : Fnc Tryz.prog 78 := ⟨fun _ _ => run_callFunc Tryz.func78 (by kernel_rfl) rfl⟩
theorem fn77 : Fnc Tryz.prog 77 := ⟨fun _ _ => run_callFunc Tryz.func77 (by kernel_rfl) rfl⟩
theorem fn48 : Fnc Tryz.prog 48 := ⟨fun _ _ => run_callFunc Tryz.func48 (by kernel_rfl) rfl⟩
theorem fa43_1 : FAt Tryz.prog 43 1 1 := ⟨fun _ _ => by kernel_rfl⟩
theorem fn80 : Fnc Tryz.prog 80 := ⟨fun _ _ => run_callFunc Tryz.func80 (by kernel_rfl) rfl⟩
theorem fn79 : Fnc Tryz.prog 79 := ⟨fun _ _ => run_callFunc Tryz.func79 (by kernel_rfl) rfl⟩
theorem fn49 : Fnc Tryz.prog 49 := ⟨fun _ _ => run_callFunc Tryz.func49 (by kernel_rfl) rfl⟩
theorem fn29 : Fnc Tryz.prog 29 := ⟨fun _ _ => run_callFunc Tryz.func29 (by kernel_rfl) rfl⟩
theorem sl35 : SlT Tryz.prog 35 43 2 := ⟨by kernel_rfl, fun _ => by kernel_rfl⟩
theorem ze43 : ZeT Tryz.prog 43 2 := ⟨⟨(.agg #[(.string ⟨#[]⟩), (.string ⟨#[]⟩)]), fun _ => by kernel_rfl, rfl⟩, fun _ => by kernel_rfl⟩
theorem fn12 : Fnc Tryz.prog 12 := ⟨fun _ _ => run_callFunc Tryz.func12 (by kernel_rfl) rfl⟩
theorem eqt43 : EqT Tryz.prog 43 Pin := ⟨fun M cs ds a b w ha hb => by
  obtain ⟨_, _, rfl, rfl, rfl⟩ := ha
  obtain ⟨_, _, rfl, rfl, rfl⟩ := hb
  refine (run_equal_struct (d := 9999) Tryz.underlying43 (by kernel_rfl) (EqL.cons (by decide) (run_part1 ty9 rfl _) (run_part1 ty9 rfl _) (run_eq_str un9 _ _ w) (EqL.cons (by decide) (run_part1 ty9 rfl _) (run_part1 ty9 rfl _) (run_eq_str un9 _ _ w) EqL.nil))).trans ?_
  congr 1
  cases a; cases b
  rw [Bool.eq_iff_iff]
  simp, by kernel_rfl⟩
theorem key43 : KeyT Tryz.prog 43 Pin := KeyT.struct Tryz.underlying43 rfl eqt43 (fun k => (CkL.cons (by decide) (run_part1 ty9 rfl) (fun b w => MapKept.run_checkKey un9 (k := Gk.str k.Part) trivial b 9998) (CkL.cons (by decide) (run_part1 ty9 rfl) (fun b w => MapKept.run_checkKey un9 (k := Gk.str k.Pin) trivial b 9998) CkL.nil))) (fun k x hx => by
  have hx : x ∈ [Sc.toV k.Part, Sc.toV k.Pin] := hx
  simp only [List.mem_cons, List.not_mem_nil, or_false] at hx
  rcases hx with rfl | rfl
  · exact MapKept.sameBits_self (d := .string) (k := Gk.str k.Part) trivial _
  · exact MapKept.sameBits_self (d := .string) (k := Gk.str k.Pin) trivial _)
theorem mt64 : MapT Tryz.prog 64 43 4 Pin Bool (false : Bool) := ⟨by kernel_rfl, key43, zero_of (Z := (.bool false)) (by kernel_rfl) (fun M => ⟨_, rfl, rfl⟩)⟩
theorem fn28 : Fnc Tryz.prog 28 := ⟨fun _ _ => run_callFunc Tryz.func28 (by kernel_rfl) rfl⟩
theorem fn27 : Fnc Tryz.prog 27 := ⟨fun _ _ => run_callFunc Tryz.func27 (by kernel_rfl) rfl⟩
theorem fa38_2 : FAt Tryz.prog 38 2 2 := ⟨fun _ _ => by kernel_rfl⟩
theorem ty36 : TyA Tryz.prog 36 false 1 := ⟨fun _ => by kernel_rfl, fun _ => by kernel_rfl⟩
theorem fn8 : Fnc Tryz.prog 8 := ⟨fun _ _ => run_callFunc Tryz.func8 (by kernel_rfl) rfl⟩
theorem st26 : StT Tryz.prog 26 [(0, 1), (1, 1)] #[(.slice none 0 0), (.slice none 0 0)] := StT.of Tryz.underlying26 (z := (.agg #[(.slice none 0 0), (.slice none 0 0)])) (fun _ => by kernel_rfl) (fun _ => by kernel_rfl)
theorem fn31 : Fnc Tryz.prog 31 := ⟨fun _ _ => run_callFunc Tryz.func31 (by kernel_rfl) rfl⟩
theorem fn30 : Fnc Tryz.prog 30 := ⟨fun _ _ => run_callFunc Tryz.func30 (by kernel_rfl) rfl⟩
theorem fn9 : Fnc Tryz.prog 9 := ⟨fun _ _ => run_callFunc Tryz.func9 (by kernel_rfl) rfl⟩
theorem zc26 : ZeC Tryz.prog 26 [(.slice none 0 0), (.slice none 0 0)] := ⟨(.agg #[(.slice none 0 0), (.slice none 0 0)]), fun _ => by kernel_rfl, rfl⟩
theorem el23 : ElT Tryz.prog 23 48 2 32 := ElT.of (z := (.agg #[(.string ⟨#[]⟩), (.string ⟨#[]⟩)])) (by kernel_rfl) (by kernel_rfl) rfl (by decide)
theorem fn16 : Fnc Tryz.prog 16 := ⟨fun _ _ => run_callFunc Tryz.func16 (by kernel_rfl) rfl⟩
theorem el24 : ElT Tryz.prog 24 38 3 64 := ElT.of (z := (.agg #[(.string ⟨#[]⟩), (.slice none 0 0), (.slice none 0 0)])) (by kernel_rfl) (by kernel_rfl) rfl (by decide)
theorem fn33 : Fnc Tryz.prog 33 := ⟨fun _ _ => run_callFunc Tryz.func33 (by kernel_rfl) rfl⟩
theorem el35 : ElT Tryz.prog 35 43 2 32 := ElT.of (z := (.agg #[(.string ⟨#[]⟩), (.string ⟨#[]⟩)])) (by kernel_rfl) (by kernel_rfl) rfl (by decide)
theorem fn19 : Fnc Tryz.prog 19 := ⟨fun _ _ => run_callFunc Tryz.func19 (by kernel_rfl) rfl⟩
theorem fn10 : Fnc Tryz.prog 10 := ⟨fun _ _ => run_callFunc Tryz.func10 (by kernel_rfl) rfl⟩
instance flat_Pin : Flat Pin := ⟨fun {M M' cs x} h => Flat.fl (α := Str × Str) (x := (x.Part, x.Pin)) h⟩
theorem fn11 : Fnc Tryz.prog 11 := ⟨fun _ _ => run_callFunc Tryz.func11 (by kernel_rfl) rfl⟩
theorem zd38 : ZeD Tryz.prog 38 (⟨⟨[]⟩, [], []⟩ : Net) := ZeD.of (Z := (.agg #[(.string ⟨#[]⟩), (.slice none 0 0), (.slice none 0 0)])) (by kernel_rfl) (fun M => (z_Net M))
theorem del13_ok {α : Type} [GT α] {z0 : α} {bytes : Nat} (sl : SlT Tryz.prog 24 38 (GT.sz α)) (el : ElT Tryz.prog 24 38 (GT.sz α) bytes) (zd : ZeD Tryz.prog 38 z0) {E w : World} {Γ : List HP} {v0 : Value} {p0 l1 : List α} {p1 p2 : Int}
    (hw : Holds E w (own 38 v0 p0 :: Γ)) (hb : gDelAt p0 p1 p2 = some l1) : Calls Tryz.prog 13 [v0, vi p1, vi p2].toArray w (Ret (fun v w => Holds E w (own 38 v l1 :: Γ))) := by
 have un := sl.und
 unfold gDelAt at hb
 split at hb
 case isFalse => cases hb
 rename_i hc
 obtain ⟨c1, c2, c3⟩ := hc
 have hb := oi hb
 refine enter Tryz.func13 rfl rfl (Nat.le_of_ble_eq_true rfl) ?_
 refine RC.sr ?_
 refine as_ (.slice none 0 0) rfl rfl ?_
 refine RL.ns ?_
 refine mv v0 rfl rfl ?_
 refine mv (vi p1) rfl rfl ?_
 refine mv (vi p2) rfl rfl ?_
 refine mv v0 rfl rfl ?_
 refine RL.len_own (i := 0) (l := p0) trivial rfl hw rfl rfl un ?_
 refine RL.cut3 (i := 0) (l := p0) trivial rfl hw rfl rfl sl rfl rfl rfl c1 c2 c3 fun u => ?_
 refine RL.nq ?_
 refine RC.sr ?_
 refine mv (vi p1) rfl rfl ?_
 refine mv (vi p2) rfl rfl ?_
 refine ic p1 p2 rfl rfl rfl rfl ?_
 refine RL.nt ?_
 refine RC.cond (b := (p1 == p2)) rfl (fun hc => ?_) (fun hc => ?_)
 ·have e : p1 = p2 := by simpa using hc
  subst e
  rw [List.take_append_drop] at hb
  subst hb
  refine RC.sr ?_
  refine mv v0 rfl rfl ?_
  refine as_ v0 rfl rfl ?_
  refine RL.nt ?_
  refine RC.rt ?_
  exact fin1 rfl rfl hw
 refine RC.sx ?_
 refine mv v0 rfl rfl ?_
 refine RL.len_own (i := 0) (l := p0) trivial rfl hw rfl rfl un ?_
 refine as_ (vi ((p0.length : Nat) : Int)) rfl rfl ?_
 refine RL.nt ?_
 obtain ⟨q1, hq1⟩ : ∃ q1, dself p0 ((Int.toNat p1 : Nat) : Int) ((Int.toNat p2 : Nat) : Int) = some q1 := by
  unfold dself
  rw [if_pos ⟨by omega, by omega, by omega⟩]
  exact ⟨_, rfl⟩
 have hql : ∀ b : Bool, (bif b then q1 else p0).length = p0.length := fun b => by
  obtain ⟨_, _, _, _, h⟩ := dself_some hq1
  cases b
  · rfl
  · exact h
 refine RC.seq (RC.drw mixed rfl (fun (D : Nat → Bool) (σ : Nat → Value) (w : World) => doneV D σ [(0, 20, v0), (1, 21, vi p1), (2, 22, vwp v0 (Int.toNat p1)), (3, 23, v0), (4, 24, vi p2), (5, 25, vw v0 (Int.toNat p2) (GT.sz α)), (6, 26, vwp v0 (Int.toNat p1 + (p0.length - Int.toNat p2)))] ∧ agree σ [(1, vi p1), (2, vi p2), (7, vi ((p0.length : Nat) : Int))] ∧ (D 7 = false → σ 0 = v0) ∧ (D 7 = true → σ 0 = vwp v0 (Int.toNat p1 + (p0.length - Int.toNat p2))) ∧ Holds E w (own 38 v0 (bif D 6 then q1 else p0) :: Γ)) ?_ ⟨?_, ?_, ?_, ?_, ?_, ?_, ?_, ?_, trivial⟩ ?_)
 ·exact ⟨doneV.none, ⟨rfl, rfl, rfl, trivial⟩, fun _ => rfl, fun h => (by cases h), hw.drew⟩
 ·rintro D σ w hD hdep hcl ⟨hv, ha, h70, h71, hw⟩
  have h7 : D 7 = false := by
   cases h : D 7 with
   | false => rfl
   | true => exact absurd ((hcl 7 _ rfl h).2.2.1 rfl) (by rw [hD]; decide)
  refine mv v0 rfl (h70 h7) ?_
  refine RL.nil ?_
  exact ⟨rfl, hv.put 0 rfl rfl, ha.up rfl, fun h => h70 h, fun h => h71 h, hw⟩
 ·rintro D σ w hD hdep hcl ⟨hv, ha, h70, h71, hw⟩
  refine mv (vi p1) rfl (ha.at 0 rfl) ?_
  refine RL.nil ?_
  exact ⟨rfl, hv.put 1 rfl rfl, ha.up rfl, fun h => h70 h, fun h => h71 h, hw⟩
 ·rintro D σ w hD hdep hcl ⟨hv, ha, h70, h71, hw⟩
  refine RL.pre (i := 0) trivial rfl hw (hv.at 0 rfl (hdep.1 rfl)) rfl sl (congrArg some (hv.at 1 rfl (hdep.2.1 rfl))) c1 (by rw [hql]; omega) ?_
  refine RL.nil ?_
  exact ⟨rfl, hv.put 2 rfl rfl, ha.up rfl, fun h => h70 h, fun h => h71 h, hw⟩
 ·rintro D σ w hD hdep hcl ⟨hv, ha, h70, h71, hw⟩
  have h7 : D 7 = false := by
   cases h : D 7 with
   | false => rfl
   | true => exact absurd ((hcl 7 _ rfl h).2.2.2.2.2.1 rfl) (by rw [hD]; decide)
  refine mv v0 rfl (h70 h7) ?_
  refine RL.nil ?_
  exact ⟨rfl, hv.put 3 rfl rfl, ha.up rfl, fun h => h70 h, fun h => h71 h, hw⟩
 ·rintro D σ w hD hdep hcl ⟨hv, ha, h70, h71, hw⟩
  refine mv (vi p2) rfl (ha.at 1 rfl) ?_
  refine RL.nil ?_
  exact ⟨rfl, hv.put 4 rfl rfl, ha.up rfl, fun h => h70 h, fun h => h71 h, hw⟩
 ·rintro D σ w hD hdep hcl ⟨hv, ha, h70, h71, hw⟩
  refine RL.suf (i := 0) trivial rfl hw (hv.at 3 rfl (hdep.1 rfl)) rfl sl (congrArg some (hv.at 4 rfl (hdep.2.1 rfl))) (by omega) (by rw [hql]; omega) ?_
  refine RL.nil ?_
  exact ⟨rfl, hv.put 5 rfl rfl, ha.up rfl, fun h => h70 h, fun h => h71 h, hw⟩
 ·rintro D σ w hD hdep hcl ⟨hv, ha, h70, h71, hw⟩
  rw [hD, cond_false] at hw
  refine RL.app_self (i := 0) trivial rfl hw (hv.at 2 rfl (hdep.1 rfl)) (hv.at 5 rfl (hdep.2.1 rfl)) rfl el hq1 fun w hw => ?_
  refine RL.nil ?_
  exact ⟨rfl, hv.put 6 rfl rfl, ha.up rfl, fun h => h70 h, fun h => h71 h, hw⟩
 ·rintro D σ w hD hdep hcl ⟨hv, ha, h70, h71, hw⟩
  refine as_ (vwp v0 (Int.toNat p1 + (p0.length - Int.toNat p2))) rfl (hv.at 6 rfl (hdep.1 rfl)) ?_
  refine RL.nil ?_
  exact ⟨rfl, hv.up rfl, ha.up rfl, fun h => (by cases h), fun _ => rfl, hw⟩
 intro D σ w hall ⟨hv, ha, h70, h71, hw⟩
 have h0 := h71 (hall 7 (by decide))
 have h6 := hall 6 (by decide)
 rw [h6, cond_true] at hw
 obtain ⟨d1, d2, d3, d4, d5⟩ := dself_some hq1
 obtain ⟨τ, rfl⟩ := (ac h0 ha).ups
 refine thenQ_n ?_
 refine RC.sr ?_
 refine mv (vwp v0 (Int.toNat p1 + (p0.length - Int.toNat p2))) rfl rfl ?_
 refine mv (vwp v0 (Int.toNat p1 + (p0.length - Int.toNat p2))) rfl rfl ?_
 refine RL.len_pre (i := 0) (l := q1) trivial rfl hw rfl rfl un ?_
 refine mv (vi ((p0.length : Nat) : Int)) rfl rfl ?_
 refine RL.behind (i := 0) (l := q1) trivial rfl hw rfl rfl sl (by rw [d5]; omega) rfl (by rw [d5]; rfl) ?_
 refine RL.clear_vw (i := 0) trivial hw rfl rfl el zd (by rw [d5]; omega) fun w hw => ?_
 have hq : (q1.take (Int.toNat p1 + (p0.length - Int.toNat p2)) ++ List.replicate (q1.length - (Int.toNat p1 + (p0.length - Int.toNat p2))) z0).take (Int.toNat p1 + (p0.length - Int.toNat p2)) = l1 := by
  have e1 : (q1.take (Int.toNat p1 + (p0.length - Int.toNat p2))).length = (Int.toNat p1 + (p0.length - Int.toNat p2)) := by rw [List.length_take, d5]; omega
  rw [List.take_append_of_le_length (by omega), List.take_take, Nat.min_self, ← hb, d4]
  simp only [Int.toNat_natCast]
  rw [List.take_append_of_le_length (by rw [List.length_append, List.length_take, List.length_drop]; omega), List.take_of_length_le (by rw [List.length_append, List.length_take, List.length_drop]; omega)]
 have hw := own_pre (k := (Int.toNat p1 + (p0.length - Int.toNat p2))) (l := q1.take (Int.toNat p1 + (p0.length - Int.toNat p2)) ++ List.replicate (q1.length - (Int.toNat p1 + (p0.length - Int.toNat p2))) z0) (i := 0) hw rfl (by rw [List.length_append, List.length_take, List.length_replicate, d5]; omega)
 refine RL.ns ?_
 refine mv (vwp v0 (Int.toNat p1 + (p0.length - Int.toNat p2))) rfl rfl ?_
 refine as_ (vwp v0 (Int.toNat p1 + (p0.length - Int.toNat p2))) rfl rfl ?_
 refine RL.nt ?_
 refine RC.ret ?_
 refine fin1 rfl rfl ?_
 rw [hq] at hw
 exact hw
theorem fn13 : Fnc Tryz.prog 13 := ⟨fun _ _ => run_callFunc Tryz.func13 (by kernel_rfl) rfl⟩
theorem fn4 : Fnc Tryz.prog 4 := ⟨fun _ _ => run_callFunc Tryz.func4 (by kernel_rfl) rfl⟩
theorem fn88 : Fnc Tryz.prog 88 := ⟨fun _ _ => run_callFunc Tryz.func88 (by kernel_rfl) rfl⟩
theorem fn87 : Fnc Tryz.prog 87 := ⟨fun _ _ => run_callFunc Tryz.func87 (by kernel_rfl) rfl⟩
theorem fn61 : Fnc Tryz.prog 61 := ⟨fun _ _ => run_callFunc Tryz.func61 (by kernel_rfl) rfl⟩
theorem fn36 : Fnc Tryz.prog 36 := ⟨fun _ _ => run_callFunc Tryz.func36 (by kernel_rfl) rfl⟩
theorem fn62 : Fnc Tryz.prog 62 := ⟨fun _ _ => run_callFunc Tryz.func62 (by kernel_rfl) rfl⟩
theorem fn63 : Fnc Tryz.prog 63 := ⟨fun _ _ => run_callFunc Tryz.func63 (by kernel_rfl) rfl⟩
theorem fn89 : Fnc Tryz.prog 89 := ⟨fun _ _ => run_callFunc Tryz.func89 (by kernel_rfl) rfl⟩
theorem fn90 : Fnc Tryz.prog 90 := ⟨fun _ _ => run_callFunc Tryz.func90 (by kernel_rfl) rfl⟩
theorem fn64 : Fnc Tryz.prog 64 := ⟨fun _ _ => run_callFunc Tryz.func64 (by kernel_rfl) rfl⟩
theorem fn38 : Fnc Tryz.prog 38 := ⟨fun _ _ => run_callFunc Tryz.func38 (by kernel_rfl) rfl⟩
theorem fn99 : Fnc Tryz.prog 99 := ⟨fun _ _ => run_callFunc Tryz.func99 (by kernel_rfl) rfl⟩
theorem fn91 : Fnc Tryz.prog 91 := ⟨fun _ _ => run_callFunc Tryz.func91 (by kernel_rfl) rfl⟩
theorem fn65 : Fnc Tryz.prog 65 := ⟨fun _ _ => run_callFunc Tryz.func65 (by kernel_rfl) rfl⟩
theorem fn37 : Fnc Tryz.prog 37 := ⟨fun _ _ => run_callFunc Tryz.func37 (by kernel_rfl) rfl⟩
theorem fn14 : Fnc Tryz.prog 14 := ⟨fun _ _ => run_callFunc Tryz.func14 (by kernel_rfl) rfl⟩
theorem fn15 : Fnc Tryz.prog 15 := ⟨fun _ _ => run_callFunc Tryz.func15 (by kernel_rfl) rfl⟩
theorem sl78 : SlT Tryz.prog 78 35 1 := ⟨by kernel_rfl, fun _ => by kernel_rfl⟩
theorem ze35 : ZeT Tryz.prog 35 1 := ⟨⟨(.slice none 0 0), fun _ => by kernel_rfl, rfl⟩, fun _ => by kernel_rfl⟩
theorem un78 : Tryz.prog.underlying 78 = some (.slice 35) := by kernel_rfl
theorem zd43 : ZeD Tryz.prog 43 (⟨⟨[]⟩, ⟨[]⟩⟩ : Pin) := ZeD.of (Z := (.agg #[(.string ⟨#[]⟩), (.string ⟨#[]⟩)])) (by kernel_rfl) (fun M => (z_Pin M))
theorem fn40 : Fnc Tryz.prog 40 := ⟨fun _ _ => run_callFunc Tryz.func40 (by kernel_rfl) rfl⟩
theorem fn18 : Fnc Tryz.prog 18 := ⟨fun _ _ => run_callFunc Tryz.func18 (by kernel_rfl) rfl⟩
theorem ins39_ok {α : Type} [GT α] {z0 : α} {bytes : Nat} (sl : SlT Tryz.prog 35 43 (GT.sz α)) (el : ElT Tryz.prog 35 43 (GT.sz α) bytes) (zd : ZeD Tryz.prog 43 z0) {E w : World} {Γ : List HP} {v0 v2 : Value} {p0 p2 l1 : List α} {p1 : Int}
    (hw : Holds E w (own 43 v0 p0 :: own 43 v2 p2 :: Γ)) (hb : gIns bytes p0 p1 p2 = some l1) : Calls Tryz.prog 39 [v0, vi p1, v2].toArray w (Ret (fun v w => Holds E w (own 43 v l1 :: Γ))) := by
 have un := sl.und
 have ui : Tryz.prog.underlying 3 = some (.int .i64) := by kernel_rfl
 unfold gIns at hb
 split at hb
 case isFalse => cases hb
 rename_i hc
 obtain ⟨c1, c2, c3, c4⟩ := hc
 have hb := oi hb
 have hle : p0.length + p2.length ≤ 140737488355328 := Nat.le_trans (Nat.le_mul_of_pos_right _ el.pos) c4
 obtain ⟨xb, xo, xc, rfl, hv1, hv2⟩ := own_row (i := 1) hw rfl (by omega)
 obtain ⟨a, cap, rfl, hcap⟩ := own_cap (i := 0) hw rfl
 refine enter Tryz.func39 rfl rfl (Nat.le_of_ble_eq_true rfl) ?_
 refine RC.sr ?_
 refine as_ (.slice none 0 0) rfl rfl ?_
 refine RL.ns ?_
 refine mv (.slice a p0.length cap) rfl rfl ?_
 refine mv (vi p1) rfl rfl ?_
 refine RL.suf_any trivial rfl rfl sl rfl c1 c2 hcap fun u => ?_
 refine RL.ns ?_
 refine mv (.slice (some ⟨xb, xo, none⟩) p2.length xc) rfl rfl ?_
 refine RL.len_own (i := 1) (l := p2) trivial rfl hw rfl rfl un ?_
 refine as_ (vi ((p2.length : Nat) : Int)) rfl rfl ?_
 refine RL.nq ?_
 refine RC.sr ?_
 refine mv (vi ((p2.length : Nat) : Int)) rfl rfl ?_
 refine ic ((p2.length : Nat) : Int) 0 rfl rfl rfl rfl ?_
 refine RL.nt ?_
 refine RC.cond (b := (((p2.length : Nat) : Int) == 0)) rfl (fun hc => ?_) (fun hc => ?_)
 ·exfalso
  rw [c3] at hc
  exact absurd hc (by decide)
 refine RC.sx ?_
 refine mv (.slice a p0.length cap) rfl rfl ?_
 refine RL.len_own (i := 0) (l := p0) trivial rfl hw rfl rfl un ?_
 refine as_ (vi ((p0.length : Nat) : Int)) rfl rfl ?_
 refine RL.nq ?_
 refine RC.sr ?_
 refine mv (vi p1) rfl rfl ?_
 refine mv (vi ((p0.length : Nat) : Int)) rfl rfl ?_
 refine ic p1 ((p0.length : Nat) : Int) rfl rfl rfl rfl ?_
 refine RL.nt ?_
 refine RC.cond (b := (p1 == ((p0.length : Nat) : Int))) rfl (fun hc => ?_) (fun hc => ?_)
 ·have e : p1 = ((p0.length : Nat) : Int) := by simpa using hc
  have hq : p0 ++ p2 = l1 := by rw [← hb, e, Int.toNat_natCast, List.take_length, List.drop_length, List.append_nil]
  have hw := hw.freeze (i := 1) rfl
  refine RC.sr ?_
  refine mv (.slice a p0.length cap) rfl rfl ?_
  refine mv (.slice (some ⟨xb, xo, none⟩) p2.length xc) rfl rfl ?_
  refine RL.app (i := 0) (j := 1) (l' := l1) trivial rfl hw rfl rfl rfl rfl el (by unfold app; rw [if_pos c4, hq]) fun v w hw => ?_
  refine as_ v rfl rfl ?_
  refine RL.nt ?_
  refine RC.rt ?_
  exact fin1 rfl rfl (hw.pick 2 [0] (new := [own 43 v l1]) rfl rfl (by decide) (by decide))
 have hlt : p1 < ((p0.length : Nat) : Int) := by
  have : ¬ p1 = ((p0.length : Nat) : Int) := by simpa using hc
  omega
 obtain ⟨b, o, cap', hv, _, hcm⟩ := own_row (i := 0) hw rfl (by omega)
 injection hv with q1 q2 q3
 subst q1; subst q3
 have e1 : IntKind.wrap .i64 (((p0.length : Nat) : Int) + ((p2.length : Nat) : Int)) = ((p0.length + 1 : Nat) : Int) := by
  rw [c3, wrap_in (by omega) (by omega)]; omega
 refine RC.ss ?_
 refine RC.sr ?_
 refine mv (vi ((p0.length : Nat) : Int)) rfl rfl ?_
 refine mv (vi ((p2.length : Nat) : Int)) rfl rfl ?_
 refine RL.iar (a := ((p0.length : Nat) : Int)) (b := ((p2.length : Nat) : Int)) trivial rfl rfl rfl rfl ?_
 refine mv (.slice (some ⟨b, o, none⟩) p0.length cap) rfl rfl ?_
 refine RL.cap_l trivial rfl rfl un ?_
 refine ic (IntKind.wrap .i64 (((p0.length : Nat) : Int) + ((p2.length : Nat) : Int))) ((cap : Nat) : Int) rfl rfl rfl rfl ?_
 refine RL.nt ?_
 refine RC.cond (b := decide (IntKind.wrap .i64 (((p0.length : Nat) : Int) + ((p2.length : Nat) : Int)) > ((cap : Nat) : Int))) rfl (fun hc => ?_) (fun hc => ?_)
 ·have hg : cap < p0.length + 1 := by
   have := of_decide_eq_true hc
   rw [e1] at this; omega
  have e2 : IntKind.wrap .i64 (IntKind.wrap .i64 (((p0.length : Nat) : Int) + ((p2.length : Nat) : Int)) - p1) = ((p0.length + 1 - Int.toNat p1 : Nat) : Int) := by
   rw [e1, wrap_in (by omega) (by omega)]; omega
  have e3 : IntKind.wrap .i64 (p1 + ((p2.length : Nat) : Int)) = (((Int.toNat p1) + 1 : Nat) : Int) := by
   rw [c3, wrap_in (by omega) (by omega)]; omega
  have hs : (Int.toNat p1) + (p0.length + 1 - Int.toNat p1) = p0.length + 1 := by omega
  refine RC.sr ?_
  refine mv (.slice (some ⟨b, o, none⟩) p0.length cap) rfl rfl ?_
  refine mv (vi p1) rfl rfl ?_
  refine RL.lpre trivial rfl rfl sl rfl c1 (by omega) ?_
  refine mv (vi ((p0.length : Nat) : Int)) rfl rfl ?_
  refine mv (vi ((p2.length : Nat) : Int)) rfl rfl ?_
  refine RL.iar (a := ((p0.length : Nat) : Int)) (b := ((p2.length : Nat) : Int)) trivial rfl rfl rfl rfl ?_
  refine mv (vi p1) rfl rfl ?_
  refine RL.iar (a := IntKind.wrap .i64 (((p0.length : Nat) : Int) + ((p2.length : Nat) : Int))) (b := p1) trivial rfl rfl rfl rfl ?_
  refine RL.appz_grow (i := 0) (l := p0) (m := p0.length + 1 - Int.toNat p1) (i0 := Int.toNat p1) trivial rfl hw rfl (congrArg (Value.int .i64) e2) rfl el ui zd (by omega) (by omega) (by omega) (by rw [hs]; rw [c3] at c4; exact c4) fun b2 c2' w hc2 hw => ?_
  rw [hs] at hw hc2 ⊢
  have hl2 : (p0.take (Int.toNat p1) ++ List.replicate (p0.length + 1 - Int.toNat p1) z0).length = p0.length + 1 := by rw [List.length_append, List.length_take, List.length_replicate]; omega
  refine as_ (.slice (some ⟨b2, 0, none⟩) (p0.length + 1) c2') rfl rfl ?_
  refine RL.ns ?_
  refine mv (.slice (some ⟨b2, 0, none⟩) (p0.length + 1) c2') rfl rfl ?_
  refine mv (vi p1) rfl rfl ?_
  refine RL.lsuf trivial rfl rfl sl rfl c1 (by omega) (by omega) (by omega) ?_
  refine mv (.slice (some ⟨xb, xo, none⟩) p2.length xc) rfl rfl ?_
  refine RL.copy_at (i := 0) (k := Int.toNat p1) (ys := p2) (l := (p0.take (Int.toNat p1) ++ List.replicate (p0.length + 1 - Int.toNat p1) z0)) trivial rfl hw rfl rfl (by rw [hl2]; rfl) el (by rw [c3]; simp only [Nat.min_def]; split <;> omega) (by rw [hl2]; omega) (by rw [c3]; omega) (fun M hs gd => src_own0 (i := 2) gd rfl) fun w hw => ?_
  have hmx : Max.max (p0.take (Int.toNat p1) ++ List.replicate (p0.length + 1 - Int.toNat p1) z0).length ((Int.toNat p1) + p2.length) = p0.length + 1 := by rw [hl2, c3]; omega
  rw [hmx] at hw
  have hl3 : ((p0.take (Int.toNat p1) ++ List.replicate (p0.length + 1 - Int.toNat p1) z0).take (Int.toNat p1) ++ p2 ++ (p0.take (Int.toNat p1) ++ List.replicate (p0.length + 1 - Int.toNat p1) z0).drop (Int.toNat p1 + p2.length)).length = p0.length + 1 := by simp only [List.length_append, List.length_take, List.length_drop, hl2, c3]; omega
  have hdl : (p0.drop (Int.toNat p1)).length = p0.length - Int.toNat p1 := List.length_drop
  refine RL.nt ?_
  refine RC.seq (RC.drw mixed rfl (fun (D : Nat → Bool) (σ : Nat → Value) (w : World) => doneV D σ [(0, 46, (.slice (some ⟨b2, 0, none⟩) (p0.length + 1) c2')), (1, 47, vi p1), (2, 48, vi ((p2.length : Nat) : Int)), (3, 49, vi (IntKind.wrap .i64 (p1 + ((p2.length : Nat) : Int)))), (4, 50, .slice (some ⟨b2, 0 + ((Int.toNat p1) + 1) * GT.sz α, none⟩) (p0.length + 1 - ((Int.toNat p1) + 1)) (c2' - ((Int.toNat p1) + 1))), (5, 51, (.slice (some ⟨b, o, none⟩) p0.length cap)), (6, 52, vi p1), (7, 53, .slice (some ⟨b, o + (Int.toNat p1) * GT.sz α, none⟩) (p0.length - Int.toNat p1) (cap - Int.toNat p1))] ∧ agree σ [(0, (.slice (some ⟨b, o, none⟩) p0.length cap)), (1, vi p1), (7, vi ((p2.length : Nat) : Int)), (9, (.slice (some ⟨b2, 0, none⟩) (p0.length + 1) c2'))] ∧ Holds E w (own 43 (.slice (some ⟨b2, 0, none⟩) (p0.length + 1) c2') (bif D 8 then (((p0.take (Int.toNat p1) ++ List.replicate (p0.length + 1 - Int.toNat p1) z0).take (Int.toNat p1) ++ p2 ++ (p0.take (Int.toNat p1) ++ List.replicate (p0.length + 1 - Int.toNat p1) z0).drop (Int.toNat p1 + p2.length)).take (Int.toNat p1 + 1) ++ p0.drop (Int.toNat p1) ++ ((p0.take (Int.toNat p1) ++ List.replicate (p0.length + 1 - Int.toNat p1) z0).take (Int.toNat p1) ++ p2 ++ (p0.take (Int.toNat p1) ++ List.replicate (p0.length + 1 - Int.toNat p1) z0).drop (Int.toNat p1 + p2.length)).drop (Int.toNat p1 + 1 + (p0.drop (Int.toNat p1)).length)) else ((p0.take (Int.toNat p1) ++ List.replicate (p0.length + 1 - Int.toNat p1) z0).take (Int.toNat p1) ++ p2 ++ (p0.take (Int.toNat p1) ++ List.replicate (p0.length + 1 - Int.toNat p1) z0).drop (Int.toNat p1 + p2.length))) :: own 43 (.slice (some ⟨b, o, none⟩) p0.length cap) p0 :: own 43 (.slice (some ⟨xb, xo, none⟩) p2.length xc) p2 :: Γ)) ?_ ⟨?_, ?_, ?_, ?_, ?_, ?_, ?_, ?_, ?_, trivial⟩ ?_)
  ·exact ⟨doneV.none, ⟨rfl, rfl, rfl, rfl, trivial⟩, hw.drew⟩
  ·rintro D σ w hD hdep hcl ⟨hv, ha, hw⟩
   refine mv (.slice (some ⟨b2, 0, none⟩) (p0.length + 1) c2') rfl (ha.at 3 rfl) ?_
   refine RL.nil ?_
   exact ⟨rfl, hv.put 0 rfl rfl, ha.up rfl, hw⟩
  ·rintro D σ w hD hdep hcl ⟨hv, ha, hw⟩
   refine mv (vi p1) rfl (ha.at 1 rfl) ?_
   refine RL.nil ?_
   exact ⟨rfl, hv.put 1 rfl rfl, ha.up rfl, hw⟩
  ·rintro D σ w hD hdep hcl ⟨hv, ha, hw⟩
   refine mv (vi ((p2.length : Nat) : Int)) rfl (ha.at 2 rfl) ?_
   refine RL.nil ?_
   exact ⟨rfl, hv.put 2 rfl rfl, ha.up rfl, hw⟩
  ·rintro D σ w hD hdep hcl ⟨hv, ha, hw⟩
   refine RL.iar (a := p1) (b := ((p2.length : Nat) : Int)) trivial rfl (hv.at 1 rfl (hdep.1 rfl)) (hv.at 2 rfl (hdep.2.1 rfl)) rfl ?_
   refine RL.nil ?_
   exact ⟨rfl, hv.put 3 rfl rfl, ha.up rfl, hw⟩
  ·rintro D σ w hD hdep hcl ⟨hv, ha, hw⟩
   refine RL.lsuf (lo := (((Int.toNat p1) + 1 : Nat) : Int)) trivial rfl (hv.at 0 rfl (hdep.1 rfl)) sl (congrArg some ((hv.at 3 rfl (hdep.2.1 rfl)).trans (congrArg (Value.int .i64) e3))) (by omega) (by omega) (by omega) (by omega) ?_
   rw [Int.toNat_natCast]
   refine RL.nil ?_
   exact ⟨rfl, hv.put 4 rfl rfl, ha.up rfl, hw⟩
  ·rintro D σ w hD hdep hcl ⟨hv, ha, hw⟩
   refine mv (.slice (some ⟨b, o, none⟩) p0.length cap) rfl (ha.at 0 rfl) ?_
   refine RL.nil ?_
   exact ⟨rfl, hv.put 5 rfl rfl, ha.up rfl, hw⟩
  ·rintro D σ w hD hdep hcl ⟨hv, ha, hw⟩
   refine mv (vi p1) rfl (ha.at 1 rfl) ?_
   refine RL.nil ?_
   exact ⟨rfl, hv.put 6 rfl rfl, ha.up rfl, hw⟩
  ·rintro D σ w hD hdep hcl ⟨hv, ha, hw⟩
   refine RL.lsuf trivial rfl (hv.at 5 rfl (hdep.1 rfl)) sl (congrArg some (hv.at 6 rfl (hdep.2.1 rfl))) c1 (by omega) (by omega) (by omega) ?_
   refine RL.nil ?_
   exact ⟨rfl, hv.put 7 rfl rfl, ha.up rfl, hw⟩
  ·rintro D σ w hD hdep hcl ⟨hv, ha, hw⟩
   rw [hD, cond_false] at hw
   refine RL.copy_at (i := 0) (k := (Int.toNat p1) + 1) (ys := p0.drop (Int.toNat p1)) (l := ((p0.take (Int.toNat p1) ++ List.replicate (p0.length + 1 - Int.toNat p1) z0).take (Int.toNat p1) ++ p2 ++ (p0.take (Int.toNat p1) ++ List.replicate (p0.length + 1 - Int.toNat p1) z0).drop (Int.toNat p1 + p2.length))) trivial rfl hw (hv.at 4 rfl (hdep.1 rfl)) (hv.at 7 rfl (hdep.2.1 rfl)) (by rw [hl3]; rfl) el (by rw [hdl]; simp only [Nat.min_def]; split <;> omega) (by rw [hl3]; omega) (by rw [hdl]; omega) (fun M hs gd => src_own (i := 1) gd rfl (by omega)) fun w hw => ?_
   have hmx : Max.max ((p0.take (Int.toNat p1) ++ List.replicate (p0.length + 1 - Int.toNat p1) z0).take (Int.toNat p1) ++ p2 ++ (p0.take (Int.toNat p1) ++ List.replicate (p0.length + 1 - Int.toNat p1) z0).drop (Int.toNat p1 + p2.length)).length ((Int.toNat p1) + 1 + (p0.drop (Int.toNat p1)).length) = p0.length + 1 := by rw [hl3, hdl]; omega
   rw [hmx] at hw
   refine RL.nil ?_
   exact ⟨rfl, hv.up rfl, ha.up rfl, hw⟩
  intro D σ w hall ⟨hv, ha, hw⟩
  rw [hall 8 (by decide), cond_true] at hw
  obtain ⟨τ, rfl⟩ := ha.ups
  refine thenQ_n ?_
  refine RC.sr ?_
  refine mv (.slice (some ⟨b2, 0, none⟩) (p0.length + 1) c2') rfl rfl ?_
  refine as_ (.slice (some ⟨b2, 0, none⟩) (p0.length + 1) c2') rfl rfl ?_
  refine RL.nt ?_
  refine RC.rt ?_
  refine fin1 rfl rfl ?_
  have hq : (((p0.take (Int.toNat p1) ++ List.replicate (p0.length + 1 - Int.toNat p1) z0).take (Int.toNat p1) ++ p2 ++ (p0.take (Int.toNat p1) ++ List.replicate (p0.length + 1 - Int.toNat p1) z0).drop (Int.toNat p1 + p2.length)).take (Int.toNat p1 + 1) ++ p0.drop (Int.toNat p1) ++ ((p0.take (Int.toNat p1) ++ List.replicate (p0.length + 1 - Int.toNat p1) z0).take (Int.toNat p1) ++ p2 ++ (p0.take (Int.toNat p1) ++ List.replicate (p0.length + 1 - Int.toNat p1) z0).drop (Int.toNat p1 + p2.length)).drop (Int.toNat p1 + 1 + (p0.drop (Int.toNat p1)).length)) = l1 := by
   rw [← hb]
   exact ins_shape p0 p2 _ (Int.toNat p1) z0 c3 (by omega) (Nat.le_refl _)
  rw [hq] at hw
  exact hw.pick 3 [0] (new := [own 43 (.slice (some ⟨b2, 0, none⟩) (p0.length + 1) c2') l1]) rfl rfl (by decide) (by decide)
 have hg : p0.length + 1 ≤ cap := by
  have := of_decide_eq_false hc
  rw [e1] at this; omega
 have e3 : IntKind.wrap .i64 (p1 + ((p2.length : Nat) : Int)) = (((Int.toNat p1) + 1 : Nat) : Int) := by
  rw [c3, wrap_in (by omega) (by omega)]; omega
 refine RC.sx ?_
 refine mv (.slice (some ⟨b, o, none⟩) p0.length cap) rfl rfl ?_
 refine mv (vi ((p0.length : Nat) : Int)) rfl rfl ?_
 refine mv (vi ((p2.length : Nat) : Int)) rfl rfl ?_
 refine RL.iar (a := ((p0.length : Nat) : Int)) (b := ((p2.length : Nat) : Int)) trivial rfl rfl rfl rfl ?_
 refine RL.lpre (hi := ((p0.length + 1 : Nat) : Int)) trivial rfl rfl sl (congrArg (fun x => some (Value.int .i64 x)) e1) (by omega) (by omega) ?_
 rw [Int.toNat_natCast]
 refine as_ (.slice (some ⟨b, o, none⟩) (p0.length + 1) cap) rfl rfl ?_
 refine RL.nq ?_
 refine RC.sr ?_
 refine mv (.slice (some ⟨xb, xo, none⟩) p2.length xc) rfl rfl ?_
 refine mv (.slice (some ⟨b, o, none⟩) (p0.length + 1) cap) rfl rfl ?_
 refine mv (vi p1) rfl rfl ?_
 refine mv (vi ((p2.length : Nat) : Int)) rfl rfl ?_
 refine RL.iar (a := p1) (b := ((p2.length : Nat) : Int)) trivial rfl rfl rfl rfl ?_
 refine RL.lsuf (lo := (((Int.toNat p1) + 1 : Nat) : Int)) trivial rfl rfl sl (congrArg (fun x => some (Value.int .i64 x)) e3) (by omega) (by omega) (by omega) (by omega) ?_
 rw [Int.toNat_natCast]
 refine RL.xcall (v := Value.bool false) trivial rfl [(.slice (some ⟨xb, xo, none⟩) p2.length xc), .slice (some ⟨b, o + ((Int.toNat p1) + 1) * GT.sz α, none⟩) (p0.length + 1 - ((Int.toNat p1) + 1)) (cap - ((Int.toNat p1) + 1))] rfl (xcall Tryz.func66 (by kernel_rfl) (by kernel_rfl) (by kernel_rfl) (e := Extern.SlicesOverlaps.overlaps #[35, 35] #[4]) (by kernel_rfl) (run_apart (i := 1) (j := 0) sl hw rfl rfl (by decide) (by omega) (by omega))) ?_
 refine RL.not (b := false) trivial rfl rfl ?_
 refine RL.nt ?_
 refine RC.cond_t rfl ?_
 have hdl : (p0.drop (Int.toNat p1)).length = p0.length - Int.toNat p1 := List.length_drop
 refine RC.seq (RC.drw mixed rfl (fun (D : Nat → Bool) (σ : Nat → Value) (w : World) => doneV D σ [(0, 69, (.slice (some ⟨b, o, none⟩) (p0.length + 1) cap)), (1, 70, vi p1), (2, 71, vi ((p2.length : Nat) : Int)), (3, 72, vi (IntKind.wrap .i64 (p1 + ((p2.length : Nat) : Int)))), (4, 73, .slice (some ⟨b, o + ((Int.toNat p1) + 1) * GT.sz α, none⟩) (p0.length + 1 - ((Int.toNat p1) + 1)) (cap - ((Int.toNat p1) + 1))), (5, 74, (.slice (some ⟨b, o, none⟩) (p0.length + 1) cap)), (6, 75, vi p1), (7, 76, .slice (some ⟨b, o + (Int.toNat p1) * GT.sz α, none⟩) (p0.length + 1 - Int.toNat p1) (cap - Int.toNat p1))] ∧ agree σ [(0, (.slice (some ⟨b, o, none⟩) (p0.length + 1) cap)), (1, vi p1), (2, (.slice (some ⟨xb, xo, none⟩) p2.length xc)), (7, vi ((p2.length : Nat) : Int))] ∧ Holds E w ((bif D 8 then own 43 (.slice (some ⟨b, o, none⟩) (p0.length + 1) cap) (p0.take (Int.toNat p1 + 1) ++ p0.drop (Int.toNat p1) ++ p0.drop (Int.toNat p1 + 1 + (p0.drop (Int.toNat p1)).length)) else own 43 (.slice (some ⟨b, o, none⟩) p0.length cap) p0) :: own 43 (.slice (some ⟨xb, xo, none⟩) p2.length xc) p2 :: Γ)) ?_ ⟨?_, ?_, ?_, ?_, ?_, ?_, ?_, ?_, ?_, trivial⟩ ?_)
 ·exact ⟨doneV.none, ⟨rfl, rfl, rfl, rfl, trivial⟩, hw.drew⟩
 ·rintro D σ w hD hdep hcl ⟨hv, ha, hw⟩
  refine mv (.slice (some ⟨b, o, none⟩) (p0.length + 1) cap) rfl (ha.at 0 rfl) ?_
  refine RL.nil ?_
  exact ⟨rfl, hv.put 0 rfl rfl, ha.up rfl, hw⟩
 ·rintro D σ w hD hdep hcl ⟨hv, ha, hw⟩
  refine mv (vi p1) rfl (ha.at 1 rfl) ?_
  refine RL.nil ?_
  exact ⟨rfl, hv.put 1 rfl rfl, ha.up rfl, hw⟩
 ·rintro D σ w hD hdep hcl ⟨hv, ha, hw⟩
  refine mv (vi ((p2.length : Nat) : Int)) rfl (ha.at 3 rfl) ?_
  refine RL.nil ?_
  exact ⟨rfl, hv.put 2 rfl rfl, ha.up rfl, hw⟩
 ·rintro D σ w hD hdep hcl ⟨hv, ha, hw⟩
  refine RL.iar (a := p1) (b := ((p2.length : Nat) : Int)) trivial rfl (hv.at 1 rfl (hdep.1 rfl)) (hv.at 2 rfl (hdep.2.1 rfl)) rfl ?_
  refine RL.nil ?_
  exact ⟨rfl, hv.put 3 rfl rfl, ha.up rfl, hw⟩
 ·rintro D σ w hD hdep hcl ⟨hv, ha, hw⟩
  refine RL.lsuf (lo := (((Int.toNat p1) + 1 : Nat) : Int)) trivial rfl (hv.at 0 rfl (hdep.1 rfl)) sl (congrArg some ((hv.at 3 rfl (hdep.2.1 rfl)).trans (congrArg (Value.int .i64) e3))) (by omega) (by omega) (by omega) (by omega) ?_
  rw [Int.toNat_natCast]
  refine RL.nil ?_
  exact ⟨rfl, hv.put 4 rfl rfl, ha.up rfl, hw⟩
 ·rintro D σ w hD hdep hcl ⟨hv, ha, hw⟩
  refine mv (.slice (some ⟨b, o, none⟩) (p0.length + 1) cap) rfl (ha.at 0 rfl) ?_
  refine RL.nil ?_
  exact ⟨rfl, hv.put 5 rfl rfl, ha.up rfl, hw⟩
 ·rintro D σ w hD hdep hcl ⟨hv, ha, hw⟩
  refine mv (vi p1) rfl (ha.at 1 rfl) ?_
  refine RL.nil ?_
  exact ⟨rfl, hv.put 6 rfl rfl, ha.up rfl, hw⟩
 ·rintro D σ w hD hdep hcl ⟨hv, ha, hw⟩
  refine RL.lsuf trivial rfl (hv.at 5 rfl (hdep.1 rfl)) sl (congrArg some (hv.at 6 rfl (hdep.2.1 rfl))) c1 (by omega) (by omega) (by omega) ?_
  refine RL.nil ?_
  exact ⟨rfl, hv.put 7 rfl rfl, ha.up rfl, hw⟩
 ·rintro D σ w hD hdep hcl ⟨hv, ha, hw⟩
  rw [hD, cond_false] at hw
  refine RL.copy_at (i := 0) (k := (Int.toNat p1) + 1) (ys := p0.drop (Int.toNat p1)) (l := p0) trivial rfl hw (hv.at 4 rfl (hdep.1 rfl)) (hv.at 7 rfl (hdep.2.1 rfl)) rfl el (by rw [hdl]; simp only [Nat.min_def]; split <;> omega) (by omega) (by rw [hdl]; omega) (fun M hs gd => src_own (i := 0) gd rfl (by omega)) fun w hw => ?_
  have hmx : Max.max p0.length ((Int.toNat p1) + 1 + (p0.drop (Int.toNat p1)).length) = p0.length + 1 := by rw [hdl]; omega
  rw [hmx] at hw
  refine RL.nil ?_
  exact ⟨rfl, hv.up rfl, ha.up rfl, hw⟩
 intro D σ w hall ⟨hv, ha, hw⟩
 rw [hall 8 (by decide), cond_true] at hw
 have hl1 : (p0.take (Int.toNat p1 + 1) ++ p0.drop (Int.toNat p1) ++ p0.drop (Int.toNat p1 + 1 + (p0.drop (Int.toNat p1)).length)).length = p0.length + 1 := by simp only [List.length_append, List.length_take, List.length_drop]; omega
 obtain ⟨τ, rfl⟩ := ha.ups
 refine thenQ_n ?_
 refine RC.sr ?_
 refine mv (.slice (some ⟨b, o, none⟩) (p0.length + 1) cap) rfl rfl ?_
 refine mv (vi p1) rfl rfl ?_
 refine RL.lsuf trivial rfl rfl sl rfl c1 (by omega) (by omega) (by omega) ?_
 refine mv (.slice (some ⟨xb, xo, none⟩) p2.length xc) rfl rfl ?_
 refine RL.copy_at (i := 0) (k := Int.toNat p1) (ys := p2) (l := (p0.take (Int.toNat p1 + 1) ++ p0.drop (Int.toNat p1) ++ p0.drop (Int.toNat p1 + 1 + (p0.drop (Int.toNat p1)).length))) trivial rfl hw rfl rfl (by rw [hl1]; rfl) el (by rw [c3]; simp only [Nat.min_def]; split <;> omega) (by rw [hl1]; omega) (by rw [c3]; omega) (fun M hs gd => src_own0 (i := 1) gd rfl) fun w hw => ?_
 have hmx : Max.max (p0.take (Int.toNat p1 + 1) ++ p0.drop (Int.toNat p1) ++ p0.drop (Int.toNat p1 + 1 + (p0.drop (Int.toNat p1)).length)).length ((Int.toNat p1) + p2.length) = p0.length + 1 := by rw [hl1, c3]; omega
 rw [hmx] at hw
 refine RL.ns ?_
 refine mv (.slice (some ⟨b, o, none⟩) (p0.length + 1) cap) rfl rfl ?_
 refine as_ (.slice (some ⟨b, o, none⟩) (p0.length + 1) cap) rfl rfl ?_
 refine RL.nt ?_
 refine RC.rt ?_
 refine fin1 rfl rfl ?_
 have hq : ((p0.take (Int.toNat p1 + 1) ++ p0.drop (Int.toNat p1) ++ p0.drop (Int.toNat p1 + 1 + (p0.drop (Int.toNat p1)).length)).take (Int.toNat p1) ++ p2 ++ (p0.take (Int.toNat p1 + 1) ++ p0.drop (Int.toNat p1) ++ p0.drop (Int.toNat p1 + 1 + (p0.drop (Int.toNat p1)).length)).drop (Int.toNat p1 + p2.length)) = l1 := by
  rw [← hb]
  exact ins_shape2 p0 p2 (Int.toNat p1) c3 (by omega)
 rw [hq] at hw
 exact hw.pick 2 [0] (new := [own 43 (.slice (some ⟨b, o, none⟩) (p0.length + 1) cap) l1]) rfl rfl (by decide) (by decide)
theorem fn39 : Fnc Tryz.prog 39 := ⟨fun _ _ => run_callFunc Tryz.func39 (by kernel_rfl) rfl⟩
theorem fn17 : Fnc Tryz.prog 17 := ⟨fun _ _ => run_callFunc Tryz.func17 (by kernel_rfl) rfl⟩
theorem st38 : StT Tryz.prog 38 [(0, 1), (1, 1), (2, 1)] #[(.string ⟨#[]⟩), (.slice none 0 0), (.slice none 0 0)] := StT.of Tryz.underlying38 (z := (.agg #[(.string ⟨#[]⟩), (.slice none 0 0), (.slice none 0 0)])) (fun _ => by kernel_rfl) (fun _ => by kernel_rfl)
theorem fn5 : Fnc Tryz.prog 5 := ⟨fun _ _ => run_callFunc Tryz.func5 (by kernel_rfl) rfl⟩
theorem eqt48 : EqT Tryz.prog 48 Part := ⟨fun M cs ds a b w ha hb => by
  obtain ⟨_, _, rfl, rfl, rfl⟩ := ha
  obtain ⟨_, _, rfl, rfl, rfl⟩ := hb
  refine (run_equal_struct (d := 9999) Tryz.underlying48 (by kernel_rfl) (EqL.cons (by decide) (run_part1 ty9 rfl _) (run_part1 ty9 rfl _) (run_eq_str un9 _ _ w) (EqL.cons (by decide) (run_part1 ty9 rfl _) (run_part1 ty9 rfl _) (run_eq_str un9 _ _ w) EqL.nil))).trans ?_
  congr 1
  cases a; cases b
  rw [Bool.eq_iff_iff]
  simp, by kernel_rfl⟩
theorem fn20 : Fnc Tryz.prog 20 := ⟨fun _ _ => run_callFunc Tryz.func20 (by kernel_rfl) rfl⟩
theorem fn21 : Fnc Tryz.prog 21 := ⟨fun _ _ => run_callFunc Tryz.func21 (by kernel_rfl) rfl⟩
theorem fn22 : Fnc Tryz.prog 22 := ⟨fun _ _ => run_callFunc Tryz.func22 (by kernel_rfl) rfl⟩
theorem fn6 : Fnc Tryz.prog 6 := ⟨fun _ _ => run_callFunc Tryz.func6 (by kernel_rfl) rfl⟩
theorem st55 : StT Tryz.prog 55 [(0, 1), (1, 1), (2, 1)] #[(.string ⟨#[]⟩), (.int .i64 0), (.int .i64 0)] := StT.of Tryz.underlying55 (z := (.agg #[(.string ⟨#[]⟩), (.int .i64 0), (.int .i64 0)])) (fun _ => by kernel_rfl) (fun _ => by kernel_rfl)
theorem st58 : StT Tryz.prog 58 [(0, 1), (1, 1)] #[(.string ⟨#[]⟩), (.slice none 0 0)] := StT.of Tryz.underlying58 (z := (.agg #[(.string ⟨#[]⟩), (.slice none 0 0)])) (fun _ => by kernel_rfl) (fun _ => by kernel_rfl)
theorem st48 : StT Tryz.prog 48 [(0, 1), (1, 1)] #[(.string ⟨#[]⟩), (.string ⟨#[]⟩)] := StT.of Tryz.underlying48 (z := (.agg #[(.string ⟨#[]⟩), (.string ⟨#[]⟩)])) (fun _ => by kernel_rfl) (fun _ => by kernel_rfl)
theorem mt102 : MapT Tryz.prog 102 43 3 Pin Int (0 : Int) := ⟨by kernel_rfl, key43, zero_of (Z := (.int .i64 0)) (by kernel_rfl) (fun M => ⟨_, rfl, rfl⟩)⟩
theorem fn68 : Fnc Tryz.prog 68 := ⟨fun _ _ => run_callFunc Tryz.func68 (by kernel_rfl) rfl⟩
theorem st43 : StT Tryz.prog 43 [(0, 1), (1, 1)] #[(.string ⟨#[]⟩), (.string ⟨#[]⟩)] := StT.of Tryz.underlying43 (z := (.agg #[(.string ⟨#[]⟩), (.string ⟨#[]⟩)])) (fun _ => by kernel_rfl) (fun _ => by kernel_rfl)
theorem fn69 : Fnc Tryz.prog 69 := ⟨fun _ _ => run_callFunc Tryz.func69 (by kernel_rfl) rfl⟩
theorem fn41 : Fnc Tryz.prog 41 := ⟨fun _ _ => run_callFunc Tryz.func41 (by kernel_rfl) rfl⟩
theorem fn23 : Fnc Tryz.prog 23 := ⟨fun _ _ => run_callFunc Tryz.func23 (by kernel_rfl) rfl⟩
theorem fn7 : Fnc Tryz.prog 7 := ⟨fun _ _ => run_callFunc Tryz.func7 (by kernel_rfl) rfl⟩
end Go.Gk
