/-
  Printed by gen.py: Go types as plain structures, and closed facts on the loaded program.
-/
import Derived.Test.YtghdidhpcgioeaaDoorProg
import Derived.Test.YtghdidhpcgioeaaDoorD
import Derived.Test.YtghdidhpcgioeaaDoorK22
import Derived.Test.YtghdidhpcgioeaaDoorK26
set_option linter.unusedVariables false
set_option linter.unusedSimpArgs false
set_option linter.unusedSectionVars false
set_option maxRecDepth 100000
set_option maxHeartbeats 4000000

namespace Go.Gk
open Go Go.Proofs
instance instGTPinType : GT PinType := GT.via (fun x => (x.Name, x.Kind, x.Group))
instance instKVPinType : KV PinType := instKVvia (fun (x : PinType) => (x.Name, x.Kind, x.Group))
theorem fd_PinType_0 : Fd 0 (fun x : PinType => x.Name) := fun M cs x h => (Fd.fst (α := Str) (β := Int × Int) Fd.self (by decide)) M cs (x.Name, x.Kind, x.Group) h
theorem fs_PinType_0 : Fs 0 Str (fun (x : PinType) y => { x with Name := y }) := fun M cs ds x y h h2 => (Fs.fst (α := Str) (β := Int × Int) Fs.self (by decide)) M cs ds (x.Name, x.Kind, x.Group) y h h2
theorem fd_PinType_1 : Fd 1 (fun x : PinType => x.Kind) := fun M cs x h => (Fd.snd (α := Str) (β := Int × Int) (Fd.fst (α := Int) (β := Int) Fd.self (by decide)) rfl) M cs (x.Name, x.Kind, x.Group) h
theorem fs_PinType_1 : Fs 1 Int (fun (x : PinType) y => { x with Kind := y }) := fun M cs ds x y h h2 => (Fs.snd (α := Str) (β := Int × Int) (Fs.fst (α := Int) (β := Int) Fs.self (by decide)) rfl) M cs ds (x.Name, x.Kind, x.Group) y h h2
theorem fd_PinType_2 : Fd 2 (fun x : PinType => x.Group) := fun M cs x h => (Fd.snd (α := Str) (β := Int × Int) (Fd.snd (α := Int) (β := Int) Fd.self rfl) rfl) M cs (x.Name, x.Kind, x.Group) h
theorem fs_PinType_2 : Fs 2 Int (fun (x : PinType) y => { x with Group := y }) := fun M cs ds x y h h2 => (Fs.snd (α := Str) (β := Int × Int) (Fs.snd (α := Int) (β := Int) Fs.self rfl) rfl) M cs ds (x.Name, x.Kind, x.Group) y h h2
instance instGTPartType : GT PartType := GT.via (fun x => (x.Name, x.Pins))
theorem fd_PartType_0 : Fd 0 (fun x : PartType => x.Name) := fun M cs x h => (Fd.fst (α := Str) (β := (List PinType)) Fd.self (by decide)) M cs (x.Name, x.Pins) h
theorem fs_PartType_0 : Fs 0 Str (fun (x : PartType) y => { x with Name := y }) := fun M cs ds x y h h2 => (Fs.fst (α := Str) (β := (List PinType)) Fs.self (by decide)) M cs ds (x.Name, x.Pins) y h h2
theorem fd_PartType_1 : Fd 1 (fun x : PartType => x.Pins) := fun M cs x h => (Fd.snd (α := Str) (β := (List PinType)) Fd.self rfl) M cs (x.Name, x.Pins) h
theorem fs_PartType_1 : Fs 1 (List PinType) (fun (x : PartType) y => { x with Pins := y }) := fun M cs ds x y h h2 => (Fs.snd (α := Str) (β := (List PinType)) Fs.self rfl) M cs ds (x.Name, x.Pins) y h h2
instance instGTPart : GT Part := GT.via (fun x => (x.Name, x.Type_))
instance instKVPart : KV Part := instKVvia (fun (x : Part) => (x.Name, x.Type_))
theorem fd_Part_0 : Fd 0 (fun x : Part => x.Name) := fun M cs x h => (Fd.fst (α := Str) (β := Str) Fd.self (by decide)) M cs (x.Name, x.Type_) h
theorem fs_Part_0 : Fs 0 Str (fun (x : Part) y => { x with Name := y }) := fun M cs ds x y h h2 => (Fs.fst (α := Str) (β := Str) Fs.self (by decide)) M cs ds (x.Name, x.Type_) y h h2
theorem fd_Part_1 : Fd 1 (fun x : Part => x.Type_) := fun M cs x h => (Fd.snd (α := Str) (β := Str) Fd.self rfl) M cs (x.Name, x.Type_) h
theorem fs_Part_1 : Fs 1 Str (fun (x : Part) y => { x with Type_ := y }) := fun M cs ds x y h h2 => (Fs.snd (α := Str) (β := Str) Fs.self rfl) M cs ds (x.Name, x.Type_) y h h2
instance instGTPin : GT Pin := GT.via (fun x => (x.Part, x.Pin))
instance instKVPin : KV Pin := instKVvia (fun (x : Pin) => (x.Part, x.Pin))
theorem fd_Pin_0 : Fd 0 (fun x : Pin => x.Part) := fun M cs x h => (Fd.fst (α := Str) (β := Str) Fd.self (by decide)) M cs (x.Part, x.Pin) h
theorem fs_Pin_0 : Fs 0 Str (fun (x : Pin) y => { x with Part := y }) := fun M cs ds x y h h2 => (Fs.fst (α := Str) (β := Str) Fs.self (by decide)) M cs ds (x.Part, x.Pin) y h h2
theorem fd_Pin_1 : Fd 1 (fun x : Pin => x.Pin) := fun M cs x h => (Fd.snd (α := Str) (β := Str) Fd.self rfl) M cs (x.Part, x.Pin) h
theorem fs_Pin_1 : Fs 1 Str (fun (x : Pin) y => { x with Pin := y }) := fun M cs ds x y h h2 => (Fs.snd (α := Str) (β := Str) Fs.self rfl) M cs ds (x.Part, x.Pin) y h h2
instance instGTNet : GT Net := GT.via (fun x => (x.Name, x.Pins, x.Ports))
theorem fd_Net_0 : Fd 0 (fun x : Net => x.Name) := fun M cs x h => (Fd.fst (α := Str) (β := (List Pin) × (List Str)) Fd.self (by decide)) M cs (x.Name, x.Pins, x.Ports) h
theorem fs_Net_0 : Fs 0 Str (fun (x : Net) y => { x with Name := y }) := fun M cs ds x y h h2 => (Fs.fst (α := Str) (β := (List Pin) × (List Str)) Fs.self (by decide)) M cs ds (x.Name, x.Pins, x.Ports) y h h2
theorem fd_Net_1 : Fd 1 (fun x : Net => x.Pins) := fun M cs x h => (Fd.snd (α := Str) (β := (List Pin) × (List Str)) (Fd.fst (α := (List Pin)) (β := (List Str)) Fd.self (by decide)) rfl) M cs (x.Name, x.Pins, x.Ports) h
theorem fs_Net_1 : Fs 1 (List Pin) (fun (x : Net) y => { x with Pins := y }) := fun M cs ds x y h h2 => (Fs.snd (α := Str) (β := (List Pin) × (List Str)) (Fs.fst (α := (List Pin)) (β := (List Str)) Fs.self (by decide)) rfl) M cs ds (x.Name, x.Pins, x.Ports) y h h2
theorem fd_Net_2 : Fd 2 (fun x : Net => x.Ports) := fun M cs x h => (Fd.snd (α := Str) (β := (List Pin) × (List Str)) (Fd.snd (α := (List Pin)) (β := (List Str)) Fd.self rfl) rfl) M cs (x.Name, x.Pins, x.Ports) h
theorem fs_Net_2 : Fs 2 (List Str) (fun (x : Net) y => { x with Ports := y }) := fun M cs ds x y h h2 => (Fs.snd (α := Str) (β := (List Pin) × (List Str)) (Fs.snd (α := (List Pin)) (β := (List Str)) Fs.self rfl) rfl) M cs ds (x.Name, x.Pins, x.Ports) y h h2
instance instGTNetlist : GT Netlist := GT.via (fun x => (x.Parts, x.Nets))
theorem fd_Netlist_0 : Fd 0 (fun x : Netlist => x.Parts) := fun M cs x h => (Fd.fst (α := (List Part)) (β := (List Net)) Fd.self (by decide)) M cs (x.Parts, x.Nets) h
theorem fs_Netlist_0 : Fs 0 (List Part) (fun (x : Netlist) y => { x with Parts := y }) := fun M cs ds x y h h2 => (Fs.fst (α := (List Part)) (β := (List Net)) Fs.self (by decide)) M cs ds (x.Parts, x.Nets) y h h2
theorem fd_Netlist_1 : Fd 1 (fun x : Netlist => x.Nets) := fun M cs x h => (Fd.snd (α := (List Part)) (β := (List Net)) Fd.self rfl) M cs (x.Parts, x.Nets) h
theorem fs_Netlist_1 : Fs 1 (List Net) (fun (x : Netlist) y => { x with Nets := y }) := fun M cs ds x y h h2 => (Fs.snd (α := (List Part)) (β := (List Net)) Fs.self rfl) M cs ds (x.Parts, x.Nets) y h h2
theorem z_Netlist (M : Heap) : GT.ok M (#[(.slice none 0 0), (.slice none 0 0)] : Array Value).toList (⟨[], []⟩ : Netlist) := ⟨[(.slice none 0 0)], [(.slice none 0 0)], rfl, (show GT.ok M [(.slice none 0 0)] ([] : (List Part)) from ⟨_, rfl, none, 0, 0, rfl, rfl, Nat.le_refl _, by simp [maxLen], fun _ _ h => by simp at h⟩), (show GT.ok M [(.slice none 0 0)] ([] : (List Net)) from ⟨_, rfl, none, 0, 0, rfl, rfl, Nat.le_refl _, by simp [maxLen], fun _ _ h => by simp at h⟩)⟩
theorem z_Part (M : Heap) : GT.ok M (#[(.string ⟨#[]⟩), (.string ⟨#[]⟩)] : Array Value).toList (⟨⟨[]⟩, ⟨[]⟩⟩ : Part) := ⟨[(.string ⟨#[]⟩)], [(.string ⟨#[]⟩)], rfl, (show GT.ok M [(.string ⟨#[]⟩)] (⟨[]⟩ : Str) from rfl), (show GT.ok M [(.string ⟨#[]⟩)] (⟨[]⟩ : Str) from rfl)⟩
theorem z_Net (M : Heap) : GT.ok M (#[(.string ⟨#[]⟩), (.slice none 0 0), (.slice none 0 0)] : Array Value).toList (⟨⟨[]⟩, [], []⟩ : Net) := ⟨[(.string ⟨#[]⟩)], [(.slice none 0 0), (.slice none 0 0)], rfl, (show GT.ok M [(.string ⟨#[]⟩)] (⟨[]⟩ : Str) from rfl), ⟨[(.slice none 0 0)], [(.slice none 0 0)], rfl, (show GT.ok M [(.slice none 0 0)] ([] : (List Pin)) from ⟨_, rfl, none, 0, 0, rfl, rfl, Nat.le_refl _, by simp [maxLen], fun _ _ h => by simp at h⟩), (show GT.ok M [(.slice none 0 0)] ([] : (List Str)) from ⟨_, rfl, none, 0, 0, rfl, rfl, Nat.le_refl _, by simp [maxLen], fun _ _ h => by simp at h⟩)⟩⟩
theorem z_Pin (M : Heap) : GT.ok M (#[(.string ⟨#[]⟩), (.string ⟨#[]⟩)] : Array Value).toList (⟨⟨[]⟩, ⟨[]⟩⟩ : Pin) := ⟨[(.string ⟨#[]⟩)], [(.string ⟨#[]⟩)], rfl, (show GT.ok M [(.string ⟨#[]⟩)] (⟨[]⟩ : Str) from rfl), (show GT.ok M [(.string ⟨#[]⟩)] (⟨[]⟩ : Str) from rfl)⟩
theorem z_PinType (M : Heap) : GT.ok M (#[(.string ⟨#[]⟩), (.int .i64 0), (.int .i64 0)] : Array Value).toList (⟨⟨[]⟩, 0, 0⟩ : PinType) := ⟨[(.string ⟨#[]⟩)], [(.int .i64 0), (.int .i64 0)], rfl, (show GT.ok M [(.string ⟨#[]⟩)] (⟨[]⟩ : Str) from rfl), ⟨[(.int .i64 0)], [(.int .i64 0)], rfl, (show GT.ok M [(.int .i64 0)] (0 : Int) from rfl), (show GT.ok M [(.int .i64 0)] (0 : Int) from rfl)⟩⟩
theorem z_PartType (M : Heap) : GT.ok M (#[(.string ⟨#[]⟩), (.slice none 0 0)] : Array Value).toList (⟨⟨[]⟩, []⟩ : PartType) := ⟨[(.string ⟨#[]⟩)], [(.slice none 0 0)], rfl, (show GT.ok M [(.string ⟨#[]⟩)] (⟨[]⟩ : Str) from rfl), (show GT.ok M [(.slice none 0 0)] ([] : (List PinType)) from ⟨_, rfl, none, 0, 0, rfl, rfl, Nat.le_refl _, by simp [maxLen], fun _ _ h => by simp at h⟩)⟩
structure Net_r1 where
  Name : Str
  Pins : RV
  Ports : (List Str)
  deriving Inhabited
instance instGTNet_r1 : GT Net_r1 := GT.via (fun x => (x.Name, x.Pins, x.Ports))
theorem fd_Net_r1_0 : Fd 0 (fun x : Net_r1 => x.Name) := fun M cs x h => (Fd.fst (α := Str) (β := RV × (List Str)) Fd.self (by decide)) M cs (x.Name, x.Pins, x.Ports) h
theorem fs_Net_r1_0 : Fs 0 Str (fun (x : Net_r1) y => { x with Name := y }) := fun M cs ds x y h h2 => (Fs.fst (α := Str) (β := RV × (List Str)) Fs.self (by decide)) M cs ds (x.Name, x.Pins, x.Ports) y h h2
theorem fd_Net_r1_1 : Fd 1 (fun x : Net_r1 => x.Pins) := fun M cs x h => (Fd.snd (α := Str) (β := RV × (List Str)) (Fd.fst (α := RV) (β := (List Str)) Fd.self (by decide)) rfl) M cs (x.Name, x.Pins, x.Ports) h
theorem fs_Net_r1_1 : Fs 1 RV (fun (x : Net_r1) y => { x with Pins := y }) := fun M cs ds x y h h2 => (Fs.snd (α := Str) (β := RV × (List Str)) (Fs.fst (α := RV) (β := (List Str)) Fs.self (by decide)) rfl) M cs ds (x.Name, x.Pins, x.Ports) y h h2
theorem fd_Net_r1_2 : Fd 2 (fun x : Net_r1 => x.Ports) := fun M cs x h => (Fd.snd (α := Str) (β := RV × (List Str)) (Fd.snd (α := RV) (β := (List Str)) Fd.self rfl) rfl) M cs (x.Name, x.Pins, x.Ports) h
theorem fs_Net_r1_2 : Fs 2 (List Str) (fun (x : Net_r1) y => { x with Ports := y }) := fun M cs ds x y h h2 => (Fs.snd (α := Str) (β := RV × (List Str)) (Fs.snd (α := RV) (β := (List Str)) Fs.self rfl) rfl) M cs ds (x.Name, x.Pins, x.Ports) y h h2
def XF_Net_r1 : XT Net_r1 Net := ⟨fun u x => u.Name = x.Name ∧ u.Ports = x.Ports, fun M h u x => (u.Name = x.Name ∧ u.Ports = x.Ports) ∧ ownV 45 M h u.Pins.v x.Pins, fun {M M' h u x} hk hh => ⟨hh.1, (own 45 u.Pins.v x.Pins).mono hk hh.2⟩, fun h => h.1⟩
theorem xo_Net_r1 : XO XF_Net_r1 45 1 (fun u => u.Pins) (fun u r => { u with Pins := r }) (fun x => x.Pins) (fun x y => { x with Pins := y }) := ⟨fd_Net_r1_1, fs_Net_r1_1, by decide, fun h => h.2, fun hr ho => ⟨hr, ho⟩⟩
theorem xp_Net_r1 : XP XF_Net_r1 45 1 (fun u r => { u with Pins := r }) (fun x y => { x with Pins := y }) := ⟨fs_Net_r1_1, by decide, fun hr ho => ⟨hr, ho⟩⟩
theorem xoth_Net_r1_0 : ∀ M h u x y, XF_Net_r1.ok M h u x → XF_Net_r1.ok M h { u with Name := y } { x with Name := y } := fun M h u x y hh => by obtain ⟨⟨e0, e2⟩, ho⟩ := hh; exact ⟨⟨rfl, e2⟩, ho⟩
theorem xrest_Net_r1_0 : ∀ u x y, XF_Net_r1.rest u x → XF_Net_r1.rest { u with Name := y } { x with Name := y } := fun u x y hh => by obtain ⟨e0, e2⟩ := hh; exact ⟨rfl, e2⟩
theorem xoth_Net_r1_2 : ∀ M h u x y, XF_Net_r1.ok M h u x → XF_Net_r1.ok M h { u with Ports := y } { x with Ports := y } := fun M h u x y hh => by obtain ⟨⟨e0, e2⟩, ho⟩ := hh; exact ⟨⟨e0, rfl⟩, ho⟩
theorem xrest_Net_r1_2 : ∀ u x y, XF_Net_r1.rest u x → XF_Net_r1.rest { u with Ports := y } { x with Ports := y } := fun u x y hh => by obtain ⟨e0, e2⟩ := hh; exact ⟨e0, rfl⟩
theorem xraw_Net_r1 : ∀ M cs (x : Net), GT.ok M cs x → ∃ u : Net_r1, GT.ok M cs u ∧ XF_Net_r1.rest u x ∧ sliceOk M u.Pins.v x.Pins := fun M cs x h => by
  obtain ⟨c0, d0, hd0, a0, c1, d1, hd1, ⟨v, hv, hs⟩, a2⟩ := h
  have h1 : (rv v).v = v := rv_v (by obtain ⟨a, n, c, e, _⟩ := hs; rw [e]; rfl)
  have hr : c1 = [Sc.toV (rv v)] := by rw [hv]; show [v] = [(rv v).v]; rw [h1]
  exact ⟨⟨x.Name, rv v, x.Ports⟩, ⟨c0, d0, hd0, a0, ⟨c1, d1, hd1, hr, a2⟩⟩, ⟨rfl, rfl⟩, by show sliceOk M (rv v).v x.Pins; rw [h1]; exact hs⟩
theorem xrd_Net_r1 (M h : Heap) (u : Net_r1) (x : Net) (cs : List Value) (hd : ∀ b o, h b = some o → M b = none) (hx : XF_Net_r1.ok M h u x) (hc : GT.ok M cs u) : GT.ok (hor M h) cs x := by
  obtain ⟨⟨e0, e2⟩, ho⟩ := hx
  obtain ⟨c0, d0, hd0, a0, c1, d1, hd1, a1, a2⟩ := hc
  exact ⟨c0, d0, hd0, GT.mono (hle_hor M h) (show GT.ok M c0 x.Name from e0 ▸ (show GT.ok M c0 u.Name from a0)), ⟨c1, d1, hd1, ⟨u.Pins.v, a1, ownV.sl hd ho⟩, GT.mono (hle_hor M h) (show GT.ok M d1 x.Ports from e2 ▸ (show GT.ok M d1 u.Ports from a2))⟩⟩
theorem ty26 : TyA Tryd.prog 26 true 2 := ⟨fun _ => by kernel_rfl, fun _ => by kernel_rfl⟩
theorem ze26 : ZeT Tryd.prog 26 2 := ⟨⟨(.agg #[(.slice none 0 0), (.slice none 0 0)]), fun _ => by kernel_rfl, rfl⟩, fun _ => by kernel_rfl⟩
theorem ty22 : TyA Tryd.prog 22 false 1 := ⟨fun _ => by kernel_rfl, fun _ => by kernel_rfl⟩
theorem un22 : Tryd.prog.underlying 22 = some (.slice 66) := by kernel_rfl
theorem sl22 : SlT Tryd.prog 22 66 2 := ⟨by kernel_rfl, fun _ => by kernel_rfl⟩
theorem ty66 : TyA Tryd.prog 66 true 2 := ⟨fun _ => by kernel_rfl, fun _ => by kernel_rfl⟩
theorem ze66 : ZeT Tryd.prog 66 2 := ⟨⟨(.agg #[(.string ⟨#[]⟩), (.slice none 0 0)]), fun _ => by kernel_rfl, rfl⟩, fun _ => by kernel_rfl⟩
theorem fa66_0 : FAt Tryd.prog 66 0 0 := ⟨fun _ _ => by kernel_rfl⟩
theorem ty9 : TyA Tryd.prog 9 false 1 := ⟨fun _ => by kernel_rfl, fun _ => by kernel_rfl⟩
theorem un9 : Tryd.prog.underlying 9 = some (.string) := by kernel_rfl
theorem x115 (a : Str) (b : Int) (w : World) : (callFunc 115 [(str a), (.int .u8 b)].toArray).run Tryd.prog w = .ok (.value (vi (Lib.indexByte a.toL (Int.toNat b).toUInt8))) w := xcall Tryd.func115 (by kernel_rfl) (by kernel_rfl) (by kernel_rfl) (e := Extern.BytealgIndexByte.indexByte) (by kernel_rfl) (Lib.run_indexByteString _ _ w)
theorem fn108 : Fnc Tryd.prog 108 := ⟨fun _ _ => run_callFunc Tryd.func108 (by kernel_rfl) rfl⟩
theorem fn93 : Fnc Tryd.prog 93 := ⟨fun _ _ => run_callFunc Tryd.func93 (by kernel_rfl) rfl⟩
theorem fn65 : Fnc Tryd.prog 65 := ⟨fun _ _ => run_callFunc Tryd.func65 (by kernel_rfl) rfl⟩
theorem fa66_1 : FAt Tryd.prog 66 1 1 := ⟨fun _ _ => by kernel_rfl⟩
theorem ty64 : TyA Tryd.prog 64 false 1 := ⟨fun _ => by kernel_rfl, fun _ => by kernel_rfl⟩
theorem un64 : Tryd.prog.underlying 64 = some (.slice 63) := by kernel_rfl
theorem sl64 : SlT Tryd.prog 64 63 3 := ⟨by kernel_rfl, fun _ => by kernel_rfl⟩
theorem ty63 : TyA Tryd.prog 63 true 3 := ⟨fun _ => by kernel_rfl, fun _ => by kernel_rfl⟩
theorem ze63 : ZeT Tryd.prog 63 3 := ⟨⟨(.agg #[(.string ⟨#[]⟩), (.int .i64 0), (.int .i64 0)]), fun _ => by kernel_rfl, rfl⟩, fun _ => by kernel_rfl⟩
theorem fa63_0 : FAt Tryd.prog 63 0 0 := ⟨fun _ _ => by kernel_rfl⟩
theorem fa63_1 : FAt Tryd.prog 63 1 1 := ⟨fun _ _ => by kernel_rfl⟩
theorem ty3 : TyA Tryd.prog 3 false 1 := ⟨fun _ => by kernel_rfl, fun _ => by kernel_rfl⟩
theorem fa63_2 : FAt Tryd.prog 63 2 2 := ⟨fun _ _ => by kernel_rfl⟩
theorem mixed : Tryd.prog.follows .mixedOrders = true := by kernel_rfl
theorem fn109 : Fnc Tryd.prog 109 := ⟨fun _ _ => run_callFunc Tryd.func109 (by kernel_rfl) rfl⟩
theorem fn95 : Fnc Tryd.prog 95 := ⟨fun _ _ => run_callFunc Tryd.func95 (by kernel_rfl) rfl⟩
theorem fn94 : Fnc Tryd.prog 94 := ⟨fun _ _ => run_callFunc Tryd.func94 (by kernel_rfl) rfl⟩
theorem fn66 : Fnc Tryd.prog 66 := ⟨fun _ _ => run_callFunc Tryd.func66 (by kernel_rfl) rfl⟩
theorem fn33 : Fnc Tryd.prog 33 := ⟨fun _ _ => run_callFunc Tryd.func33 (by kernel_rfl) rfl⟩
theorem fa26_0 : FAt Tryd.prog 26 0 0 := ⟨fun _ _ => by kernel_rfl⟩
theorem ty23 : TyA Tryd.prog 23 false 1 := ⟨fun _ => by kernel_rfl, fun _ => by kernel_rfl⟩
theorem un23 : Tryd.prog.underlying 23 = some (.slice 36) := by kernel_rfl
theorem sl23 : SlT Tryd.prog 23 36 2 := ⟨by kernel_rfl, fun _ => by kernel_rfl⟩
theorem ty36 : TyA Tryd.prog 36 true 2 := ⟨fun _ => by kernel_rfl, fun _ => by kernel_rfl⟩
theorem ze36 : ZeT Tryd.prog 36 2 := ⟨⟨(.agg #[(.string ⟨#[]⟩), (.string ⟨#[]⟩)]), fun _ => by kernel_rfl, rfl⟩, fun _ => by kernel_rfl⟩
theorem fa36_0 : FAt Tryd.prog 36 0 0 := ⟨fun _ _ => by kernel_rfl⟩
theorem fa36_1 : FAt Tryd.prog 36 1 1 := ⟨fun _ _ => by kernel_rfl⟩
theorem un3 : Tryd.prog.underlying 3 = some (.int .i64) := by kernel_rfl
theorem un72 : Tryd.prog.underlying 72 = some (.int .u64) := by kernel_rfl
theorem x102 (a : Str) (b : Str) (w : World) : (callFunc 102 [(str a), (str b)].toArray).run Tryd.prog w = .ok (.value (vi (Lib.compareBytes a.toL b.toL))) w := xcall Tryd.func102 (by kernel_rfl) (by kernel_rfl) (by kernel_rfl) (e := Extern.BytealgCompare.compare) (by kernel_rfl) (Lib.run_compareString _ _ w)
theorem fn72 : Fnc Tryd.prog 72 := ⟨fun _ _ => run_callFunc Tryd.func72 (by kernel_rfl) rfl⟩
theorem fn41 : Fnc Tryd.prog 41 := ⟨fun _ _ => run_callFunc Tryd.func41 (by kernel_rfl) rfl⟩
theorem fn97 : Fnc Tryd.prog 97 := ⟨fun _ _ => run_callFunc Tryd.func97 (by kernel_rfl) rfl⟩
theorem fn96 : Fnc Tryd.prog 96 := ⟨fun _ _ => run_callFunc Tryd.func96 (by kernel_rfl) rfl⟩
theorem fn67 : Fnc Tryd.prog 67 := ⟨fun _ _ => run_callFunc Tryd.func67 (by kernel_rfl) rfl⟩
theorem x118 (a : Str) (b : Int) (w : World) : (callFunc 118 [(str a), (.int .u8 b)].toArray).run Tryd.prog w = .ok (.value (vi ((Lib.countByte a.toL (Int.toNat b).toUInt8 : Nat) : Int))) w := xcall Tryd.func118 (by kernel_rfl) (by kernel_rfl) (by kernel_rfl) (e := Extern.BytealgCount.count) (by kernel_rfl) (Lib.run_countString _ _ w)
theorem fn119 : Fnc Tryd.prog 119 := ⟨fun _ _ => run_callFunc Tryd.func119 (by kernel_rfl) rfl⟩
theorem fn112 : Fnc Tryd.prog 112 := ⟨fun _ _ => run_callFunc Tryd.func112 (by kernel_rfl) rfl⟩
theorem fn111 : Fnc Tryd.prog 111 := ⟨fun _ _ => run_callFunc Tryd.func111 (by kernel_rfl) rfl⟩
theorem el27 : ElT Tryd.prog 27 9 1 16 := ElT.of (z := (.string ⟨#[]⟩)) (by kernel_rfl) (by kernel_rfl) rfl (by decide)
theorem zd9 : ZeD Tryd.prog 9 (⟨[]⟩ : Str) := ZeD.of (Z := (.string ⟨#[]⟩)) (by kernel_rfl) (fun M => rfl)
theorem sl27 : SlT Tryd.prog 27 9 1 := ⟨by kernel_rfl, fun _ => by kernel_rfl⟩
theorem fn99 : Fnc Tryd.prog 99 := ⟨fun _ _ => run_callFunc Tryd.func99 (by kernel_rfl) rfl⟩
theorem fn69 : Fnc Tryd.prog 69 := ⟨fun _ _ => run_callFunc Tryd.func69 (by kernel_rfl) rfl⟩
theorem un27 : Tryd.prog.underlying 27 = some (.slice 9) := by kernel_rfl
theorem fn98 : Fnc Tryd.prog 98 := ⟨fun _ _ => run_callFunc Tryd.func98 (by kernel_rfl) rfl⟩
theorem fn70 : Fnc Tryd.prog 70 := ⟨fun _ _ => run_callFunc Tryd.func70 (by kernel_rfl) rfl⟩
theorem fn68 : Fnc Tryd.prog 68 := ⟨fun _ _ => run_callFunc Tryd.func68 (by kernel_rfl) rfl⟩
theorem fn35 : Fnc Tryd.prog 35 := ⟨fun _ _ => run_callFunc Tryd.func35 (by kernel_rfl) rfl⟩
theorem fn34 : Fnc Tryd.prog 34 := ⟨fun _ _ => run_callFunc Tryd.func34 (by kernel_rfl) rfl⟩
theorem fa26_1 : FAt Tryd.prog 26 1 1 := ⟨fun _ _ => by kernel_rfl⟩
theorem ty24 : TyA Tryd.prog 24 false 1 := ⟨fun _ => by kernel_rfl, fun _ => by kernel_rfl⟩
theorem un24 : Tryd.prog.underlying 24 = some (.slice 39) := by kernel_rfl
theorem sl24 : SlT Tryd.prog 24 39 3 := ⟨by kernel_rfl, fun _ => by kernel_rfl⟩
theorem ty39 : TyA Tryd.prog 39 true 3 := ⟨fun _ => by kernel_rfl, fun _ => by kernel_rfl⟩
theorem ze39 : ZeT Tryd.prog 39 3 := ⟨⟨(.agg #[(.string ⟨#[]⟩), (.slice none 0 0), (.slice none 0 0)]), fun _ => by kernel_rfl, rfl⟩, fun _ => by kernel_rfl⟩
theorem fa39_0 : FAt Tryd.prog 39 0 0 := ⟨fun _ _ => by kernel_rfl⟩
theorem fa39_1 : FAt Tryd.prog 39 1 1 := ⟨fun _ _ => by kernel_rfl⟩
theorem ty37 : TyA Tryd.prog 37 false 1 := ⟨fun _ => by kernel_rfl, fun _ => by kernel_rfl⟩
theorem un37 : Tryd.prog.underlying 37 = some (.slice 45) := by kernel_rfl
theorem ty45 : TyA Tryd.prog 45 true 2 := ⟨fun _ => by kernel_rfl, fun _ => by kernel_rfl⟩
theorem fa45_0 : FAt Tryd.prog 45 0 0 := ⟨fun _ _ => by kernel_rfl⟩
theorem fn45 : Fnc Tryd.prog 45 := ⟨fun _ _ => run_callFunc Tryd.func45 (by kernel_rfl) rfl⟩
theorem fn44 : Fnc Tryd.prog 44 := ⟨fun _ _ => run_callFunc Tryd.func44 (by kernel_rfl) rfl⟩
theorem fn21 : Fnc Tryd.prog 21 := ⟨fun _ _ => run_callFunc Tryd.func21 (by kernel_rfl) rfl⟩
theorem fa45_1 : FAt Tryd.prog 45 1 1 := ⟨fun _ _ => by kernel_rfl⟩
theorem fn101 : Fnc Tryd.prog 101 := ⟨fun _ _ => run_callFunc Tryd.func101 (by kernel_rfl) rfl⟩
theorem fn100 : Fnc Tryd.prog 100 := ⟨fun _ _ => run_callFunc Tryd.func100 (by kernel_rfl) rfl⟩
theorem fn71 : Fnc Tryd.prog 71 := ⟨fun _ _ => run_callFunc Tryd.func71 (by kernel_rfl) rfl⟩
theorem fn38 : Fnc Tryd.prog 38 := ⟨fun _ _ => run_callFunc Tryd.func38 (by kernel_rfl) rfl⟩
theorem sl37 : SlT Tryd.prog 37 45 2 := ⟨by kernel_rfl, fun _ => by kernel_rfl⟩
theorem ze45 : ZeT Tryd.prog 45 2 := ⟨⟨(.agg #[(.string ⟨#[]⟩), (.string ⟨#[]⟩)]), fun _ => by kernel_rfl, rfl⟩, fun _ => by kernel_rfl⟩
theorem fn29 : Fnc Tryd.prog 29 := ⟨fun _ _ => run_callFunc Tryd.func29 (by kernel_rfl) rfl⟩
theorem eqt45 : EqT Tryd.prog 45 Pin := ⟨fun M cs ds a b w ha hb => by
  obtain ⟨_, _, rfl, rfl, rfl⟩ := ha
  obtain ⟨_, _, rfl, rfl, rfl⟩ := hb
  refine (run_equal_struct (d := 9999) Tryd.underlying45 (by kernel_rfl) (EqL.cons (by decide) (run_part1 ty9 rfl _) (run_part1 ty9 rfl _) (run_eq_str un9 _ _ w) (EqL.cons (by decide) (run_part1 ty9 rfl _) (run_part1 ty9 rfl _) (run_eq_str un9 _ _ w) EqL.nil))).trans ?_
  congr 1
  cases a; cases b
  rw [Bool.eq_iff_iff]
  simp, by kernel_rfl⟩
theorem key45 : KeyT Tryd.prog 45 Pin := KeyT.struct Tryd.underlying45 rfl eqt45 (fun k => (CkL.cons (by decide) (run_part1 ty9 rfl) (fun b w => MapKept.run_checkKey un9 (k := Gk.str k.Part) trivial b 9998) (CkL.cons (by decide) (run_part1 ty9 rfl) (fun b w => MapKept.run_checkKey un9 (k := Gk.str k.Pin) trivial b 9998) CkL.nil))) (fun k x hx => by
  have hx : x ∈ [Sc.toV k.Part, Sc.toV k.Pin] := hx
  simp only [List.mem_cons, List.not_mem_nil, or_false] at hx
  rcases hx with rfl | rfl
  · exact MapKept.sameBits_self (d := .string) (k := Gk.str k.Part) trivial _
  · exact MapKept.sameBits_self (d := .string) (k := Gk.str k.Pin) trivial _)
theorem mt82 : MapT Tryd.prog 82 45 4 Pin Bool (false : Bool) := ⟨by kernel_rfl, key45, zero_of (Z := (.bool false)) (by kernel_rfl) (fun M => ⟨_, rfl, rfl⟩)⟩
theorem fn37 : Fnc Tryd.prog 37 := ⟨fun _ _ => run_callFunc Tryd.func37 (by kernel_rfl) rfl⟩
theorem fn36 : Fnc Tryd.prog 36 := ⟨fun _ _ => run_callFunc Tryd.func36 (by kernel_rfl) rfl⟩
theorem fa39_2 : FAt Tryd.prog 39 2 2 := ⟨fun _ _ => by kernel_rfl⟩
theorem ty27 : TyA Tryd.prog 27 false 1 := ⟨fun _ => by kernel_rfl, fun _ => by kernel_rfl⟩
theorem fn14 : Fnc Tryd.prog 14 := ⟨fun _ _ => run_callFunc Tryd.func14 (by kernel_rfl) rfl⟩
theorem st26 : StT Tryd.prog 26 [(0, 1), (1, 1)] #[(.slice none 0 0), (.slice none 0 0)] := StT.of Tryd.underlying26 (z := (.agg #[(.slice none 0 0), (.slice none 0 0)])) (fun _ => by kernel_rfl) (fun _ => by kernel_rfl)
theorem fn40 : Fnc Tryd.prog 40 := ⟨fun _ _ => run_callFunc Tryd.func40 (by kernel_rfl) rfl⟩
theorem fn39 : Fnc Tryd.prog 39 := ⟨fun _ _ => run_callFunc Tryd.func39 (by kernel_rfl) rfl⟩
theorem fn17 : Fnc Tryd.prog 17 := ⟨fun _ _ => run_callFunc Tryd.func17 (by kernel_rfl) rfl⟩
theorem zc26 : ZeC Tryd.prog 26 [(.slice none 0 0), (.slice none 0 0)] := ⟨(.agg #[(.slice none 0 0), (.slice none 0 0)]), fun _ => by kernel_rfl, rfl⟩
theorem el23 : ElT Tryd.prog 23 36 2 32 := ElT.of (z := (.agg #[(.string ⟨#[]⟩), (.string ⟨#[]⟩)])) (by kernel_rfl) (by kernel_rfl) rfl (by decide)
theorem fn58 : Fnc Tryd.prog 58 := ⟨fun _ _ => run_callFunc Tryd.func58 (by kernel_rfl) rfl⟩
theorem el24 : ElT Tryd.prog 24 39 3 64 := ElT.of (z := (.agg #[(.string ⟨#[]⟩), (.slice none 0 0), (.slice none 0 0)])) (by kernel_rfl) (by kernel_rfl) rfl (by decide)
theorem fn59 : Fnc Tryd.prog 59 := ⟨fun _ _ => run_callFunc Tryd.func59 (by kernel_rfl) rfl⟩
theorem el37 : ElT Tryd.prog 37 45 2 32 := ElT.of (z := (.agg #[(.string ⟨#[]⟩), (.string ⟨#[]⟩)])) (by kernel_rfl) (by kernel_rfl) rfl (by decide)
theorem fn60 : Fnc Tryd.prog 60 := ⟨fun _ _ => run_callFunc Tryd.func60 (by kernel_rfl) rfl⟩
theorem fn27 : Fnc Tryd.prog 27 := ⟨fun _ _ => run_callFunc Tryd.func27 (by kernel_rfl) rfl⟩
instance flat_Pin : Flat Pin := ⟨fun {M M' cs x} h => Flat.fl (α := Str × Str) (x := (x.Part, x.Pin)) h⟩
theorem fn28 : Fnc Tryd.prog 28 := ⟨fun _ _ => run_callFunc Tryd.func28 (by kernel_rfl) rfl⟩
theorem zd39 : ZeD Tryd.prog 39 (⟨⟨[]⟩, [], []⟩ : Net) := ZeD.of (Z := (.agg #[(.string ⟨#[]⟩), (.slice none 0 0), (.slice none 0 0)])) (by kernel_rfl) (fun M => (z_Net M))
theorem del30_ok {α : Type} [GT α] {z0 : α} {bytes : Nat} (sl : SlT Tryd.prog 24 39 (GT.sz α)) (el : ElT Tryd.prog 24 39 (GT.sz α) bytes) (zd : ZeD Tryd.prog 39 z0) {E w : World} {Γ : List HP} {v0 : Value} {p0 l1 : List α} {p1 p2 : Int}
    (hw : Holds E w (own 39 v0 p0 :: Γ)) (hb : gDelAt p0 p1 p2 = some l1) : Calls Tryd.prog 30 [v0, vi p1, vi p2].toArray w (Ret (fun v w => Holds E w (own 39 v l1 :: Γ))) := by
 have un := sl.und
 unfold gDelAt at hb
 split at hb
 case isFalse => cases hb
 rename_i hc
 obtain ⟨c1, c2, c3⟩ := hc
 have hb := oi hb
 refine enter Tryd.func30 rfl rfl (Nat.le_of_ble_eq_true rfl) ?_
 refine RC.sr ?_
 refine as_ (.slice none 0 0) rfl rfl ?_
 refine RL.ns ?_
 refine mv v0 rfl rfl ?_
 refine mv (vi p1) rfl rfl ?_
 refine mv (vi p2) rfl rfl ?_
 refine mv v0 rfl rfl ?_
 refine RL.len_own (i := 0) (l := p0) trivial rfl hw rfl rfl un ?_
 refine RL.cut3 (i := 0) (l := p0) trivial rfl hw rfl rfl sl rfl rfl rfl c1 c2 c3 fun u => ?_
 refine RL.nq ?_
 refine RC.sr ?_
 refine mv (vi p1) rfl rfl ?_
 refine mv (vi p2) rfl rfl ?_
 refine ic p1 p2 rfl rfl rfl rfl ?_
 refine RL.nt ?_
 refine RC.cond (b := (p1 == p2)) rfl (fun hc => ?_) (fun hc => ?_)
 ·have e : p1 = p2 := by simpa using hc
  subst e
  rw [List.take_append_drop] at hb
  subst hb
  refine RC.sr ?_
  refine mv v0 rfl rfl ?_
  refine as_ v0 rfl rfl ?_
  refine RL.nt ?_
  refine RC.rt ?_
  exact fin1 rfl rfl hw
 refine RC.sx ?_
 refine mv v0 rfl rfl ?_
 refine RL.len_own (i := 0) (l := p0) trivial rfl hw rfl rfl un ?_
 refine as_ (vi ((p0.length : Nat) : Int)) rfl rfl ?_
 refine RL.nt ?_
 obtain ⟨q1, hq1⟩ : ∃ q1, dself p0 ((Int.toNat p1 : Nat) : Int) ((Int.toNat p2 : Nat) : Int) = some q1 := by
  unfold dself
  rw [if_pos ⟨by omega, by omega, by omega⟩]
  exact ⟨_, rfl⟩
 have hql : ∀ b : Bool, (bif b then q1 else p0).length = p0.length := fun b => by
  obtain ⟨_, _, _, _, h⟩ := dself_some hq1
  cases b
  · rfl
  · exact h
 refine RC.seq (RC.drw mixed rfl (fun (D : Nat → Bool) (σ : Nat → Value) (w : World) => doneV D σ [(0, 20, v0), (1, 21, vi p1), (2, 22, vwp v0 (Int.toNat p1)), (3, 23, v0), (4, 24, vi p2), (5, 25, vw v0 (Int.toNat p2) (GT.sz α)), (6, 26, vwp v0 (Int.toNat p1 + (p0.length - Int.toNat p2)))] ∧ agree σ [(1, vi p1), (2, vi p2), (7, vi ((p0.length : Nat) : Int))] ∧ (D 7 = false → σ 0 = v0) ∧ (D 7 = true → σ 0 = vwp v0 (Int.toNat p1 + (p0.length - Int.toNat p2))) ∧ Holds E w (own 39 v0 (bif D 6 then q1 else p0) :: Γ)) ?_ ⟨?_, ?_, ?_, ?_, ?_, ?_, ?_, ?_, trivial⟩ ?_)
 ·exact ⟨doneV.none, ⟨rfl, rfl, rfl, trivial⟩, fun _ => rfl, fun h => (by cases h), hw.drew⟩
 ·rintro D σ w hD hdep hcl ⟨hv, ha, h70, h71, hw⟩
  have h7 : D 7 = false := by
   cases h : D 7 with
   | false => rfl
   | true => exact absurd ((hcl 7 _ rfl h).2.2.1 rfl) (by rw [hD]; decide)
  refine mv v0 rfl (h70 h7) ?_
  refine RL.nil ?_
  exact ⟨rfl, hv.put 0 rfl rfl, ha.up rfl, fun h => h70 h, fun h => h71 h, hw⟩
 ·rintro D σ w hD hdep hcl ⟨hv, ha, h70, h71, hw⟩
  refine mv (vi p1) rfl (ha.at 0 rfl) ?_
  refine RL.nil ?_
  exact ⟨rfl, hv.put 1 rfl rfl, ha.up rfl, fun h => h70 h, fun h => h71 h, hw⟩
 ·rintro D σ w hD hdep hcl ⟨hv, ha, h70, h71, hw⟩
  refine RL.pre (i := 0) trivial rfl hw (hv.at 0 rfl (hdep.1 rfl)) rfl sl (congrArg some (hv.at 1 rfl (hdep.2.1 rfl))) c1 (by rw [hql]; omega) ?_
  refine RL.nil ?_
  exact ⟨rfl, hv.put 2 rfl rfl, ha.up rfl, fun h => h70 h, fun h => h71 h, hw⟩
 ·rintro D σ w hD hdep hcl ⟨hv, ha, h70, h71, hw⟩
  have h7 : D 7 = false := by
   cases h : D 7 with
   | false => rfl
   | true => exact absurd ((hcl 7 _ rfl h).2.2.2.2.2.1 rfl) (by rw [hD]; decide)
  refine mv v0 rfl (h70 h7) ?_
  refine RL.nil ?_
  exact ⟨rfl, hv.put 3 rfl rfl, ha.up rfl, fun h => h70 h, fun h => h71 h, hw⟩
 ·rintro D σ w hD hdep hcl ⟨hv, ha, h70, h71, hw⟩
  refine mv (vi p2) rfl (ha.at 1 rfl) ?_
  refine RL.nil ?_
  exact ⟨rfl, hv.put 4 rfl rfl, ha.up rfl, fun h => h70 h, fun h => h71 h, hw⟩
 ·rintro D σ w hD hdep hcl ⟨hv, ha, h70, h71, hw⟩
  refine RL.suf (i := 0) trivial rfl hw (hv.at 3 rfl (hdep.1 rfl)) rfl sl (congrArg some (hv.at 4 rfl (hdep.2.1 rfl))) (by omega) (by rw [hql]; omega) ?_
  refine RL.nil ?_
  exact ⟨rfl, hv.put 5 rfl rfl, ha.up rfl, fun h => h70 h, fun h => h71 h, hw⟩
 ·rintro D σ w hD hdep hcl ⟨hv, ha, h70, h71, hw⟩
  rw [hD, cond_false] at hw
  refine RL.app_self (i := 0) trivial rfl hw (hv.at 2 rfl (hdep.1 rfl)) (hv.at 5 rfl (hdep.2.1 rfl)) rfl el hq1 fun w hw => ?_
  refine RL.nil ?_
  exact ⟨rfl, hv.put 6 rfl rfl, ha.up rfl, fun h => h70 h, fun h => h71 h, hw⟩
 ·rintro D σ w hD hdep hcl ⟨hv, ha, h70, h71, hw⟩
  refine as_ (vwp v0 (Int.toNat p1 + (p0.length - Int.toNat p2))) rfl (hv.at 6 rfl (hdep.1 rfl)) ?_
  refine RL.nil ?_
  exact ⟨rfl, hv.up rfl, ha.up rfl, fun h => (by cases h), fun _ => rfl, hw⟩
 intro D σ w hall ⟨hv, ha, h70, h71, hw⟩
 have h0 := h71 (hall 7 (by decide))
 have h6 := hall 6 (by decide)
 rw [h6, cond_true] at hw
 obtain ⟨d1, d2, d3, d4, d5⟩ := dself_some hq1
 obtain ⟨τ, rfl⟩ := (ac h0 ha).ups
 refine thenQ_n ?_
 refine RC.sr ?_
 refine mv (vwp v0 (Int.toNat p1 + (p0.length - Int.toNat p2))) rfl rfl ?_
 refine mv (vwp v0 (Int.toNat p1 + (p0.length - Int.toNat p2))) rfl rfl ?_
 refine RL.len_pre (i := 0) (l := q1) trivial rfl hw rfl rfl un ?_
 refine mv (vi ((p0.length : Nat) : Int)) rfl rfl ?_
 refine RL.behind (i := 0) (l := q1) trivial rfl hw rfl rfl sl (by rw [d5]; omega) rfl (by rw [d5]; rfl) ?_
 refine RL.clear_vw (i := 0) trivial hw rfl rfl el zd (by rw [d5]; omega) fun w hw => ?_
 have hq : (q1.take (Int.toNat p1 + (p0.length - Int.toNat p2)) ++ List.replicate (q1.length - (Int.toNat p1 + (p0.length - Int.toNat p2))) z0).take (Int.toNat p1 + (p0.length - Int.toNat p2)) = l1 := by
  have e1 : (q1.take (Int.toNat p1 + (p0.length - Int.toNat p2))).length = (Int.toNat p1 + (p0.length - Int.toNat p2)) := by rw [List.length_take, d5]; omega
  rw [List.take_append_of_le_length (by omega), List.take_take, Nat.min_self, ← hb, d4]
  simp only [Int.toNat_natCast]
  rw [List.take_append_of_le_length (by rw [List.length_append, List.length_take, List.length_drop]; omega), List.take_of_length_le (by rw [List.length_append, List.length_take, List.length_drop]; omega)]
 have hw := own_pre (k := (Int.toNat p1 + (p0.length - Int.toNat p2))) (l := q1.take (Int.toNat p1 + (p0.length - Int.toNat p2)) ++ List.replicate (q1.length - (Int.toNat p1 + (p0.length - Int.toNat p2))) z0) (i := 0) hw rfl (by rw [List.length_append, List.length_take, List.length_replicate, d5]; omega)
 refine RL.ns ?_
 refine mv (vwp v0 (Int.toNat p1 + (p0.length - Int.toNat p2))) rfl rfl ?_
 refine as_ (vwp v0 (Int.toNat p1 + (p0.length - Int.toNat p2))) rfl rfl ?_
 refine RL.nt ?_
 refine RC.ret ?_
 refine fin1 rfl rfl ?_
 rw [hq] at hw
 exact hw
theorem fn30 : Fnc Tryd.prog 30 := ⟨fun _ _ => run_callFunc Tryd.func30 (by kernel_rfl) rfl⟩
theorem fn9 : Fnc Tryd.prog 9 := ⟨fun _ _ => run_callFunc Tryd.func9 (by kernel_rfl) rfl⟩
theorem st63 : StT Tryd.prog 63 [(0, 1), (1, 1), (2, 1)] #[(.string ⟨#[]⟩), (.int .i64 0), (.int .i64 0)] := StT.of Tryd.underlying63 (z := (.agg #[(.string ⟨#[]⟩), (.int .i64 0), (.int .i64 0)])) (fun _ => by kernel_rfl) (fun _ => by kernel_rfl)
theorem st66 : StT Tryd.prog 66 [(0, 1), (1, 1)] #[(.string ⟨#[]⟩), (.slice none 0 0)] := StT.of Tryd.underlying66 (z := (.agg #[(.string ⟨#[]⟩), (.slice none 0 0)])) (fun _ => by kernel_rfl) (fun _ => by kernel_rfl)
theorem st36 : StT Tryd.prog 36 [(0, 1), (1, 1)] #[(.string ⟨#[]⟩), (.string ⟨#[]⟩)] := StT.of Tryd.underlying36 (z := (.agg #[(.string ⟨#[]⟩), (.string ⟨#[]⟩)])) (fun _ => by kernel_rfl) (fun _ => by kernel_rfl)
theorem mt121 : MapT Tryd.prog 121 45 3 Pin Int (0 : Int) := ⟨by kernel_rfl, key45, zero_of (Z := (.int .i64 0)) (by kernel_rfl) (fun M => ⟨_, rfl, rfl⟩)⟩
theorem fn74 : Fnc Tryd.prog 74 := ⟨fun _ _ => run_callFunc Tryd.func74 (by kernel_rfl) rfl⟩
theorem st45 : StT Tryd.prog 45 [(0, 1), (1, 1)] #[(.string ⟨#[]⟩), (.string ⟨#[]⟩)] := StT.of Tryd.underlying45 (z := (.agg #[(.string ⟨#[]⟩), (.string ⟨#[]⟩)])) (fun _ => by kernel_rfl) (fun _ => by kernel_rfl)
theorem fn75 : Fnc Tryd.prog 75 := ⟨fun _ _ => run_callFunc Tryd.func75 (by kernel_rfl) rfl⟩
theorem fn46 : Fnc Tryd.prog 46 := ⟨fun _ _ => run_callFunc Tryd.func46 (by kernel_rfl) rfl⟩
theorem fn23 : Fnc Tryd.prog 23 := ⟨fun _ _ => run_callFunc Tryd.func23 (by kernel_rfl) rfl⟩
theorem fn6 : Fnc Tryd.prog 6 := ⟨fun _ _ => run_callFunc Tryd.func6 (by kernel_rfl) rfl⟩
theorem fn62 : Fnc Tryd.prog 62 := ⟨fun _ _ => run_callFunc Tryd.func62 (by kernel_rfl) rfl⟩
theorem zd45 : ZeD Tryd.prog 45 (⟨⟨[]⟩, ⟨[]⟩⟩ : Pin) := ZeD.of (Z := (.agg #[(.string ⟨#[]⟩), (.string ⟨#[]⟩)])) (by kernel_rfl) (fun M => (z_Pin M))
theorem ins63_ok {α : Type} [GT α] {z0 : α} {bytes : Nat} (sl : SlT Tryd.prog 37 45 (GT.sz α)) (el : ElT Tryd.prog 37 45 (GT.sz α) bytes) (zd : ZeD Tryd.prog 45 z0) {E w : World} {Γ : List HP} {v0 v2 : Value} {p0 p2 l1 : List α} {p1 : Int}
    (hw : Holds E w (own 45 v0 p0 :: own 45 v2 p2 :: Γ)) (hb : gIns bytes p0 p1 p2 = some l1) : Calls Tryd.prog 63 [v0, vi p1, v2].toArray w (Ret (fun v w => Holds E w (own 45 v l1 :: Γ))) := by
 have un := sl.und
 have ui : Tryd.prog.underlying 3 = some (.int .i64) := by kernel_rfl
 unfold gIns at hb
 split at hb
 case isFalse => cases hb
 rename_i hc
 obtain ⟨c1, c2, c3, c4⟩ := hc
 have hb := oi hb
 have hle : p0.length + p2.length ≤ 140737488355328 := Nat.le_trans (Nat.le_mul_of_pos_right _ el.pos) c4
 obtain ⟨xb, xo, xc, rfl, hv1, hv2⟩ := own_row (i := 1) hw rfl (by omega)
 obtain ⟨a, cap, rfl, hcap⟩ := own_cap (i := 0) hw rfl
 refine enter Tryd.func63 rfl rfl (Nat.le_of_ble_eq_true rfl) ?_
 refine RC.sr ?_
 refine as_ (.slice none 0 0) rfl rfl ?_
 refine RL.ns ?_
 refine mv (.slice a p0.length cap) rfl rfl ?_
 refine mv (vi p1) rfl rfl ?_
 refine RL.suf_any trivial rfl rfl sl rfl c1 c2 hcap fun u => ?_
 refine RL.ns ?_
 refine mv (.slice (some ⟨xb, xo, none⟩) p2.length xc) rfl rfl ?_
 refine RL.len_own (i := 1) (l := p2) trivial rfl hw rfl rfl un ?_
 refine as_ (vi ((p2.length : Nat) : Int)) rfl rfl ?_
 refine RL.nq ?_
 refine RC.sr ?_
 refine mv (vi ((p2.length : Nat) : Int)) rfl rfl ?_
 refine ic ((p2.length : Nat) : Int) 0 rfl rfl rfl rfl ?_
 refine RL.nt ?_
 refine RC.cond (b := (((p2.length : Nat) : Int) == 0)) rfl (fun hc => ?_) (fun hc => ?_)
 ·exfalso
  rw [c3] at hc
  exact absurd hc (by decide)
 refine RC.sx ?_
 refine mv (.slice a p0.length cap) rfl rfl ?_
 refine RL.len_own (i := 0) (l := p0) trivial rfl hw rfl rfl un ?_
 refine as_ (vi ((p0.length : Nat) : Int)) rfl rfl ?_
 refine RL.nq ?_
 refine RC.sr ?_
 refine mv (vi p1) rfl rfl ?_
 refine mv (vi ((p0.length : Nat) : Int)) rfl rfl ?_
 refine ic p1 ((p0.length : Nat) : Int) rfl rfl rfl rfl ?_
 refine RL.nt ?_
 refine RC.cond (b := (p1 == ((p0.length : Nat) : Int))) rfl (fun hc => ?_) (fun hc => ?_)
 ·have e : p1 = ((p0.length : Nat) : Int) := by simpa using hc
  have hq : p0 ++ p2 = l1 := by rw [← hb, e, Int.toNat_natCast, List.take_length, List.drop_length, List.append_nil]
  have hw := hw.freeze (i := 1) rfl
  refine RC.sr ?_
  refine mv (.slice a p0.length cap) rfl rfl ?_
  refine mv (.slice (some ⟨xb, xo, none⟩) p2.length xc) rfl rfl ?_
  refine RL.app (i := 0) (j := 1) (l' := l1) trivial rfl hw rfl rfl rfl rfl el (by unfold app; rw [if_pos c4, hq]) fun v w hw => ?_
  refine as_ v rfl rfl ?_
  refine RL.nt ?_
  refine RC.rt ?_
  exact fin1 rfl rfl (hw.pick 2 [0] (new := [own 45 v l1]) rfl rfl (by decide) (by decide))
 have hlt : p1 < ((p0.length : Nat) : Int) := by
  have : ¬ p1 = ((p0.length : Nat) : Int) := by simpa using hc
  omega
 obtain ⟨b, o, cap', hv, _, hcm⟩ := own_row (i := 0) hw rfl (by omega)
 injection hv with q1 q2 q3
 subst q1; subst q3
 have e1 : IntKind.wrap .i64 (((p0.length : Nat) : Int) + ((p2.length : Nat) : Int)) = ((p0.length + 1 : Nat) : Int) := by
  rw [c3, wrap_in (by omega) (by omega)]; omega
 refine RC.ss ?_
 refine RC.sr ?_
 refine mv (vi ((p0.length : Nat) : Int)) rfl rfl ?_
 refine mv (vi ((p2.length : Nat) : Int)) rfl rfl ?_
 refine RL.iar (a := ((p0.length : Nat) : Int)) (b := ((p2.length : Nat) : Int)) trivial rfl rfl rfl rfl ?_
 refine mv (.slice (some ⟨b, o, none⟩) p0.length cap) rfl rfl ?_
 refine RL.cap_l trivial rfl rfl un ?_
 refine ic (IntKind.wrap .i64 (((p0.length : Nat) : Int) + ((p2.length : Nat) : Int))) ((cap : Nat) : Int) rfl rfl rfl rfl ?_
 refine RL.nt ?_
 refine RC.cond (b := decide (IntKind.wrap .i64 (((p0.length : Nat) : Int) + ((p2.length : Nat) : Int)) > ((cap : Nat) : Int))) rfl (fun hc => ?_) (fun hc => ?_)
 ·have hg : cap < p0.length + 1 := by
   have := of_decide_eq_true hc
   rw [e1] at this; omega
  have e2 : IntKind.wrap .i64 (IntKind.wrap .i64 (((p0.length : Nat) : Int) + ((p2.length : Nat) : Int)) - p1) = ((p0.length + 1 - Int.toNat p1 : Nat) : Int) := by
   rw [e1, wrap_in (by omega) (by omega)]; omega
  have e3 : IntKind.wrap .i64 (p1 + ((p2.length : Nat) : Int)) = (((Int.toNat p1) + 1 : Nat) : Int) := by
   rw [c3, wrap_in (by omega) (by omega)]; omega
  have hs : (Int.toNat p1) + (p0.length + 1 - Int.toNat p1) = p0.length + 1 := by omega
  refine RC.sr ?_
  refine mv (.slice (some ⟨b, o, none⟩) p0.length cap) rfl rfl ?_
  refine mv (vi p1) rfl rfl ?_
  refine RL.lpre trivial rfl rfl sl rfl c1 (by omega) ?_
  refine mv (vi ((p0.length : Nat) : Int)) rfl rfl ?_
  refine mv (vi ((p2.length : Nat) : Int)) rfl rfl ?_
  refine RL.iar (a := ((p0.length : Nat) : Int)) (b := ((p2.length : Nat) : Int)) trivial rfl rfl rfl rfl ?_
  refine mv (vi p1) rfl rfl ?_
  refine RL.iar (a := IntKind.wrap .i64 (((p0.length : Nat) : Int) + ((p2.length : Nat) : Int))) (b := p1) trivial rfl rfl rfl rfl ?_
  refine RL.appz_grow (i := 0) (l := p0) (m := p0.length + 1 - Int.toNat p1) (i0 := Int.toNat p1) trivial rfl hw rfl (congrArg (Value.int .i64) e2) rfl el ui zd (by omega) (by omega) (by omega) (by rw [hs]; rw [c3] at c4; exact c4) fun b2 c2' w hc2 hw => ?_
  rw [hs] at hw hc2 ⊢
  have hl2 : (p0.take (Int.toNat p1) ++ List.replicate (p0.length + 1 - Int.toNat p1) z0).length = p0.length + 1 := by rw [List.length_append, List.length_take, List.length_replicate]; omega
  refine as_ (.slice (some ⟨b2, 0, none⟩) (p0.length + 1) c2') rfl rfl ?_
  refine RL.ns ?_
  refine mv (.slice (some ⟨b2, 0, none⟩) (p0.length + 1) c2') rfl rfl ?_
  refine mv (vi p1) rfl rfl ?_
  refine RL.lsuf trivial rfl rfl sl rfl c1 (by omega) (by omega) (by omega) ?_
  refine mv (.slice (some ⟨xb, xo, none⟩) p2.length xc) rfl rfl ?_
  refine RL.copy_at (i := 0) (k := Int.toNat p1) (ys := p2) (l := (p0.take (Int.toNat p1) ++ List.replicate (p0.length + 1 - Int.toNat p1) z0)) trivial rfl hw rfl rfl (by rw [hl2]; rfl) el (by rw [c3]; simp only [Nat.min_def]; split <;> omega) (by rw [hl2]; omega) (by rw [c3]; omega) (fun M hs gd => src_own0 (i := 2) gd rfl) fun w hw => ?_
  have hmx : Max.max (p0.take (Int.toNat p1) ++ List.replicate (p0.length + 1 - Int.toNat p1) z0).length ((Int.toNat p1) + p2.length) = p0.length + 1 := by rw [hl2, c3]; omega
  rw [hmx] at hw
  have hl3 : ((p0.take (Int.toNat p1) ++ List.replicate (p0.length + 1 - Int.toNat p1) z0).take (Int.toNat p1) ++ p2 ++ (p0.take (Int.toNat p1) ++ List.replicate (p0.length + 1 - Int.toNat p1) z0).drop (Int.toNat p1 + p2.length)).length = p0.length + 1 := by simp only [List.length_append, List.length_take, List.length_drop, hl2, c3]; omega
  have hdl : (p0.drop (Int.toNat p1)).length = p0.length - Int.toNat p1 := List.length_drop
  refine RL.nt ?_
  refine RC.seq (RC.drw mixed rfl (fun (D : Nat → Bool) (σ : Nat → Value) (w : World) => doneV D σ [(0, 46, (.slice (some ⟨b2, 0, none⟩) (p0.length + 1) c2')), (1, 47, vi p1), (2, 48, vi ((p2.length : Nat) : Int)), (3, 49, vi (IntKind.wrap .i64 (p1 + ((p2.length : Nat) : Int)))), (4, 50, .slice (some ⟨b2, 0 + ((Int.toNat p1) + 1) * GT.sz α, none⟩) (p0.length + 1 - ((Int.toNat p1) + 1)) (c2' - ((Int.toNat p1) + 1))), (5, 51, (.slice (some ⟨b, o, none⟩) p0.length cap)), (6, 52, vi p1), (7, 53, .slice (some ⟨b, o + (Int.toNat p1) * GT.sz α, none⟩) (p0.length - Int.toNat p1) (cap - Int.toNat p1))] ∧ agree σ [(0, (.slice (some ⟨b, o, none⟩) p0.length cap)), (1, vi p1), (7, vi ((p2.length : Nat) : Int)), (9, (.slice (some ⟨b2, 0, none⟩) (p0.length + 1) c2'))] ∧ Holds E w (own 45 (.slice (some ⟨b2, 0, none⟩) (p0.length + 1) c2') (bif D 8 then (((p0.take (Int.toNat p1) ++ List.replicate (p0.length + 1 - Int.toNat p1) z0).take (Int.toNat p1) ++ p2 ++ (p0.take (Int.toNat p1) ++ List.replicate (p0.length + 1 - Int.toNat p1) z0).drop (Int.toNat p1 + p2.length)).take (Int.toNat p1 + 1) ++ p0.drop (Int.toNat p1) ++ ((p0.take (Int.toNat p1) ++ List.replicate (p0.length + 1 - Int.toNat p1) z0).take (Int.toNat p1) ++ p2 ++ (p0.take (Int.toNat p1) ++ List.replicate (p0.length + 1 - Int.toNat p1) z0).drop (Int.toNat p1 + p2.length)).drop (Int.toNat p1 + 1 + (p0.drop (Int.toNat p1)).length)) else ((p0.take (Int.toNat p1) ++ List.replicate (p0.length + 1 - Int.toNat p1) z0).take (Int.toNat p1) ++ p2 ++ (p0.take (Int.toNat p1) ++ List.replicate (p0.length + 1 - Int.toNat p1) z0).drop (Int.toNat p1 + p2.length))) :: own 45 (.slice (some ⟨b, o, none⟩) p0.length cap) p0 :: own 45 (.slice (some ⟨xb, xo, none⟩) p2.length xc) p2 :: Γ)) ?_ ⟨?_, ?_, ?_, ?_, ?_, ?_, ?_, ?_, ?_, trivial⟩ ?_)
  ·exact ⟨doneV.none, ⟨rfl, rfl, rfl, rfl, trivial⟩, hw.drew⟩
  ·rintro D σ w hD hdep hcl ⟨hv, ha, hw⟩
   refine mv (.slice (some ⟨b2, 0, none⟩) (p0.length + 1) c2') rfl (ha.at 3 rfl) ?_
   refine RL.nil ?_
   exact ⟨rfl, hv.put 0 rfl rfl, ha.up rfl, hw⟩
  ·rintro D σ w hD hdep hcl ⟨hv, ha, hw⟩
   refine mv (vi p1) rfl (ha.at 1 rfl) ?_
   refine RL.nil ?_
   exact ⟨rfl, hv.put 1 rfl rfl, ha.up rfl, hw⟩
  ·rintro D σ w hD hdep hcl ⟨hv, ha, hw⟩
   refine mv (vi ((p2.length : Nat) : Int)) rfl (ha.at 2 rfl) ?_
   refine RL.nil ?_
   exact ⟨rfl, hv.put 2 rfl rfl, ha.up rfl, hw⟩
  ·rintro D σ w hD hdep hcl ⟨hv, ha, hw⟩
   refine RL.iar (a := p1) (b := ((p2.length : Nat) : Int)) trivial rfl (hv.at 1 rfl (hdep.1 rfl)) (hv.at 2 rfl (hdep.2.1 rfl)) rfl ?_
   refine RL.nil ?_
   exact ⟨rfl, hv.put 3 rfl rfl, ha.up rfl, hw⟩
  ·rintro D σ w hD hdep hcl ⟨hv, ha, hw⟩
   refine RL.lsuf (lo := (((Int.toNat p1) + 1 : Nat) : Int)) trivial rfl (hv.at 0 rfl (hdep.1 rfl)) sl (congrArg some ((hv.at 3 rfl (hdep.2.1 rfl)).trans (congrArg (Value.int .i64) e3))) (by omega) (by omega) (by omega) (by omega) ?_
   rw [Int.toNat_natCast]
   refine RL.nil ?_
   exact ⟨rfl, hv.put 4 rfl rfl, ha.up rfl, hw⟩
  ·rintro D σ w hD hdep hcl ⟨hv, ha, hw⟩
   refine mv (.slice (some ⟨b, o, none⟩) p0.length cap) rfl (ha.at 0 rfl) ?_
   refine RL.nil ?_
   exact ⟨rfl, hv.put 5 rfl rfl, ha.up rfl, hw⟩
  ·rintro D σ w hD hdep hcl ⟨hv, ha, hw⟩
   refine mv (vi p1) rfl (ha.at 1 rfl) ?_
   refine RL.nil ?_
   exact ⟨rfl, hv.put 6 rfl rfl, ha.up rfl, hw⟩
  ·rintro D σ w hD hdep hcl ⟨hv, ha, hw⟩
   refine RL.lsuf trivial rfl (hv.at 5 rfl (hdep.1 rfl)) sl (congrArg some (hv.at 6 rfl (hdep.2.1 rfl))) c1 (by omega) (by omega) (by omega) ?_
   refine RL.nil ?_
   exact ⟨rfl, hv.put 7 rfl rfl, ha.up rfl, hw⟩
  ·rintro D σ w hD hdep hcl ⟨hv, ha, hw⟩
   rw [hD, cond_false] at hw
   refine RL.copy_at (i := 0) (k := (Int.toNat p1) + 1) (ys := p0.drop (Int.toNat p1)) (l := ((p0.take (Int.toNat p1) ++ List.replicate (p0.length + 1 - Int.toNat p1) z0).take (Int.toNat p1) ++ p2 ++ (p0.take (Int.toNat p1) ++ List.replicate (p0.length + 1 - Int.toNat p1) z0).drop (Int.toNat p1 + p2.length))) trivial rfl hw (hv.at 4 rfl (hdep.1 rfl)) (hv.at 7 rfl (hdep.2.1 rfl)) (by rw [hl3]; rfl) el (by rw [hdl]; simp only [Nat.min_def]; split <;> omega) (by rw [hl3]; omega) (by rw [hdl]; omega) (fun M hs gd => src_own (i := 1) gd rfl (by omega)) fun w hw => ?_
   have hmx : Max.max ((p0.take (Int.toNat p1) ++ List.replicate (p0.length + 1 - Int.toNat p1) z0).take (Int.toNat p1) ++ p2 ++ (p0.take (Int.toNat p1) ++ List.replicate (p0.length + 1 - Int.toNat p1) z0).drop (Int.toNat p1 + p2.length)).length ((Int.toNat p1) + 1 + (p0.drop (Int.toNat p1)).length) = p0.length + 1 := by rw [hl3, hdl]; omega
   rw [hmx] at hw
   refine RL.nil ?_
   exact ⟨rfl, hv.up rfl, ha.up rfl, hw⟩
  intro D σ w hall ⟨hv, ha, hw⟩
  rw [hall 8 (by decide), cond_true] at hw
  obtain ⟨τ, rfl⟩ := ha.ups
  refine thenQ_n ?_
  refine RC.sr ?_
  refine mv (.slice (some ⟨b2, 0, none⟩) (p0.length + 1) c2') rfl rfl ?_
  refine as_ (.slice (some ⟨b2, 0, none⟩) (p0.length + 1) c2') rfl rfl ?_
  refine RL.nt ?_
  refine RC.rt ?_
  refine fin1 rfl rfl ?_
  have hq : (((p0.take (Int.toNat p1) ++ List.replicate (p0.length + 1 - Int.toNat p1) z0).take (Int.toNat p1) ++ p2 ++ (p0.take (Int.toNat p1) ++ List.replicate (p0.length + 1 - Int.toNat p1) z0).drop (Int.toNat p1 + p2.length)).take (Int.toNat p1 + 1) ++ p0.drop (Int.toNat p1) ++ ((p0.take (Int.toNat p1) ++ List.replicate (p0.length + 1 - Int.toNat p1) z0).take (Int.toNat p1) ++ p2 ++ (p0.take (Int.toNat p1) ++ List.replicate (p0.length + 1 - Int.toNat p1) z0).drop (Int.toNat p1 + p2.length)).drop (Int.toNat p1 + 1 + (p0.drop (Int.toNat p1)).length)) = l1 := by
   rw [← hb]
   exact ins_shape p0 p2 _ (Int.toNat p1) z0 c3 (by omega) (Nat.le_refl _)
  rw [hq] at hw
  exact hw.pick 3 [0] (new := [own 45 (.slice (some ⟨b2, 0, none⟩) (p0.length + 1) c2') l1]) rfl rfl (by decide) (by decide)
 have hg : p0.length + 1 ≤ cap := by
  have := of_decide_eq_false hc
  rw [e1] at this; omega
 have e3 : IntKind.wrap .i64 (p1 + ((p2.length : Nat) : Int)) = (((Int.toNat p1) + 1 : Nat) : Int) := by
  rw [c3, wrap_in (by omega) (by omega)]; omega
 refine RC.sx ?_
 refine mv (.slice (some ⟨b, o, none⟩) p0.length cap) rfl rfl ?_
 refine mv (vi ((p0.length : Nat) : Int)) rfl rfl ?_
 refine mv (vi ((p2.length : Nat) : Int)) rfl rfl ?_
 refine RL.iar (a := ((p0.length : Nat) : Int)) (b := ((p2.length : Nat) : Int)) trivial rfl rfl rfl rfl ?_
 refine RL.lpre (hi := ((p0.length + 1 : Nat) : Int)) trivial rfl rfl sl (congrArg (fun x => some (Value.int .i64 x)) e1) (by omega) (by omega) ?_
 rw [Int.toNat_natCast]
 refine as_ (.slice (some ⟨b, o, none⟩) (p0.length + 1) cap) rfl rfl ?_
 refine RL.nq ?_
 refine RC.sr ?_
 refine mv (.slice (some ⟨xb, xo, none⟩) p2.length xc) rfl rfl ?_
 refine mv (.slice (some ⟨b, o, none⟩) (p0.length + 1) cap) rfl rfl ?_
 refine mv (vi p1) rfl rfl ?_
 refine mv (vi ((p2.length : Nat) : Int)) rfl rfl ?_
 refine RL.iar (a := p1) (b := ((p2.length : Nat) : Int)) trivial rfl rfl rfl rfl ?_
 refine RL.lsuf (lo := (((Int.toNat p1) + 1 : Nat) : Int)) trivial rfl rfl sl (congrArg (fun x => some (Value.int .i64 x)) e3) (by omega) (by omega) (by omega) (by omega) ?_
 rw [Int.toNat_natCast]
 refine RL.xcall (v := Value.bool false) trivial rfl [(.slice (some ⟨xb, xo, none⟩) p2.length xc), .slice (some ⟨b, o + ((Int.toNat p1) + 1) * GT.sz α, none⟩) (p0.length + 1 - ((Int.toNat p1) + 1)) (cap - ((Int.toNat p1) + 1))] rfl (xcall Tryd.func90 (by kernel_rfl) (by kernel_rfl) (by kernel_rfl) (e := Extern.SlicesOverlaps.overlaps #[37, 37] #[4]) (by kernel_rfl) (run_apart (i := 1) (j := 0) sl hw rfl rfl (by decide) (by omega) (by omega))) ?_
 refine RL.not (b := false) trivial rfl rfl ?_
 refine RL.nt ?_
 refine RC.cond_t rfl ?_
 have hdl : (p0.drop (Int.toNat p1)).length = p0.length - Int.toNat p1 := List.length_drop
 refine RC.seq (RC.drw mixed rfl (fun (D : Nat → Bool) (σ : Nat → Value) (w : World) => doneV D σ [(0, 69, (.slice (some ⟨b, o, none⟩) (p0.length + 1) cap)), (1, 70, vi p1), (2, 71, vi ((p2.length : Nat) : Int)), (3, 72, vi (IntKind.wrap .i64 (p1 + ((p2.length : Nat) : Int)))), (4, 73, .slice (some ⟨b, o + ((Int.toNat p1) + 1) * GT.sz α, none⟩) (p0.length + 1 - ((Int.toNat p1) + 1)) (cap - ((Int.toNat p1) + 1))), (5, 74, (.slice (some ⟨b, o, none⟩) (p0.length + 1) cap)), (6, 75, vi p1), (7, 76, .slice (some ⟨b, o + (Int.toNat p1) * GT.sz α, none⟩) (p0.length + 1 - Int.toNat p1) (cap - Int.toNat p1))] ∧ agree σ [(0, (.slice (some ⟨b, o, none⟩) (p0.length + 1) cap)), (1, vi p1), (2, (.slice (some ⟨xb, xo, none⟩) p2.length xc)), (7, vi ((p2.length : Nat) : Int))] ∧ Holds E w ((bif D 8 then own 45 (.slice (some ⟨b, o, none⟩) (p0.length + 1) cap) (p0.take (Int.toNat p1 + 1) ++ p0.drop (Int.toNat p1) ++ p0.drop (Int.toNat p1 + 1 + (p0.drop (Int.toNat p1)).length)) else own 45 (.slice (some ⟨b, o, none⟩) p0.length cap) p0) :: own 45 (.slice (some ⟨xb, xo, none⟩) p2.length xc) p2 :: Γ)) ?_ ⟨?_, ?_, ?_, ?_, ?_, ?_, ?_, ?_, ?_, trivial⟩ ?_)
 ·exact ⟨doneV.none, ⟨rfl, rfl, rfl, rfl, trivial⟩, hw.drew⟩
 ·rintro D σ w hD hdep hcl ⟨hv, ha, hw⟩
  refine mv (.slice (some ⟨b, o, none⟩) (p0.length + 1) cap) rfl (ha.at 0 rfl) ?_
  refine RL.nil ?_
  exact ⟨rfl, hv.put 0 rfl rfl, ha.up rfl, hw⟩
 ·rintro D σ w hD hdep hcl ⟨hv, ha, hw⟩
  refine mv (vi p1) rfl (ha.at 1 rfl) ?_
  refine RL.nil ?_
  exact ⟨rfl, hv.put 1 rfl rfl, ha.up rfl, hw⟩
 ·rintro D σ w hD hdep hcl ⟨hv, ha, hw⟩
  refine mv (vi ((p2.length : Nat) : Int)) rfl (ha.at 3 rfl) ?_
  refine RL.nil ?_
  exact ⟨rfl, hv.put 2 rfl rfl, ha.up rfl, hw⟩
 ·rintro D σ w hD hdep hcl ⟨hv, ha, hw⟩
  refine RL.iar (a := p1) (b := ((p2.length : Nat) : Int)) trivial rfl (hv.at 1 rfl (hdep.1 rfl)) (hv.at 2 rfl (hdep.2.1 rfl)) rfl ?_
  refine RL.nil ?_
  exact ⟨rfl, hv.put 3 rfl rfl, ha.up rfl, hw⟩
 ·rintro D σ w hD hdep hcl ⟨hv, ha, hw⟩
  refine RL.lsuf (lo := (((Int.toNat p1) + 1 : Nat) : Int)) trivial rfl (hv.at 0 rfl (hdep.1 rfl)) sl (congrArg some ((hv.at 3 rfl (hdep.2.1 rfl)).trans (congrArg (Value.int .i64) e3))) (by omega) (by omega) (by omega) (by omega) ?_
  rw [Int.toNat_natCast]
  refine RL.nil ?_
  exact ⟨rfl, hv.put 4 rfl rfl, ha.up rfl, hw⟩
 ·rintro D σ w hD hdep hcl ⟨hv, ha, hw⟩
  refine mv (.slice (some ⟨b, o, none⟩) (p0.length + 1) cap) rfl (ha.at 0 rfl) ?_
  refine RL.nil ?_
  exact ⟨rfl, hv.put 5 rfl rfl, ha.up rfl, hw⟩
 ·rintro D σ w hD hdep hcl ⟨hv, ha, hw⟩
  refine mv (vi p1) rfl (ha.at 1 rfl) ?_
  refine RL.nil ?_
  exact ⟨rfl, hv.put 6 rfl rfl, ha.up rfl, hw⟩
 ·rintro D σ w hD hdep hcl ⟨hv, ha, hw⟩
  refine RL.lsuf trivial rfl (hv.at 5 rfl (hdep.1 rfl)) sl (congrArg some (hv.at 6 rfl (hdep.2.1 rfl))) c1 (by omega) (by omega) (by omega) ?_
  refine RL.nil ?_
  exact ⟨rfl, hv.put 7 rfl rfl, ha.up rfl, hw⟩
 ·rintro D σ w hD hdep hcl ⟨hv, ha, hw⟩
  rw [hD, cond_false] at hw
  refine RL.copy_at (i := 0) (k := (Int.toNat p1) + 1) (ys := p0.drop (Int.toNat p1)) (l := p0) trivial rfl hw (hv.at 4 rfl (hdep.1 rfl)) (hv.at 7 rfl (hdep.2.1 rfl)) rfl el (by rw [hdl]; simp only [Nat.min_def]; split <;> omega) (by omega) (by rw [hdl]; omega) (fun M hs gd => src_own (i := 0) gd rfl (by omega)) fun w hw => ?_
  have hmx : Max.max p0.length ((Int.toNat p1) + 1 + (p0.drop (Int.toNat p1)).length) = p0.length + 1 := by rw [hdl]; omega
  rw [hmx] at hw
  refine RL.nil ?_
  exact ⟨rfl, hv.up rfl, ha.up rfl, hw⟩
 intro D σ w hall ⟨hv, ha, hw⟩
 rw [hall 8 (by decide), cond_true] at hw
 have hl1 : (p0.take (Int.toNat p1 + 1) ++ p0.drop (Int.toNat p1) ++ p0.drop (Int.toNat p1 + 1 + (p0.drop (Int.toNat p1)).length)).length = p0.length + 1 := by simp only [List.length_append, List.length_take, List.length_drop]; omega
 obtain ⟨τ, rfl⟩ := ha.ups
 refine thenQ_n ?_
 refine RC.sr ?_
 refine mv (.slice (some ⟨b, o, none⟩) (p0.length + 1) cap) rfl rfl ?_
 refine mv (vi p1) rfl rfl ?_
 refine RL.lsuf trivial rfl rfl sl rfl c1 (by omega) (by omega) (by omega) ?_
 refine mv (.slice (some ⟨xb, xo, none⟩) p2.length xc) rfl rfl ?_
 refine RL.copy_at (i := 0) (k := Int.toNat p1) (ys := p2) (l := (p0.take (Int.toNat p1 + 1) ++ p0.drop (Int.toNat p1) ++ p0.drop (Int.toNat p1 + 1 + (p0.drop (Int.toNat p1)).length))) trivial rfl hw rfl rfl (by rw [hl1]; rfl) el (by rw [c3]; simp only [Nat.min_def]; split <;> omega) (by rw [hl1]; omega) (by rw [c3]; omega) (fun M hs gd => src_own0 (i := 1) gd rfl) fun w hw => ?_
 have hmx : Max.max (p0.take (Int.toNat p1 + 1) ++ p0.drop (Int.toNat p1) ++ p0.drop (Int.toNat p1 + 1 + (p0.drop (Int.toNat p1)).length)).length ((Int.toNat p1) + p2.length) = p0.length + 1 := by rw [hl1, c3]; omega
 rw [hmx] at hw
 refine RL.ns ?_
 refine mv (.slice (some ⟨b, o, none⟩) (p0.length + 1) cap) rfl rfl ?_
 refine as_ (.slice (some ⟨b, o, none⟩) (p0.length + 1) cap) rfl rfl ?_
 refine RL.nt ?_
 refine RC.rt ?_
 refine fin1 rfl rfl ?_
 have hq : ((p0.take (Int.toNat p1 + 1) ++ p0.drop (Int.toNat p1) ++ p0.drop (Int.toNat p1 + 1 + (p0.drop (Int.toNat p1)).length)).take (Int.toNat p1) ++ p2 ++ (p0.take (Int.toNat p1 + 1) ++ p0.drop (Int.toNat p1) ++ p0.drop (Int.toNat p1 + 1 + (p0.drop (Int.toNat p1)).length)).drop (Int.toNat p1 + p2.length)) = l1 := by
  rw [← hb]
  exact ins_shape2 p0 p2 (Int.toNat p1) c3 (by omega)
 rw [hq] at hw
 exact hw.pick 2 [0] (new := [own 45 (.slice (some ⟨b, o, none⟩) (p0.length + 1) cap) l1]) rfl rfl (by decide) (by decide)
theorem fn63 : Fnc Tryd.prog 63 := ⟨fun _ _ => run_callFunc Tryd.func63 (by kernel_rfl) rfl⟩
theorem fn31 : Fnc Tryd.prog 31 := ⟨fun _ _ => run_callFunc Tryd.func31 (by kernel_rfl) rfl⟩
theorem fn10 : Fnc Tryd.prog 10 := ⟨fun _ _ => run_callFunc Tryd.func10 (by kernel_rfl) rfl⟩
theorem fn11 : Fnc Tryd.prog 11 := ⟨fun _ _ => run_callFunc Tryd.func11 (by kernel_rfl) rfl⟩
theorem fn12 : Fnc Tryd.prog 12 := ⟨fun _ _ => run_callFunc Tryd.func12 (by kernel_rfl) rfl⟩
theorem fn92 : Fnc Tryd.prog 92 := ⟨fun _ _ => run_callFunc Tryd.func92 (by kernel_rfl) rfl⟩
theorem fn64 : Fnc Tryd.prog 64 := ⟨fun _ _ => run_callFunc Tryd.func64 (by kernel_rfl) rfl⟩
theorem fn32 : Fnc Tryd.prog 32 := ⟨fun _ _ => run_callFunc Tryd.func32 (by kernel_rfl) rfl⟩
theorem fn13 : Fnc Tryd.prog 13 := ⟨fun _ _ => run_callFunc Tryd.func13 (by kernel_rfl) rfl⟩
end Go.Gk
