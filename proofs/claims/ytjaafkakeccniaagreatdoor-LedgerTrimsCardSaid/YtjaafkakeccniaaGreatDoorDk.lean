/- Strings, bytes, drive's types: what the walks ask of them. -/
import Derived.Test.YtjaafkakeccniaaGreatDoorTy
import Derived.Test.YtjaafkakeccniaaGreatDoorMK
namespace Go.Proofs.YtjaafkakeccniaaGreatDoor
open Go Go.Sl Go.Gv Go.Dv
set_option maxRecDepth 100000
abbrev strV (s : ByteArray) : Value := .string s
abbrev strC (s : ByteArray) : List Value := [.string s]
abbrev byteC (c : UInt8) : List Value := [.int .u8 c.toNat]
abbrev pv (o : Option Nat) : Value := .pointer (o.map fun b => ⟨b, 0, none⟩)
abbrev ptr (b : Nat) : Value := .pointer (some ⟨b, 0, none⟩)
theorem kt_9 : KeyT Tryz.prog 9 strV := KeyT.str Tryz.underlying9
abbrev enck_9 : ByteArray → Value := strV
abbrev encv_92 : Option Nat → Value := pv
theorem zvk_92 : ZV Tryz.prog 92 (pv none) := zv_92
abbrev encC_9 : ByteArray → List Value := strC
abbrev encC_5 : UInt8 → List Value := byteC
abbrev encC_3 : Int → List Value := intC
theorem ek_9 : EncOk 1 strC := ⟨fun _ => rfl, fun x v hv => by
  simp only [strC, List.mem_cons, List.not_mem_nil, or_false] at hv
  rcases hv with rfl; rfl⟩
theorem ek_5 : EncOk 1 byteC := ⟨fun _ => rfl, fun x v hv => by
  simp only [byteC, List.mem_cons, List.not_mem_nil, or_false] at hv
  rcases hv with rfl; rfl⟩
theorem ek_3 : EncOk 1 intC := ⟨fun _ => rfl, fun x v hv => by
  simp only [intC, List.mem_cons, List.not_mem_nil, or_false] at hv
  rcases hv with rfl; rfl⟩
end Go.Proofs.YtjaafkakeccniaaGreatDoor
