/- utf8.ValidString, by the kit's contract. -/
import Derived.Test.YtjaafkakeccniaaGreatDoorKey
import Derived.Test.YtjaafkakeccniaaGreatDoorLay
namespace Go.Proofs
open Go.Shelf
namespace YtjaafkakeccniaaGreatDoor
open Go Go.Sl Go.Gv
def Tabs (h0 : Hp) : Prop := ∀ w, Hp.le h0 w → Lib.Utf8Tabs (Tryz.laysValid_ren.g 3) (Tryz.laysValid_ren.g 4) w
def validS (s : ByteArray) : Bool := Lib.validD s.data.toList
theorem validS_nil : validS ⟨#[]⟩ = true := Lib.validD_nil
theorem valid_spec {h0 : Hp} (T : Tabs h0) (s : ByteArray) (hs : s.size ≤ 9223372036854775807) : Ct Tryz.prog 95 [.string s] [ro h0] (fun v hs => v = .bool (validS s) ∧ hs = [ro h0]) :=
  Ct.ofBelow Tryz.func95 rfl (by kernel_rfl) (V := fun _ => .bool (validS s)) (fun w0 w R st => Any.utf8_ValidString Tryz.laysValid s w hs (T w (Sat.ro st))) (fun _ => ⟨rfl, rfl⟩)
end YtjaafkakeccniaaGreatDoor
end Go.Proofs
