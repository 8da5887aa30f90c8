/- strconv.Itoa, Atoi, strings.Repeat, HasPrefix, by the kit's contracts; the names of a ledger's files. -/
import Derived.Test.YtjaafkakeccniaaGreatDoorLayB
import Derived.Test.YtjaafkakeccniaaGreatDoorDk
import Derived.Lib.ConvBytes
namespace Go.Proofs
open Go.Shelf
namespace YtjaafkakeccniaaGreatDoor
open Go Go.Sl Go.Gv Go.RowKit
set_option maxRecDepth 100000
theorem itoa_spec (i : Nat) (hi : i < 100) : Ct Tryz.prog 61 [int i] [] (fun v hs => v = .string ⟨(Lib.decDigits i).toArray⟩ ∧ hs = []) :=
  Ct.ofBelow Tryz.func61 rfl (by kernel_rfl) (V := fun _ => .string ⟨(Lib.decDigits i).toArray⟩) (fun w0 w R st => (Any.strconv_Itoa_small Tryz.laysItoa i hi w).mono fun e w' ⟨h1, h2⟩ => ⟨h1, by rw [h2]; exact Below.refl _ _⟩) (fun _ => ⟨rfl, rfl⟩)
theorem builderX : Builder.Extra Tryz.prog Tryz.laysRepeat_ren where
  sizeBuilder := by kernel_rfl
  liesBuilder := by kernel_rfl
  t5 := Tryz.underlying5
  a5 := Tryz.isAgg5
  z5 := Tryz.sizeOf5
  v5 := Tryz.zeroValue5
  infoByte := by kernel_rfl
  cellsByte := by kernel_rfl
  sizeByte := by kernel_rfl
  neB5 := by decide
theorem repeat_spec (s : ByteArray) (c : Nat) (hc : c ≤ 1000) (hs : s.size ≤ 1000) : Ct Tryz.prog 62 [.string s, int c] [] (fun v hs => v = .string ⟨(Lib.repeatL s.data.toList c).toArray⟩ ∧ hs = []) :=
  Ct.ofBelow Tryz.func62 rfl (by kernel_rfl) (V := fun _ => .string ⟨(Lib.repeatL s.data.toList c).toArray⟩) (fun w0 w R st => Any.strings_Repeat Tryz.laysRepeat builderX s c w (by omega) (Nat.le_trans (Nat.mul_le_mul hs hc) (by decide))) (fun _ => ⟨rfl, rfl⟩)
theorem hasPrefix_spec (s p : ByteArray) : Ct Tryz.prog 30 [.string s, .string p] [] (fun v hs => v = .bool (Lib.hasPrefix s.data.toList p.data.toList) ∧ hs = []) :=
  Ct.ofBelow Tryz.func30 rfl (by kernel_rfl) (V := fun _ => .bool (Lib.hasPrefix s.data.toList p.data.toList)) (fun w0 w R st => (Any.strings_HasPrefix Tryz.laysHP s p w).mono fun e w' ⟨h1, h2⟩ => ⟨h1, by rw [h2]; exact Below.refl _ _⟩) (fun _ => ⟨rfl, rfl⟩)
theorem atoi_spec (s : ByteArray) (n : Int) (hl : s.size ≤ 18) (h : Lib.atoi s.data.toList = some n) : Ct Tryz.prog 31 [.string s] [] (fun v hs => v = .tuple #[int n, .nilIface] ∧ hs = []) :=
  Ct.ofBelow Tryz.func31 rfl (by kernel_rfl) (V := fun _ => .tuple #[int n, .nilIface]) (fun w0 w R st => (Any.strconv_Atoi Tryz.laysAtoi s n hl h w).mono fun e w' ⟨h1, t, h2⟩ => ⟨h1, by rw [h2]; exact ⟨rfl, rfl, rfl, by rw [Lib.bytesWorld_size]; omega, fun j hj => Lib.bytesWorld_at_old w _ t j hj⟩⟩) (fun _ => ⟨rfl, rfl⟩)
end YtjaafkakeccniaaGreatDoor
end Go.Proofs
