/- Bits: exclusive or, shifts to the right; appends of a string's bytes. Nothing of the program stands here. -/
import Derived.Test.YtonilkceolbkmaaOp2
namespace Go.Sl
open Go
section
variable {P : Program} {n : Nat} {w0 : World} {env : Env} {H : List HProp} {d : Option Tmp} {x y z : Operand} {T T' ty : TypeId} {pos : String} {af : Array Edge} {g : Option (Nat × Bool)}
def xorK (k : IntKind) (i j : Int) : Int := k.wrap (BitVec.ofInt k.bits i ^^^ BitVec.ofInt k.bits j).toNat
theorem pu_xor {k : IntKind} {i j : Int} (h : ev env x = some (.int k i)) (h' : ev env y = some (.int k j)) : Pu P ⟨d, .binOp .xor T x y T', ty, pos, af, g⟩ env (.int k (xorK k i j)) := fun ρ w e => by
  refine run_v (s := do eqGuard .xor T x y (ρ x) (ρ y); binOp .xor T (ρ x) (ρ y)) ?_
  rw [e.eval h, e.eval h']
  simp only [Sem.run_bind, eqGuard_int, Result.andThen_ok]
  simp [binOp, Op.intBits, xorK]
def shrK (k : IntKind) (i j : Int) : Int := i.fdiv (2 ^ (min j.toNat k.bits))
theorem pu_shr {k k' : IntKind} {i j : Int} (h : ev env x = some (.int k i)) (h' : ev env y = some (.int k' j)) (hj : 0 ≤ j) : Pu P ⟨d, .binOp .shr T x y T', ty, pos, af, g⟩ env (.int k (shrK k i j)) := fun ρ w e => by
  refine run_v (s := do eqGuard .shr T x y (ρ x) (ρ y); binOp .shr T (ρ x) (ρ y)) ?_
  rw [e.eval h, e.eval h']
  have hg : (eqGuard .shr T x y (.int k i) (.int k' j)).run P w = .ok () w := by rfl
  have hn : ¬ j < 0 := by omega
  simp only [Sem.run_bind, hg, Result.andThen_ok]
  simp [binOp, Op.shift, hn, shrK]
/-- The byte that a number is cut to. -/
def cutB (z : Int) : UInt8 := UInt8.ofNat (IntKind.u8.wrap z).toNat
theorem cutB_eq (z : Int) : IntKind.u8.wrap z = (cutB z).toNat := by
  have h : 0 ≤ IntKind.u8.wrap z ∧ IntKind.u8.wrap z ≤ 255 := by simp [IntKind.wrap, IntKind.bits, IntKind.signed]; omega
  unfold cutB
  have e : (UInt8.ofNat (IntKind.u8.wrap z).toNat).toNat = (IntKind.u8.wrap z).toNat % 256 := UInt8.toNat_ofNat'
  rw [e]; omega
theorem SrcH.strB {tx : Nat} (hk : P.underlying tx = some .string) (s : ByteArray) : SrcH P w0 H 1 tx (.string s) s.data.toList.length (s.data.toList.flatMap fun c : UInt8 => [Value.int .u8 c.toNat]) := by
  have h := SrcH.str (w0 := w0) (H := H) hk s
  have e1 : byteCells s = s.data.toList.flatMap fun c : UInt8 => [Value.int .u8 c.toNat] := by
    unfold byteCells; generalize s.data.toList = l
    induction l with
    | nil => rfl
    | cons c l ih => simp [ih]
  rw [e1] at h
  have e2 : s.size = s.data.toList.length := by rw [Array.length_toList]; rfl
  rwa [e2] at h
end
end Go.Sl
