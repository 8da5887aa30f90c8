/- Walks: grapevinelaw0.Low. -/
import Derived.Test.YtmfgemhjepagjaaTy
import Derived.Test.YtmfgemhjepagjaaDat
namespace Go.Proofs.Ytmfgemhjepagjaa
open Go Go.Sl Go.Gv
set_option maxRecDepth 100000
def lowZ (a b : Int) : Int := IntKind.i64.wrap ((IntKind.u64.wrap a).tmod (IntKind.u64.wrap b))
theorem lowZ_in {a b : Int} (hb : 0 < b) (hb2 : b ≤ 100000000) : 0 ≤ lowZ a b ∧ lowZ a b < b := by
  have h1 : IntKind.u64.wrap b = b := by simp [IntKind.wrap, IntKind.bits, IntKind.signed]; omega
  have h2 : 0 ≤ IntKind.u64.wrap a := by simp [IntKind.wrap, IntKind.bits, IntKind.signed]; omega
  unfold lowZ
  rw [h1]
  have h3 := Int.tmod_nonneg b h2
  have h4 := Int.tmod_lt_of_pos (IntKind.u64.wrap a) hb
  rw [wrap_in (by omega) (by omega)]
  exact ⟨h3, h4⟩
theorem low_spec (a b : Int) (hb : 0 < b) (hb2 : b ≤ 100000000) : Ct Try.prog 17 [int a, int b] [] (fun v hs => v = int (lowZ a b) ∧ hs = []) := by
  have h1 : IntKind.u64.wrap b = b := by simp [IntKind.wrap, IntKind.bits, IntKind.signed]; omega
  refine Ct.intro Try.func17 rfl (by kernel_rfl) 11 Try.ntmps17 (Nat.le_of_ble_eq_true rfl) fun w0 R => ?_
  refine Gs.seq ?_
  refine Gs.reg ?_
  refine Go.Sl.L.pu rfl rfl trivial (pu_assign rfl) ?_
  refine Go.Sl.L.nil ?_
  refine Gs.then_n ?_
  refine Gs.seq ?_
  refine Gs.reg ?_
  refine Go.Sl.L.pu rfl rfl trivial (pu_move rfl) ?_
  refine Go.Sl.L.pu rfl rfl trivial (pu_conv Try.underlying3 Try.underlying59 rfl) ?_
  refine Go.Sl.L.pu rfl rfl trivial (pu_move rfl) ?_
  refine Go.Sl.L.pu rfl rfl trivial (pu_conv Try.underlying3 Try.underlying59 rfl) ?_
  refine Go.Sl.L.pu rfl rfl trivial (pu_rem rfl rfl (by rw [h1]; omega)) ?_
  refine Go.Sl.L.pu rfl rfl trivial (pu_conv Try.underlying59 Try.underlying3 rfl) ?_
  refine Go.Sl.L.pu rfl rfl trivial (pu_assign rfl) ?_
  refine Go.Sl.L.nil ?_
  refine Gs.then_n ?_
  refine Gs.ret ?_
  exact Gs.fin1 Try.results17 rfl _ (⟨rfl, rfl⟩) (by repeat constructor)
end Go.Proofs.Ytmfgemhjepagjaa
