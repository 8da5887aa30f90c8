/- held.Keys' comparison, walked by the kit's own tactics: the world is told outright. -/
import Derived.Test.YthlnjkfahmebjaaDoorKey
import Derived.Test.YthlnjkfahmebjaaDoorSrt
import Derived.Sort.Grow
import Derived.WalkMore
namespace Go.Proofs.YthlnjkfahmebjaaDoor
open Go Go.Sl Go.Gv Go.Sort
set_option maxRecDepth 100000
theorem grow2 (w : World) (o o' : Obj) : (w.alloc o).alloc o' = grow w #[o, o'] := by rw [alloc_eq_grow, alloc_eq_grow, grow_grow]; rfl
theorem before_exact (a1 a2 b1 b2 : Int) (w : World) : Calls Tryd.prog 32 #[.agg #[.int .i64 a1, .int .i64 a2], .agg #[.int .i64 b1, .int .i64 b2]] w fun e w' => e = .returned (.bool (before ⟨a1, a2⟩ ⟨b1, b2⟩)) ∧ ∃ os, w' = grow w os := by
  by_cases h : a1 = b1
  · go_enter Tryd.func32, Tryd.ntmps32
    subst h
    go_wp2
    go_ret
    exact ⟨by simp [before], _, grow2 ..⟩
  · go_enter Tryd.func32, Tryd.ntmps32
    go_wp2
    go_ret
    exact ⟨by simp [before, h], _, grow2 ..⟩
def cfK (a b : Key) : Int := if before a b then -1 else 1
theorem cmp_exact (a1 a2 b1 b2 : Int) (w : World) : Calls Tryd.prog 31 #[.agg #[.int .i64 a1, .int .i64 a2], .agg #[.int .i64 b1, .int .i64 b2]] w fun e w' => e = .returned (.int .i64 (cfK ⟨a1, a2⟩ ⟨b1, b2⟩)) ∧ ∃ os, w' = grow w os := by
  have hB := fun W => before_exact a1 a2 b1 b2 W
  unfold cfK
  generalize before ⟨a1, a2⟩ ⟨b1, b2⟩ = B at hB ⊢
  go_enter Tryd.func31, Tryd.ntmps31
  cases B
  · go_wp2_with (go_at_call 32; refine (hB _).mono ?_; rintro e w' ⟨rfl, os, rfl⟩)
    go_ret
    exact ⟨by simp, _, by rw [grow2, grow_grow]⟩
  · go_wp2_with (go_at_call 32; refine (hB _).mono ?_; rintro e w' ⟨rfl, os, rfl⟩)
    go_ret
    exact ⟨by simp, _, by rw [grow2, grow_grow]⟩
end Go.Proofs.YthlnjkfahmebjaaDoor
