/- post.Or$1, told of the world outright; slices.SortFunc at keys with it. -/
import Derived.Test.YtonilkceolbkmaaPoJ
import Derived.Test.YtonilkceolbkmaaLay
import Derived.Sort.Grow
import Derived.WalkMore
namespace Go.Proofs
open Go.Shelf
namespace Ytonilkceolbkmaa
open Go Go.Sl Go.Gv Go.Kv Go.Sort Go.Po
set_option maxRecDepth 100000
theorem grow2 (w : World) (o o' : Obj) : (w.alloc o).alloc o' = grow w #[o, o'] := by rw [alloc_eq_grow, alloc_eq_grow, grow_grow]; rfl
theorem before_exact (a1 a2 b1 b2 : Int) (w : World) : Calls Try.prog 43 #[.agg #[.int .i64 a1, .int .i64 a2], .agg #[.int .i64 b1, .int .i64 b2]] w fun e w' => e = .returned (.bool (before ⟨a1, a2⟩ ⟨b1, b2⟩)) ∧ ∃ os, w' = grow w os := by
  by_cases h : a1 = b1
  · go_enter Try.func43, Try.ntmps43
    subst h
    go_wp2
    go_ret
    exact ⟨by simp [before], _, grow2 ..⟩
  · go_enter Try.func43, Try.ntmps43
    go_wp2
    go_ret
    exact ⟨by simp [before, h], _, grow2 ..⟩
/-- The world behind a call: grown, with the boxes as they were. -/
def Grw (w w' : World) : Prop := ∃ os, w' = grow w os
def Aft (a1 a2 b1 b2 : Int) (w w' : World) : Prop := Grw w w' ∧ w'.cell? ⟨w.heap.size, 0, none⟩ = some (.int .i64 a1) ∧ w'.cell? ⟨w.heap.size, 1, none⟩ = some (.int .i64 a2) ∧ w'.cell? ⟨w.heap.size + 1, 0, none⟩ = some (.int .i64 b1) ∧ w'.cell? ⟨w.heap.size + 1, 1, none⟩ = some (.int .i64 b2)
theorem heap2 (w : World) (o o' : Obj) : ((w.alloc o).alloc o').heap[w.heap.size]? = some o ∧ ((w.alloc o).alloc o').heap[w.heap.size + 1]? = some o' := by
  constructor
  · show ((w.heap.push o).push o')[w.heap.size]? = _
    rw [Array.getElem?_push_lt (by simp)]; simp
  · show ((w.heap.push o).push o')[w.heap.size + 1]? = _
    have : w.heap.size + 1 = (w.heap.push o).size := by simp
    rw [this, Array.getElem?_push_size]
theorem size2 (w : World) (o o' : Obj) : ((w.alloc o).alloc o').heap.size = w.heap.size + 2 := by show ((w.heap.push o).push o').size = _; simp
theorem aft_of (a1 a2 b1 b2 : Int) (w : World) (os : Array Obj) : Aft a1 a2 b1 b2 w (grow ((w.alloc (.cells #[.int .i64 a1, .int .i64 a2, .slice none 0 0] 37)).alloc (.cells #[.int .i64 b1, .int .i64 b2] 34)) os) := by
  obtain ⟨h1, h2⟩ := heap2 w (.cells #[.int .i64 a1, .int .i64 a2, .slice none 0 0] 37) (.cells #[.int .i64 b1, .int .i64 b2] 34)
  have hs := size2 w (.cells #[.int .i64 a1, .int .i64 a2, .slice none 0 0] 37) (.cells #[.int .i64 b1, .int .i64 b2] 34)
  refine ⟨⟨_, by rw [grow2, grow_grow]⟩, ?_, ?_, ?_, ?_⟩
  · rw [cell?_grow _ _ _ (by rw [hs]; show w.heap.size < _; omega)]; unfold World.cell?; dsimp only; rw [h1]; rfl
  · rw [cell?_grow _ _ _ (by rw [hs]; show w.heap.size < _; omega)]; unfold World.cell?; dsimp only; rw [h1]; rfl
  · rw [cell?_grow _ _ _ (by rw [hs]; show w.heap.size + 1 < _; omega)]; unfold World.cell?; dsimp only; rw [h2]; rfl
  · rw [cell?_grow _ _ _ (by rw [hs]; show w.heap.size + 1 < _; omega)]; unfold World.cell?; dsimp only; rw [h2]; rfl
set_option maxHeartbeats 800000 in
theorem order_exact (a1 a2 b1 b2 : Int) (w : World) : Calls Try.prog 35 #[.agg #[.int .i64 a1, .int .i64 a2, .slice none 0 0], .agg #[.int .i64 b1, .int .i64 b2]] w fun e w' => e = .returned (.int .i64 (ordZ ⟨a1, a2⟩ ⟨b1, b2⟩)) ∧ ∃ os, w' = grow w os := by
  have hB : Calls Try.prog 43 #[.agg #[.int .i64 a1, .int .i64 a2], .agg #[.int .i64 b1, .int .i64 b2]] ((w.alloc (.cells #[.int .i64 a1, .int .i64 a2, .slice none 0 0] 37)).alloc (.cells #[.int .i64 b1, .int .i64 b2] 34)) fun e w' => e = .returned (.bool (before ⟨a1, a2⟩ ⟨b1, b2⟩)) ∧ Aft a1 a2 b1 b2 w w' := by
    refine (before_exact a1 a2 b1 b2 _).mono ?_
    rintro e w' ⟨h, os, rfl⟩
    exact ⟨h, aft_of ..⟩
  have hC := fun W => before_exact b1 b2 a1 a2 W
  unfold ordZ
  generalize before ⟨a1, a2⟩ ⟨b1, b2⟩ = B at hB ⊢
  generalize before ⟨b1, b2⟩ ⟨a1, a2⟩ = C at hC ⊢
  go_enter Try.func35, Try.ntmps35
  cases B
  · cases C
    · go_wp2_with (go_at_call 43; first | (with_reducible refine (hC _).mono ?_; rintro e w'' ⟨rfl, os2, rfl⟩) | (refine hB.mono ?_; rintro e w' ⟨rfl, hG, c0, c1, d0, d1⟩))
      go_ret
      obtain ⟨os, rfl⟩ := hG
      exact ⟨by simp, _, by rw [grow_grow]⟩
    · go_wp2_with (go_at_call 43; first | (with_reducible refine (hC _).mono ?_; rintro e w'' ⟨rfl, os2, rfl⟩) | (refine hB.mono ?_; rintro e w' ⟨rfl, hG, c0, c1, d0, d1⟩))
      go_ret
      obtain ⟨os, rfl⟩ := hG
      exact ⟨by simp, _, by rw [grow_grow]⟩
  · go_wp2_with (go_at_call 43; refine hB.mono ?_; rintro e w' ⟨rfl, hG, c0, c1, d0, d1⟩)
    go_ret
    obtain ⟨os, rfl⟩ := hG
    exact ⟨by simp, _, rfl⟩
theorem or1_exact (a1 a2 b1 b2 : Int) (w : World) : Calls Try.prog 34 #[.agg #[.int .i64 a1, .int .i64 a2], .agg #[.int .i64 b1, .int .i64 b2]] w fun e w' => e = .returned (.int .i64 (ordZ ⟨a1, a2⟩ ⟨b1, b2⟩)) ∧ ∃ os, w' = grow w os := by
  have hB := fun W => order_exact a1 a2 b1 b2 W
  go_enter Try.func34, Try.ntmps34
  go_wp2_with (go_at_call 35; refine (hB _).mono ?_; rintro e w' ⟨rfl, os, rfl⟩)
  go_ret
  exact ⟨by simp, _, by rw [grow2, grow_grow]⟩
end Ytonilkceolbkmaa
end Go.Proofs
