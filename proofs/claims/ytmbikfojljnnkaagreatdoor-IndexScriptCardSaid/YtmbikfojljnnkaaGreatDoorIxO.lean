/- index.order, Prefix$1, told of the world outright; sorts. -/
import Derived.Test.YtmbikfojljnnkaaGreatDoorIxA
import Derived.Test.YtmbikfojljnnkaaGreatDoorLay
import Derived.Sort.Grow
import Derived.WalkMore
namespace Go.Proofs
open Go.Shelf
namespace YtmbikfojljnnkaaGreatDoor
open Go Go.Sl Go.Gv Go.Kv Go.Sort Go.Po
set_option maxRecDepth 100000
theorem grow2 (w : World) (o o' : Obj) : (w.alloc o).alloc o' = grow w #[o, o'] := by rw [alloc_eq_grow, alloc_eq_grow, grow_grow]; rfl
theorem before_exact (a1 a2 b1 b2 : Int) (w : World) : Calls Tryz.prog 85 #[.agg #[.int .i64 a1, .int .i64 a2], .agg #[.int .i64 b1, .int .i64 b2]] w fun e w' => e = .returned (.bool (before ⟨a1, a2⟩ ⟨b1, b2⟩)) ∧ ∃ os, w' = grow w os := by
  by_cases h : a1 = b1
  · go_enter Tryz.func85, Tryz.ntmps85
    subst h
    go_wp2
    go_ret
    exact ⟨by simp [before], _, grow2 ..⟩
  · go_enter Tryz.func85, Tryz.ntmps85
    go_wp2
    go_ret
    exact ⟨by simp [before, h], _, grow2 ..⟩
/-- The world behind a call: grown, with the boxes as they were. -/
def Grw (w w' : World) : Prop := ∃ os, w' = grow w os
def Aft (a1 a2 b1 b2 : Int) (w w' : World) : Prop := Grw w w' ∧ w'.cell? ⟨w.heap.size, 0, none⟩ = some (.int .i64 a1) ∧ w'.cell? ⟨w.heap.size, 1, none⟩ = some (.int .i64 a2) ∧ w'.cell? ⟨w.heap.size + 1, 0, none⟩ = some (.int .i64 b1) ∧ w'.cell? ⟨w.heap.size + 1, 1, none⟩ = some (.int .i64 b2)
theorem heap2 (w : World) (o o' : Obj) : ((w.alloc o).alloc o').heap[w.heap.size]? = some o ∧ ((w.alloc o).alloc o').heap[w.heap.size + 1]? = some o' := by
  constructor
  · show ((w.heap.push o).push o')[w.heap.size]? = _
    rw [Array.getElem?_push_lt (by simp)]; simp
  · show ((w.heap.push o).push o')[w.heap.size + 1]? = _
    have : w.heap.size + 1 = (w.heap.push o).size := by simp
    rw [this, Array.getElem?_push_size]
theorem size2 (w : World) (o o' : Obj) : ((w.alloc o).alloc o').heap.size = w.heap.size + 2 := by show ((w.heap.push o).push o').size = _; simp
theorem aft_of (a1 a2 b1 b2 : Int) (w : World) (os : Array Obj) : Aft a1 a2 b1 b2 w (grow ((w.alloc (.cells #[.int .i64 a1, .int .i64 a2] 31)).alloc (.cells #[.int .i64 b1, .int .i64 b2] 31)) os) := by
  obtain ⟨h1, h2⟩ := heap2 w (.cells #[.int .i64 a1, .int .i64 a2] 31) (.cells #[.int .i64 b1, .int .i64 b2] 31)
  have hs := size2 w (.cells #[.int .i64 a1, .int .i64 a2] 31) (.cells #[.int .i64 b1, .int .i64 b2] 31)
  refine ⟨⟨_, by rw [grow2, grow_grow]⟩, ?_, ?_, ?_, ?_⟩
  · rw [cell?_grow _ _ _ (by rw [hs]; show w.heap.size < _; omega)]; unfold World.cell?; dsimp only; rw [h1]; rfl
  · rw [cell?_grow _ _ _ (by rw [hs]; show w.heap.size < _; omega)]; unfold World.cell?; dsimp only; rw [h1]; rfl
  · rw [cell?_grow _ _ _ (by rw [hs]; show w.heap.size + 1 < _; omega)]; unfold World.cell?; dsimp only; rw [h2]; rfl
  · rw [cell?_grow _ _ _ (by rw [hs]; show w.heap.size + 1 < _; omega)]; unfold World.cell?; dsimp only; rw [h2]; rfl
set_option maxHeartbeats 800000 in
theorem orderI_exact (a1 a2 b1 b2 : Int) (w : World) : Calls Tryz.prog 42 #[.agg #[.int .i64 a1, .int .i64 a2], .agg #[.int .i64 b1, .int .i64 b2]] w fun e w' => e = .returned (.int .i64 (ordZ ⟨a1, a2⟩ ⟨b1, b2⟩)) ∧ ∃ os, w' = grow w os := by
  have hB : Calls Tryz.prog 85 #[.agg #[.int .i64 a1, .int .i64 a2], .agg #[.int .i64 b1, .int .i64 b2]] ((w.alloc (.cells #[.int .i64 a1, .int .i64 a2] 31)).alloc (.cells #[.int .i64 b1, .int .i64 b2] 31)) fun e w' => e = .returned (.bool (before ⟨a1, a2⟩ ⟨b1, b2⟩)) ∧ Aft a1 a2 b1 b2 w w' := by
    refine (before_exact a1 a2 b1 b2 _).mono ?_
    rintro e w' ⟨h, os, rfl⟩
    exact ⟨h, aft_of ..⟩
  have hC := fun W => before_exact b1 b2 a1 a2 W
  unfold ordZ
  generalize before ⟨a1, a2⟩ ⟨b1, b2⟩ = B at hB ⊢
  generalize before ⟨b1, b2⟩ ⟨a1, a2⟩ = C at hC ⊢
  go_enter Tryz.func42, Tryz.ntmps42
  cases B
  · cases C
    · go_wp2_with (go_at_call 85; first | (with_reducible refine (hC _).mono ?_; rintro e w'' ⟨rfl, os2, rfl⟩) | (refine hB.mono ?_; rintro e w' ⟨rfl, hG, c0, c1, d0, d1⟩))
      go_ret
      obtain ⟨os, rfl⟩ := hG
      exact ⟨by simp, _, by rw [grow_grow]⟩
    · go_wp2_with (go_at_call 85; first | (with_reducible refine (hC _).mono ?_; rintro e w'' ⟨rfl, os2, rfl⟩) | (refine hB.mono ?_; rintro e w' ⟨rfl, hG, c0, c1, d0, d1⟩))
      go_ret
      obtain ⟨os, rfl⟩ := hG
      exact ⟨by simp, _, by rw [grow_grow]⟩
  · go_wp2_with (go_at_call 85; refine hB.mono ?_; rintro e w' ⟨rfl, hG, c0, c1, d0, d1⟩)
    go_ret
    obtain ⟨os, rfl⟩ := hG
    exact ⟨by simp, _, rfl⟩
theorem prefix1_exact (a1 a2 b1 b2 : Int) (u v : Value) (hu : u.oneCell' = true) (hv : v.oneCell' = true) (w : World) : Calls Tryz.prog 41 #[.agg #[.int .i64 a1, .int .i64 a2, u], .agg #[.int .i64 b1, .int .i64 b2, v]] w fun e w' => e = .returned (.int .i64 (ordZ ⟨a1, a2⟩ ⟨b1, b2⟩)) ∧ ∃ os, w' = grow w os := by
  have hB := fun W => orderI_exact a1 a2 b1 b2 W
  go_enter Tryz.func41, Tryz.ntmps41
  go_wp2_with (go_at_call 42; refine (hB _).mono ?_; rintro e w' ⟨rfl, os, rfl⟩)
  go_ret
  exact ⟨by simp, _, by rw [grow2, grow_grow]⟩
end YtmbikfojljnnkaaGreatDoor
end Go.Proofs
