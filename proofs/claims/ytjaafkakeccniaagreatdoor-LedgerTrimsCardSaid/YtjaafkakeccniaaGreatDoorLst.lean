/- The last file of a drive. Plain. -/
import Derived.Test.YtjaafkakeccniaaGreatDoorMK
namespace Go.Dv
open Go Go.Kv Go.Bst
/-! ### The last file -/
section last
variable {X : List Fl} {n : ByteArray}
theorem last_look (h : lookF X n = none) (f : Fl) (hf : f.n = n) : lookF (X ++ [f]) n = some f := by
  unfold lookF at h ⊢
  rw [List.find?_append, h]; simp [hf]
theorem last_upd (h : lookF X n = none) (f : Fl) (hf : f.n = n) (g : Fl → Fl) : upd (X ++ [f]) n g = X ++ [g f] := by
  have hne : ∀ x ∈ X, x.n ≠ n := fun x hx e => lookF_none.1 h (e ▸ List.mem_map_of_mem hx)
  simp only [upd, List.map_append, List.map_cons, List.map_nil, hf, if_true]
  congr 1
  conv => rhs; rw [← List.map_id X]
  exact List.map_congr_left fun x hx => by simp [hne x hx]
theorem last_new (h : lookF X n = none) {most : Int} {bs : List UInt8} (hm : namedB n = true) (hr : (used X : Int) + bs.length ≤ most) : appE most X n bs = 0 ∧ appL most X n bs = X ++ [⟨n, bs, 0⟩] := by
  have e : appE most X n bs = 0 := by simp only [appE, hm, if_true]; rw [if_neg (by omega)]
  exact ⟨e, by simp [appL, e, appD, h]⟩
theorem last_more (h : lookF X n = none) {most : Int} {b bs : List UInt8} {s : Nat} (hm : namedB n = true) (hr : (used X : Int) + b.length + bs.length ≤ most) : appE most (X ++ [⟨n, b, s⟩]) n bs = 0 ∧ appL most (X ++ [⟨n, b, s⟩]) n bs = X ++ [⟨n, b ++ bs, s⟩] := by
  have e : appE most (X ++ [⟨n, b, s⟩]) n bs = 0 := by simp only [appE, hm, if_true]; rw [if_neg (by rw [used_app]; simp only [used, List.map_cons, List.map_nil, List.sum_cons, List.sum_nil] at hr ⊢; omega)]
  exact ⟨e, by simp only [appL, e, if_true, appD, last_look h ⟨n, b, s⟩ rfl, Option.isSome_some]; exact last_upd h ⟨n, b, s⟩ rfl _⟩
theorem last_sync (h : lookF X n = none) {b : List UInt8} {s : Nat} : allB (X ++ [⟨n, b, s⟩]) [n] = true ∧ syncL (X ++ [⟨n, b, s⟩]) [n] = X ++ [⟨n, b, b.length⟩] := by
  refine ⟨by simp [allB, last_look h ⟨n, b, s⟩ rfl], ?_⟩
  have hne : ∀ x ∈ X, ¬ n = x.n := fun x hx e => lookF_none.1 h (e ▸ List.mem_map_of_mem hx)
  simp only [syncL, List.map_append, List.map_cons, List.map_nil, List.any_cons, List.any_nil, Bool.or_false, decide_true, if_true]
  congr 1
  conv => rhs; rw [← List.map_id X]
  exact List.map_congr_left fun x hx => by simp [hne x hx]
end last
end Go.Dv
