/- A range over a string. Nothing of the program stands here. -/
import Derived.Test.YtmfgemhjepagjaaMap
import Derived.Lib.OthersKept
namespace Go.Sl
open Go Go.ChangeMaps
section
variable {P : Program} {n : Nat} {w0 : World} {env : Env} {H : List HProp}
/-- An iterator over a string, at a place. -/
def sit (r : Nat) (s : ByteArray) (i : Nat) : HProp := pt r (.stringIter s i)
theorem ac_rangeS {d : Option Tmp} {x : Operand} {T ty : TypeId} {pos : String} {af : Array Edge} {g : Option (Nat × Bool)} {s : ByteArray} (ht : P.underlying T = some .string) (hx : ev env x = some (.string s)) :
    Ac P ⟨d, .range T x, ty, pos, af, g⟩ w0 env H (fun v H'' => ∃ r, v = .pointer (some ⟨r, 0, none⟩) ∧ H'' = sit r s 0 :: H) := Ac.of_run fun ρ w r st => by
  refine ⟨_, _, _, run_v (s := Instr.range T (ρ x)) (v := .pointer (some ⟨w.heap.size, 0, none⟩)) (w' := w.iter s 0) ?_, ⟨w.heap.size, rfl, rfl⟩, ?_⟩
  · rw [r.eval hx]; exact run_range_string w T s ht
  · exact st.alloc _
theorem ac_nextS {d : Option Tmp} {x : Operand} {ty : TypeId} {pos : String} {af : Array Edge} {g : Option (Nat × Bool)} {s : ByteArray} {r i : Nat} {H' : List HProp}
    (hx : ev env x = some (.pointer (some ⟨r, 0, none⟩))) (t : Take (sit r s i) H H') :
    Ac P ⟨d, .next x true, ty, pos, af, g⟩ w0 env H (fun v H'' => (¬ i < s.size ∧ v = .tuple #[.bool false] ∧ H'' = sit r s i :: H') ∨
      (i < s.size ∧ v = .tuple #[.bool true, .int .i64 i, .int .i32 (Utf8.decode s i).1] ∧ H'' = sit r s (i + (Utf8.decode s i).2) :: H')) := Ac.of_run fun ρ w rr st => by
  have s1 := st.take t
  have hk : w.heap[r]? = some (.stringIter s i) := Sat.pt s1
  by_cases h : i < s.size
  · refine ⟨_, _, _, run_v (s := Instr.next (ρ x) true ty) (by rw [rr.eval hx]; exact Lib.run_next_any_at w r s i ty hk h), .inr ⟨h, rfl, rfl⟩, ?_⟩
    exact Sat.setMap s1
  · exact ⟨_, _, _, run_v (s := Instr.next (ρ x) true ty) (by rw [rr.eval hx]; exact Lib.run_next_end_at w r s i ty hk h), .inl ⟨h, rfl, rfl⟩, s1⟩
end
end Go.Sl
