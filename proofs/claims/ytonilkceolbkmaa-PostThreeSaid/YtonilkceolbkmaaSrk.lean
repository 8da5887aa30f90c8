/- Owned slices and the kit's rows: into a sort and out of it. Nothing of the program stands here. -/
import Derived.Test.YtonilkceolbkmaaSlc
import Derived.Shelf.GgSortFunc.RowK
namespace Go.Sl
open Go Go.Sort Go.Shelf Go.Proofs
variable {α : Type} {w0 w : World} {L : List HProp} {E sz : Nat} {enc : α → List Value} {b off c : Nat} {xs : List α}
theorem sl_block (s : Sat w0 w (sl E sz enc (some ⟨b, off, none⟩) c xs :: L)) : ∃ cells, Sat w0 w (pt b (.cells cells E (0, 0)) :: L) ∧ w.heap[b]? = some (.cells cells E (0, 0)) ∧ xs.length ≤ c ∧ off + c * sz ≤ cells.size ∧
    ∀ i x, xs[i]? = some x → ∀ j v, (enc x)[j]? = some v → cells[off + (i * sz + j)]? = some v := by
  obtain ⟨h, le, h1, h2, d, rfl, hs, hl⟩ := s.heap
  rcases hs with ⟨h0, -, -⟩ | ⟨b', off', cells, hb, hp, h3, h4, h5⟩
  · cases h0
  · cases hb
    have s1 : Sat w0 w (pt b (.cells cells E (0, 0)) :: L) := ⟨s.os, s.tape, s.output, s.size, _, le, h1, h2, d, rfl, hp, hl⟩
    exact ⟨cells, s1, s1.pt, h3, h4, h5⟩
variable [Inhabited α]
theorem sl_holds (e : EncOk sz enc) (s : Sat w0 w (sl E sz enc (some ⟨b, off, none⟩) c xs :: L)) : HoldsK enc sz w b off xs.toArray ∧ b < w.heap.size := by
  obtain ⟨cells, -, hb, h3, h4, h5⟩ := sl_block s
  refine ⟨fun j hj => ?_, (Array.getElem?_eq_some_iff.1 hb).1⟩
  rw [size_flatK] at hj
  rw [id, get_flatK _ _ _ _ hj]
  simp only [List.size_toArray] at hj
  have hz : 0 < sz := by rcases Nat.eq_zero_or_pos sz with h | h
                         · rw [h] at hj; simp at hj
                         · exact h
  have hi : j / sz < xs.length := Nat.div_lt_of_lt_mul (by rw [Nat.mul_comm]; exact hj)
  have hm : j % sz < sz := Nat.mod_lt _ hz
  have hx : xs[j / sz]? = some xs[j / sz] := by simp [hi]
  have hv : (enc xs[j / sz])[j % sz]? = some ((enc xs[j / sz])[j % sz]'(by rw [e.len]; exact hm)) := by simp [e.len, hm]
  have hc := h5 _ _ hx _ _ hv
  have hdm : j / sz * sz + j % sz = j := by rw [Nat.mul_comm]; exact Nat.div_add_mod j sz
  rw [hdm] at hc
  have e1 : xs.toArray[j / sz]! = xs[j / sz] := by rw [getElem!_pos _ _ (by simpa using hi)]; simp
  have e2 : (enc xs[j / sz])[j % sz]! = (enc xs[j / sz])[j % sz]'(by rw [e.len]; exact hm) := getElem!_pos ..
  refine ⟨?_, by simp [World.frozen?, hb]⟩
  rw [e1, e2]
  simpa [World.cell?, hb] using hc
theorem sl_sorted {ys : List α} {n : Nat} {os : Array Obj} (e : EncOk sz enc) (hl : ys.length = xs.length) (s : Sat w0 w (sl E sz enc (some ⟨b, off, none⟩) c xs :: L)) :
    Sat w0 (grow (putRowK enc sz (Sort.ahead w n) b off ys.toArray) os) (sl E sz enc (some ⟨b, off, none⟩) c ys :: L) := by
  obtain ⟨cells, s1, hb, h3, h4, h5⟩ := sl_block s
  have hblt := (Array.getElem?_eq_some_iff.1 hb).1
  have hsz : (putRowK enc sz (Sort.ahead w n) b off ys.toArray).heap.size = w.heap.size := by simp [putRowK, putRow, mapBlock, Sort.ahead]
  have hnew : (grow (putRowK enc sz (Sort.ahead w n) b off ys.toArray) os).heap[b]? = some (.cells (putCells id off (flatK enc sz ys.toArray) cells) E (0, 0)) := by
    rw [heap_grow_old _ _ (by rw [hsz]; exact hblt)]
    simp [putRowK, putRow, mapBlock, Sort.ahead, Array.getElem?_modify, hb, onCells]
  have hold : ∀ k, k ≠ b → k < w.heap.size → (grow (putRowK enc sz (Sort.ahead w n) b off ys.toArray) os).heap[k]? = w.heap[k]? := fun k hk hlt => by
    rw [heap_grow_old _ _ (by rw [hsz]; exact hlt)]
    have : b ≠ k := fun e => hk e.symm
    simp [putRowK, putRow, mapBlock, Sort.ahead, Array.getElem?_modify, this]
  refine (s1.write (w' := grow (putRowK enc sz (Sort.ahead w n) b off ys.toArray) os) rfl rfl rfl (by show w.heap.size ≤ ((putRowK enc sz (Sort.ahead w n) b off ys.toArray).heap ++ os).size; rw [Array.size_append, hsz]; omega) hnew hold).ent fun hh hp => .inr ⟨b, off, _, rfl, hp, by omega, by simpa [putCells] using h4, fun i y hi j v hj => ?_⟩
  have hil : i < ys.length := (List.getElem?_eq_some_iff.1 hi).1
  have hjl : j < sz := by rw [← e.len y]; exact (List.getElem?_eq_some_iff.1 hj).1
  have hmul : i * sz + sz ≤ ys.length * sz := by rw [← Nat.succ_mul]; exact Nat.mul_le_mul_right _ hil
  have hmul2 : ys.length * sz ≤ c * sz := Nat.mul_le_mul_right _ (by omega)
  have hpos : off + (i * sz + j) < cells.size := by omega
  simp only [putCells, Array.getElem?_mapIdx]
  rw [Array.getElem?_eq_getElem hpos]
  simp only [Option.map_some, size_flatK, List.size_toArray]
  rw [if_pos ⟨by omega, by omega⟩, Nat.add_sub_cancel_left, id, get_flatK _ _ _ _ (by simp; omega)]
  have hd1 : (i * sz + j) / sz = i := by rw [Nat.mul_comm, Nat.mul_add_div (by omega), Nat.div_eq_of_lt hjl, Nat.add_zero]
  have hd2 : (i * sz + j) % sz = j := by rw [Nat.mul_comm, Nat.mul_add_mod, Nat.mod_eq_of_lt hjl]
  rw [hd1, hd2]
  have e1 : ys.toArray[i]! = y := by
    rw [getElem!_pos _ _ (by simpa using hil)]
    simpa [hil] using hi
  rw [e1]
  obtain ⟨hjl', hje⟩ := List.getElem?_eq_some_iff.1 hj
  rw [getElem!_pos (enc y) j hjl', hje]
end Go.Sl
