/- Strings of bytes: their order, which may be a file's name. Plain. -/
namespace Go.Bst
def okB (c : UInt8) : Bool := (97 ≤ c && c ≤ 122) || (48 ≤ c && c ≤ 57) || c == 46
def namedB (s : ByteArray) : Bool := decide (1 ≤ s.size) && decide (s.size ≤ 20) && s.data.toList.all okB
def asciiB (s : ByteArray) : Bool := s.data.toList.all fun c => decide (c.toNat < 128)
def sortB (l : List ByteArray) : List ByteArray := ((l.map fun s => s.data.toList).mergeSort fun x y => decide (x ≤ y)).map fun b => ⟨b.toArray⟩
theorem of_list (s : ByteArray) : (⟨s.data.toList.toArray⟩ : ByteArray) = s := by cases s; rfl
theorem sortB_perm (l : List ByteArray) : List.Perm (sortB l) l := by
  unfold sortB
  refine ((List.mergeSort_perm _ _).map _).trans ?_
  rw [List.map_map]
  have : ((fun b : List UInt8 => (⟨b.toArray⟩ : ByteArray)) ∘ fun s : ByteArray => s.data.toList) = id := by funext s; exact of_list s
  rw [this, List.map_id]
theorem sortB_mem {l : List ByteArray} {x : ByteArray} : x ∈ sortB l ↔ x ∈ l := (sortB_perm l).mem_iff
theorem sortB_length {l : List ByteArray} : (sortB l).length = l.length := (sortB_perm l).length_eq
theorem sortB_of_perm {l m : List ByteArray} (p : List.Perm l m) : sortB l = sortB m := by
  unfold sortB
  congr 1
  have tr : ∀ a b c : List UInt8, decide (a ≤ b) = true → decide (b ≤ c) = true → decide (a ≤ c) = true := fun a b c h1 h2 => by
    simp only [decide_eq_true_eq] at *; exact List.le_trans h1 h2
  have tot : ∀ a b : List UInt8, (decide (a ≤ b) || decide (b ≤ a)) = true := fun a b => by
    rcases List.le_total a b with h | h <;> simp [h]
  refine List.Perm.eq_of_pairwise (le := fun x y => decide (x ≤ y) = true) ?_ (List.pairwise_mergeSort tr tot _) (List.pairwise_mergeSort tr tot _) (((List.mergeSort_perm _ _).trans (p.map _)).trans (List.mergeSort_perm _ _).symm)
  intro a b _ _ h1 h2
  simp only [decide_eq_true_eq] at h1 h2
  exact List.le_antisymm h1 h2
theorem sortB_eq {l m : List ByteArray} (p : List.Perm l m) (h : m.Pairwise fun a b => a.data.toList ≤ b.data.toList) : sortB l = m := by
  rw [sortB_of_perm p]
  unfold sortB
  have e : ((m.map fun s => s.data.toList).mergeSort fun x y => decide (x ≤ y)) = m.map fun s => s.data.toList := by
    apply List.mergeSort_of_pairwise
    rw [List.pairwise_map]
    exact h.imp fun h => by simpa using h
  rw [e, List.map_map]
  have : ((fun b : List UInt8 => (⟨b.toArray⟩ : ByteArray)) ∘ fun s : ByteArray => s.data.toList) = id := by funext s; exact of_list s
  rw [this, List.map_id]
end Go.Bst
