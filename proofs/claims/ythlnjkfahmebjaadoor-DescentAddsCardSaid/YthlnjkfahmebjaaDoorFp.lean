/- Finding: plain. -/
import Derived.Test.YthlnjkfahmebjaaDoorDesc2
import Derived.Test.YthlnjkfahmebjaaDoorSrt
namespace Go.Proofs.YthlnjkfahmebjaaDoor
open Go Go.Gv Go.Kv
def keysP (A B : List Rec) : Nat → Part → List Key
  | 0, p => [⟨p.o, p.i⟩]
  | n + 1, p => (stepP A B p).flatMap (keysP A B n)
def askP (A B : List Rec) : Nat → Part → Nat
  | 0, _ => 0
  | n + 1, p => 4 + ((stepP A B p).map (askP A B n)).sum
def lv (p : Part) : Nat := (5 - p.l).toNat
def wt : Nat → Nat
  | 0 => 1
  | n + 1 => 1 + 4 * wt n
def topP (A B : List Rec) (n : Nat) : List Part := ((List.range n).map fun o : Nat => (⟨o, 0, 0⟩ : Part)).filter (unl A B)
def findK (A B : List Rec) (n : Nat) : List Key := (topP A B n).flatMap (keysP A B 5)
def askN (A B : List Rec) (n : Nat) : Nat := n + ((topP A B n).map (askP A B 5)).sum
theorem topP_succ (A B : List Rec) (n : Nat) : topP A B (n + 1) = topP A B n ++ if unl A B ⟨n, 0, 0⟩ then [⟨n, 0, 0⟩] else [] := by
  simp only [topP, List.range_succ, List.map_append, List.filter_append, List.map_cons, List.map_nil, List.filter_cons, List.filter_nil]
theorem topP_length (A B : List Rec) (n : Nat) : (topP A B n).length ≤ n := by
  have := List.length_filter_le (unl A B) ((List.range n).map fun o : Nat => (⟨o, 0, 0⟩ : Part))
  simpa [topP] using this
theorem stepP_length (A B : List Rec) (p : Part) : (stepP A B p).length ≤ 4 := by
  unfold stepP; split
  · have := List.length_filter_le (unl A B) (partsOf p); simpa [partsOf] using this
  · simp
/-- A range that may wait: it is there, and its sums differ. -/
def Wok (A B : List Rec) (p : Part) : Prop := 0 ≤ p.l ∧ p.l ≤ 5 ∧ unl A B p = true
theorem stepP_ok {A B : List Rec} {p q : Part} (h : Wok A B p) (hq : q ∈ stepP A B p) : Wok A B q ∧ lv q + 1 = lv p ∧ q.o = p.o ∧ ∃ k : Nat, k < 4 ∧ q.i = 4 * p.i + k := by
  unfold stepP at hq
  split at hq
  · rename_i hp
    obtain ⟨h1, h2⟩ := List.mem_filter.1 hq
    simp only [partsOf, List.mem_map, List.mem_range] at h1
    obtain ⟨k, hk, rfl⟩ := h1
    have := h.1; have := hp.1
    refine ⟨⟨by show 0 ≤ p.l + 1; omega, by show p.l + 1 ≤ 5; omega, h2⟩, by show (5 - (p.l + 1)).toNat + 1 = (5 - p.l).toNat; omega, rfl, k, hk, rfl⟩
  · cases hq
def wts (W : List Part) : Nat := (W.map fun p => wt (lv p)).sum
theorem wt_pos : ∀ n, 1 ≤ wt n
  | 0 => Nat.le_refl _
  | n + 1 => by simp only [wt]; omega
theorem wts_cons (p : Part) (W : List Part) : wts (p :: W) = wt (lv p) + wts W := by simp [wts]
theorem wts_app (V W : List Part) : wts (V ++ W) = wts V + wts W := by simp [wts]
theorem wts_le {c : Nat} : ∀ {W : List Part}, (∀ p ∈ W, wt (lv p) ≤ c) → wts W ≤ W.length * c
  | [], _ => by simp [wts]
  | p :: W, h => by
    have h1 := h p (by simp)
    have h2 := wts_le (W := W) fun q hq => h q (by simp [hq])
    rw [wts_cons, List.length_cons, Nat.add_mul]; omega
theorem length_wts : ∀ W : List Part, W.length ≤ wts W
  | [] => by simp
  | p :: W => by have := length_wts W; have := wt_pos (lv p); rw [wts_cons, List.length_cons]; omega
theorem wts_step {A B : List Rec} {p : Part} (h : Wok A B p) (h5 : p.l < 5) (W : List Part) : wts (W ++ stepP A B p) + 1 ≤ wts (p :: W) := by
  obtain ⟨n, hn⟩ : ∃ n, lv p = n + 1 := ⟨lv p - 1, by show (5 - p.l).toNat = _ - 1 + 1; have : lv p = (5 - p.l).toNat := rfl; omega⟩
  have h1 : wts (stepP A B p) ≤ (stepP A B p).length * wt n := wts_le fun q hq => by
    have := (stepP_ok h hq).2.1
    rw [show lv q = n by omega]; exact Nat.le_refl _
  have h2 := Nat.mul_le_mul_right (wt n) (stepP_length A B p)
  rw [wts_app, wts_cons, hn]; simp only [wt]; omega
/-- What waits, and what comes of it. -/
def keysW (A B : List Rec) (W : List Part) : List Key := W.flatMap fun p => keysP A B (lv p) p
def askW (A B : List Rec) (W : List Part) : Nat := (W.map fun p => askP A B (lv p) p).sum
theorem keysW_app (A B : List Rec) (V W : List Part) : keysW A B (V ++ W) = keysW A B V ++ keysW A B W := by simp [keysW]
theorem askW_app (A B : List Rec) (V W : List Part) : askW A B (V ++ W) = askW A B V + askW A B W := by simp [askW]
theorem keysW_step {A B : List Rec} {p : Part} (h : Wok A B p) (h5 : p.l < 5) : keysW A B (stepP A B p) = keysP A B (lv p) p := by
  obtain ⟨n, hn⟩ : ∃ n, lv p = n + 1 := ⟨lv p - 1, by have : lv p = (5 - p.l).toNat := rfl; omega⟩
  rw [hn]; simp only [keysP, keysW]
  rw [List.flatMap_def, List.flatMap_def]
  congr 1
  exact List.map_congr_left fun q hq => by have := (stepP_ok h hq).2.1; rw [show lv q = n by omega]
theorem askW_step {A B : List Rec} {p : Part} (h : Wok A B p) (h5 : p.l < 5) : 4 + askW A B (stepP A B p) = askP A B (lv p) p := by
  obtain ⟨n, hn⟩ : ∃ n, lv p = n + 1 := ⟨lv p - 1, by have : lv p = (5 - p.l).toNat := rfl; omega⟩
  rw [hn]; simp only [askP, askW]
  congr 2
  exact List.map_congr_left fun q hq => by have := (stepP_ok h hq).2.1; rw [show lv q = n by omega]
theorem keysW_top (A B : List Rec) (n : Nat) : keysW A B (topP A B n) = findK A B n := by
  unfold keysW findK
  rw [List.flatMap_def, List.flatMap_def]
  congr 1
  exact List.map_congr_left fun q hq => by
    obtain ⟨h1, -⟩ := List.mem_filter.1 hq
    simp only [List.mem_map] at h1
    obtain ⟨o, -, rfl⟩ := h1; rfl
theorem askW_top (A B : List Rec) (n : Nat) : n + askW A B (topP A B n) = askN A B n := by
  unfold askW askN
  congr 2
  exact List.map_congr_left fun q hq => by
    obtain ⟨h1, -⟩ := List.mem_filter.1 hq
    simp only [List.mem_map] at h1
    obtain ⟨o, -, rfl⟩ := h1; rfl
theorem top_ok {A B : List Rec} {n : Nat} {p : Part} (h : p ∈ topP A B n) : Wok A B p ∧ lv p = 5 ∧ ∃ o : Nat, o < n ∧ p = ⟨o, 0, 0⟩ := by
  obtain ⟨h1, h2⟩ := List.mem_filter.1 h
  simp only [List.mem_map, List.mem_range] at h1
  obtain ⟨o, ho, rfl⟩ := h1
  exact ⟨⟨Int.le_refl _, by show (0 : Int) ≤ 5; omega, h2⟩, rfl, o, ho, rfl⟩
theorem wts_top (A B : List Rec) (n : Nat) : wts (topP A B n) ≤ n * 1365 := by
  have h1 : wts (topP A B n) ≤ (topP A B n).length * 1365 := wts_le fun q hq => by rw [(top_ok hq).2.1]; decide
  exact Nat.le_trans h1 (Nat.mul_le_mul_right _ (topP_length A B n))
theorem sum_le {α : Type} {f : α → Nat} {c : Nat} : ∀ {W : List α}, (∀ p ∈ W, f p ≤ c) → (W.map f).sum ≤ W.length * c
  | [], _ => by simp
  | p :: W, h => by
    have h1 := h p (by simp)
    have h2 := sum_le (W := W) fun q hq => h q (by simp [hq])
    rw [List.map_cons, List.sum_cons, List.length_cons, Nat.add_mul]; omega
theorem flat_le {α β : Type} {f : α → List β} {c : Nat} {W : List α} (h : ∀ p ∈ W, (f p).length ≤ c) : (W.flatMap f).length ≤ W.length * c := by
  rw [List.length_flatMap]; exact sum_le h
theorem keysP_le (A B : List Rec) : ∀ (n : Nat) (p : Part), (keysP A B n p).length ≤ 4 ^ n
  | 0, p => by simp [keysP]
  | n + 1, p => by
    have h1 := flat_le (f := keysP A B n) (W := stepP A B p) fun q _ => keysP_le A B n q
    have h2 := Nat.mul_le_mul_right (4 ^ n) (stepP_length A B p)
    simp only [keysP]; rw [Nat.pow_succ, Nat.mul_comm]; omega
theorem findK_le (A B : List Rec) (n : Nat) : (findK A B n).length ≤ n * 1024 := by
  have h1 := flat_le (f := keysP A B 5) (W := topP A B n) fun q _ => keysP_le A B 5 q
  exact Nat.le_trans h1 (Nat.mul_le_mul_right _ (topP_length A B n))
def ak : Nat → Nat
  | 0 => 0
  | n + 1 => 4 + 4 * ak n
theorem askP_le (A B : List Rec) : ∀ (n : Nat) (p : Part), askP A B n p ≤ ak n
  | 0, p => by simp [askP, ak]
  | n + 1, p => by
    have h1 := sum_le (f := askP A B n) (W := stepP A B p) fun q _ => askP_le A B n q
    have h2 := Nat.mul_le_mul_right (ak n) (stepP_length A B p)
    simp only [askP, ak]; omega
theorem askN_le (A B : List Rec) (n : Nat) : askN A B n ≤ n * 1365 := by
  have h1 := sum_le (f := askP A B 5) (W := topP A B n) fun q _ => askP_le A B 5 q
  have h2 := Nat.mul_le_mul_right (ak 5) (topP_length A B n)
  have h3 : ak 5 = 1364 := by decide
  rw [h3] at h1 h2
  unfold askN; omega
/-! ### No key twice -/
theorem pairwise_flatMap {α β : Type} {R : β → β → Prop} {f : α → List β} : ∀ {W : List α}, W.Pairwise (fun p q => ∀ x ∈ f p, ∀ y ∈ f q, R x y) → (∀ p ∈ W, (f p).Pairwise R) → (W.flatMap f).Pairwise R
  | [], _, _ => by simp
  | p :: W, h, g => by
    rw [List.flatMap_cons, List.pairwise_append]
    obtain ⟨h1, h2⟩ := List.pairwise_cons.1 h
    refine ⟨g p (by simp), pairwise_flatMap h2 fun q hq => g q (by simp [hq]), fun x hx y hy => ?_⟩
    obtain ⟨q, hq, hy⟩ := List.mem_flatMap.1 hy
    exact h1 q hq x hx y hy
theorem keysP_in {A B : List Rec} : ∀ (n : Nat) {p : Part} {k : Key}, k ∈ keysP A B n p → k.o = p.o ∧ k.q / 4 ^ n = p.i
  | 0, p, k, h => by
    simp only [keysP, List.mem_singleton] at h; subst h; simp
  | n + 1, p, k, h => by
    simp only [keysP, List.mem_flatMap] at h
    obtain ⟨q, hq, hk⟩ := h
    obtain ⟨h1, h2⟩ := keysP_in n hk
    unfold stepP at hq
    split at hq
    · obtain ⟨hq, -⟩ := List.mem_filter.1 hq
      simp only [partsOf, List.mem_map, List.mem_range] at hq
      obtain ⟨j, hj, rfl⟩ := hq
      refine ⟨h1, ?_⟩
      rw [Int.pow_succ, ← Int.ediv_ediv_of_nonneg (Int.le_of_lt (Int.pow_pos (by decide))), h2]
      show (4 * p.i + (j : Int)) / 4 = p.i
      omega
    · cases hq
theorem keysP_nodup {A B : List Rec} : ∀ (n : Nat) (p : Part), (keysP A B n p).Nodup
  | 0, p => by simp [keysP]
  | n + 1, p => by
    simp only [keysP]
    refine pairwise_flatMap ?_ fun q _ => keysP_nodup n q
    unfold stepP; split
    · refine List.Pairwise.filter _ ?_
      refine List.pairwise_map.2 (List.pairwise_lt_range.imp fun {j k} hjk x hx y hy e => ?_)
      subst e
      have h1 := (keysP_in n hx).2
      have h2 := (keysP_in n hy).2
      dsimp only at h1 h2; omega
    · exact List.Pairwise.nil
theorem findK_nodup (A B : List Rec) (n : Nat) : (findK A B n).Nodup := by
  refine pairwise_flatMap ?_ fun q _ => keysP_nodup 5 q
  refine List.Pairwise.filter _ (List.pairwise_map.2 (List.pairwise_lt_range.imp fun {j k} hjk x hx y hy e => ?_))
  subst e
  have h1 := (keysP_in 5 hx).1
  have h2 := (keysP_in 5 hy).1
  dsimp only at h1 h2; omega
end Go.Proofs.YthlnjkfahmebjaaDoor
