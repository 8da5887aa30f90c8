/- What the closing leans on: part 13. -/
import Derived.Test.YtklgiidfompdpaaGreatDoorXa
import Derived.Test.YtklgiidfompdpaaGreatDoorXl
namespace Go.Stb
open Go
variable {α : Type} {lt : α → α → Bool}
/-- An order that tells any two others apart. -/
structure Ord (lt : α → α → Bool) : Prop where
  tr : ∀ x y z, lt x y = true → lt y z = true → lt x z = true
  asy : ∀ x y, lt x y = true → lt y x = false
/-- Elements that the order tells apart. -/
def Apart (lt : α → α → Bool) (l : List α) : Prop := l.Pairwise fun x y => lt x y = true ∨ lt y x = true
def Asc (lt : α → α → Bool) (l : List α) : Prop := l.Pairwise fun x y => lt x y = true
theorem Apart.perm {l m : List α} (h : Apart lt l) (p : List.Perm l m) : Apart lt m := (List.Perm.pairwise_iff (fun {_ _} h => h.symm) p).1 h
theorem Apart.app {A B : List α} (h : Apart lt (A ++ B)) {x y : α} (hx : x ∈ A) (hy : y ∈ B) : lt x y = true ∨ lt y x = true := (List.pairwise_append.1 h).2.2 x hx y hy
theorem Asc.app {A B : List α} (hA : Asc lt A) (hB : Asc lt B) (h : ∀ x ∈ A, ∀ y ∈ B, lt x y = true) : Asc lt (A ++ B) := List.pairwise_append.2 ⟨hA, hB, h⟩
theorem Asc.at2 {l : List α} (h : Asc lt l) {i j : Nat} {x y : α} (hi : l[i]? = some x) (hj : l[j]? = some y) (hij : i < j) : lt x y = true := by
  obtain ⟨h1, rfl⟩ := List.getElem?_eq_some_iff.1 hi
  obtain ⟨h2, rfl⟩ := List.getElem?_eq_some_iff.1 hj
  exact List.pairwise_iff_getElem.1 h i j h1 h2 hij
/-- One from the left into its place. -/
theorem one_left {x : α} {B : List α} {t : Nat} (ha : Apart lt ([x] ++ B)) (hB : Asc lt B) (h1 : ∀ k y, k < t → B[k]? = some y → lt y x = true) (h2 : ∀ k y, t ≤ k → B[k]? = some y → lt y x = false) : Asc lt (B.take t ++ [x] ++ B.drop t) := by
  have hsub : List.Sublist (B.take t ++ B.drop t) B := by rw [List.take_append_drop]; exact List.Sublist.refl _
  have hAB := List.pairwise_append.1 (hB.sublist hsub)
  have hl : ∀ y ∈ B.take t, lt y x = true := fun y hy => by
    obtain ⟨k, hk⟩ := List.mem_iff_getElem?.1 hy
    rw [List.getElem?_take] at hk
    split at hk
    · exact h1 k y (by assumption) hk
    · cases hk
  have hr : ∀ y ∈ B.drop t, lt x y = true := fun y hy => by
    obtain ⟨k, hk⟩ := List.mem_iff_getElem?.1 hy
    rw [List.getElem?_drop] at hk
    have h3 := h2 (t + k) y (Nat.le_add_right _ _) hk
    rcases ha.app (List.mem_singleton_self x) (List.mem_of_getElem? hk) with h | h
    · exact h
    · rw [h3] at h; cases h
  refine Asc.app (Asc.app hAB.1 (List.pairwise_singleton _ _) fun y hy z hz => ?_) hAB.2.1 fun y hy z hz => ?_
  · simp only [List.mem_singleton] at hz; subst hz; exact hl y hy
  · rcases List.mem_append.1 hy with hy | hy
    · exact hAB.2.2 y hy z hz
    · simp only [List.mem_singleton] at hy; subst hy; exact hr z hz
/-- One from the right. -/
theorem one_right {y : α} {A : List α} {t : Nat} (ha : Apart lt (A ++ [y])) (hA : Asc lt A) (h1 : ∀ k x, k < t → A[k]? = some x → lt y x = false) (h2 : ∀ k x, t ≤ k → A[k]? = some x → lt y x = true) : Asc lt (A.take t ++ [y] ++ A.drop t) := by
  have hsub : List.Sublist (A.take t ++ A.drop t) A := by rw [List.take_append_drop]; exact List.Sublist.refl _
  have hAB := List.pairwise_append.1 (hA.sublist hsub)
  have hl : ∀ x ∈ A.take t, lt x y = true := fun x hx => by
    obtain ⟨k, hk⟩ := List.mem_iff_getElem?.1 hx
    rw [List.getElem?_take] at hk
    split at hk
    · have h3 := h1 k x (by assumption) hk
      rcases ha.app (List.mem_of_getElem? hk) (List.mem_singleton_self y) with h | h
      · exact h
      · rw [h3] at h; cases h
    · cases hk
  have hr : ∀ x ∈ A.drop t, lt y x = true := fun x hx => by
    obtain ⟨k, hk⟩ := List.mem_iff_getElem?.1 hx
    rw [List.getElem?_drop] at hk
    exact h2 (t + k) x (Nat.le_add_right _ _) hk
  refine Asc.app (Asc.app hAB.1 (List.pairwise_singleton _ _) fun y' hy z hz => ?_) hAB.2.1 fun y' hy z hz => ?_
  · simp only [List.mem_singleton] at hz; subst hz; exact hl y' hy
  · rcases List.mem_append.1 hy with hy | hy
    · exact hAB.2.2 y' hy z hz
    · simp only [List.mem_singleton] at hy; subst hy; exact hr z hz
/-- Where both are cut: i of the left and k of the right are ahead of all others. -/
theorem cut_both (O : Ord lt) {A B : List α} {i k : Nat} (hi : i ≤ A.length) (hk : k ≤ B.length) (ha : Apart lt (A ++ B)) (hA : Asc lt A) (hB : Asc lt B)
    (h1 : ∀ x y, 0 < i → A[i - 1]? = some x → B[k]? = some y → lt y x = false) (h2 : ∀ x y, 0 < k → B[k - 1]? = some y → A[i]? = some x → lt y x = true) :
    ∀ x ∈ A.take i ++ B.take k, ∀ y ∈ A.drop i ++ B.drop k, lt x y = true := by
  have hle : ∀ {l : List α} (hl : Asc lt l) {p q : Nat} {u v : α}, l[p]? = some u → l[q]? = some v → p < q → lt u v = true := fun hl _ _ _ _ hp hq h => Asc.at2 hl hp hq h
  intro x hx y hy
  rcases List.mem_append.1 hx with hx | hx <;> rcases List.mem_append.1 hy with hy | hy
  · have hsub : List.Sublist (A.take i ++ A.drop i) A := by rw [List.take_append_drop]; exact List.Sublist.refl _
    exact (List.pairwise_append.1 (hA.sublist hsub)).2.2 x hx y hy
  · obtain ⟨p, hp⟩ := List.mem_iff_getElem?.1 hx
    obtain ⟨q, hq⟩ := List.mem_iff_getElem?.1 hy
    rw [List.getElem?_take] at hp
    rw [List.getElem?_drop] at hq
    split at hp
    · rename_i hpi
      have hpl := (List.getElem?_eq_some_iff.1 hp).1
      have hql := (List.getElem?_eq_some_iff.1 hq).1
      -- the last of the left is not behind the first of the right
      have hlast : ∀ u v, A[i - 1]? = some u → B[k]? = some v → lt u v = true := fun u v hu hv => by
        have h3 := h1 u v (by omega) hu hv
        rcases ha.app (List.mem_of_getElem? hu) (List.mem_of_getElem? hv) with h | h
        · exact h
        · rw [h3] at h; cases h
      by_cases hil : i - 1 < A.length
      · have hu : A[i - 1]? = some A[i - 1] := by simp [hil]
        have hv : B[k]? = some (B[k]'(by omega)) := by simp [show k < B.length by omega]
        have e := hlast _ _ hu hv
        have e1 : lt x (B[k]'(by omega)) = true := by
          by_cases hpe : p = i - 1
          · subst hpe; rw [hp] at hu; cases hu; exact e
          · exact O.tr _ _ _ (hle hA hp hu (by omega)) e
        by_cases hqe : q = 0
        · subst hqe; rw [Nat.add_zero, hv] at hq; cases hq; exact e1
        · exact O.tr _ _ _ e1 (hle hB hv hq (by omega))
      · exfalso; omega
    · cases hp
  · obtain ⟨p, hp⟩ := List.mem_iff_getElem?.1 hx
    obtain ⟨q, hq⟩ := List.mem_iff_getElem?.1 hy
    rw [List.getElem?_take] at hp
    rw [List.getElem?_drop] at hq
    split at hp
    · rename_i hpk
      have hpl := (List.getElem?_eq_some_iff.1 hp).1
      have hql := (List.getElem?_eq_some_iff.1 hq).1
      have hv : A[i]? = some (A[i]'(by omega)) := by simp [show i < A.length by omega]
      by_cases hkl : k - 1 < B.length
      · have hu : B[k - 1]? = some B[k - 1] := by simp [hkl]
        have e := h2 _ _ (by omega) hu hv
        have e1 : lt x (A[i]'(by omega)) = true := by
          by_cases hpe : p = k - 1
          · subst hpe; rw [hp] at hu; cases hu; exact e
          · exact O.tr _ _ _ (hle hB hp hu (by omega)) e
        by_cases hqe : q = 0
        · subst hqe; rw [Nat.add_zero, hv] at hq; cases hq; exact e1
        · exact O.tr _ _ _ e1 (hle hA hv hq (by omega))
      · exfalso; omega
    · cases hp
  · have hsub : List.Sublist (B.take k ++ B.drop k) B := by rw [List.take_append_drop]; exact List.Sublist.refl _
    exact (List.pairwise_append.1 (hB.sublist hsub)).2.2 x hx y hy
end Go.Stb
namespace Go.Stb
open Go
variable {α : Type} {lt : α → α → Bool}
theorem get_mid (A B : List α) (x : α) : (A ++ x :: B)[A.length]? = some x := by rw [List.getElem?_append_right (Nat.le_refl _), Nat.sub_self]; rfl
theorem set_mid (A B : List α) (x y : α) : (A ++ x :: B).set A.length y = A ++ y :: B := by rw [List.set_append_right _ _ (Nat.le_refl _), Nat.sub_self]; rfl
theorem getA {l A B : List α} {x : α} {i : Nat} (h : l = A ++ x :: B) (hi : i = A.length) : l[i]? = some x := by subst h; subst hi; exact get_mid ..
theorem set_at {l A B : List α} {x : α} {i : Nat} (y : α) (h : l = A ++ x :: B) (hi : i = A.length) : l.set i y = A ++ y :: B := by subst h; subst hi; exact set_mid ..
/-- Two elements change places. -/
theorem swap_at {l A B C : List α} {x y : α} {i j : Nat} (h : l = A ++ x :: (B ++ y :: C)) (hi : i = A.length) (hj : j = A.length + 1 + B.length) : (l.set i y).set j x = A ++ y :: (B ++ x :: C) := by
  rw [set_at y h hi, set_at (A := A ++ y :: B) (B := C) (x := y) x (by simp) (by simp; omega)]; simp
theorem swap_at' {l A B C : List α} {x y : α} {i j : Nat} (h : l = A ++ x :: (B ++ y :: C)) (hi : i = A.length) (hj : j = A.length + 1 + B.length) : (l.set j x).set i y = A ++ y :: (B ++ x :: C) := by
  rw [set_at (A := A ++ x :: B) (B := C) (x := y) x (by rw [h]; simp) (by simp; omega), set_at (A := A) (B := B ++ x :: C) (x := x) y (by simp) hi]
theorem getB {l A B C : List α} {x y : α} {j : Nat} (h : l = A ++ x :: (B ++ y :: C)) (hj : j = A.length + 1 + B.length) : l[j]? = some y := getA (A := A ++ x :: B) (B := C) (by rw [h]; simp) (by simp; omega)
theorem drop_cons {l : List α} {i : Nat} {x : α} (h : l[i]? = some x) : l.drop i = x :: l.drop (i + 1) := by
  obtain ⟨hl, rfl⟩ := List.getElem?_eq_some_iff.1 h
  exact List.drop_eq_getElem_cons hl
theorem take_snoc' {l : List α} {i : Nat} {x : α} (h : l[i]? = some x) : l.take (i + 1) = l.take i ++ [x] := by rw [List.take_add_one, h]; rfl
theorem some_at {l : List α} {i : Nat} (h : i < l.length) : ∃ x, l[i]? = some x := ⟨l[i], by simp [h]⟩
/-- Where ranges are changed: the first i of each have changed places. -/
def swS (D X M Y E : List α) (i : Nat) : List α := D ++ ((Y.take i ++ X.drop i) ++ (M ++ ((X.take i ++ Y.drop i) ++ E)))
theorem swS_0 (D X M Y E : List α) : swS D X M Y E 0 = D ++ (X ++ (M ++ (Y ++ E))) := by simp [swS]
theorem swS_n {D X M Y E : List α} (h : X.length = Y.length) : swS D X M Y E X.length = D ++ (Y ++ (M ++ (X ++ E))) := by
  unfold swS
  rw [List.take_of_length_le (by omega), List.drop_of_length_le (Nat.le_refl _), List.take_of_length_le (Nat.le_refl _), List.drop_of_length_le (by omega)]; simp
theorem swS_at {D X M Y E : List α} {i : Nat} {x y : α} (hx : X[i]? = some x) (hy : Y[i]? = some y) : swS D X M Y E i = (D ++ Y.take i) ++ x :: ((X.drop (i + 1) ++ (M ++ X.take i)) ++ y :: (Y.drop (i + 1) ++ E)) := by
  unfold swS; rw [drop_cons hx, drop_cons hy]; simp
theorem swS_s {D X M Y E : List α} {i : Nat} {x y : α} (hx : X[i]? = some x) (hy : Y[i]? = some y) : swS D X M Y E (i + 1) = (D ++ Y.take i) ++ y :: ((X.drop (i + 1) ++ (M ++ X.take i)) ++ x :: (Y.drop (i + 1) ++ E)) := by
  unfold swS; rw [take_snoc' hx, take_snoc' hy]; simp
theorem swS_len {D X M Y E : List α} {i : Nat} (h : X.length = Y.length) (hi : i ≤ X.length) : (swS D X M Y E i).length = (D ++ (X ++ (M ++ (Y ++ E)))).length := by
  unfold swS; simp only [List.length_append, List.length_take, List.length_drop]; omega
theorem swS_pos {D X M Y : List α} {i : Nat} (h : X.length = Y.length) (hi : i < X.length) : (D ++ Y.take i).length = D.length + i ∧ (D ++ Y.take i).length + 1 + (X.drop (i + 1) ++ (M ++ X.take i)).length = D.length + X.length + M.length + i := by
  simp only [List.length_append, List.length_take, List.length_drop]; omega
/-- Going into a list that is in order, from its end. -/
def inS (P C : List α) (x : α) (Q : List α) (t : Nat) : List α := P ++ ((C.take t ++ x :: C.drop t) ++ Q)
theorem inS_at {P C : List α} {x u : α} {Q : List α} {t : Nat} (hu : C[t]? = some u) : inS P C x Q (t + 1) = (P ++ C.take t) ++ u :: ([] ++ x :: (C.drop (t + 1) ++ Q)) := by
  unfold inS; rw [take_snoc' hu]; simp
theorem inS_s {P C : List α} {x u : α} {Q : List α} {t : Nat} (hu : C[t]? = some u) : inS P C x Q t = (P ++ C.take t) ++ x :: ([] ++ u :: (C.drop (t + 1) ++ Q)) := by
  unfold inS; rw [drop_cons hu]; simp
theorem inS_len {P C : List α} {x : α} {Q : List α} {t : Nat} : (inS P C x Q t).length = P.length + C.length + 1 + Q.length := by
  unfold inS; simp only [List.length_append, List.length_take, List.length_cons, List.length_drop]; omega
theorem inS_x {P C : List α} {x : α} {Q : List α} {t : Nat} (ht : t ≤ C.length) : (inS P C x Q t)[P.length + t]? = some x := by
  refine getA (A := P ++ C.take t) (B := C.drop t ++ Q) (by unfold inS; simp) (by simp; omega)
theorem inS_perm (P C : List α) (x : α) (Q : List α) (t : Nat) : List.Perm (C.take t ++ x :: C.drop t) (C ++ [x]) := by
  have h : List.Perm (C.take t ++ x :: C.drop t) (x :: (C.take t ++ C.drop t)) := List.perm_middle
  rw [List.take_append_drop] at h
  exact h.trans (List.perm_append_comm (l₁ := [x]) (l₂ := C))
/-- What is known at the two sides of a place is known on. -/
theorem low_all (O : Ord lt) {B : List α} {x : α} {t : Nat} (hB : Asc lt B) (h : ∀ y, 0 < t → B[t - 1]? = some y → lt y x = true) (ht : t ≤ B.length) : ∀ k y, k < t → B[k]? = some y → lt y x = true := fun k y hk hy => by
  obtain ⟨z, hz⟩ := some_at (l := B) (i := t - 1) (by omega)
  have h1 := h z (by omega) hz
  by_cases e : k = t - 1
  · subst e; rw [hz] at hy; cases hy; exact h1
  · exact O.tr _ _ _ (hB.at2 hy hz (by omega)) h1
theorem high_none (O : Ord lt) {B : List α} {x : α} {t : Nat} (hB : Asc lt B) (h : ∀ y, B[t]? = some y → lt y x = false) : ∀ k y, t ≤ k → B[k]? = some y → lt y x = false := fun k y hk hy => by
  by_cases e : k = t
  · subst e; exact h y hy
  · have hl := (List.getElem?_eq_some_iff.1 hy).1
    obtain ⟨z, hz⟩ := some_at (l := B) (i := t) (by omega)
    cases hh : lt y x with
    | false => rfl
    | true => exact absurd (O.tr _ _ _ (hB.at2 hz hy (by omega)) hh) (by rw [h z hz]; decide)
theorem low_none (O : Ord lt) {A : List α} {y : α} {t : Nat} (hA : Asc lt A) (h : ∀ x, 0 < t → A[t - 1]? = some x → lt y x = false) (ht : t ≤ A.length) : ∀ k x, k < t → A[k]? = some x → lt y x = false := fun k x hk hx => by
  obtain ⟨z, hz⟩ := some_at (l := A) (i := t - 1) (by omega)
  have h1 := h z (by omega) hz
  by_cases e : k = t - 1
  · subst e; rw [hz] at hx; cases hx; exact h1
  · cases hh : lt y x with
    | false => rfl
    | true => rw [O.tr _ _ _ hh (hA.at2 hx hz (by omega))] at h1; cases h1
theorem high_all (O : Ord lt) {A : List α} {y : α} {t : Nat} (hA : Asc lt A) (h : ∀ x, A[t]? = some x → lt y x = true) : ∀ k x, t ≤ k → A[k]? = some x → lt y x = true := fun k x hk hx => by
  by_cases e : k = t
  · subst e; exact h x hx
  · have hl := (List.getElem?_eq_some_iff.1 hx).1
    obtain ⟨z, hz⟩ := some_at (l := A) (i := t) (by omega)
    exact O.tr _ _ _ (h z hz) (hA.at2 hz hx (by omega))
theorem block_pre {P T : List α} {i s : Nat} (h : i * s + s ≤ P.length) : ((P ++ T).drop (i * s)).take s = (P.drop (i * s)).take s := by
  rw [List.drop_append_of_le_length (by omega), List.take_append_of_le_length (by simp; omega)]
theorem block_mid {P C T : List α} {i s : Nat} (hP : P.length = i * s) (h : C.length = s ∨ (C.length ≤ s ∧ T = [])) : ((P ++ (C ++ T)).drop (i * s)).take s = C := by
  rw [List.drop_append_of_le_length (by omega), List.drop_of_length_le (by omega), List.nil_append]
  rcases h with h | ⟨h, rfl⟩
  · rw [List.take_append_of_le_length (by omega), List.take_of_length_le (by omega)]
  · rw [List.append_nil, List.take_of_length_le h]
/-- A list in order is told by what it has. -/
theorem asc_uniq (O : Ord lt) : ∀ {l m : List α}, Asc lt l → Asc lt m → List.Perm l m → l = m
  | [], m, _, _, p => (List.Perm.nil_eq p)
  | x :: l, [], _, _, p => by have := p.length_eq; simp at this
  | x :: l, y :: m, hl, hm, p => by
    have hl' := List.pairwise_cons.1 hl
    have hm' := List.pairwise_cons.1 hm
    have e : x = y := by
      rcases List.mem_cons.1 (p.subset (List.mem_cons_self : x ∈ x :: l)) with h | h
      · exact h
      · rcases List.mem_cons.1 (p.symm.subset (List.mem_cons_self : y ∈ y :: m)) with h2 | h2
        · exact h2.symm
        · have h3 := O.asy _ _ (hm'.1 x h)
          rw [hl'.1 y h2] at h3; cases h3
    subst e
    rw [asc_uniq O hl'.2 hm'.2 (List.Perm.cons_inv p)]
end Go.Stb
namespace Go.Proofs.YtklgiidfompdpaaGreatDoor
open Go Go.Sl Go.Gv Go.Kv Go.Po Go.Ix Go.Stb
theorem less_iff {a b : Rec} : lessR a b = true ↔ a.w < b.w ∨ (a.w = b.w ∧ (a.c < b.c ∨ (a.c = b.c ∧ before a.key b.key = true))) := by
  unfold lessR slB
  simp only [Bool.or_eq_true, Bool.and_eq_true, decide_eq_true_eq, Prod.mk.injEq]
  constructor
  · rintro ((h | ⟨h1, h2⟩) | ⟨⟨h1, h2⟩, h3⟩)
    · exact .inl h
    · exact .inr ⟨h1, .inl h2⟩
    · exact .inr ⟨h1, .inr ⟨h2, h3⟩⟩
  · rintro (h | ⟨h1, h2 | ⟨h2, h3⟩⟩)
    · exact .inl (.inl h)
    · exact .inl (.inr ⟨h1, h2⟩)
    · exact .inr ⟨⟨h1, h2⟩, h3⟩
theorem ordL : Ord lessR where
  tr x y z h1 h2 := by
    rw [less_iff] at *
    rcases h1 with h1 | ⟨h1, h1' | ⟨h1', h1''⟩⟩ <;> rcases h2 with h2 | ⟨h2, h2' | ⟨h2', h2''⟩⟩
    · exact .inl (by omega)
    · exact .inl (by omega)
    · exact .inl (by omega)
    · exact .inl (by omega)
    · exact .inr ⟨by omega, .inl (by omega)⟩
    · exact .inr ⟨by omega, .inl (by omega)⟩
    · exact .inl (by omega)
    · exact .inr ⟨by omega, .inl (by omega)⟩
    · exact .inr ⟨by omega, .inr ⟨by omega, before_trans h1'' h2''⟩⟩
  asy x y h := by
    cases hh : lessR y x with
    | false => rfl
    | true =>
      rw [less_iff] at *
      rcases h with h1 | ⟨h1, h1' | ⟨h1', h1''⟩⟩ <;> rcases hh with h2 | ⟨h2, h2' | ⟨h2', h2''⟩⟩ <;> first | omega | (rw [before_asymm h1''] at h2''; cases h2'')
theorem less_total {a b : Rec} (h : a.key ≠ b.key) : lessR a b = true ∨ lessR b a = true := by
  rw [less_iff, less_iff]
  rcases before_total h with hb | hb <;> by_cases h1 : a.w = b.w <;> by_cases h2 : a.c = b.c <;> simp only [hb] <;> first | omega | skip
  all_goals simp only [h1, h2, true_and, and_true, Int.lt_irrefl, false_or, or_true, true_or]
theorem apart_keys {l : List Rec} (h : (l.map Rec.key).Nodup) : Apart lessR l := by
  have h' : l.Pairwise fun a b => a.key ≠ b.key := List.pairwise_map.1 h
  exact h'.imp fun {a b} hab => less_total hab
/-- What sorting gives. -/
def IsS (xs ys : List Rec) : Prop := List.Perm ys xs ∧ Asc lessR ys
theorem IsS.uniq {xs xs' ys ys' : List Rec} (h : IsS xs ys) (h' : IsS xs' ys') (p : List.Perm xs xs') : ys = ys' := Stb.asc_uniq ordL h.2 h'.2 ((h.1.trans p).trans h'.1.symm)
end Go.Proofs.YtklgiidfompdpaaGreatDoor
namespace Go.Proofs.YtklgiidfompdpaaGreatDoor
open Go Go.Sl Go.Gv Go.Kv Go.Po Go.Ix Go.Stb
set_option maxRecDepth 100000
abbrev cmpR : Value := .func (.func 115) #[] #[]
abbrev rsA (a : Option Addr) (c : Nat) (l : List Rec) : HProp := sl 32 5 recC a c l
theorem swapR_spec (a : Option Addr) (c : Nat) {D X M Y E : List Rec} {p q k : Int} (hp : p = (D.length : Nat)) (hq : q = ((D.length + X.length + M.length : Nat) : Int)) (hk : k = (X.length : Nat)) (h : X.length = Y.length) {n : Nat} (hn : n = (D ++ (X ++ (M ++ (Y ++ E)))).length) (hl : n ≤ 100000) :
    Ct Tryz.prog 270 [.slice a n c, int p, int q, int k, cmpR] [rsA a c (D ++ (X ++ (M ++ (Y ++ E))))] (fun v hs => v = .tuple #[] ∧ hs = [rsA a c (D ++ (Y ++ (M ++ (X ++ E))))]) := by
  have hln : n = D.length + (X.length + (M.length + (Y.length + E.length))) := by rw [hn]; simp
  rw [← swS_0 D X M Y E]
  refine Ct.intro Tryz.func270 rfl (by kernel_rfl) 38 Tryz.ntmps270 (Nat.le_of_ble_eq_true rfl) fun w0 R => ?_
  refine Gs.slAddr (xs := swS D X M Y E 0) (SlH.own (E := 32) (enc := recC) (by repeat constructor)) fun ab ao ha => ?_
  refine Gsr ?_
  refine Las rfl rfl ?_
  refine Lnt ?_
  refine Gs.block ?_
  refine Gs.loop1 (fun i : Nat => i ≤ X.length) (fun i => [(0, .slice a n c), (1, int p), (2, int q), (3, int k), (10, int i)]) (fun i => [rsA a c (swS D X M Y E i)] ++ R) (fun i => X.length - i) 0 (Nat.zero_le _) (by repeat constructor) (by repeat constructor) (fun i hi => ?_)
  refine Gs.seq ?_
  refine Gsr ?_
  refine Lmv rfl rfl ?_
  refine Lmv rfl rfl ?_
  refine Lpu rfl rfl trivial (pu_lt rfl rfl) ?_
  refine Lnt ?_
  refine Gs.cond rfl (fun hc0 => ?_) (fun hc0 => ?_)
  ·
   have hlt : i < X.length := by have := of_decide_eq_true hc0; omega
   obtain ⟨x, hx⟩ := some_at hlt
   obtain ⟨y, hy⟩ := some_at (l := Y) (i := i) (by omega)
   have hne : swS D X M Y E 0 ≠ [] := fun e => by
     have h0 := swS_len (D := D) (M := M) (E := E) (i := 0) h (Nat.zero_le _)
     rw [e, ← hn] at h0; simp at h0; omega
   obtain rfl := ha hne
   have hsw := swS_at (D := D) (M := M) (E := E) hx hy
   have hs1 := swS_s (D := D) (M := M) (E := E) hx hy
   obtain ⟨hpa, hpb⟩ := swS_pos (D := D) (M := M) h hlt
   have gx : (swS D X M Y E i)[(p + (i : Int)).toNat]? = some x := getA hsw (by omega)
   have gy : (swS D X M Y E i)[(q + (i : Int)).toNat]? = some y := getB hsw (by omega)
   have hne2 : (p + (i : Int)).toNat ≠ (q + (i : Int)).toNat := by omega
   have gy2 : ((swS D X M Y E i).set (p + (i : Int)).toNat y)[(q + (i : Int)).toNat]? = some y := by rw [List.getElem?_set_ne hne2]; exact gy
   have hset : ((swS D X M Y E i).set (p + (i : Int)).toNat y).set (q + (i : Int)).toNat x = swS D X M Y E (i + 1) := by rw [hs1]; exact swap_at hsw (by omega) (by omega)
   refine Gs.skip ?_
   refine Gs.then_n ?_
   refine Gs.seq ?_
   refine Gs.block ?_
   refine Gs.regD mixed (by kernel_rfl) ?_
   refine Rg.pu 0 rfl rfl (by kernel_rfl) trivial (pu_move rfl) ?_
   refine Rg.pu 1 rfl rfl (by kernel_rfl) trivial (pu_move rfl) ?_
   refine Rg.pu 2 rfl rfl (by kernel_rfl) trivial (pu_move rfl) ?_
   refine Rg.pu 3 rfl rfl (by kernel_rfl) trivial (by first | exact pu_addI rfl rfl rfl (by omega) (by omega) | exact pu_add rfl rfl) ?_
   refine Rg.pu 4 rfl rfl (by kernel_rfl) trivial (pu_move rfl) ?_
   refine Rg.pu 5 rfl rfl (by kernel_rfl) trivial (pu_move rfl) ?_
   refine Rg.pu 6 rfl rfl (by kernel_rfl) trivial (pu_move rfl) ?_
   refine Rg.pu 7 rfl rfl (by kernel_rfl) trivial (by first | exact pu_addI rfl rfl rfl (by omega) (by omega) | exact pu_add rfl rfl) ?_
   refine Rg.pu 8 rfl rfl (by kernel_rfl) trivial (pu_move rfl) ?_
   refine Rg.pu 9 rfl rfl (by kernel_rfl) trivial (pu_move rfl) ?_
   refine Rg.pu 10 rfl rfl (by kernel_rfl) trivial (pu_move rfl) ?_
   refine Rg.pu 11 rfl rfl (by kernel_rfl) trivial (by first | exact pu_addI rfl rfl rfl (by omega) (by omega) | exact pu_add rfl rfl) ?_
   refine Rg.pu 12 rfl rfl (by kernel_rfl) trivial (pu_ia se_41 rfl rfl (by omega) (by omega)) ?_
   refine Rg.rd 13 rfl rfl (by kernel_rfl) trivial (rd_lda ag_32 rfl (Rdc.el0 (SlH.own (xs := swS D X M Y E i) (E := 32) (enc := recC) (sz := 5) (by repeat constructor)) gy rfl rfl) rfl) ?_
   refine Rg.pu 14 rfl rfl (by kernel_rfl) trivial (pu_move rfl) ?_
   refine Rg.pu 15 rfl rfl (by kernel_rfl) trivial (pu_move rfl) ?_
   refine Rg.pu 16 rfl rfl (by kernel_rfl) trivial (pu_move rfl) ?_
   refine Rg.pu 17 rfl rfl (by kernel_rfl) trivial (by first | exact pu_addI rfl rfl rfl (by omega) (by omega) | exact pu_add rfl rfl) ?_
   refine Rg.pu 18 rfl rfl (by kernel_rfl) trivial (pu_ia se_41 rfl rfl (by omega) (by omega)) ?_
   refine Rg.rd 19 rfl rfl (by kernel_rfl) trivial (rd_lda ag_32 rfl (Rdc.el0 (SlH.own (xs := swS D X M Y E i) (E := 32) (enc := recC) (sz := 5) (by repeat constructor)) gx rfl rfl) rfl) ?_
   refine Rg.pu 20 rfl rfl (by kernel_rfl) trivial (pu_ia se_41 rfl rfl (by omega) (by omega)) ?_
   refine Rg.one (by kernel_rfl) (Stp.ac0 21 rfl rfl (by kernel_rfl) trivial (ac_stE (enc := recC) (xs := swS D X M Y E i) (i := (p + (i : Int)).toNat) (x0 := x) (y0 := y) (vs := recC y) (fo := 0) sz_32 ek_32 rfl rfl (by repeat constructor) rfl rfl rfl gx rfl rfl)  ?_)
   rintro _ _ rfl
   refine Rg.pu 22 rfl rfl (by kernel_rfl) trivial (pu_ia se_41 rfl rfl (by omega) (by omega)) ?_
   refine Rg.one (by kernel_rfl) (Stp.ac0 23 rfl rfl (by kernel_rfl) trivial (ac_stE (enc := recC) (xs := (swS D X M Y E i).set (p + (i : Int)).toNat y) (i := (q + (i : Int)).toNat) (x0 := y) (y0 := x) (vs := recC x) (fo := 0) sz_32 ek_32 rfl rfl (by repeat constructor) rfl rfl rfl gy2 rfl rfl)  ?_)
   rintro _ _ rfl
   refine Rg.end (by kernel_rfl) ?_
   rw [hset]
   refine Gs.blk_n ?_
   refine Gs.then_n ?_
   refine Gs.reg ?_
   refine Lmv rfl rfl ?_
   refine Lpu rfl rfl trivial (by first | exact pu_addI rfl rfl rfl (by omega) (by omega) | exact pu_add rfl rfl) ?_
   refine Las rfl rfl ?_
   refine Lnt ?_
   exact Gs.again1 (i + 1) hlt (by omega) (by repeat constructor) (by repeat constructor)
  ·
   have hge : i = X.length := by have := of_decide_eq_false hc0; omega
   rw [hge, swS_n h]
   refine Gs.exit ?_
   refine Gs.then_x ?_
   refine Gs.then_x ?_
   refine Gs.blk_hit ?_
   refine Gs.fin_n ?_
   exact Gs.fin0 Tryz.results270 _ (⟨rfl, rfl⟩) (by repeat constructor)
/-- Where ranges turn: what is left to do. -/
structure RotS where
  D : List Rec
  X : List Rec
  Y : List Rec
  E : List Rec
theorem rotR_spec (a : Option Addr) (c : Nat) {D U V E : List Rec} {p q b : Int} (hp : p = (D.length : Nat)) (hq : q = ((D.length + U.length : Nat) : Int)) (hb : b = ((D.length + U.length + V.length : Nat) : Int)) (hU : U ≠ []) (hV : V ≠ []) {n : Nat} (hn : n = (D ++ (U ++ (V ++ E))).length) (hl : n ≤ 100000) :
    Ct Tryz.prog 251 [.slice a n c, int p, int q, int b, cmpR] [rsA a c (D ++ (U ++ (V ++ E)))] (fun v hs => v = .tuple #[] ∧ hs = [rsA a c (D ++ (V ++ (U ++ E)))]) := by
  have hUl := List.length_pos_iff.2 hU
  have hVl := List.length_pos_iff.2 hV
  have hln : n = D.length + (U.length + (V.length + E.length)) := by rw [hn]; simp
  obtain ⟨T, hT⟩ : ∃ T, T = D ++ (V ++ (U ++ E)) := ⟨_, rfl⟩
  rw [← hT]
  refine Ct.intro Tryz.func251 rfl (by kernel_rfl) 58 Tryz.ntmps251 (Nat.le_of_ble_eq_true rfl) fun w0 R => ?_
  refine Gsr ?_
  refine Lmv rfl rfl ?_
  refine Lmv rfl rfl ?_
  refine Lpu rfl rfl trivial (by first | exact pu_subI rfl rfl rfl (by omega) (by omega) | exact pu_sub rfl rfl) ?_
  refine Las rfl rfl ?_
  refine Lnil ?_
  rw [show q - p = ((U.length : Nat) : Int) by omega]
  refine Gs.then_n ?_
  refine Gsr ?_
  refine Lmv rfl rfl ?_
  refine Lmv rfl rfl ?_
  refine Lpu rfl rfl trivial (by first | exact pu_subI rfl rfl rfl (by omega) (by omega) | exact pu_sub rfl rfl) ?_
  refine Las rfl rfl ?_
  refine Lnil ?_
  rw [show b - q = ((V.length : Nat) : Int) by omega]
  refine Gs.then_n ?_
  refine Gs.seq ?_
  refine Gs.block ?_
  refine Gs.loop1 (fun s : RotS => 0 < s.X.length ∧ 0 < s.Y.length ∧ q = ((s.D.length + s.X.length : Nat) : Int) ∧ n = s.D.length + (s.X.length + (s.Y.length + s.E.length)) ∧ s.D ++ (s.Y ++ (s.X ++ s.E)) = T) (fun s => [(0, .slice a n c), (1, int p), (2, int q), (3, int b), (4, cmpR), (10, int s.X.length), (11, int s.Y.length)]) (fun s => [rsA a c (s.D ++ (s.X ++ (s.Y ++ s.E)))] ++ R) (fun s => s.X.length + s.Y.length) ⟨D, U, V, E⟩ (⟨hUl, hVl, hq, hln, hT.symm⟩) (by repeat constructor) (by repeat constructor) (fun s hs => ?_)
  obtain ⟨D', X, Y, E'⟩ := s
  obtain ⟨hX, hY, hq', hn', hTs⟩ := hs
  dsimp only at hX hY hq' hn' hTs ⊢
  refine Gs.seq ?_
  refine Gsr ?_
  refine Lmv rfl rfl ?_
  refine Lmv rfl rfl ?_
  refine Lpu rfl rfl trivial (pu_ne rfl rfl) ?_
  refine Lnt ?_
  refine Gs.cond rfl (fun hc0 => ?_) (fun hc0 => ?_)
  ·
   have hne : X.length ≠ Y.length := fun e => (of_decide_eq_true hc0) (by rw [e])
   refine Gs.skip ?_
   refine Gs.then_n ?_
   refine Gs.block ?_
   refine Gsr ?_
   refine Lmv rfl rfl ?_
   refine Lmv rfl rfl ?_
   refine Lpu rfl rfl trivial (pu_gt rfl rfl) ?_
   refine Lnt ?_
   refine Gs.cond rfl (fun hc1 => ?_) (fun hc1 => ?_)
   ·
    have hgt : Y.length < X.length := by have := of_decide_eq_true hc1; omega
    have hX12 : X = X.take Y.length ++ X.drop Y.length := (List.take_append_drop _ _).symm
    obtain ⟨X1, hX1⟩ : ∃ z, z = X.take Y.length := ⟨_, rfl⟩
    obtain ⟨X2, hX2⟩ : ∃ z, z = X.drop Y.length := ⟨_, rfl⟩
    rw [← hX1, ← hX2] at hX12
    have h1l : X1.length = Y.length := by rw [hX1, List.length_take]; omega
    have h2l : X2.length = X.length - Y.length := by rw [hX2, List.length_drop]
    have hlist : D' ++ (X ++ (Y ++ E')) = D' ++ (X1 ++ (X2 ++ (Y ++ E'))) := by rw [hX12]; simp
    have hT2 : (D' ++ Y) ++ (X1 ++ (X2 ++ E')) = T := by rw [← hTs, hX12]; simp
    have hres : D' ++ (Y ++ (X2 ++ (X1 ++ E'))) = (D' ++ Y) ++ (X2 ++ (X1 ++ E')) := by simp
    rw [hlist]
    refine Gsr ?_
    refine Lmv rfl rfl ?_
    refine Lmv rfl rfl ?_
    refine Lmv rfl rfl ?_
    refine Lpu rfl rfl trivial (by first | exact pu_subI rfl rfl rfl (by omega) (by omega) | exact pu_sub rfl rfl) ?_
    refine Lmv rfl rfl ?_
    refine Lmv rfl rfl ?_
    refine Lmv rfl rfl ?_
    refine Lac rfl rfl trivial (as_call (swapR_spec a c (p := q - (X.length : Int)) (q := q) (k := (Y.length : Int)) (n := n) (D := D') (X := X1) (M := X2) (Y := Y) (E := E') (by omega) (by omega) (by omega) h1l (by simp; omega) hl) (by repeat constructor) (by repeat constructor)) ?_
    rintro _ _ ⟨_, ⟨rfl, rfl⟩, rfl⟩
    refine Lnt ?_
    refine Gs.reg ?_
    refine Lmv rfl rfl ?_
    refine Lmv rfl rfl ?_
    refine Lpu rfl rfl trivial (by first | exact pu_subI rfl rfl rfl (by omega) (by omega) | exact pu_sub rfl rfl) ?_
    refine Las rfl rfl ?_
    refine Lnil ?_
    rw [hres, show (X.length : Int) - (Y.length : Int) = (X2.length : Int) by omega, show Y.length = X1.length from h1l.symm]
    refine Gs.blk_n ?_
    refine Gs.then_n ?_
    first | exact Gs.again1 (⟨D' ++ Y, X2, X1, E'⟩ : RotS) ⟨by show 0 < X2.length; omega, by show 0 < X1.length; omega, by show q = (((D' ++ Y).length + X2.length : Nat) : Int); rw [List.length_append]; omega, by show n = (D' ++ Y).length + (X2.length + (X1.length + E'.length)); rw [List.length_append]; omega, hT2⟩ (by show X2.length + X1.length < X.length + Y.length; omega) (by repeat constructor) (by repeat constructor) | exact Gs.again1 (⟨D', Y2, Y1, X ++ E'⟩ : RotS) ⟨by show 0 < Y2.length; omega, by show 0 < Y1.length; omega, by show q = ((D'.length + Y2.length : Nat) : Int); omega, by show n = D'.length + (Y2.length + (Y1.length + (X ++ E').length)); rw [List.length_append]; omega, hT2⟩ (by show Y2.length + Y1.length < X.length + Y.length; omega) (by repeat constructor) (by repeat constructor)
   ·
    have hgt : X.length < Y.length := by have := of_decide_eq_false hc1; omega
    have hY12 : Y = Y.take (Y.length - X.length) ++ Y.drop (Y.length - X.length) := (List.take_append_drop _ _).symm
    obtain ⟨Y1, hY1⟩ : ∃ z, z = Y.take (Y.length - X.length) := ⟨_, rfl⟩
    obtain ⟨Y2, hY2⟩ : ∃ z, z = Y.drop (Y.length - X.length) := ⟨_, rfl⟩
    rw [← hY1, ← hY2] at hY12
    have h1l : Y1.length = Y.length - X.length := by rw [hY1, List.length_take]; omega
    have h2l : Y2.length = X.length := by rw [hY2, List.length_drop]; omega
    have hlist : D' ++ (X ++ (Y ++ E')) = D' ++ (X ++ (Y1 ++ (Y2 ++ E'))) := by rw [hY12]; simp
    have hT2 : D' ++ (Y1 ++ (Y2 ++ (X ++ E'))) = T := by rw [← hTs, hY12]; simp
    have hres : D' ++ (Y2 ++ (Y1 ++ (X ++ E'))) = D' ++ (Y2 ++ (Y1 ++ (X ++ E'))) := rfl
    rw [hlist]
    refine Gsr ?_
    refine Lmv rfl rfl ?_
    refine Lmv rfl rfl ?_
    refine Lmv rfl rfl ?_
    refine Lpu rfl rfl trivial (by first | exact pu_subI rfl rfl rfl (by omega) (by omega) | exact pu_sub rfl rfl) ?_
    refine Lmv rfl rfl ?_
    refine Lmv rfl rfl ?_
    refine Lpu rfl rfl trivial (by first | exact pu_addI rfl rfl rfl (by omega) (by omega) | exact pu_add rfl rfl) ?_
    refine Lmv rfl rfl ?_
    refine Lpu rfl rfl trivial (by first | exact pu_subI rfl rfl rfl (by omega) (by omega) | exact pu_sub rfl rfl) ?_
    refine Lmv rfl rfl ?_
    refine Lmv rfl rfl ?_
    refine Lac rfl rfl trivial (as_call (swapR_spec a c (p := q - (X.length : Int)) (q := q + (Y.length : Int) - (X.length : Int)) (k := (X.length : Int)) (n := n) (D := D') (X := X) (M := Y1) (Y := Y2) (E := E') (by omega) (by omega) (by omega) h2l.symm (by simp; omega) hl) (by repeat constructor) (by repeat constructor)) ?_
    rintro _ _ ⟨_, ⟨rfl, rfl⟩, rfl⟩
    refine Lnt ?_
    refine Gs.reg ?_
    refine Lmv rfl rfl ?_
    refine Lmv rfl rfl ?_
    refine Lpu rfl rfl trivial (by first | exact pu_subI rfl rfl rfl (by omega) (by omega) | exact pu_sub rfl rfl) ?_
    refine Las rfl rfl ?_
    refine Lnil ?_
    rw [show (Y.length : Int) - (X.length : Int) = (Y1.length : Int) by omega, show X.length = Y2.length from h2l.symm]
    refine Gs.blk_n ?_
    refine Gs.then_n ?_
    first | exact Gs.again1 (⟨D' ++ Y, X2, X1, E'⟩ : RotS) ⟨by show 0 < X2.length; omega, by show 0 < X1.length; omega, by show q = (((D' ++ Y).length + X2.length : Nat) : Int); rw [List.length_append]; omega, by show n = (D' ++ Y).length + (X2.length + (X1.length + E'.length)); rw [List.length_append]; omega, hT2⟩ (by show X2.length + X1.length < X.length + Y.length; omega) (by repeat constructor) (by repeat constructor) | exact Gs.again1 (⟨D', Y2, Y1, X ++ E'⟩ : RotS) ⟨by show 0 < Y2.length; omega, by show 0 < Y1.length; omega, by show q = ((D'.length + Y2.length : Nat) : Int); omega, by show n = D'.length + (Y2.length + (Y1.length + (X ++ E').length)); rw [List.length_append]; omega, hT2⟩ (by show Y2.length + Y1.length < X.length + Y.length; omega) (by repeat constructor) (by repeat constructor)
  ·
   have heq : X.length = Y.length := by have := of_decide_eq_false hc0; omega
   refine Gs.exit ?_
   refine Gs.then_x ?_
   refine Gs.then_x ?_
   refine Gs.blk_hit ?_
   refine Gs.then_n ?_
   refine Gs.reg ?_
   refine Lmv rfl rfl ?_
   refine Lmv rfl rfl ?_
   refine Lmv rfl rfl ?_
   refine Lpu rfl rfl trivial (by first | exact pu_subI rfl rfl rfl (by omega) (by omega) | exact pu_sub rfl rfl) ?_
   refine Lmv rfl rfl ?_
   refine Lmv rfl rfl ?_
   refine Lmv rfl rfl ?_
   refine Lac rfl rfl trivial (as_call (swapR_spec a c (p := q - (X.length : Int)) (q := q) (k := (X.length : Int)) (n := n) (D := D') (X := X) (M := []) (Y := Y) (E := E') (by omega) (by rw [List.length_nil]; omega) rfl heq (by simp; omega) hl) (by repeat constructor) (by repeat constructor)) ?_
   rintro _ _ ⟨_, ⟨rfl, rfl⟩, rfl⟩
   refine Lnil ?_
   rw [show D' ++ (Y ++ ([] ++ (X ++ E'))) = T by rw [List.nil_append]; exact hTs]
   refine Gs.fin_n ?_
   exact Gs.fin0 Tryz.results251 _ (⟨rfl, rfl⟩) (by repeat constructor)
theorem ordR_lt {a b : Rec} : decide (ordR a b < 0) = lessR a b := by
  unfold ordR
  cases h1 : lessR a b <;> cases h2 : lessR b a <;> simp
/-- A part of a list that was sorted. -/
def rsE (a : Option Addr) (c : Nat) (P S Q : List Rec) : HProp := fun h => ∃ C, IsS S C ∧ rsA a c (P ++ (C ++ Q)) h
theorem rsE_mk {a : Option Addr} {c : Nat} {P S Q C l : List Rec} (h : IsS S C) (e : l = P ++ (C ++ Q)) : ∀ k, rsA a c l k → rsE a c P S Q k := fun k x => ⟨C, h, by rw [← e]; exact x⟩
theorem Gs.rsE {w0 : World} {n : Nat} {env : Env} {H : List HProp} {X : Act → World → Prop} {a : Option Addr} {c : Nat} {P S Q : List Rec} (g : ∀ C, IsS S C → Gs w0 n env (rsA a c (P ++ (C ++ Q)) :: H) X) : Gs w0 n env (rsE a c P S Q :: H) X :=
  Gs.ex (A := fun C => fun h => IsS S C ∧ rsA a c (P ++ (C ++ Q)) h) fun C => Gs.pure fun h => g C h
theorem Apart.pre {lt : Rec → Rec → Bool} {A B : List Rec} (h : Apart lt (A ++ B)) : Apart lt A := (List.pairwise_append.1 h).1
theorem insR_spec (a : Option Addr) (c : Nat) {P S Q : List Rec} {p q : Nat} (hp : p = P.length) (hq : q = P.length + S.length) (hS : Apart lessR S) {n : Nat} (hn : n = (P ++ (S ++ Q)).length) (hl : n ≤ 40000) :
    Ct Tryz.prog 205 [.slice a n c, int p, int q, cmpR] [rsA a c (P ++ (S ++ Q))] (fun v hs => v = .tuple #[] ∧ hs = [rsE a c P S Q]) := by
  have hln : n = P.length + (S.length + Q.length) := by rw [hn]; simp
  have hcmp : ∀ x y : Rec, Ct Tryz.prog 115 ([] ++ [recV x, recV y] ++ []) [] (fun v hs => v = int (ordR x y) ∧ hs = []) := fun x y => orderR_spec x y
  have h0 : IsS (S.take 1) (S.take 1) := ⟨List.Perm.refl _, by cases S with | nil => exact List.Pairwise.nil | cons x l => exact List.pairwise_singleton _ _⟩
  have hst : P ++ (S ++ Q) = P ++ (S.take 1 ++ (S.drop 1 ++ Q)) := by rw [← List.append_assoc (S.take 1), List.take_append_drop]
  rw [hst]
  refine Ct.intro Tryz.func205 rfl (by kernel_rfl) 53 Tryz.ntmps205 (Nat.le_of_ble_eq_true rfl) fun w0 R => ?_
  refine Gs.slAddr (xs := P ++ (S.take 1 ++ (S.drop 1 ++ Q))) (SlH.own (E := 32) (enc := recC) (by repeat constructor)) fun ab ao ha => ?_
  refine Gsr ?_
  refine Lmv rfl rfl ?_
  refine Lpu rfl rfl trivial (pu_addI (z := ((p + 1 : Nat) : Int)) rfl rfl (by omega) (by omega) (by omega)) ?_
  refine Las rfl rfl ?_
  refine Lnt ?_
  refine Gs.block ?_
  refine Gs.loop1 (fun s : Nat × List Rec => 1 ≤ s.1 ∧ s.1 ≤ S.length + 1 ∧ IsS (S.take s.1) s.2) (fun s => [(0, .slice a n c), (1, int p), (2, int q), (3, cmpR), (8, int ((p + s.1 : Nat) : Int))]) (fun s => [rsA a c (P ++ (s.2 ++ (S.drop s.1 ++ Q)))] ++ R) (fun s => S.length + 1 - s.1) (1, S.take 1) (⟨Nat.le_refl _, by show 1 ≤ S.length + 1; omega, h0⟩) (by repeat constructor) (by repeat constructor) (fun s hs => ?_)
  obtain ⟨k, C⟩ := s
  obtain ⟨hk1, hk, hC⟩ := hs
  dsimp only at hk1 hk hC ⊢
  refine Gs.seq ?_
  refine Gsr ?_
  refine Lmv rfl rfl ?_
  refine Lmv rfl rfl ?_
  refine Lpu rfl rfl trivial (pu_lt rfl rfl) ?_
  refine Lnt ?_
  refine Gs.cond rfl (fun hc0 => ?_) (fun hc0 => ?_)
  ·
   have hlt : k < S.length := by have := of_decide_eq_true hc0; omega
   obtain ⟨x, hx⟩ := some_at hlt
   have hCl : C.length = k := by rw [hC.1.length_eq, List.length_take]; omega
   obtain rfl := ha (fun e => by have := congrArg List.length e; simp at this; omega)
   have hap : Apart lessR (C ++ [x]) := by
     refine (Apart.pre (B := S.drop (k + 1)) ?_).perm (hC.1.symm.append_right [x])
     rw [← take_snoc' hx, List.take_append_drop]; exact hS
   have hin : P ++ (C ++ (S.drop k ++ Q)) = inS P C x (S.drop (k + 1) ++ Q) k := by
     unfold inS; rw [drop_cons hx, List.take_of_length_le (Nat.le_of_eq hCl), List.drop_of_length_le (Nat.le_of_eq hCl)]; simp
   have hnx : ∀ t, List.Perm (C.take t ++ x :: C.drop t) (S.take (k + 1)) := fun t => by
     rw [take_snoc' hx]; exact (inS_perm P C x Q t).trans (hC.1.append_right [x])
   rw [hin]
   refine Gs.skip ?_
   refine Gs.then_n ?_
   refine Gs.seq ?_
   refine Gs.block ?_
   refine Gsr ?_
   refine Lmv rfl rfl ?_
   refine Las rfl rfl ?_
   refine Lnt ?_
   refine Gs.block ?_
   refine Gs.loop1 (fun t : Nat => t ≤ k ∧ ∀ m y, t ≤ m → C[m]? = some y → lessR x y = true) (fun t => [(0, .slice (some ⟨ab, ao, none⟩) n c), (1, int p), (2, int q), (3, cmpR), (8, int ((p + k : Nat) : Int)), (9, int ((p + t : Nat) : Int))]) (fun t => [rsA (some ⟨ab, ao, none⟩) c (inS P C x (S.drop (k + 1) ++ Q) t)] ++ R) (fun t => t) k (⟨Nat.le_refl _, fun m y hm hy => by have := (List.getElem?_eq_some_iff.1 hy).1; omega⟩) (by repeat constructor) (by repeat constructor) (fun t ⟨ht, hhi⟩ => ?_)
   refine Gs.seq ?_
   refine Gs.seq ?_
   refine Gs.regD mixed (by kernel_rfl) ?_
   refine Rg.pu 0 rfl rfl (by kernel_rfl) trivial (pu_move rfl) ?_
   refine Rg.pu 1 rfl rfl (by kernel_rfl) trivial (pu_move rfl) ?_
   refine Rg.pu 2 rfl rfl (by kernel_rfl) trivial (pu_gt rfl rfl) ?_
   refine Rg.puB 3 rfl rfl (by kernel_rfl) trivial (pu_move rfl) (fun hg3 => ?_) (fun hg3 => ?_)
   ·
    have hpos : 0 < t := by have := of_decide_eq_true hg3; omega
    obtain ⟨m, rfl⟩ : ∃ m, t = m + 1 := ⟨t - 1, by omega⟩
    obtain ⟨u, hu⟩ := some_at (l := C) (i := m) (by omega)
    have hA := inS_at (P := P) (x := x) (Q := S.drop (k + 1) ++ Q) hu
    have hB := inS_s (P := P) (x := x) (Q := S.drop (k + 1) ++ Q) hu
    have hPl : (P ++ C.take m).length = p + m := by rw [List.length_append, List.length_take]; omega
    have hil : (inS P C x (S.drop (k + 1) ++ Q) (m + 1)).length = n := by rw [inS_len, List.length_append, List.length_drop]; omega
    have gx : (inS P C x (S.drop (k + 1) ++ Q) (m + 1))[(((p + (m + 1) : Nat) : Int)).toNat]? = some x := getB hA (by rw [hPl, List.length_nil]; omega)
    have gu : (inS P C x (S.drop (k + 1) ++ Q) (m + 1))[(((p + (m + 1) : Nat) : Int) - 1).toNat]? = some u := getA hA (by rw [hPl]; omega)
    have hne2 : (((p + (m + 1) : Nat) : Int)).toNat ≠ (((p + (m + 1) : Nat) : Int) - 1).toNat := by omega
    have gu2 : ((inS P C x (S.drop (k + 1) ++ Q) (m + 1)).set (((p + (m + 1) : Nat) : Int)).toNat u)[(((p + (m + 1) : Nat) : Int) - 1).toNat]? = some u := by rw [List.getElem?_set_ne hne2]; exact gu
    have hset : ((inS P C x (S.drop (k + 1) ++ Q) (m + 1)).set (((p + (m + 1) : Nat) : Int)).toNat u).set (((p + (m + 1) : Nat) : Int) - 1).toNat x = inS P C x (S.drop (k + 1) ++ Q) m := by rw [hB]; exact swap_at' hA (by rw [hPl]; omega) (by rw [hPl, List.length_nil]; omega)
    refine Rg.pu 4 rfl rfl (by kernel_rfl) ⟨_, rfl, rfl⟩ (pu_move rfl) ?_
    refine Rg.pu 5 rfl rfl (by kernel_rfl) ⟨_, rfl, rfl⟩ (pu_move rfl) ?_
    refine Rg.pu 6 rfl rfl (by kernel_rfl) ⟨_, rfl, rfl⟩ (pu_move rfl) ?_
    refine Rg.pu 7 rfl rfl (by kernel_rfl) ⟨_, rfl, rfl⟩ (pu_ia se_41 rfl rfl (by omega) (by omega)) ?_
    refine Rg.rd 8 rfl rfl (by kernel_rfl) ⟨_, rfl, rfl⟩ (rd_lda ag_32 rfl (Rdc.el0 (SlH.own (xs := inS P C x (S.drop (k + 1) ++ Q) (m + 1)) (E := 32) (enc := recC) (sz := 5) (by repeat constructor)) gx rfl rfl) rfl) ?_
    refine Rg.pu 9 rfl rfl (by kernel_rfl) ⟨_, rfl, rfl⟩ (pu_move rfl) ?_
    refine Rg.pu 10 rfl rfl (by kernel_rfl) ⟨_, rfl, rfl⟩ (pu_move rfl) ?_
    refine Rg.pu 11 rfl rfl (by kernel_rfl) ⟨_, rfl, rfl⟩ (by first | exact pu_subI rfl rfl rfl (by omega) (by omega) | exact pu_sub rfl rfl) ?_
    refine Rg.pu 12 rfl rfl (by kernel_rfl) ⟨_, rfl, rfl⟩ (pu_ia se_41 rfl rfl (by omega) (by omega)) ?_
    refine Rg.rd 13 rfl rfl (by kernel_rfl) ⟨_, rfl, rfl⟩ (rd_lda ag_32 rfl (Rdc.el0 (SlH.own (xs := inS P C x (S.drop (k + 1) ++ Q) (m + 1)) (E := 32) (enc := recC) (sz := 5) (by repeat constructor)) gu rfl rfl) rfl) ?_
    refine Rg.one (by kernel_rfl) (Stp.ac 14 rfl rfl (by kernel_rfl) ⟨_, rfl, rfl⟩ (as_callV rfl (hcmp x u) (by repeat constructor) (by repeat constructor))  ?_)
    rintro _ _ ⟨_, ⟨rfl, rfl⟩, rfl⟩
    refine Rg.pu 15 rfl rfl (by kernel_rfl) ⟨_, rfl, rfl⟩ (pu_lt rfl rfl) ?_
    refine Rg.pu 16 rfl rfl (by kernel_rfl) trivial (by first | exact pu_pick_t rfl rfl | exact pu_pick_f rfl rfl) ?_
    refine Rg.end (by kernel_rfl) ?_
    refine Gs.then_n ?_
    refine Gs.cond rfl (fun hc1 => ?_) (fun hc1 => ?_)
    ·
     have hxu : lessR x u = true := by rw [← ordR_lt]; exact hc1
     have hhi2 : ∀ m' y, m ≤ m' → C[m']? = some y → lessR x y = true := fun m' y hm hy => by
       by_cases e : m' = m
       · subst e; rw [hu] at hy; cases hy; exact hxu
       · exact hhi m' y (by omega) hy
     refine Gs.skip ?_
     refine Gs.then_n ?_
     refine Gs.seq ?_
     refine Gs.block ?_
     refine Gs.regD mixed (by kernel_rfl) ?_
     refine Rg.pu 0 rfl rfl (by kernel_rfl) trivial (pu_move rfl) ?_
     refine Rg.pu 1 rfl rfl (by kernel_rfl) trivial (pu_move rfl) ?_
     refine Rg.pu 2 rfl rfl (by kernel_rfl) trivial (pu_move rfl) ?_
     refine Rg.pu 3 rfl rfl (by kernel_rfl) trivial (pu_move rfl) ?_
     refine Rg.pu 4 rfl rfl (by kernel_rfl) trivial (by first | exact pu_subI rfl rfl rfl (by omega) (by omega) | exact pu_sub rfl rfl) ?_
     refine Rg.pu 5 rfl rfl (by kernel_rfl) trivial (pu_move rfl) ?_
     refine Rg.pu 6 rfl rfl (by kernel_rfl) trivial (pu_move rfl) ?_
     refine Rg.pu 7 rfl rfl (by kernel_rfl) trivial (by first | exact pu_subI rfl rfl rfl (by omega) (by omega) | exact pu_sub rfl rfl) ?_
     refine Rg.pu 8 rfl rfl (by kernel_rfl) trivial (pu_ia se_41 rfl rfl (by omega) (by omega)) ?_
     refine Rg.rd 9 rfl rfl (by kernel_rfl) trivial (rd_lda ag_32 rfl (Rdc.el0 (SlH.own (xs := inS P C x (S.drop (k + 1) ++ Q) (m + 1)) (E := 32) (enc := recC) (sz := 5) (by repeat constructor)) gu rfl rfl) rfl) ?_
     refine Rg.pu 10 rfl rfl (by kernel_rfl) trivial (pu_move rfl) ?_
     refine Rg.pu 11 rfl rfl (by kernel_rfl) trivial (pu_move rfl) ?_
     refine Rg.pu 12 rfl rfl (by kernel_rfl) trivial (pu_ia se_41 rfl rfl (by omega) (by omega)) ?_
     refine Rg.rd 13 rfl rfl (by kernel_rfl) trivial (rd_lda ag_32 rfl (Rdc.el0 (SlH.own (xs := inS P C x (S.drop (k + 1) ++ Q) (m + 1)) (E := 32) (enc := recC) (sz := 5) (by repeat constructor)) gx rfl rfl) rfl) ?_
     refine Rg.pu 14 rfl rfl (by kernel_rfl) trivial (pu_ia se_41 rfl rfl (by omega) (by omega)) ?_
     refine Rg.one (by kernel_rfl) (Stp.ac0 15 rfl rfl (by kernel_rfl) trivial (ac_stE (enc := recC) (xs := inS P C x (S.drop (k + 1) ++ Q) (m + 1)) (i := (((p + (m + 1) : Nat) : Int)).toNat) (x0 := x) (y0 := u) (vs := recC u) (fo := 0) sz_32 ek_32 rfl rfl (by repeat constructor) rfl rfl rfl gx rfl rfl)  ?_)
     rintro _ _ rfl
     refine Rg.pu 16 rfl rfl (by kernel_rfl) trivial (pu_ia se_41 rfl rfl (by omega) (by omega)) ?_
     refine Rg.one (by kernel_rfl) (Stp.ac0 17 rfl rfl (by kernel_rfl) trivial (ac_stE (enc := recC) (xs := (inS P C x (S.drop (k + 1) ++ Q) (m + 1)).set (((p + (m + 1) : Nat) : Int)).toNat u) (i := (((p + (m + 1) : Nat) : Int) - 1).toNat) (x0 := u) (y0 := x) (vs := recC x) (fo := 0) sz_32 ek_32 rfl rfl (by repeat constructor) rfl rfl rfl gu2 rfl rfl)  ?_)
     rintro _ _ rfl
     refine Rg.end (by kernel_rfl) ?_
     rw [hset]
     refine Gs.blk_n ?_
     refine Gs.then_n ?_
     refine Gs.reg ?_
     refine Lmv rfl rfl ?_
     refine Lpu rfl rfl trivial (pu_subI (z := ((p + m : Nat) : Int)) rfl rfl (by omega) (by omega) (by omega)) ?_
     refine Las rfl rfl ?_
     refine Lnt ?_
     exact Gs.again1 m ⟨by omega, hhi2⟩ (by omega) (by repeat constructor) (by repeat constructor)
    ·
     have hxu : lessR x u = false := by rw [← ordR_lt]; exact hc1
     have hlow : ∀ m' y, m' < m + 1 → C[m']? = some y → lessR x y = false := low_none ordL hC.2 (fun y _ hy => by rw [Nat.add_sub_cancel, hu] at hy; cases hy; exact hxu) (by omega)
     refine Gs.exit ?_
     refine Gs.then_x ?_
     refine Gs.then_x ?_
     refine Gs.blk_hit ?_
     refine Gs.blk_n ?_
     refine Gs.then_n ?_
     refine Gs.reg ?_
     refine Lmv rfl rfl ?_
     refine Lpu rfl rfl trivial (pu_addI (z := ((p + (k + 1) : Nat) : Int)) rfl rfl (by omega) (by omega) (by omega)) ?_
     refine Las rfl rfl ?_
     refine Lnt ?_
     first | exact Gs.again1 (k + 1, C.take t ++ x :: C.drop t) ⟨by show 1 ≤ k + 1; omega, by show k + 1 ≤ S.length + 1; omega, hnx t, by have h9 := one_right hap hC.2 hlow hhi; rwa [List.append_assoc, List.singleton_append] at h9⟩ (by show S.length + 1 - (k + 1) < S.length + 1 - k; omega) (by repeat constructor) (by repeat constructor) | exact Gs.again1 (k + 1, C.take (m + 1) ++ x :: C.drop (m + 1)) ⟨by show 1 ≤ k + 1; omega, by show k + 1 ≤ S.length + 1; omega, hnx (m + 1), by have h9 := one_right hap hC.2 hlow hhi; rwa [List.append_assoc, List.singleton_append] at h9⟩ (by show S.length + 1 - (k + 1) < S.length + 1 - k; omega) (by repeat constructor) (by repeat constructor)
   ·
    have hz : t = 0 := by have := of_decide_eq_false hg3; omega
    have hlow : ∀ m y, m < t → C[m]? = some y → lessR x y = false := fun m y hm _ => by omega
    refine Rg.off 4 rfl rfl (by kernel_rfl) rfl rfl rfl rfl ?_
    refine Rg.off 5 rfl rfl (by kernel_rfl) rfl rfl rfl rfl ?_
    refine Rg.off 6 rfl rfl (by kernel_rfl) rfl rfl rfl rfl ?_
    refine Rg.off 7 rfl rfl (by kernel_rfl) rfl rfl rfl rfl ?_
    refine Rg.off 8 rfl rfl (by kernel_rfl) rfl rfl rfl rfl ?_
    refine Rg.off 9 rfl rfl (by kernel_rfl) rfl rfl rfl rfl ?_
    refine Rg.off 10 rfl rfl (by kernel_rfl) rfl rfl rfl rfl ?_
    refine Rg.off 11 rfl rfl (by kernel_rfl) rfl rfl rfl rfl ?_
    refine Rg.off 12 rfl rfl (by kernel_rfl) rfl rfl rfl rfl ?_
    refine Rg.off 13 rfl rfl (by kernel_rfl) rfl rfl rfl rfl ?_
    refine Rg.off 14 rfl rfl (by kernel_rfl) rfl rfl rfl rfl ?_
    refine Rg.off 15 rfl rfl (by kernel_rfl) rfl rfl rfl rfl ?_
    refine Rg.pu 16 rfl rfl (by kernel_rfl) trivial (by first | exact pu_pick_t rfl rfl | exact pu_pick_f rfl rfl) ?_
    refine Rg.end (by kernel_rfl) ?_
    refine Gs.then_n ?_
    refine Gs.cond_f rfl ?_
    refine Gs.exit ?_
    refine Gs.then_x ?_
    refine Gs.then_x ?_
    refine Gs.blk_hit ?_
    refine Gs.blk_n ?_
    refine Gs.then_n ?_
    refine Gs.reg ?_
    refine Lmv rfl rfl ?_
    refine Lpu rfl rfl trivial (pu_addI (z := ((p + (k + 1) : Nat) : Int)) rfl rfl (by omega) (by omega) (by omega)) ?_
    refine Las rfl rfl ?_
    refine Lnt ?_
    first | exact Gs.again1 (k + 1, C.take t ++ x :: C.drop t) ⟨by show 1 ≤ k + 1; omega, by show k + 1 ≤ S.length + 1; omega, hnx t, by have h9 := one_right hap hC.2 hlow hhi; rwa [List.append_assoc, List.singleton_append] at h9⟩ (by show S.length + 1 - (k + 1) < S.length + 1 - k; omega) (by repeat constructor) (by repeat constructor) | exact Gs.again1 (k + 1, C.take (m + 1) ++ x :: C.drop (m + 1)) ⟨by show 1 ≤ k + 1; omega, by show k + 1 ≤ S.length + 1; omega, hnx (m + 1), by have h9 := one_right hap hC.2 hlow hhi; rwa [List.append_assoc, List.singleton_append] at h9⟩ (by show S.length + 1 - (k + 1) < S.length + 1 - k; omega) (by repeat constructor) (by repeat constructor)
  ·
   have hge : S.length ≤ k := by have := of_decide_eq_false hc0; omega
   rw [List.take_of_length_le hge] at hC
   refine Gs.ent (rsE_mk hC (by rw [List.drop_of_length_le hge, List.nil_append])) ?_
   refine Gs.exit ?_
   refine Gs.then_x ?_
   refine Gs.then_x ?_
   refine Gs.blk_hit ?_
   refine Gs.fin_n ?_
   exact Gs.fin0 Tryz.results205 _ (⟨rfl, rfl⟩) (by repeat constructor)
end Go.Proofs.YtklgiidfompdpaaGreatDoor
