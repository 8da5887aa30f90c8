/- Chapter 13, plain: what is found where nothing clashes. -/
import Derived.Test.YthlnjkfahmebjaaDoorSame
namespace Go.Proofs.YthlnjkfahmebjaaDoor
open Go Go.Gv Go.Kv
theorem pow4_pos (k : Nat) : (0 : Int) < 4 ^ k := Int.pow_pos (by decide)
theorem div_succ (q : Int) (k : Nat) : q / 4 ^ (k + 1) = q / 4 ^ k / 4 := by
  rw [Int.pow_succ, Int.ediv_ediv_of_nonneg (Int.le_of_lt (pow4_pos k))]
theorem cnt_child {L : List Rec} {o i : Int} {k : Nat} (h : cnt L o (k + 1) i = 0) (j : Nat) (hj : j < 4) : cnt L o k (4 * i + j) = 0 := by
  unfold cnt at *
  rw [List.length_eq_zero_iff, List.filter_eq_nil_iff] at *
  intro r hr hin
  refine h r hr ?_
  simp only [inR, Bool.and_eq_true, decide_eq_true_eq] at hin ⊢
  refine ⟨hin.1, ?_⟩
  rw [div_succ, hin.2]; omega
theorem sums4_4 (L : List Rec) (o : Int) (k : Nat) (i : Int) : sums4 L o k i 4 = [tsum L o k (4 * i), tsum L o k (4 * i + 1), tsum L o k (4 * i + 2), tsum L o k (4 * i + 3)] := by
  simp [sums4, List.range_succ]
theorem tsum_all (L : List Rec) (o : Int) (k : Nat) (i : Int) : tsum L o (k + 1) i = allH (sums4 L o k i 4) := by
  by_cases h : cnt L o (k + 1) i = 0
  · have h0 : sums4 L o k i 4 = [0, 0, 0, 0] := by
      have e : ∀ j : Nat, j < 4 → tsum L o k (4 * i + j) = 0 := fun j hj => tsum_zero (cnt_child h j hj)
      have e0 := e 0 (by decide); have e1 := e 1 (by decide); have e2 := e 2 (by decide); have e3 := e 3 (by decide)
      rw [sums4_4]
      simp only [Int.natCast_zero, Int.add_zero] at e0
      rw [e0, show tsum L o k (4 * i + 1) = 0 from e1, show tsum L o k (4 * i + 2) = 0 from e2, show tsum L o k (4 * i + 3) = 0 from e3]
    rw [tsum_zero h, h0]; rfl
  · simp only [tsum, h, if_false, sums4_4]
theorem tsum_ext {A B : List Rec} {o : Int} : ∀ (k : Nat) (i : Int), (∀ x : Key, x.o = o → x.q / 4 ^ k = i → lookR A x = lookR B x) → tsum A o k i = tsum B o k i
  | 0, i, h => by
    have := h ⟨o, i⟩ rfl (by simp)
    simp only [tsum, this]
  | k + 1, i, h => by
    rw [tsum_all, tsum_all]
    congr 1
    refine List.map_congr_left fun j hj => ?_
    have hj4 := List.mem_range.1 hj
    exact tsum_ext k _ fun x h1 h2 => h x h1 (by rw [div_succ, h2]; omega)
/-- A range of this level. -/
def At (p : Part) (n : Nat) : Prop := n ≤ 5 ∧ p.l = 5 - (n : Int) ∧ thereB p.o p.l p.i = true
theorem At.sum {p : Part} {n : Nat} (h : At p n) (L : List Rec) : sumT L p.o p.l p.i = tsum L p.o n p.i := by
  have h1 := h.1; have h2 := h.2.1
  rw [sumT, if_pos h.2.2]
  congr 1; omega
theorem At.child {p q : Part} {n : Nat} (h : At p (n + 1)) (hq : q ∈ partsOf p) : At q n ∧ q.o = p.o ∧ ∃ j : Nat, j < 4 ∧ q.i = 4 * p.i + j := by
  simp only [partsOf, List.mem_map, List.mem_range] at hq
  obtain ⟨j, hj, rfl⟩ := hq
  obtain ⟨h1, h2, h3⟩ := h
  obtain ⟨b1, b2, b3, b4, b5, b6, b7⟩ := there_bound h3
  refine ⟨⟨by omega, by show p.l + 1 = _; omega, there_yes ⟨b1, b2, by show 0 ≤ p.l + 1; omega, by show p.l + 1 ≤ 5; omega, by show 0 ≤ 4 * p.i + (j : Int); omega, ?_⟩⟩, rfl, j, hj, rfl⟩
  show 4 * p.i + (j : Int) < 4 ^ (p.l + 1).toNat
  rw [show (p.l + 1).toNat = p.l.toNat + 1 by omega, Int.pow_succ]; omega
theorem At.parts {p : Part} {n : Nat} (h : At p (n + 1)) (L : List Rec) : sums4 L p.o n p.i 4 = (partsOf p).map fun q => sumT L q.o q.l q.i := by
  simp only [partsOf, List.map_map]
  refine List.map_congr_left fun j hj => ?_
  have hm : (⟨p.o, p.l + 1, 4 * p.i + (j : Int)⟩ : Part) ∈ partsOf p := List.mem_map.2 ⟨j, hj, rfl⟩
  exact ((h.child hm).1.sum L).symm
theorem unl_false {A B : List Rec} {p : Part} : unl A B p = false ↔ sumT A p.o p.l p.i = sumT B p.o p.l p.i := by
  simp [unl]
/-- Where the sums differ, they differ in a part. -/
theorem unl_child {A B : List Rec} {p : Part} {n : Nat} (h : At p (n + 1)) (hu : unl A B p = true) : ∃ q ∈ partsOf p, unl A B q = true := by
  apply Classical.byContradiction
  intro hno
  have hall : ∀ q ∈ partsOf p, sumT A q.o q.l q.i = sumT B q.o q.l q.i := fun q hq => by
    cases hc : unl A B q with
    | false => exact unl_false.1 hc
    | true => exact (hno ⟨q, hq, hc⟩).elim
  have : unl A B p = false := by
    rw [unl_false, h.sum, h.sum, tsum_all, tsum_all, h.parts, h.parts]
    congr 1
    exact List.map_congr_left hall
  rw [hu] at this; cases this
theorem parts_find {p : Part} {n : Nat} (h : At p (n + 1)) {x : Key} (h1 : x.o = p.o) (h2 : x.q / 4 ^ (n + 1) = p.i) : ∃ q ∈ partsOf p, x.o = q.o ∧ x.q / 4 ^ n = q.i := by
  rw [div_succ] at h2
  refine ⟨⟨p.o, p.l + 1, 4 * p.i + ((x.q / 4 ^ n - 4 * p.i).toNat : Int)⟩, List.mem_map.2 ⟨(x.q / 4 ^ n - 4 * p.i).toNat, List.mem_range.2 (by omega), rfl⟩, h1, ?_⟩
  show x.q / 4 ^ n = 4 * p.i + ((x.q / 4 ^ n - 4 * p.i).toNat : Int)
  omega
/-- Where nothing clashes, and the sums are the same, the records are. -/
theorem same_of {A B : List Rec} : ∀ (n : Nat) (p : Part), At p n → clashP A B n p = false → unl A B p = false → ∀ x : Key, x.o = p.o → x.q / 4 ^ n = p.i → lookR A x = lookR B x
  | 0, p, _, hc, hu, x, h1, h2 => by
    simp only [clashP, hu, Bool.not_false, Bool.true_and, decide_eq_false_iff_not, Decidable.not_not] at hc
    rw [Int.pow_zero, Int.ediv_one] at h2
    obtain ⟨xo, xq⟩ := x
    dsimp only at h1 h2
    rw [h1, h2]; exact hc
  | n + 1, p, h, hc, hu, x, h1, h2 => by
    simp only [clashP, hu, Bool.not_false, Bool.and_true, Bool.or_eq_false_iff] at hc
    obtain ⟨q, hq, k1, k2⟩ := parts_find h h1 h2
    have c1 : clashP A B n q = false := by simpa using List.any_eq_false.1 hc.1 q hq
    have c2 : unl A B q = false := by simpa using List.any_eq_false.1 hc.2 q hq
    exact same_of n q (h.child hq).1 c1 c2 x k1 k2
theorem keysP_mem {A B : List Rec} : ∀ (n : Nat) (p : Part), At p n → clashP A B n p = false → unl A B p = true → ∀ x : Key, x ∈ keysP A B n p ↔ x.o = p.o ∧ x.q / 4 ^ n = p.i ∧ lookR A x ≠ lookR B x
  | 0, p, h, hc, hu, x => by
    simp only [keysP, List.mem_singleton, Int.pow_zero, Int.ediv_one]
    constructor
    · rintro rfl
      refine ⟨rfl, rfl, fun e => ?_⟩
      have : unl A B p = false := by
        rw [unl_false, h.sum, h.sum]
        exact tsum_ext 0 p.i fun y h1 h2 => by
          obtain ⟨yo, yq⟩ := y
          dsimp only at h1 h2
          rw [Int.pow_zero, Int.ediv_one] at h2
          rw [h1, h2]; exact e
      rw [hu] at this; cases this
    · rintro ⟨h1, h2, -⟩; cases x; dsimp only at h1 h2; rw [h1, h2]
  | n + 1, p, h, hc, hu, x => by
    have hcc : ∀ q ∈ partsOf p, clashP A B n q = false := fun q hq => by
      simp only [clashP, Bool.or_eq_false_iff] at hc
      simpa using List.any_eq_false.1 hc.1 q hq
    have hs : stepP A B p = (partsOf p).filter (unl A B) := if_pos ⟨by have := h.2.1; omega, hu⟩
    simp only [keysP, hs, List.mem_flatMap, List.mem_filter]
    constructor
    · rintro ⟨q, ⟨hq, hqu⟩, hx⟩
      obtain ⟨ha, ho, j, hj, hi⟩ := h.child hq
      obtain ⟨h1, h2, h3⟩ := (keysP_mem n q ha (hcc q hq) hqu x).1 hx
      exact ⟨h1.trans ho, by rw [div_succ, h2, hi]; omega, h3⟩
    · rintro ⟨h1, h2, h3⟩
      obtain ⟨q, hq, k1, k2⟩ := parts_find h h1 h2
      have hqu : unl A B q = true := by
        cases hc2 : unl A B q with
        | true => rfl
        | false => exact (h3 (same_of n q (h.child hq).1 (hcc q hq) hc2 x k1 k2)).elim
      exact ⟨q, ⟨hq, hqu⟩, (keysP_mem n q (h.child hq).1 (hcc q hq) hqu x).2 ⟨k1, k2, h3⟩⟩
theorem look_q {L : List Rec} (h : TOk L) {x : Key} (hx : lookR L x ≠ none) : 0 ≤ x.o ∧ x.o < 8 ∧ 1 ≤ x.q ∧ x.q ≤ 1023 := by
  cases hl : lookR L x with
  | none => exact (hx hl).elim
  | some r =>
    obtain ⟨h1, h2⟩ := lookR_key hl
    have := rec_q (h.may r h2)
    subst h1; exact this
theorem differ_q {A B : List Rec} (hA : TOk A) (hB : TOk B) {x : Key} (h : lookR A x ≠ lookR B x) : 0 ≤ x.o ∧ x.o < 8 ∧ 1 ≤ x.q ∧ x.q ≤ 1023 := by
  cases ha : lookR A x with
  | some r => exact look_q hA (by rw [ha]; simp)
  | none => exact look_q hB fun e => h (by rw [ha, e])
theorem top_at (o : Nat) (ho : o < 8) : At ⟨o, 0, 0⟩ 5 := ⟨Nat.le_refl _, rfl, there_yes ⟨by show (0 : Int) ≤ (o : Int); omega, by show (o : Int) < 8; omega, Int.le_refl 0, show (0 : Int) ≤ 5 by decide, Int.le_refl 0, show (0 : Int) < 4 ^ (0 : Int).toNat by decide⟩⟩
theorem findK_mem {A B : List Rec} (hA : TOk A) (hB : TOk B) {n : Nat} (hn : n ≤ 8) (hc : clashN A B n = false) (x : Key) : x ∈ findK A B n ↔ x.o < n ∧ lookR A x ≠ lookR B x := by
  have hcc : ∀ o : Nat, o < n → clashP A B 5 ⟨o, 0, 0⟩ = false := fun o ho => by simpa using List.any_eq_false.1 hc o (List.mem_range.2 ho)
  simp only [findK, List.mem_flatMap]
  constructor
  · rintro ⟨p, hp, hx⟩
    obtain ⟨h1, h2, o, ho, rfl⟩ := top_ok hp
    obtain ⟨k1, k2, k3⟩ := (keysP_mem 5 _ (top_at o (by omega)) (hcc o ho) h1.2.2 x).1 hx
    exact ⟨by rw [k1]; show (o : Int) < n; omega, k3⟩
  · rintro ⟨h1, h2⟩
    obtain ⟨q1, q2, q3, q4⟩ := differ_q hA hB h2
    obtain ⟨o, ho⟩ : ∃ o : Nat, (o : Int) = x.o := ⟨x.o.toNat, by omega⟩
    have hol : o < n := by omega
    have hr : x.q / 4 ^ 5 = 0 := Int.ediv_eq_zero_of_lt (by omega) (by omega)
    have hu : unl A B ⟨o, 0, 0⟩ = true := by
      cases hc2 : unl A B ⟨o, 0, 0⟩ with
      | true => rfl
      | false => exact (h2 (same_of 5 ⟨o, 0, 0⟩ (top_at o (by omega)) (hcc o hol) hc2 x ho.symm hr)).elim
    refine ⟨⟨o, 0, 0⟩, List.mem_filter.2 ⟨List.mem_map.2 ⟨o, List.mem_range.2 hol, rfl⟩, hu⟩, ?_⟩
    exact (keysP_mem 5 _ (top_at o (by omega)) (hcc o hol) hu x).2 ⟨ho.symm, hr, h2⟩
/-! ### How many are asked -/
theorem sum_mul_le {α : Type} {f g : α → Nat} {c : Nat} : ∀ {W : List α}, (∀ p ∈ W, f p ≤ c * g p) → (W.map f).sum ≤ c * (W.map g).sum
  | [], _ => by simp
  | p :: W, h => by
    have h1 := h p (by simp)
    have h2 := sum_mul_le (W := W) fun q hq => h q (by simp [hq])
    rw [List.map_cons, List.map_cons, List.sum_cons, List.sum_cons, Nat.mul_add]; omega
theorem le_sum {α : Type} {f : α → Nat} {c : Nat} {W : List α} {p : α} (hp : p ∈ W) (h : c ≤ f p) : c ≤ (W.map f).sum := by
  induction W with
  | nil => cases hp
  | cons q W ih =>
    rw [List.map_cons, List.sum_cons]
    rcases List.mem_cons.1 hp with rfl | hp
    · omega
    · have := ih hp; omega
theorem ask_keys {A B : List Rec} : ∀ (n : Nat) (p : Part), At p n → unl A B p = true → 1 ≤ (keysP A B n p).length ∧ askP A B n p ≤ 4 * n * (keysP A B n p).length ∧ 4 * n ≤ askP A B n p
  | 0, p, _, _ => by simp [keysP, askP]
  | n + 1, p, h, hu => by
    have hs : stepP A B p = (partsOf p).filter (unl A B) := if_pos ⟨by have := h.2.1; have := h.1; omega, hu⟩
    have ih : ∀ q ∈ stepP A B p, 1 ≤ (keysP A B n q).length ∧ askP A B n q ≤ 4 * n * (keysP A B n q).length ∧ 4 * n ≤ askP A B n q := fun q hq => by
      rw [hs] at hq
      obtain ⟨h1, h2⟩ := List.mem_filter.1 hq
      exact ask_keys n q (h.child h1).1 h2
    obtain ⟨q, hq, hqu⟩ := unl_child h hu
    have hqs : q ∈ stepP A B p := by rw [hs]; exact List.mem_filter.2 ⟨hq, hqu⟩
    have i1 := sum_mul_le (f := askP A B n) (g := fun q => (keysP A B n q).length) fun q hq => (ih q hq).2.1
    have i2 := le_sum (f := fun q => (keysP A B n q).length) hqs (ih q hqs).1
    have i3 := le_sum (f := askP A B n) hqs (ih q hqs).2.2
    simp only [keysP, askP, List.length_flatMap]
    refine ⟨i2, ?_, by omega⟩
    rw [Nat.mul_add, Nat.add_mul]; omega
theorem askN_le_keys {A B : List Rec} {n : Nat} (hn : n ≤ 8) : askN A B n ≤ n + 20 * (findK A B n).length := by
  have : ((topP A B n).map (askP A B 5)).sum ≤ 20 * ((topP A B n).map fun q => (keysP A B 5 q).length).sum := sum_mul_le fun p hp => by
    obtain ⟨h1, -, o, ho, rfl⟩ := top_ok hp
    exact (ask_keys 5 _ (top_at o (by omega)) h1.2.2).2.1
  unfold askN findK
  rw [List.length_flatMap]; omega
theorem askN_ge (A B : List Rec) (n : Nat) : n ≤ askN A B n := Nat.le_add_right ..
theorem askN_ge20 {A B : List Rec} {n : Nat} (hn : n ≤ 8) (h : findK A B n ≠ []) : n + 20 ≤ askN A B n := by
  obtain ⟨x, hx⟩ := List.exists_mem_of_ne_nil _ h
  obtain ⟨p, hp, -⟩ := List.mem_flatMap.1 hx
  obtain ⟨h1, -, o, ho, rfl⟩ := top_ok hp
  have := le_sum (f := askP A B 5) hp (ask_keys 5 _ (top_at o (by omega)) h1.2.2).2.2
  unfold askN; omega
theorem askN_none {A B : List Rec} {n : Nat} (hn : n ≤ 8) (h : findK A B n = []) : askN A B n = n := by
  have := askN_le_keys (A := A) (B := B) hn
  have := askN_ge A B n
  rw [h] at *; simp at *; omega
/-! ### Turned round, and with itself -/
theorem unl_symm (A B : List Rec) : unl A B = unl B A := by
  funext p; exact decide_eq_decide.2 ⟨Ne.symm, Ne.symm⟩
theorem stepP_symm (A B : List Rec) : stepP A B = stepP B A := by funext p; simp only [stepP, unl_symm A B]
theorem keysP_symm (A B : List Rec) : ∀ n, keysP A B n = keysP B A n
  | 0 => rfl
  | n + 1 => by funext p; simp only [keysP, stepP_symm A B, keysP_symm A B n]
theorem askP_symm (A B : List Rec) : ∀ n, askP A B n = askP B A n
  | 0 => rfl
  | n + 1 => by funext p; simp only [askP, stepP_symm A B, askP_symm A B n]
theorem findK_symm (A B : List Rec) (n : Nat) : findK A B n = findK B A n := by simp only [findK, topP, unl_symm A B, keysP_symm A B]
theorem askN_symm (A B : List Rec) (n : Nat) : askN A B n = askN B A n := by simp only [askN, topP, unl_symm A B, askP_symm A B]
theorem clashP_symm (A B : List Rec) : ∀ n, clashP A B n = clashP B A n
  | 0 => by
    funext p; simp only [clashP, unl_symm A B]; congr 1; exact decide_eq_decide.2 ⟨Ne.symm, Ne.symm⟩
  | n + 1 => by funext p; simp only [clashP, unl_symm A B, clashP_symm A B n]
theorem clashN_symm (A B : List Rec) (n : Nat) : clashN A B n = clashN B A n := by simp only [clashN, clashP_symm A B]
theorem unl_ext {A B : List Rec} (h : ∀ x, lookR A x = lookR B x) (p : Part) : unl A B p = false := by
  rw [unl_false]; unfold sumT
  split
  · exact tsum_ext _ _ fun x _ _ => h x
  · rfl
theorem topP_ext {A B : List Rec} (h : ∀ x, lookR A x = lookR B x) (n : Nat) : topP A B n = [] := List.filter_eq_nil_iff.2 fun p _ => by rw [unl_ext h p]; simp
theorem findK_ext {A B : List Rec} (h : ∀ x, lookR A x = lookR B x) (n : Nat) : findK A B n = [] := by rw [findK, topP_ext h]; rfl
theorem askN_ext {A B : List Rec} (h : ∀ x, lookR A x = lookR B x) (n : Nat) : askN A B n = n := by rw [askN, topP_ext h]; rfl
theorem clashP_ext {A B : List Rec} (h : ∀ x, lookR A x = lookR B x) : ∀ n p, clashP A B n p = false
  | 0, p => by simp [clashP, h]
  | n + 1, p => by
    simp only [clashP, Bool.or_eq_false_iff]
    refine ⟨List.any_eq_false.2 fun q _ => by rw [clashP_ext h n q]; simp, ?_⟩
    rw [List.any_eq_false.2 fun q _ => by rw [unl_ext h q]; simp]; rfl
theorem clashN_ext {A B : List Rec} (h : ∀ x, lookR A x = lookR B x) (n : Nat) : clashN A B n = false := List.any_eq_false.2 fun o _ => by rw [clashP_ext h]; simp
end Go.Proofs.YthlnjkfahmebjaaDoor
