/- Plain laws of what two, three lists have in common. -/
import Derived.Test.YtonilkceolbkmaaPoZ
namespace Go.Proofs.Ytonilkceolbkmaa
open Go Go.Sl Go.Gv Go.Po
theorem flen {α : Type} (f : α → Bool) : ∀ l : List α, l.length = (l.filter f).length + (l.filter fun x => !f x).length
  | [] => rfl
  | x :: l => by
    have ih := flen f l
    cases h : f x <;> simp [List.filter_cons, h] <;> omega
theorem lessK_eq (xs ys : List Key) : lessK xs ys = xs.filter (fun k => !decide (k ∈ ys)) := by
  unfold lessK; refine List.filter_congr fun k _ => ?_
  by_cases h : k ∈ ys <;> simp [h]
theorem less_sub {xs ys : List Key} (h : ∀ k ∈ xs, k ∈ ys) : lessK xs ys = [] := by
  rw [lessK_eq]; exact List.filter_eq_nil_iff.2 fun k hk => by simp [h k hk]
theorem less_mem {xs ys : List Key} {k : Key} : k ∈ lessK xs ys ↔ k ∈ xs ∧ k ∉ ys := by
  rw [lessK_eq, List.mem_filter]; simp
theorem less_asc {xs : List Key} (h : AscK xs) (ys : List Key) : AscK (lessK xs ys) := by rw [lessK_eq]; exact asc_filter h _
abbrev inL (l : SlV PostV) (k : Key) : Prop := ∃ p ∈ l.xs, p.k = k
abbrev May1 (l : SlV PostV) : Prop := mayB (l.xs.map PostV.p) = true
theorem mayL_of {ls : List (SlV PostV)} (h : ∀ l ∈ ls, May1 l) : MayL ls := List.all_eq_true.2 fun x hx => by
  obtain ⟨l, hl, rfl⟩ := List.mem_map.1 hx; exact h l hl
section
variable {A B C : SlV PostV} (hA : May1 A) (hB : May1 B) (hC : May1 C)
include hA
theorem or1_mem {k : Key} : k ∈ orV [A] ↔ inL A k := by
  rw [orV_mem (mayL_of (by simpa using hA))]; simp
theorem or1_eq : orV [A] = A.xs.map PostV.k := asc_ext (orV_asc _) (keys_asc hA) fun k => by
  rw [or1_mem hA, List.mem_map]
include hB
theorem or2_mem {k : Key} : k ∈ orV [A, B] ↔ inL A k ∨ inL B k := by
  rw [orV_mem (mayL_of (by simp; exact ⟨hA, hB⟩))]; simp
theorem and2_mem {k : Key} : k ∈ andV [A, B] ↔ inL A k ∧ inL B k := by
  rw [andV_iff (mayL_of (by simp; exact ⟨hA, hB⟩)) (by simp)]; simp
theorem and2_x : andV [A, B] = (orV [A]).filter fun k => decide (k ∈ orV [B]) := asc_ext (andV_asc _) (asc_filter (orV_asc _) _) fun k => by
  rw [and2_mem hA hB, List.mem_filter, or1_mem hA, decide_eq_true_eq, or1_mem hB]
theorem and2_y : andV [A, B] = (orV [B]).filter fun k => decide (k ∈ orV [A]) := asc_ext (andV_asc _) (asc_filter (orV_asc _) _) fun k => by
  rw [and2_mem hA hB, List.mem_filter, or1_mem hB, decide_eq_true_eq, or1_mem hA]; exact and_comm
theorem or2_x : (orV [A, B]).filter (fun k => decide (k ∈ orV [A])) = orV [A] := asc_ext (asc_filter (orV_asc _) _) (orV_asc _) fun k => by
  rw [List.mem_filter, or2_mem hA hB, decide_eq_true_eq, or1_mem hA]; exact ⟨fun h => h.2, fun h => ⟨.inl h, h⟩⟩
theorem or2_y : (orV [A, B]).filter (fun k => !decide (k ∈ orV [A])) = lessK (orV [B]) (orV [A]) := asc_ext (asc_filter (orV_asc _) _) (less_asc (orV_asc _) _) fun k => by
  rw [List.mem_filter, or2_mem hA hB, less_mem, or1_mem hB, Bool.not_eq_true', decide_eq_false_iff_not, or1_mem hA]
  exact ⟨fun h => ⟨h.1.resolve_left h.2, h.2⟩, fun h => ⟨.inr h.1, h.2⟩⟩
theorem sets_len : (andV [A, B]).length + (orV [A, B]).length = (orV [A]).length + (orV [B]).length ∧ (lessK (orV [A]) (orV [B])).length + (lessK (orV [B]) (orV [A])).length + (andV [A, B]).length = (orV [A, B]).length := by
  have h1 := flen (fun k => decide (k ∈ orV [B])) (orV [A])
  have h2 := flen (fun k => decide (k ∈ orV [A])) (orV [B])
  have h3 := flen (fun k => decide (k ∈ orV [A])) (orV [A, B])
  rw [← and2_x hA hB, ← lessK_eq] at h1
  rw [← and2_y hA hB, ← lessK_eq] at h2
  rw [or2_x hA hB, or2_y hA hB] at h3
  omega
theorem and_comm2 : andV [A, B] = andV [B, A] := asc_ext (andV_asc _) (andV_asc _) fun k => by rw [and2_mem hA hB, and2_mem hB hA]; exact and_comm
theorem or_comm2 : orV [A, B] = orV [B, A] := asc_ext (orV_asc _) (orV_asc _) fun k => by rw [or2_mem hA hB, or2_mem hB hA]; exact or_comm
include hC
theorem or3_mem {k : Key} : k ∈ orV [A, B, C] ↔ inL A k ∨ inL B k ∨ inL C k := by
  rw [orV_mem (mayL_of (by simp; exact ⟨hA, hB, hC⟩))]; simp
theorem and3_mem {k : Key} : k ∈ andV [A, B, C] ↔ inL A k ∧ inL B k ∧ inL C k := by
  rw [andV_iff (mayL_of (by simp; exact ⟨hA, hB, hC⟩)) (by simp)]; simp
theorem three_len : ((andV [A, B, C]).length : Int) = (andV [A, B]).length - (lessK (andV [A, B]) (orV [C])).length := by
  have h1 := flen (fun k => decide (k ∈ orV [C])) (andV [A, B])
  rw [← lessK_eq] at h1
  have h2 : andV [A, B, C] = (andV [A, B]).filter fun k => decide (k ∈ orV [C]) := asc_ext (andV_asc _) (asc_filter (andV_asc _) _) fun k => by
    rw [and3_mem hA hB hC, List.mem_filter, and2_mem hA hB, decide_eq_true_eq, or1_mem hC, and_assoc]
  rw [h2]; omega
theorem three_less : lessK (orV [A, B, C]) (orV [A, B]) = lessK (orV [C]) (orV [A, B]) := asc_ext (less_asc (orV_asc _) _) (less_asc (orV_asc _) _) fun k => by
  rw [less_mem, less_mem, or3_mem hA hB hC, or2_mem hA hB, or1_mem hC]
  constructor
  · rintro ⟨h | h | h, hn⟩
    · exact (hn (.inl h)).elim
    · exact (hn (.inr h)).elim
    · exact ⟨h, hn⟩
  · rintro ⟨h, hn⟩; exact ⟨.inr (.inr h), hn⟩
end
/-! Phrases -/
theorem look_of {l : SlV PostV} (h : May1 l) {k : Key} (hk : inL l k) : ∃ p ∈ l.xs, p.k = k ∧ lookP l.xs k = some p := by
  obtain ⟨p, hp, rfl⟩ := hk
  exact ⟨p, hp, rfl, look_self (may_asc h) hp⟩
theorem wrap0 (z : Int) : IntKind.i64.wrap (IntKind.i64.wrap z + 0) = IntKind.i64.wrap z := by simp only [IntKind.wrap, IntKind.bits, IntKind.signed]; simp; omega
theorem wrap1 (z : Int) : IntKind.i64.wrap (IntKind.i64.wrap (z + 1) + 1) = IntKind.i64.wrap (z + 2) := by simp only [IntKind.wrap, IntKind.bits, IntKind.signed]; simp; omega
theorem follow3 {l1 l2 l3 : List Int} (h : followB [l1, l2, l3] = true) : followB [l1, l2] = true ∧ followB [l2, l3] = true := by
  obtain ⟨a, ha, hs⟩ := List.any_eq_true.1 h
  simp only [stepsFrom, Bool.and_eq_true, decide_eq_true_eq, Bool.and_true] at hs
  obtain ⟨s1, s2, s3⟩ := hs
  refine ⟨List.any_eq_true.2 ⟨a, ha, ?_⟩, List.any_eq_true.2 ⟨_, s2, ?_⟩⟩
  · simp only [stepsFrom, Bool.and_eq_true, decide_eq_true_eq, Bool.and_true]; exact ⟨s1, s2⟩
  · simp only [stepsFrom, Bool.and_eq_true, decide_eq_true_eq, Bool.and_true]
    refine ⟨?_, ?_⟩
    · have := wrap0 (a + ((0 + 1 : Nat) : Int)); rw [show ((0 : Nat) : Int) = 0 from rfl, this]; exact s2
    · have := wrap1 a
      rw [show ((0 + 1 : Nat) : Int) = 1 from rfl, this]; exact s3
theorem ats2 {A B : SlV PostV} {k : Key} {p q : PostV} (h1 : lookP A.xs k = some p) (h2 : lookP B.xs k = some q) : atsV [A, B] k = [p.t.xs, q.t.xs] := by
  unfold atsV foundV; simp [h1, h2]
theorem ats3 {A B C : SlV PostV} {k : Key} {p q r : PostV} (h1 : lookP A.xs k = some p) (h2 : lookP B.xs k = some q) (h3 : lookP C.xs k = some r) : atsV [A, B, C] k = [p.t.xs, q.t.xs, r.t.xs] := by
  unfold atsV foundV; simp [h1, h2, h3]
theorem phrase3 {A B C : SlV PostV} (hA : May1 A) (hB : May1 B) (hC : May1 C) {k : Key} (h : k ∈ phraseV [A, B, C]) : k ∈ phraseV [A, B] ∧ k ∈ phraseV [B, C] := by
  obtain ⟨h1, h2⟩ := List.mem_filter.1 h
  obtain ⟨ka, kb, kc⟩ := (and3_mem hA hB hC).1 h1
  obtain ⟨p, -, -, hp⟩ := look_of hA ka
  obtain ⟨q, -, -, hq⟩ := look_of hB kb
  obtain ⟨r, -, -, hr⟩ := look_of hC kc
  rw [ats3 hp hq hr] at h2
  obtain ⟨f1, f2⟩ := follow3 h2
  exact ⟨List.mem_filter.2 ⟨(and2_mem hA hB).2 ⟨ka, kb⟩, by rw [ats2 hp hq]; exact f1⟩, List.mem_filter.2 ⟨(and2_mem hB hC).2 ⟨kb, kc⟩, by rw [ats2 hq hr]; exact f2⟩⟩
theorem phrase1 {A : SlV PostV} (hA : May1 A) (hw : ∀ p ∈ A.xs, ∀ i ∈ p.t.xs, IntKind.i64.wrap i = i) : phraseV [A] = orV [A] := by
  have e : andV [A] = orV [A] := asc_ext (andV_asc _) (orV_asc _) fun k => by
    rw [andV_iff (mayL_of (by simpa using hA)) (by simp), or1_mem hA]; simp
  unfold phraseV
  rw [e]
  refine List.filter_eq_self.2 fun k hk => ?_
  obtain ⟨p, hp, -, hl⟩ := look_of hA ((or1_mem hA).1 hk)
  have ha : atsV [A] k = [p.t.xs] := by unfold atsV foundV; simp [hl]
  rw [ha]
  have hr := may_rises hA p.p (List.mem_map.2 ⟨p, hp, rfl⟩)
  have hne : p.t.xs ≠ [] := by
    have h : risesB p.t.xs = true := hr
    simp only [risesB, Bool.and_eq_true, decide_eq_true_eq] at h
    exact h.2
  obtain ⟨i, l, hil⟩ := List.exists_cons_of_ne_nil hne
  have hi : i ∈ p.t.xs := by rw [hil]; simp
  refine List.any_eq_true.2 ⟨i, hi, ?_⟩
  simp only [stepsFrom, Bool.and_true, decide_eq_true_eq]
  rw [show i + ((0 : Nat) : Int) = i by simp, hw p hp i hi]; exact hi
end Go.Proofs.Ytonilkceolbkmaa
