/- Plain laws: what lists have in common, what some has, phrases. -/
import Derived.Test.YtonilkceolbkmaaPoM
import Derived.Test.YtonilkceolbkmaaPoV
namespace Go.Po
open Go Go.Sl Go.Gv
abbrev AscK (l : List Key) : Prop := l.Pairwise fun a b => before a b = true
theorem asc_ext : ∀ {l m : List Key}, AscK l → AscK m → (∀ k, k ∈ l ↔ k ∈ m) → l = m
  | [], [], _, _, _ => rfl
  | [], y :: m, _, _, h => absurd ((h y).2 (by simp)) (by simp)
  | x :: l, [], _, _, h => absurd ((h x).1 (by simp)) (by simp)
  | x :: l, y :: m, hl, hm, h => by
    have hl' := List.pairwise_cons.1 hl
    have hm' := List.pairwise_cons.1 hm
    have e : x = y := by
      rcases List.mem_cons.1 ((h x).1 (by simp)) with e | hx
      · exact e
      rcases List.mem_cons.1 ((h y).2 (by simp)) with e | hy
      · exact e.symm
      have h1 := hm'.1 x hx
      have h2 := hl'.1 y hy
      rw [before_asymm h1] at h2; cases h2
    subst e
    congr 1
    refine asc_ext hl'.2 hm'.2 fun k => ⟨fun hk => ?_, fun hk => ?_⟩
    · rcases List.mem_cons.1 ((h k).1 (by simp [hk])) with e | hx
      · subst e; have := hl'.1 k hk; rw [before_irr] at this; cases this
      · exact hx
    · rcases List.mem_cons.1 ((h k).2 (by simp [hk])) with e | hx
      · subst e; have := hm'.1 k hk; rw [before_irr] at this; cases this
      · exact hx
theorem asc_filter {l : List Key} (h : AscK l) (f : Key → Bool) : AscK (l.filter f) := List.Pairwise.filter _ h
theorem dd_mem : ∀ (l : List Key) (k : Key), k ∈ dd l ↔ k ∈ l
  | [], _ => Iff.rfl
  | [_], _ => Iff.rfl
  | x :: y :: l, k => by
    have ih := dd_mem (y :: l) k
    unfold dd
    split
    · rename_i e; subst e
      rw [ih]; simp
    · simp only [List.mem_cons] at ih ⊢; rw [ih]
theorem dd_asc : ∀ {l : List Key}, (l.Pairwise fun a b => before b a = false) → AscK (dd l)
  | [], _ => List.Pairwise.nil
  | [_], _ => List.pairwise_singleton ..
  | x :: y :: l, h => by
    have h' := List.pairwise_cons.1 h
    have ih := dd_asc h'.2
    unfold dd
    split
    · exact ih
    · rename_i hne
      refine List.pairwise_cons.2 ⟨fun k hk => ?_, ih⟩
      have hk' := (dd_mem _ k).1 hk
      have h1 := h'.1 k hk'
      by_cases e : x = k
      · subst e
        rcases List.mem_cons.1 hk' with e | hk2
        · exact (hne e).elim
        · have h2 := (List.pairwise_cons.1 h'.2).1 x hk2
          have h3 := h'.1 y (by simp)
          rcases before_total hne with h4 | h4
          · rw [h4] at h2; cases h2
          · rw [h4] at h3; cases h3
      · rcases before_total e with h4 | h4
        · exact h4
        · rw [h4] at h1; cases h1
theorem intoL_asc {l : List Key} (hA : AscK l) (k : Key) : AscK (intoL l k) ∧ ∀ j, j ∈ intoL l k ↔ j = k ∨ j ∈ l := by
  have hlo : ∀ x ∈ l.take (at_ l k), before x k = true := fun x hx => by
    obtain ⟨m, h1, h2⟩ := mem_take_at hx
    obtain ⟨hl, rfl⟩ := List.getElem?_eq_some_iff.1 h2
    have := List.not_of_lt_findIdx (p := fun x => !before x k) (xs := l) h1
    simpa using this
  unfold intoL
  split
  · rename_i he
    exact ⟨hA, fun j => ⟨fun hj => .inr hj, fun hj => hj.elim (fun e => e ▸ List.mem_of_getElem? he) id⟩⟩
  · rename_i he
    have hhi : ∀ x ∈ l.drop (at_ l k), before k x = true := fun x hx => by
      obtain ⟨m, h1, h2⟩ := mem_drop_at hx
      have hlen : m < l.length := (List.getElem?_eq_some_iff.1 h2).1
      have hlt : at_ l k < l.length := by omega
      have h3 : before (l[at_ l k]'hlt) k = false := by
        have := List.findIdx_getElem (p := fun x => !before x k) (xs := l) (w := hlt)
        have h4 : (!before (l[at_ l k]'hlt) k) = true := this
        simpa using h4
      have h5 : before k (l[at_ l k]'hlt) = true := by
        have hne : l[at_ l k]'hlt ≠ k := fun e => he (by rw [List.getElem?_eq_getElem hlt, e])
        rcases before_total hne with h | h
        · rw [h] at h3; cases h3
        · exact h
      obtain ⟨hl2, rfl⟩ := List.getElem?_eq_some_iff.1 h2
      rcases Nat.lt_or_eq_of_le h1 with h | h
      · exact before_trans h5 (List.pairwise_iff_getElem.1 hA _ _ hlt hl2 h)
      · have : l[at_ l k]'hlt = l[m] := by congr 1
        rw [← this]; exact h5
    constructor
    · refine List.pairwise_append.2 ⟨List.pairwise_append.2 ⟨hA.sublist (List.take_sublist ..), List.pairwise_singleton .., fun x hx y hy => ?_⟩, hA.sublist (List.drop_sublist ..), fun x hx y hy => ?_⟩
      · simp at hy; subst hy; exact hlo x hx
      · rcases List.mem_append.1 hx with hx | hx
        · exact before_trans (hlo x hx) (hhi y hy)
        · simp at hx; subst hx; exact hhi y hy
    · intro j
      have e : j ∈ l ↔ j ∈ l.take (at_ l k) ∨ j ∈ l.drop (at_ l k) := by rw [← List.mem_append, List.take_append_drop]
      rw [e, List.mem_append, List.mem_append, List.mem_singleton]
      constructor
      · rintro ((h | h) | h)
        · exact .inr (.inl h)
        · exact .inl h
        · exact .inr (.inr h)
      · rintro (h | h | h)
        · exact .inl (.inr h)
        · exact .inl (.inl h)
        · exact .inr h
theorem intoAll_asc (ks : List Key) : AscK (intoAll ks) ∧ ∀ j, j ∈ intoAll ks ↔ j ∈ ks := by
  have : ∀ (ks acc : List Key), AscK acc → AscK (ks.foldl intoL acc) ∧ ∀ j, j ∈ ks.foldl intoL acc ↔ j ∈ acc ∨ j ∈ ks := by
    intro ks
    induction ks with
    | nil => intro acc h; exact ⟨h, fun j => by simp⟩
    | cons k ks ih =>
      intro acc h
      obtain ⟨h1, h2⟩ := intoL_asc h k
      obtain ⟨h3, h4⟩ := ih _ h1
      refine ⟨h3, fun j => ?_⟩
      rw [List.foldl_cons, h4, h2, List.mem_cons]
      constructor
      · rintro ((h | h) | h)
        · exact .inr (.inl h)
        · exact .inl h
        · exact .inr (.inr h)
      · rintro (h | h | h)
        · exact .inl (.inr h)
        · exact .inl (.inl h)
        · exact .inr h
  obtain ⟨h1, h2⟩ := this ks [] List.Pairwise.nil
  exact ⟨h1, fun j => by rw [intoAll, h2]; simp⟩
/-- The keys of lists, in order, each once. -/
theorem orV_asc (ls : List (SlV PostV)) : AscK (orV ls) := by
  unfold orV; split
  · exact (intoAll_asc _).1
  · exact List.Pairwise.nil
theorem keysL_mem {ls : List (SlV PostV)} {k : Key} : k ∈ keysL ls ↔ ∃ l ∈ ls, ∃ p ∈ l.xs, p.k = k := by
  unfold keysL
  rw [List.mem_flatMap]
  constructor
  · rintro ⟨l, hl, h⟩
    obtain ⟨p, hp, e⟩ := List.mem_map.1 h
    exact ⟨l, hl, p, hp, e⟩
  · rintro ⟨l, hl, p, hp, e⟩
    exact ⟨l, hl, List.mem_map.2 ⟨p, hp, e⟩⟩
abbrev MayL (ls : List (SlV PostV)) : Prop := mayAll (ls.map fun l => l.xs.map PostV.p) = true
theorem orV_mem {ls : List (SlV PostV)} (h : MayL ls) {k : Key} : k ∈ orV ls ↔ ∃ l ∈ ls, ∃ p ∈ l.xs, p.k = k := by
  rw [orV, if_pos h, (intoAll_asc _).2, keysL_mem]
theorem keys_asc {l : SlV PostV} (h : mayB (l.xs.map PostV.p) = true) : AscK (l.xs.map PostV.k) := by
  have := may_asc h
  rw [List.map_map] at this
  exact this
theorem look_iff {l : List PostV} {k : Key} : (lookP l k).isSome = true ↔ ∃ p ∈ l, p.k = k := by
  unfold lookP; rw [List.find?_isSome]; simp
theorem andV_asc (ls : List (SlV PostV)) : AscK (andV ls) := by
  unfold andV; split
  · exact List.Pairwise.nil
  · rename_i l0 r
    split
    · rename_i hm
      have h0 : mayB (l0.xs.map PostV.p) = true := List.all_eq_true.1 hm _ (by simp)
      exact (keys_asc h0).sublist (List.Sublist.map _ List.filter_sublist)
    · exact List.Pairwise.nil
theorem andV_iff {ls : List (SlV PostV)} (h : MayL ls) (hne : ls ≠ []) {k : Key} : k ∈ andV ls ↔ ∀ l ∈ ls, ∃ p ∈ l.xs, p.k = k := by
  obtain ⟨l0, r, rfl⟩ := List.exists_cons_of_ne_nil hne
  have e : andV (l0 :: r) = (l0.xs.filter fun p => hasAll (l0 :: r) p.k).map PostV.k := if_pos h
  rw [e, List.mem_map]
  constructor
  · rintro ⟨p, hp, rfl⟩ l hl
    have := List.all_eq_true.1 (List.mem_filter.1 hp).2 l hl
    exact look_iff.1 this
  · intro hk
    obtain ⟨p, hp, rfl⟩ := hk l0 (by simp)
    exact ⟨p, List.mem_filter.2 ⟨hp, List.all_eq_true.2 fun l hl => look_iff.2 (hk l hl)⟩, rfl⟩
theorem phraseV_asc (ls : List (SlV PostV)) : AscK (phraseV ls) := asc_filter (andV_asc ls) _
theorem phraseV_sub {ls : List (SlV PostV)} {k : Key} (h : k ∈ phraseV ls) : k ∈ andV ls := (List.mem_filter.1 h).1
theorem phrase_eq (ls : List (SlV PostV)) : eachV (fun ps => followB (ps.map fun p => p.t.xs)) ls = phraseV ls := by
  unfold eachV phraseV andV
  split
  · rfl
  · rename_i l0 r
    split
    · rename_i hm
      have h0 : mayB (l0.xs.map PostV.p) = true := List.all_eq_true.1 hm _ (by simp)
      rw [List.filter_map, List.filter_filter]
      congr 1
      refine List.filter_congr fun p hp => ?_
      have hl := look_self (may_asc h0) hp
      have hf : foundV (l0 :: r) p.k = p :: foundV r p.k := by
        unfold foundV
        rw [List.filterMap_cons_some (f := fun l : SlV PostV => lookP l.xs p.k) hl]
      rw [← found_all, hf, Bool.and_comm]
      congr 1
      show followB ((p :: foundV r p.k).map fun p => p.t.xs) = followB (atsV (l0 :: r) p.k)
      unfold atsV
      rw [hf]
    · rfl
end Go.Po
namespace Go.Proofs.Ytonilkceolbkmaa
open Go Go.Sl Go.Gv Go.Po
theorem porV_eq (ls : List (SlV PostV)) : porV ls = orV ls := by
  unfold porV orV
  split
  · refine asc_ext (dd_asc ?_) (intoAll_asc _).1 fun k => ?_
    · have := List.pairwise_mergeSort (le := fun x y : Key => !before y x) (fun a b c h1 h2 => by
        simp only [Bool.not_eq_true'] at *
        rw [before_not] at *; omega) (fun a b => by
        cases h : before b a with
        | false => rfl
        | true => simp [before_asymm h]) (keysL ls)
      exact this.imp fun h => by simpa using h
    · rw [dd_mem, (intoAll_asc _).2]
      exact (List.mergeSort_perm ..).mem_iff
  · rfl
theorem phrase_eq' (ls : List (SlV PostV)) : eachV followV ls = phraseV ls := phrase_eq ls
end Go.Proofs.Ytonilkceolbkmaa
