/- Finite maps as lists of pairs: plain. -/
namespace Go.Kv
section
variable {κ ν : Type} [DecidableEq κ]
def mget : List (κ × ν) → κ → Option ν
  | [], _ => none
  | (k', v) :: r, k => if k = k' then some v else mget r k
def mput : List (κ × ν) → κ → ν → List (κ × ν)
  | [], k, v => [(k, v)]
  | (k', v') :: r, k, v => if k = k' then (k', v) :: r else (k', v') :: mput r k v
def mdel : List (κ × ν) → κ → List (κ × ν)
  | [], _ => []
  | (k', v') :: r, k => if k = k' then r else (k', v') :: mdel r k
abbrev mkeys (m : List (κ × ν)) : List κ := m.map (·.1)
theorem mget_none {m : List (κ × ν)} {k : κ} : mget m k = none ↔ k ∉ mkeys m := by
  induction m with
  | nil => simp [mget]
  | cons p m ih =>
    obtain ⟨k', v⟩ := p
    simp only [mget, mkeys, List.map_cons, List.mem_cons]
    by_cases h : k = k'
    · simp [h]
    · simp only [h, if_false, false_or]; exact ih
theorem mget_mem {m : List (κ × ν)} {k : κ} {v : ν} (h : mget m k = some v) : (k, v) ∈ m := by
  induction m with
  | nil => cases h
  | cons p m ih =>
    obtain ⟨k', v'⟩ := p
    simp only [mget] at h
    by_cases hk : k = k'
    · simp [hk] at h; subst h; subst hk; simp
    · simp [hk] at h; exact List.mem_cons_of_mem _ (ih h)
theorem mget_of_mem {m : List (κ × ν)} (hn : (mkeys m).Nodup) {k : κ} {v : ν} (h : (k, v) ∈ m) : mget m k = some v := by
  induction m with
  | nil => cases h
  | cons p m ih =>
    obtain ⟨k', v'⟩ := p
    simp only [mkeys, List.map_cons, List.nodup_cons] at hn
    simp only [mget]
    rcases List.mem_cons.1 h with e | e
    · cases e; simp
    · have : k ≠ k' := by rintro rfl; exact hn.1 (List.mem_map.2 ⟨_, e, rfl⟩)
      simp only [this, if_false]; exact ih hn.2 e
theorem mkeys_put (m : List (κ × ν)) (k : κ) (v : ν) : mkeys (mput m k v) = if k ∈ mkeys m then mkeys m else mkeys m ++ [k] := by
  induction m with
  | nil => simp [mput]
  | cons p m ih =>
    obtain ⟨k', v'⟩ := p
    simp only [mput, mkeys, List.map_cons, List.mem_cons] at ih ⊢
    by_cases h : k = k'
    · simp [h]
    · simp only [h, if_false, List.map_cons, ih, false_or]; split <;> simp
theorem nodup_put {m : List (κ × ν)} (h : (mkeys m).Nodup) (k : κ) (v : ν) : (mkeys (mput m k v)).Nodup := by
  rw [mkeys_put]; split
  · exact h
  · rename_i hk
    rw [List.nodup_append]
    exact ⟨h, by simp, fun a ha b hb e => by simp at hb; subst hb; subst e; exact hk ha⟩
theorem mem_del {m : List (κ × ν)} (hn : (mkeys m).Nodup) {k : κ} {p : κ × ν} : p ∈ mdel m k ↔ p ∈ m ∧ p.1 ≠ k := by
  induction m with
  | nil => simp [mdel]
  | cons q m ih =>
    obtain ⟨k', v'⟩ := q
    simp only [mkeys, List.map_cons, List.nodup_cons] at hn
    simp only [mdel]
    by_cases h : k = k'
    · subst h
      simp only [if_true, List.mem_cons]
      constructor
      · intro hp; exact ⟨.inr hp, fun e => hn.1 (List.mem_map.2 ⟨p, hp, e⟩)⟩
      · rintro ⟨rfl | hp, hne⟩
        · exact (hne rfl).elim
        · exact hp
    · simp only [h, if_false, List.mem_cons, ih hn.2]
      constructor
      · rintro (rfl | ⟨hp, hne⟩)
        · exact ⟨.inl rfl, fun e => h e.symm⟩
        · exact ⟨.inr hp, hne⟩
      · rintro ⟨rfl | hp, hne⟩
        · exact .inl rfl
        · exact .inr ⟨hp, hne⟩
theorem del_sub (m : List (κ × ν)) (k : κ) : List.Sublist (mdel m k) m := by
  induction m with
  | nil => exact List.Sublist.refl _
  | cons q m ih =>
    obtain ⟨k', v'⟩ := q
    simp only [mdel]; split
    · exact List.sublist_cons_self ..
    · exact ih.cons_cons _
theorem nodup_del {m : List (κ × ν)} (h : (mkeys m).Nodup) (k : κ) : (mkeys (mdel m k)).Nodup := List.Nodup.sublist ((del_sub m k).map _) h
theorem mget_put (m : List (κ × ν)) (k : κ) (v : ν) (j : κ) : mget (mput m k v) j = if j = k then some v else mget m j := by
  induction m with
  | nil => simp [mput, mget]
  | cons p m ih =>
    obtain ⟨k', v'⟩ := p
    simp only [mput]
    by_cases h : k = k'
    · subst h; simp only [if_true, mget]; by_cases hj : j = k <;> simp [hj]
    · simp only [h, if_false, mget, ih]
      by_cases hj : j = k'
      · subst hj; simp [Ne.symm h]
      · simp [hj]
theorem mget_del {m : List (κ × ν)} (hn : (mkeys m).Nodup) (k j : κ) : mget (mdel m k) j = if j = k then none else mget m j := by
  induction m with
  | nil => simp [mdel, mget]
  | cons p m ih =>
    obtain ⟨k', v'⟩ := p
    simp only [mkeys, List.map_cons, List.nodup_cons] at hn
    simp only [mdel]
    by_cases h : k = k'
    · subst h; simp only [if_true, mget]
      by_cases hj : j = k
      · subst hj; simp only [if_true]; exact mget_none.2 hn.1
      · simp [hj]
    · simp only [h, if_false, mget, ih hn.2]
      by_cases hj : j = k'
      · subst hj; simp [Ne.symm h]
      · simp [hj]
theorem length_del {m : List (κ × ν)} (k : κ) : (mdel m k).length = if (mget m k).isSome then m.length - 1 else m.length := by
  induction m with
  | nil => simp [mdel, mget]
  | cons p m ih =>
    obtain ⟨k', v'⟩ := p
    simp only [mdel, mget]
    by_cases h : k = k'
    · simp [h]
    · simp only [h, if_false, List.length_cons, ih]
      split
      · rename_i hs
        have : 0 < m.length := by cases m with
          | nil => simp [mget] at hs
          | cons => simp
        omega
      · rfl
theorem length_put {m : List (κ × ν)} (k : κ) (v : ν) : (mput m k v).length = if (mget m k).isSome then m.length else m.length + 1 := by
  induction m with
  | nil => simp [mput, mget]
  | cons p m ih =>
    obtain ⟨k', v'⟩ := p
    simp only [mput, mget]
    by_cases h : k = k'
    · simp [h]
    · simp only [h, if_false, List.length_cons, ih]; split <;> rfl
end
end Go.Kv
