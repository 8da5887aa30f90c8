/- What a list of places is, told of records; an index tells the same. Plain. -/
import Derived.Test.YtmbikfojljnnkaaGreatDoorIx8
namespace Go.Proofs.YtmbikfojljnnkaaGreatDoor
open Go Go.Sl Go.Gv Go.Kv Go.Po Go.Ix Go.Bst
theorem ascP_nodup {L : List PostP} (h : AscP L) : L.Nodup := h.imp fun {a b} hab e => by rw [e, before_irr] at hab; cases hab
theorem ascP_ext {L M : List PostP} (hL : AscP L) (hM : AscP M) (h : ∀ p, p ∈ L ↔ p ∈ M) : L = M := by
  refine List.Perm.eq_of_pairwise (le := fun a b : PostP => before a.1 b.1 = true) (fun a b _ _ h1 h2 => ?_) hL hM ?_
  · rw [before_asymm h1] at h2; cases h2
  · rw [List.perm_ext_iff_of_nodup (ascP_nodup hL) (ascP_nodup hM)]; exact h
theorem up_ext {l m : List Int} (hl : l.Pairwise (· < ·)) (hm : m.Pairwise (· < ·)) (h : ∀ x, x ∈ l ↔ x ∈ m) : l = m := by
  refine List.Perm.eq_of_pairwise (le := fun a b : Int => a < b) (fun a b _ _ h1 h2 => by omega) hl hm ?_
  rw [List.perm_ext_iff_of_nodup (hl.imp fun {a b} hab e => by omega) (hm.imp fun {a b} hab e => by omega)]; exact h
theorem selA_up {T : List WordP} (h : UpT T) (pfx : Bool) (w : ByteArray) : (selA pfx w T).Pairwise (· < ·) ∧ ∀ x ∈ selA pfx w T, 0 ≤ x := by
  unfold selA
  refine ⟨?_, fun x hx => ?_⟩
  · rw [List.pairwise_map]; exact List.Pairwise.filter _ h.1
  · obtain ⟨p, hp, rfl⟩ := List.mem_map.1 hx
    exact h.2 p (List.mem_filter.1 hp).1
theorem selA_rises {T : List WordP} (h : UpT T) (pfx : Bool) (w : ByteArray) (hne : selA pfx w T ≠ []) : risesB (selA pfx w T) = true := by
  unfold risesB
  rw [decide_eq_true hne, Bool.and_true]
  exact rises_pw (fun x hx => by have := (selA_up h pfx w).2 x hx; omega) (selA_up h pfx w).1
theorem listP_is (pfx : Bool) (w : ByteArray) (rs : List Rec) : (rs.map Rec.key).Nodup → mayB (listP pfx w rs) = true ∧ ∀ p, p ∈ listP pfx w rs ↔ ∃ r ∈ rs, p.1 = r.key ∧ p.2 = selA pfx w (toksV r.t) ∧ p.2 ≠ [] := by
  refine snoc_ind (P := fun rs : List Rec => (rs.map Rec.key).Nodup → mayB (listP pfx w rs) = true ∧ ∀ p, p ∈ listP pfx w rs ↔ ∃ r ∈ rs, p.1 = r.key ∧ p.2 = selA pfx w (toksV r.t) ∧ p.2 ≠ []) (fun _ => ⟨rfl, fun p => ⟨fun h => (by cases h), fun ⟨r, h, _⟩ => (by cases h)⟩⟩) (fun rs r ih hn => ?_) rs
  rw [List.map_append, List.nodup_append] at hn
  obtain ⟨hn1, -, hn2⟩ := hn
  obtain ⟨hm, hmem⟩ := ih hn1
  have e : listP pfx w (rs ++ [r]) = putP (listP pfx w rs) (r.key, selA pfx w (toksV r.t)) := by unfold listP; rw [List.foldl_append]; rfl
  rw [e]
  by_cases ha : selA pfx w (toksV r.t) = []
  · have e2 : putP (listP pfx w rs) (r.key, selA pfx w (toksV r.t)) = listP pfx w rs := by
      unfold putP; rw [if_pos hm, ha]; rfl
    rw [e2]
    refine ⟨hm, fun p => (hmem p).trans ⟨fun ⟨r', h1, h2⟩ => ⟨r', List.mem_append_left _ h1, h2⟩, fun ⟨r', h1, h2, h3, h4⟩ => ?_⟩⟩
    rcases List.mem_append.1 h1 with h1 | h1
    · exact ⟨r', h1, h2, h3, h4⟩
    · rw [List.mem_singleton.1 h1, ha] at h3; exact (h4 h3).elim
  · have hr := selA_rises (up_toks r.t) pfx w ha
    have hf : ∀ p ∈ listP pfx w rs, p.1 ≠ (r.key, selA pfx w (toksV r.t)).1 := fun p hp e => by
      obtain ⟨r', h1, h2, -⟩ := (hmem p).1 hp
      exact hn2 r'.key (List.mem_map.2 ⟨r', h1, rfl⟩) r.key (by simp) (by rw [← h2]; exact e)
    refine ⟨put_may hm hr, fun p => ?_⟩
    rw [put_mem hm hr hf, hmem]
    constructor
    · rintro (rfl | ⟨r', h1, h2⟩)
      · exact ⟨r, by simp, rfl, rfl, ha⟩
      · exact ⟨r', List.mem_append_left _ h1, h2⟩
    · rintro ⟨r', h1, h2, h3, h4⟩
      rcases List.mem_append.1 h1 with h1 | h1
      · exact .inr ⟨r', h1, h2, h3, h4⟩
      · rw [List.mem_singleton.1 h1] at h2 h3
        exact .inl (Prod.ext h2 h3)
theorem selA_word (w : ByteArray) (T : List WordP) : selA false w T = atsOf T w := by
  unfold selA atsOf
  congr 1
  exact List.filter_congr fun p _ => by unfold selB; simp
theorem preB_self (w : ByteArray) : preB w w = true := by
  rw [preB_long (Nat.le_refl _)]
  refine decide_eq_true ?_
  apply bytes_ext
  rw [Lib.extract_data, List.drop_zero, Nat.sub_zero]
  exact List.take_of_length_le (by simp)
theorem selB_pre (w v : ByteArray) : selB true w v = preB v w := by
  unfold selB
  by_cases h : v = w
  · rw [h, preB_self]; simp
  · rw [decide_eq_false h]; simp
theorem IxIs.word_is {rs : List Rec} {s : PL × PW} (h : IxIs rs s) (w : ByteArray) : (mget s.1 w).getD [] = listP false w rs := by
  obtain ⟨h1, h2⟩ := h.getD w
  obtain ⟨h3, h4⟩ := listP_is false w rs h.keys
  refine ascP_ext (ascP_of h1) (ascP_of h3) fun p => ?_
  rw [h2, h4]
  refine ⟨fun ⟨r, hr, hk, hm⟩ => ⟨r, hr, hk, ?_⟩, fun ⟨r, hr, hk, hs, hne⟩ => ⟨r, hr, hk, ?_⟩⟩
  · rw [posL_get] at hm
    split at hm
    · cases hm
    · rename_i hne
      rw [selA_word, ← Option.some.inj hm]; exact ⟨rfl, hne⟩
  · rw [selA_word] at hs
    rw [posL_get, if_neg (by rw [← hs]; exact hne), ← hs]
theorem IxIs.pre_mem {rs : List Rec} {s : PL × PW} (h : IxIs rs s) (w : ByteArray) {l : List PostP} (hp : List.Perm l (mm sortI (prefM w s.1))) (p : PostP) :
    p ∈ l ↔ ∃ r ∈ rs, p.1 = r.key ∧ p.2 = sortI (preAts w (sortB (mkeys s.1)) r) ∧ preAts w (sortB (mkeys s.1)) r ≠ [] := by
  obtain ⟨h1, h2, h3⟩ := h.pre_get w (sortB (mkeys s.1)) [] List.nodup_nil (fun k hk => by cases hk)
  rw [hp.mem_iff]
  constructor
  · intro hx
    obtain ⟨e, he, rfl⟩ := List.mem_map.1 hx
    obtain ⟨k, at'⟩ := e
    obtain ⟨r, hr, hk⟩ := List.mem_map.1 (h2 k (List.mem_map.2 ⟨(k, at'), he, rfl⟩))
    rw [← hk] at he
    have hg := mget_of_mem h1 he
    obtain ⟨h4, h5⟩ := h3 r hr
    have h6 : (mget (List.foldl (preStep w s.1) [] (sortB (mkeys s.1))) r.key).getD [] = preAts w (sortB (mkeys s.1)) r := by rw [h4]; rfl
    rw [hg] at h6
    have h7 : at' = preAts w (sortB (mkeys s.1)) r := h6
    refine ⟨r, hr, hk.symm, by rw [← h7], fun e => ?_⟩
    rw [h5.2 ⟨rfl, e⟩] at hg; cases hg
  · rintro ⟨r, hr, hk, hv, hne⟩
    obtain ⟨h4, h5⟩ := h3 r hr
    cases hg : mget (List.foldl (preStep w s.1) [] (sortB (mkeys s.1))) r.key with
    | none => exact (hne (h5.1 hg).2).elim
    | some x =>
      have h6 : (mget (List.foldl (preStep w s.1) [] (sortB (mkeys s.1))) r.key).getD [] = preAts w (sortB (mkeys s.1)) r := by rw [h4]; rfl
      rw [hg] at h6
      have h7 : x = preAts w (sortB (mkeys s.1)) r := h6
      exact List.mem_map.2 ⟨(r.key, x), mget_mem hg, Prod.ext hk.symm (by rw [hv, ← h7])⟩
theorem IxIs.sel_is {rs : List Rec} {s : PL × PW} (h : IxIs rs s) (w : ByteArray) {r : Rec} (hr : r ∈ rs) : sortI (preAts w (sortB (mkeys s.1)) r) = selA true w (toksV r.t) := by
  have hwn : (sortB (mkeys s.1)).Nodup := (sortB_perm _).nodup_iff.2 h.ln
  have hup := up_toks r.t
  have hnd : (preAts w (sortB (mkeys s.1)) r).Nodup := flat_nodup hup _ (List.Nodup.sublist List.filter_sublist hwn)
  have hnd2 : (sortI (preAts w (sortB (mkeys s.1)) r)).Nodup := (sortI_perm _).nodup_iff.2 hnd
  have hle : (sortI (preAts w (sortB (mkeys s.1)) r)).Pairwise fun x y => x ≤ y := by
    have := List.pairwise_mergeSort (le := fun x y : Int => decide (x ≤ y)) (fun a b c h1 h2 => by simp only [decide_eq_true_eq] at *; omega) (fun a b => by rcases Int.le_total a b with h | h <;> simp [h]) (preAts w (sortB (mkeys s.1)) r)
    exact this.imp fun {a b} h => by simpa using h
  refine up_ext ((hle.and hnd2).imp fun {a b} h => by have := h.1; have := h.2; omega) (selA_up hup true w).1 fun x => ?_
  rw [(sortI_perm _).mem_iff]
  unfold preAts selA
  rw [List.mem_flatMap, List.mem_map]
  constructor
  · rintro ⟨v, hv, hx⟩
    obtain ⟨hv1, hv2⟩ := List.mem_filter.1 hv
    exact ⟨(v, x), List.mem_filter.2 ⟨ats_mem hx, by rw [selB_pre]; exact hv2⟩, rfl⟩
  · rintro ⟨p, hp, rfl⟩
    obtain ⟨hp1, hp2⟩ := List.mem_filter.1 hp
    have hat : p.2 ∈ atsOf (toksV r.t) p.1 := List.mem_map.2 ⟨p, List.mem_filter.2 ⟨hp1, decide_eq_true rfl⟩, rfl⟩
    refine ⟨p.1, List.mem_filter.2 ⟨sortB_mem.2 ?_, by rw [← selB_pre]; exact hp2⟩, hat⟩
    refine Classical.byContradiction fun hc => ?_
    have h1 := h.non p.1 (mget_none.2 hc) r hr
    rw [posL_get] at h1
    split at h1
    · rename_i e; rw [e] at hat; cases hat
    · cases h1
theorem IxIs.pre_is {rs : List Rec} {s : PL × PW} (h : IxIs rs s) (w : ByteArray) {l : List PostP} (hp : List.Perm l (mm sortI (prefM w s.1))) (ho : l.Pairwise fun p q => before q.1 p.1 = false) : l = listP true w rs := by
  obtain ⟨h1, -⟩ := h.pre w hp ho
  obtain ⟨h3, h4⟩ := listP_is true w rs h.keys
  refine ascP_ext (ascP_of h1) (ascP_of h3) fun p => ?_
  rw [h.pre_mem w hp, h4]
  have hnil : ∀ r, sortI (preAts w (sortB (mkeys s.1)) r) = [] → preAts w (sortB (mkeys s.1)) r = [] := fun r e => List.length_eq_zero_iff.1 (by rw [← sortI_length, e]; rfl)
  refine ⟨fun ⟨r, hr, hk, hv, hne⟩ => ⟨r, hr, hk, by rw [hv, h.sel_is w hr], fun e => hne (hnil r (by rw [← hv]; exact e))⟩, fun ⟨r, hr, hk, hv, hne⟩ => ⟨r, hr, hk, by rw [hv, h.sel_is w hr], fun e => hne ?_⟩⟩
  rw [hv, ← h.sel_is w hr, e]; exact List.mergeSort_nil
end Go.Proofs.YtmbikfojljnnkaaGreatDoor
