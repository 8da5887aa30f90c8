/- No word has a space. -/
import Derived.Test.YtmbikfojljnnkaaGreatDoorIxL
import Derived.Lib.SpaceUEq
namespace Go.Ix
open Go Go.Lib
theorem decode_32 (n b1 b2 b3 : Nat) : decodeN n 32 b1 b2 b3 = (32, 1) := by simp [decodeN]
theorem decode_to32 {n b0 b1 b2 b3 : Nat} (h : (decodeN n b0 b1 b2 b3).1 = 32) : b0 = 32 := by
  rcases decodeN_cases n b0 b1 b2 b3 with ⟨-, e⟩ | ⟨-, -, -, h2, e⟩ | ⟨-, -, -, -, h2, e⟩ | ⟨h2, -⟩ | e
  · rw [e] at h; exact h
  · rw [e] at h; simp only at h; omega
  · rw [e] at h; simp only at h; omega
  · omega
  · rw [e] at h; simp only at h; omega
/-- The bytes of a rune that is no space are none. -/
theorem rune_clean (s : ByteArray) (pos : Nat) (h : (Utf8.decode s pos).1 ≠ 32) (j : Nat) (h1 : pos ≤ j) (h2 : j < pos + (Utf8.decode s pos).2) : s.data.toList.getD j 0 ≠ 32 := by
  rw [decode_N] at h h2
  have hc := decodeN_conts (s.data.toList.length - pos) (s.data.toList.getD pos 0).toNat (s.data.toList.getD (pos + 1) 0).toNat (s.data.toList.getD (pos + 2) 0).toNat (s.data.toList.getD (pos + 3) 0).toNat
  have big : ∀ {b : UInt8}, b.toNat / 64 = 2 → b ≠ 32 := fun hb e => by rw [e] at hb; simp at hb
  obtain ⟨c1, c2, c3, c4⟩ := hc
  rcases (by omega : j = pos ∨ j = pos + 1 ∨ j = pos + 2 ∨ j = pos + 3) with rfl | rfl | rfl | rfl
  · intro e
    rw [e] at h
    exact h (by rw [show (32 : UInt8).toNat = 32 from rfl, decode_32])
  · exact big (c1 (by omega)).1
  · exact big (c2 (by omega)).1
  · exact big (c3 (by omega)).1
def cleanIn (s : ByteArray) (a b : Nat) : Prop := ∀ j, a ≤ j → j < b → s.data.toList.getD j 0 ≠ 32
theorem spans_clean {p : Nat → Bool} (hp : p 32 = true) (s : ByteArray) : ∀ (f pos : Nat) (st : Option Nat) (acc : List (Nat × Nat)), s.size ≤ pos + f → (∀ x ∈ acc, cleanIn s x.1 x.2) → (∀ a, st = some a → cleanIn s a pos) →
    (∀ x ∈ (spansFromP p s f pos st acc).1, cleanIn s x.1 x.2) ∧ ∀ a, (spansFromP p s f pos st acc).2 = some a → cleanIn s a s.size
  | 0, pos, st, acc, hf, ha, hs => ⟨ha, fun a e j h1 h2 => hs a e j h1 (by omega)⟩
  | f + 1, pos, st, acc, hf, ha, hs => by
    have hw := Go.Lib.width_pos s pos
    by_cases hpos : pos < s.size
    · cases hr : p (Utf8.decode s pos).1 with
      | true =>
        cases st with
        | some a =>
          have e : spansFromP p s (f + 1) pos (some a) acc = spansFromP p s f (pos + (Utf8.decode s pos).2) none (acc ++ [(a, pos)]) := by
            rw [spansFromP, if_pos hpos, if_pos hr]
          rw [e]
          refine spans_clean hp s f _ none _ (by omega) (fun x hx => ?_) (fun _ h => by cases h)
          rcases List.mem_append.1 hx with hx | hx
          · exact ha x hx
          · rw [List.mem_singleton.1 hx]; exact hs a rfl
        | none =>
          have e : spansFromP p s (f + 1) pos none acc = spansFromP p s f (pos + (Utf8.decode s pos).2) none acc := by
            rw [spansFromP, if_pos hpos, if_pos hr]
          rw [e]
          exact spans_clean hp s f _ none _ (by omega) ha (fun _ h => by cases h)
      | false =>
        have hne : (Utf8.decode s pos).1 ≠ 32 := fun e => by rw [e, hp] at hr; cases hr
        have hcl := rune_clean s pos hne
        cases st with
        | some a =>
          have e : spansFromP p s (f + 1) pos (some a) acc = spansFromP p s f (pos + (Utf8.decode s pos).2) (some a) acc := by
            rw [spansFromP, if_pos hpos, if_neg (by rw [hr]; decide)]
          rw [e]
          refine spans_clean hp s f _ (some a) _ (by omega) ha (fun a' e' j h1 h2 => ?_)
          cases e'
          by_cases hj : j < pos
          · exact hs a rfl j h1 hj
          · exact hcl j (by omega) h2
        | none =>
          have e : spansFromP p s (f + 1) pos none acc = spansFromP p s f (pos + (Utf8.decode s pos).2) (some pos) acc := by
            rw [spansFromP, if_pos hpos, if_neg (by rw [hr]; decide)]
          rw [e]
          refine spans_clean hp s f _ (some pos) _ (by omega) ha (fun a' e' j h1 h2 => ?_)
          cases e'
          exact hcl j h1 h2
    · rw [spansFromP_end p s _ pos st acc hpos]
      exact ⟨ha, fun a e j h1 h2 => hs a e j h1 (by omega)⟩
theorem fields_clean {p : Nat → Bool} (hp : p 32 = true) {s w : ByteArray} (hw : w ∈ goFieldsP p s) : ∀ b ∈ w.data.toList, b ≠ 32 := by
  unfold goFieldsP at hw
  obtain ⟨x, hx, rfl⟩ := List.mem_map.1 hw
  obtain ⟨h1, h2⟩ := spans_clean hp s s.size 0 none [] (by omega) (fun _ h => by cases h) (fun _ h => by cases h)
  have hc : cleanIn s x.1 x.2 := by
    unfold spansOfP closeSpans at hx
    split at hx
    · rename_i a e
      rcases List.mem_append.1 hx with hx | hx
      · exact h1 x hx
      · rw [List.mem_singleton.1 hx]; exact h2 a e
    · exact h1 x hx
  intro b hb
  rw [Lib.extract_data] at hb
  obtain ⟨i, hi⟩ := List.mem_iff_getElem?.1 hb
  rw [List.getElem?_take] at hi
  split at hi
  · rename_i hlt
    rw [List.getElem?_drop] at hi
    have := hc (x.1 + i) (by omega) (by omega)
    rw [List.getD_eq_getElem?_getD, hi] at this
    exact this
  · cases hi
/-- Of a row of case: what it makes is no space, of what is no ASCII. -/
def rowFine (x : CaseRow) : Bool := decide (x.2.1 < 128) || (if x.delta 1 > 1114111 then decide (33 ≤ x.1) else decide (33 ≤ (if (x.1 : Int) ≤ 128 then 128 else (x.1 : Int)) + x.delta 1))
set_option maxRecDepth 1000000 in
theorem rowsFine : caseT.all rowFine = true := by decide
theorem caseA_fine (i : Nat) (hi : i < caseA.size) : rowFine (caseA.getD i (0, 0, 0, 0, 0)) = true := by
  have hm : caseA.getD i (0, 0, 0, 0, 0) ∈ caseT := by
    unfold caseA at hi ⊢
    simp only [List.size_toArray] at hi
    simp [Array.getD, hi]
  exact List.all_eq_true.1 rowsFine _ hm
theorem lower_32 {r : Int} (h : toLowerU r = 32) : r = 32 := by
  unfold toLowerU at h
  split at h
  · split at h <;> omega
  · rename_i hr
    exfalso
    unfold toR lookupGo at h
    cases hi : lookupIdx caseA r (caseA.size + 1) 0 caseA.size with
    | none => rw [hi] at h; simp only [Option.map_none] at h; omega
    | some i =>
      rw [hi] at h
      simp only [Option.map_some] at h
      obtain ⟨hil, hlo, hhi⟩ := lookupIdx_some caseA r _ _ _ i hi
      have hf := caseA_fine i hil
      generalize caseA.getD i (0, 0, 0, 0, 0) = x at hlo hhi hf h
      unfold rowFine at hf
      rw [Bool.or_eq_true, decide_eq_true_eq] at hf
      unfold convertR at h
      rcases hf with hf | hf
      · omega
      · by_cases hd : x.delta 1 > 1114111
        · rw [if_pos hd] at h hf
          have := of_decide_eq_true hf
          omega
        · rw [if_neg hd] at h hf
          have := of_decide_eq_true hf
          split at this <;> omega
theorem encode_clean {v : Int} (h : v ≠ 32) : ∀ b ∈ encodeRune v, b ≠ 32 := by
  intro b hb e
  subst e
  unfold encodeRune at hb
  obtain ⟨x, hx, hxe⟩ := List.mem_map.1 hb
  have hn : x.toNat % 256 = 32 := by
    have := congrArg UInt8.toNat hxe
    simpa using this
  unfold encodeRuneZ at hx
  split at hx
  · simp only [List.mem_cons, List.not_mem_nil, or_false] at hx; omega
  · split at hx
    · simp only [List.mem_cons, List.not_mem_nil, or_false] at hx; omega
    · split at hx
      · simp only [List.mem_cons, List.not_mem_nil, or_false] at hx; omega
      · split at hx
        · simp only [List.mem_cons, List.not_mem_nil, or_false] at hx; omega
        · simp only [List.mem_cons, List.not_mem_nil, or_false] at hx; omega
end Go.Ix
namespace Go.Proofs.YtmbikfojljnnkaaGreatDoor
open Go Go.Sl Go.Gv Go.Kv Go.Po Go.Ix Go.Bst
theorem lowF_clean {s : ByteArray} (hs : ∀ b ∈ s.data.toList, b ≠ 32) : ∀ (f pos : Nat), ∀ b ∈ lowF s f pos, b ≠ 32
  | 0, _, b, hb => by cases hb
  | f + 1, pos, b, hb => by
    unfold lowF at hb
    split at hb
    · rename_i hpos
      rcases List.mem_append.1 hb with hb | hb
      · refine encode_clean (fun e => ?_) b hb
        have h1 := lower_32 e
        have h2 : (Utf8.decode s pos).1 = 32 := by omega
        rw [Lib.decode_N] at h2
        have h3 := decode_to32 h2
        have hl : pos < s.data.toList.length := by simpa using hpos
        have h4 : s.data.toList.getD pos 0 = s.data.toList[pos] := by rw [List.getD_eq_getElem?_getD, List.getElem?_eq_getElem hl]; rfl
        rw [h4] at h3
        exact hs _ (List.getElem_mem hl) (UInt8.toNat_inj.1 h3)
      · exact lowF_clean hs f _ b hb
    · cases hb
theorem notW_32 : notW 32 = true := by kernel_rfl
theorem word_clean {s w : ByteArray} (hw : w ∈ wordsB s) : ∀ b ∈ w.data.toList, b ≠ 32 := by
  unfold wordsB at hw
  split at hw
  · obtain ⟨f, hf, rfl⟩ := List.mem_map.1 hw
    unfold normB
    split
    · intro b hb
      exact lowF_clean (fields_clean notW_32 hf) _ _ b (by simpa using hb)
    · intro b hb; simp at hb
  · cases hw
abbrev nsB : ByteArray := ⟨#[110, 111, 32, 115, 117, 99, 104]⟩
theorem mem_toks {l : List ByteArray} {i : Nat} {p : WordP} (h : p ∈ toksOf l i) : p.1 ∈ l := by
  unfold toksOf at h
  obtain ⟨q, hq, rfl⟩ := List.mem_map.1 h
  exact List.fst_mem_of_mem_zipIdx hq
theorem noSuch (r : Rec) : mget (tok r) nsB = none := by
  rw [posL_get, if_pos]
  unfold atsOf
  rw [List.filter_eq_nil_iff.2, List.map_nil]
  intro p hp e
  have h1 := mem_toks hp
  rw [of_decide_eq_true e] at h1
  exact word_clean h1 32 (by simp) rfl
theorem IxIs.noSuch {rs : List Rec} {s : PL × PW} (h : IxIs rs s) : (mget s.1 nsB).getD [] = [] := by
  rw [List.eq_nil_iff_forall_not_mem]
  intro p hp
  obtain ⟨r, -, -, h2⟩ := ((h.getD nsB).2 p).1 hp
  rw [YtmbikfojljnnkaaGreatDoor.noSuch] at h2; cases h2
end Go.Proofs.YtmbikfojljnnkaaGreatDoor
