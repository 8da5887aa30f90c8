/- A text that is UTF-8, in its runes: how it decodes, its fields, its small letters. Plain. -/
import Derived.Test.YtmbikfojljnnkaaGreatDoorIxT
import Derived.Lib.MapLaws
import Derived.Lib.ValidLaws
namespace Go.Ix
open Go Go.Lib
theorem decodeN_local {n n' b0 b1 b2 b3 c1 c2 c3 : Nat} (h : ¬ ((decodeN n b0 b1 b2 b3).1 = 65533 ∧ (decodeN n b0 b1 b2 b3).2 = 1)) (hn : (decodeN n b0 b1 b2 b3).2 ≤ n')
    (h1 : 2 ≤ (decodeN n b0 b1 b2 b3).2 → c1 = b1) (h2 : 3 ≤ (decodeN n b0 b1 b2 b3).2 → c2 = b2) (h3 : 4 ≤ (decodeN n b0 b1 b2 b3).2 → c3 = b3) : decodeN n' b0 c1 c2 c3 = decodeN n b0 b1 b2 b3 := by
  rcases decodeN_shape n b0 b1 b2 b3 with ⟨c, e⟩ | ⟨x1, x2, x3, xv, e⟩ | ⟨x1, x2, x3, x4, xv, xs, e⟩ | ⟨x1, x2, x3, x4, x5, xv, xw, e⟩ | e
  · rw [e]; unfold decodeN; rw [if_pos c]
  · rw [e] at hn h1 ⊢
    dsimp only at hn h1
    obtain rfl := h1 (by omega)
    unfold decodeN
    rw [if_neg (by omega), if_pos (by omega), if_pos (by omega)]
  · rw [e] at hn h1 h2 ⊢
    dsimp only at hn h1 h2
    obtain rfl := h1 (by omega)
    obtain rfl := h2 (by omega)
    unfold decodeN
    rw [if_neg (by omega), if_neg (by omega), if_pos (by omega), if_pos (by omega)]
  · rw [e] at hn h1 h2 h3 ⊢
    dsimp only at hn h1 h2 h3
    obtain rfl := h1 (by omega)
    obtain rfl := h2 (by omega)
    obtain rfl := h3 (by omega)
    unfold decodeN
    rw [if_neg (by omega), if_neg (by omega), if_neg (by omega), if_pos (by omega), if_pos (by omega)]
  · rw [e] at h; exact (h ⟨rfl, rfl⟩).elim
/-- A rune and its bytes. -/
abbrev Chk : Type := Nat × List UInt8
def Chunk (p : Chk) : Prop := p.2 ≠ [] ∧ decodeL p.2 = (p.1, p.2.length) ∧ ¬ (p.1 = 65533 ∧ p.2.length = 1)
theorem getD_app {c t : List UInt8} {i : Nat} (h : i < c.length) : (c ++ t).getD i 0 = c.getD i 0 := by
  rw [List.getD_eq_getElem?_getD, List.getD_eq_getElem?_getD, List.getElem?_append_left h]
theorem Chunk.head {p : Chk} (h : Chunk p) (t : List UInt8) : decodeL (p.2 ++ t) = (p.1, p.2.length) := by
  obtain ⟨h1, h2, h3⟩ := h
  have hl : 0 < p.2.length := List.length_pos_iff.2 h1
  rw [← h2]
  have e2 := h2
  rw [decodeL_N] at e2
  rw [decodeL_N, decodeL_N, getD_app hl]
  refine decodeN_local (by rw [e2]; exact h3) (by rw [e2, List.length_append]; dsimp only; omega) (fun h => ?_) (fun h => ?_) (fun h => ?_)
  all_goals (rw [e2] at h; dsimp only at h; rw [getD_app (by omega)])
theorem chunks_of : ∀ (n : Nat) (l : List UInt8), l.length ≤ n → validD l = true → ∃ ps : List Chk, (∀ p ∈ ps, Chunk p) ∧ ps.flatMap (·.2) = l
  | 0, l, h, _ => ⟨[], fun _ hp => (by cases hp), by rw [List.length_eq_zero_iff.1 (Nat.le_zero.1 h)]; rfl⟩
  | n + 1, l, h, hv => by
    by_cases hne : l = []
    · exact ⟨[], fun _ hp => (by cases hp), by rw [hne]; rfl⟩
    · rw [validD_step l hne] at hv
      split at hv
      · cases hv
      · rename_i hb
        have hw := decodeL_width l
        have hle := decodeL_le l hne
        have hkl : (l.take (decodeL l).2).length = (decodeL l).2 := by rw [List.length_take]; omega
        have hg : ∀ i, i < (decodeL l).2 → (l.take (decodeL l).2).getD i 0 = l.getD i 0 := fun i hi => by
          rw [List.getD_eq_getElem?_getD, List.getD_eq_getElem?_getD, List.getElem?_take, if_pos hi]
        have hd : decodeL (l.take (decodeL l).2) = decodeL l := by
          have e2 := decodeL_N l
          rw [decodeL_N (l.take (decodeL l).2), hg 0 (by omega), hkl]
          rw [e2]
          refine decodeN_local (by rw [← e2]; exact hb) (by rw [← e2]; exact Nat.le_refl _) (fun h => ?_) (fun h => ?_) (fun h => ?_)
          all_goals (rw [← e2] at h; rw [← e2, hg _ (by omega)])
        obtain ⟨ps, h1, h2⟩ := chunks_of n (l.drop (decodeL l).2) (by rw [List.length_drop]; omega) hv
        refine ⟨((decodeL l).1, l.take (decodeL l).2) :: ps, fun p hp => ?_, ?_⟩
        · rcases List.mem_cons.1 hp with rfl | hp
          · refine ⟨fun e => ?_, by rw [hd, hkl], by rw [hkl]; exact hb⟩
            have := congrArg List.length e
            rw [hkl, List.length_nil] at this; omega
          · exact h1 p hp
        · rw [List.flatMap_cons, h2]; exact List.take_append_drop _ _
abbrev flat (ps : List Chk) : List UInt8 := ps.flatMap (·.2)
def strC' (ps : List Chk) : ByteArray := ⟨(flat ps).toArray⟩
theorem str_data (ps : List Chk) : (strC' ps).data.toList = flat ps := by simp [strC']
theorem str_size (ps : List Chk) : (strC' ps).size = (flat ps).length := by rw [← str_data]; simp
theorem flat_app (a b : List Chk) : flat (a ++ b) = flat a ++ flat b := List.flatMap_append
theorem decode_drop (s : ByteArray) (pos : Nat) : Utf8.decode s pos = decodeL (s.data.toList.drop pos) := by
  rw [decode_N, decodeL_N]
  simp only [List.length_drop, List.getD_eq_getElem?_getD, List.getElem?_drop, Nat.add_zero]
theorem decode_str (pre rest : List Chk) {p : Chk} (h : Chunk p) : Utf8.decode (strC' (pre ++ p :: rest)) (flat pre).length = (p.1, p.2.length) := by
  rw [decode_drop, str_data, flat_app, List.drop_left]
  exact h.head (flat rest)
theorem flat_lt (pre rest : List Chk) {p : Chk} (h : Chunk p) : (flat pre).length < (strC' (pre ++ p :: rest)).size := by
  have hl : 0 < p.2.length := List.length_pos_iff.2 h.1
  rw [str_size, flat_app, List.length_append]
  show _ < _ + (p.2 ++ flat rest).length
  rw [List.length_append]; omega
theorem flat_len {ps : List Chk} (h : ∀ p ∈ ps, Chunk p) : ps.length ≤ (flat ps).length := by
  induction ps with
  | nil => exact Nat.zero_le _
  | cons p ps ih =>
    have hl : 0 < p.2.length := List.length_pos_iff.2 (h p List.mem_cons_self).1
    have := ih fun q hq => h q (List.mem_cons_of_mem _ hq)
    show ps.length + 1 ≤ (p.2 ++ flat ps).length
    rw [List.length_append]; omega
theorem valid_str {ps : List Chk} (h : ∀ p ∈ ps, Chunk p) : validD (flat ps) = true := by
  induction ps with
  | nil => rfl
  | cons p ps ih =>
    have hp := h p List.mem_cons_self
    have e := hp.head (flat ps)
    show validD (p.2 ++ flat ps) = true
    rw [validD_step _ (by simp [hp.1]), e, if_neg hp.2.2, List.drop_left]
    exact ih fun q hq => h q (List.mem_cons_of_mem _ hq)
theorem enc_chunk {p : Chk} (h : Chunk p) : encodeRune (p.1 : Int) = p.2 := by
  have := encode_decode p.2 h.1 (by rw [h.2.1]; exact h.2.2)
  rw [h.2.1] at this
  rw [this, List.take_length]
theorem runes_str : ∀ (rest pre : List Chk) (f : Nat) (acc : Array Value), (∀ p ∈ rest, Chunk p) → rest.length ≤ f →
    Conv.runesFrom (strC' (pre ++ rest)) f (flat pre).length acc = acc ++ (rest.map fun p => Value.int .i32 (p.1 : Int)).toArray
  | [], pre, f, acc, _, _ => by
    have hn : ¬ (flat pre).length < (strC' (pre ++ [])).size := by rw [str_size, List.append_nil]; omega
    cases f with
    | zero => simp [Conv.runesFrom]
    | succ f => rw [Conv.runesFrom, if_neg hn]; simp
  | p :: rest, pre, 0, acc, _, hf => by simp at hf
  | p :: rest, pre, f + 1, acc, h, hf => by
    have hp := h p List.mem_cons_self
    rw [Conv.runesFrom, if_pos (flat_lt pre rest hp)]
    simp only [decode_str pre rest hp]
    have e1 : (flat pre).length + p.2.length = (flat (pre ++ [p])).length := by rw [flat_app, List.length_append]; simp [flat]
    have e2 : strC' (pre ++ p :: rest) = strC' ((pre ++ [p]) ++ rest) := by simp
    rw [e1, e2, runes_str rest (pre ++ [p]) f _ (fun q hq => h q (List.mem_cons_of_mem _ hq)) (by simpa using hf)]
    simp
/-- Fields, in runes. -/
def fc (q : Nat → Bool) (cur : List Chk) : List Chk → List (List Chk)
  | [] => if cur = [] then [] else [cur]
  | x :: rest => if q x.1 then (if cur = [] then fc q [] rest else cur :: fc q [] rest) else fc q (cur ++ [x]) rest
theorem extract_str (pre cur rest : List Chk) : (strC' (pre ++ cur ++ rest)).extract (flat pre).length (flat (pre ++ cur)).length = strC' cur := by
  have e : ((strC' (pre ++ cur ++ rest)).extract (flat pre).length (flat (pre ++ cur)).length).data.toList = (strC' cur).data.toList := by
    rw [Lib.extract_data, str_data, str_data, flat_app (pre ++ cur) rest, flat_app pre cur, List.append_assoc, List.drop_left, List.length_append, Nat.add_sub_cancel_left, List.take_left]
  generalize (strC' (pre ++ cur ++ rest)).extract (flat pre).length (flat (pre ++ cur)).length = t at e
  cases t
  unfold strC' at e ⊢
  exact congrArg _ (Array.toList_inj.1 e)
theorem spans_str (q : Nat → Bool) : ∀ (rest pre cur : List Chk) (f : Nat) (acc : List (Nat × Nat)) (s : ByteArray), s = strC' (pre ++ cur ++ rest) → (∀ p ∈ rest, Chunk p) → rest.length ≤ f →
    (closeSpans s (spansFromP q s f (flat (pre ++ cur)).length (if cur = [] then none else some (flat pre).length) acc)).map (fun x => s.extract x.1 x.2) = acc.map (fun x => s.extract x.1 x.2) ++ (fc q cur rest).map strC'
  | [], pre, cur, f, acc, s, hs, _, _ => by
    have hn : ¬ (flat (pre ++ cur)).length < s.size := by rw [hs, str_size, List.append_nil]; omega
    rw [spansFromP_end q s f _ _ acc hn]
    unfold closeSpans fc
    by_cases hc : cur = []
    · rw [if_pos hc, if_pos hc]; simp
    · rw [if_neg hc, if_neg hc]
      have e : s.size = (flat (pre ++ cur)).length := by rw [hs, str_size, List.append_nil]
      simp only [List.map_append, List.map_cons, List.map_nil]
      rw [e, hs, extract_str]
  | x :: rest, pre, cur, 0, acc, s, _, _, hf => by simp at hf
  | x :: rest, pre, cur, f + 1, acc, s, hs, h, hf => by
    have hp := h x List.mem_cons_self
    have hr : ∀ p ∈ rest, Chunk p := fun p hq => h p (List.mem_cons_of_mem _ hq)
    have hpos : (flat (pre ++ cur)).length < s.size := by rw [hs]; exact flat_lt (pre ++ cur) rest hp
    have hdec : Utf8.decode s (flat (pre ++ cur)).length = (x.1, x.2.length) := by rw [hs]; exact decode_str (pre ++ cur) rest hp
    have hf' : rest.length ≤ f := by simpa using hf
    have e1 : (flat (pre ++ cur)).length + x.2.length = (flat (pre ++ cur ++ [x])).length := by rw [flat_app (pre ++ cur), List.length_append]; simp [flat]
    have st : ∀ st', spansFromP q s (f + 1) (flat (pre ++ cur)).length st' acc = if q x.1 then (match st' with
        | some a => spansFromP q s f (flat (pre ++ cur ++ [x])).length none (acc ++ [(a, (flat (pre ++ cur)).length)])
        | none => spansFromP q s f (flat (pre ++ cur ++ [x])).length none acc) else (match st' with
        | some a => spansFromP q s f (flat (pre ++ cur ++ [x])).length (some a) acc
        | none => spansFromP q s f (flat (pre ++ cur ++ [x])).length (some (flat (pre ++ cur)).length) acc) := fun st' => by
      cases st' <;> (rw [spansFromP, if_pos hpos, hdec]; simp only; rw [e1])
    rw [st]
    cases hq : q x.1 with
    | true =>
      rw [if_pos rfl]
      have hfc : fc q cur (x :: rest) = if cur = [] then fc q [] rest else cur :: fc q [] rest := by rw [fc, if_pos hq]
      rw [hfc]
      by_cases hc : cur = []
      · rw [if_pos hc, if_pos hc]
        have ih := spans_str q rest (pre ++ cur ++ [x]) [] f acc s (by rw [hs]; simp) hr hf'
        rw [if_pos rfl, List.append_nil] at ih
        exact ih
      · rw [if_neg hc, if_neg hc]
        have ih := spans_str q rest (pre ++ cur ++ [x]) [] f (acc ++ [((flat pre).length, (flat (pre ++ cur)).length)]) s (by rw [hs]; simp) hr hf'
        rw [if_pos rfl, List.append_nil] at ih
        refine ih.trans ?_
        have ex : s.extract (flat pre).length (flat (pre ++ cur)).length = strC' cur := by rw [hs]; exact extract_str pre cur (x :: rest)
        simp only [List.map_append, List.map_cons, List.map_nil]
        rw [ex]; simp
    | false =>
      rw [if_neg (by decide)]
      have hfc : fc q cur (x :: rest) = fc q (cur ++ [x]) rest := by rw [fc, if_neg (by rw [hq]; decide)]
      rw [hfc]
      have ih := spans_str q rest pre (cur ++ [x]) f acc s (by rw [hs]; simp) hr hf'
      rw [if_neg (by simp), ← List.append_assoc] at ih
      by_cases hc : cur = []
      · rw [if_pos hc]
        have e2 : (flat (pre ++ cur)).length = (flat pre).length := by rw [hc, List.append_nil]
        simp only
        rw [e2]; exact ih
      · rw [if_neg hc]; exact ih
theorem fields_str (q : Nat → Bool) {ps : List Chk} (h : ∀ p ∈ ps, Chunk p) : goFieldsP q (strC' ps) = (fc q [] ps).map strC' := by
  have := spans_str q ps [] [] (strC' ps).size [] (strC' ps) rfl h (by rw [str_size]; exact flat_len h)
  rw [if_pos rfl] at this
  unfold goFieldsP spansOfP
  simpa using this
theorem fc_mem (q : Nat → Bool) : ∀ (rest cur : List Chk), (∀ p ∈ rest, Chunk p) → (∀ p ∈ cur, Chunk p) → ∀ l ∈ fc q cur rest, ∀ p ∈ l, Chunk p
  | [], cur, _, hc, l, hl, p, hp => by
    unfold fc at hl
    split at hl
    · cases hl
    · rw [List.mem_singleton.1 hl] at hp; exact hc p hp
  | x :: rest, cur, h, hc, l, hl, p, hp => by
    have hr : ∀ p ∈ rest, Chunk p := fun p hq => h p (List.mem_cons_of_mem _ hq)
    unfold fc at hl
    split at hl
    · split at hl
      · exact fc_mem q rest [] hr (fun _ h => by cases h) l hl p hp
      · rcases List.mem_cons.1 hl with rfl | hl
        · exact hc p hp
        · exact fc_mem q rest [] hr (fun _ h => by cases h) l hl p hp
    · exact fc_mem q rest (cur ++ [x]) hr (fun p hp => by
        rcases List.mem_append.1 hp with hp | hp
        · exact hc p hp
        · rw [List.mem_singleton.1 hp]; exact h x List.mem_cons_self) l hl p hp
end Go.Ix
namespace Go.Proofs.YtmbikfojljnnkaaGreatDoor
open Go Go.Sl Go.Gv Go.Kv Go.Po Go.Ix
theorem chunks_str {s : ByteArray} (h : validS s = true) : ∃ ps : List Chk, (∀ p ∈ ps, Chunk p) ∧ s = strC' ps := by
  obtain ⟨ps, h1, h2⟩ := chunks_of s.data.toList.length s.data.toList (Nat.le_refl _) h
  refine ⟨ps, h1, ?_⟩
  have : s.data.toList = (strC' ps).data.toList := by rw [str_data]; exact h2.symm
  cases s
  unfold strC' at this ⊢
  exact congrArg _ (Array.toList_inj.1 this)
theorem valid_strC {ps : List Chk} (h : ∀ p ∈ ps, Chunk p) : validS (strC' ps) = true := by unfold validS; rw [str_data]; exact valid_str h
theorem lowF_str : ∀ (rest pre : List Chk) (f : Nat), (∀ p ∈ rest, Chunk p) → rest.length ≤ f → lowF (strC' (pre ++ rest)) f (flat pre).length = rest.flatMap fun p => Lib.encodeRune (Lib.toLowerU (p.1 : Int))
  | [], pre, f, _, _ => by rw [lowF_end _ _ _ (by rw [str_size, List.append_nil]; omega)]; rfl
  | p :: rest, pre, 0, _, hf => by simp at hf
  | p :: rest, pre, f + 1, h, hf => by
    have hp := h p List.mem_cons_self
    rw [lowF, if_pos (flat_lt pre rest hp), decode_str pre rest hp]
    have e1 : (flat pre).length + p.2.length = (flat (pre ++ [p])).length := by rw [flat_app, List.length_append]; simp [flat]
    have e2 : strC' (pre ++ p :: rest) = strC' ((pre ++ [p]) ++ rest) := by simp
    simp only
    rw [e1, e2, lowF_str rest (pre ++ [p]) f (fun q hq => h q (List.mem_cons_of_mem _ hq)) (by simpa using hf), List.flatMap_cons]
/-- A word in small letters, of its runes. -/
def lowC (c : List Chk) : ByteArray := ⟨(c.flatMap fun p => Lib.encodeRune (Lib.toLowerU (p.1 : Int))).toArray⟩
theorem norm_str {c : List Chk} (h : ∀ p ∈ c, Chunk p) : normB (strC' c) = lowC c := by
  unfold normB
  rw [valid_strC h, if_pos rfl]
  have := lowF_str c [] (strC' c).size h (by rw [str_size]; exact flat_len h)
  unfold lowC
  rw [← this]; rfl
theorem words_str {ps : List Chk} (h : ∀ p ∈ ps, Chunk p) (hs : textB (strC' ps) = true) : wordsB (strC' ps) = (fc notW [] ps).map lowC := by
  unfold wordsB
  rw [if_pos hs, fields_str notW h, List.map_map]
  exact List.map_congr_left fun l hl => norm_str (fc_mem notW ps [] h (fun _ h => by cases h) l hl)
end Go.Proofs.YtmbikfojljnnkaaGreatDoor
