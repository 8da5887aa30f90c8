/- What the closing leans on: part 9. -/
import Derived.Test.YtklgiidfompdpaaGreatDoorXf
import Derived.Test.YtklgiidfompdpaaGreatDoorXh
import Derived.Test.YtklgiidfompdpaaGreatDoorXd
import Derived.Test.YtklgiidfompdpaaGreatDoorXc
import Derived.Test.YtklgiidfompdpaaGreatDoorXb
import Derived.Lib.MapLaws
import Derived.Lib.ValidLaws
import Derived.Laws.Cover4
import Derived.Laws.IdiomStrings
import Derived.Shelf.Strings.FuncGrows
import Derived.Shelf.Strconv.Itoa3
import Derived.Shelf.Strings.OnBuilder
import Derived.Test.YtklgiidfompdpaaGreatDoorProg
namespace Go.Ix
open Go Go.Sl Go.Gv Go.Kv Go.Po Go.Bst
theorem snoc_ind {α : Type} {P : List α → Prop} (h0 : P []) (hs : ∀ l x, P l → P (l ++ [x])) (l : List α) : P l := by
  rw [← l.reverse_reverse]
  induction l.reverse with
  | nil => exact h0
  | cons x m ih => rw [List.reverse_cons]; exact hs _ _ ih
section
variable {κ α : Type} [DecidableEq κ]
theorem mget_perm {m n : List (κ × α)} (hm : (mkeys m).Nodup) (p : List.Perm m n) (k : κ) : mget m k = mget n k := by
  have hn : (mkeys n).Nodup := (p.map _).nodup_iff.1 hm
  cases h : mget m k with
  | some v => exact (mget_of_mem hn (p.subset (mget_mem h))).symm
  | none =>
    cases h2 : mget n k with
    | none => rfl
    | some v => rw [mget_of_mem hm (p.symm.subset (mget_mem h2))] at h; cases h
end
/-- Where a word stands among words that are told with their places. -/
def atsOf (T : List WordP) (w : ByteArray) : List Int := (T.filter fun p => decide (p.1 = w)).map Prod.snd
theorem posL_snoc (T : List WordP) (p : WordP) : posL (T ++ [p]) = posStep (posL T) p := by unfold posL; rw [List.foldl_append]; rfl
theorem atsOf_snoc (T : List WordP) (p : WordP) (w : ByteArray) : atsOf (T ++ [p]) w = if w = p.1 then atsOf T w ++ [p.2] else atsOf T w := by
  unfold atsOf
  rw [List.filter_append, List.map_append]
  by_cases h : w = p.1
  · subst h; simp
  · rw [if_neg h, List.filter_cons_of_neg (by simpa using fun e : p.1 = w => h e.symm)]; simp
theorem posL_get (T : List WordP) (w : ByteArray) : mget (posL T) w = if atsOf T w = [] then none else some (atsOf T w) := by
  refine snoc_ind (P := fun T => mget (posL T) w = if atsOf T w = [] then none else some (atsOf T w)) rfl (fun T p ih => ?_) T
  rw [posL_snoc, posStep, mget_put, atsOf_snoc]
  by_cases h : w = p.1
  · subst h
    have e : (mget (posL T) p.1).getD [] = atsOf T p.1 := by
      rw [ih]; split
      · rename_i e; rw [e]; rfl
      · rfl
    rw [if_pos rfl, if_pos rfl, e, if_neg (by simp)]
  · rw [if_neg h, if_neg h, ih]
theorem posL_nodup (T : List WordP) : (mkeys (posL T)).Nodup :=
  snoc_ind (P := fun T => (mkeys (posL T)).Nodup) List.nodup_nil (fun T p ih => by rw [posL_snoc, posStep]; exact nodup_put ih _ _) T
theorem rises_pw : ∀ {l : List Int} {a : Int}, (∀ x ∈ l, a < x) → l.Pairwise (· < ·) → risesFrom a l = true
  | [], _, _, _ => rfl
  | n :: l, a, h, hp => by
    have hp' := List.pairwise_cons.1 hp
    unfold risesFrom
    rw [decide_eq_true (h n (by simp)), Bool.true_and]
    exact rises_pw hp'.1 hp'.2
/-- A list's places, in order, from 0. -/
def UpT (T : List WordP) : Prop := T.Pairwise (fun p q => p.2 < q.2) ∧ ∀ p ∈ T, 0 ≤ p.2
theorem ats_up {T : List WordP} (h : UpT T) (w : ByteArray) : (atsOf T w).Pairwise (· < ·) ∧ ∀ x ∈ atsOf T w, 0 ≤ x := by
  unfold atsOf
  refine ⟨?_, fun x hx => ?_⟩
  · rw [List.pairwise_map]
    exact List.Pairwise.filter _ h.1
  · obtain ⟨p, hp, rfl⟩ := List.mem_map.1 hx
    exact h.2 p (List.mem_filter.1 hp).1
theorem posL_rises {T : List WordP} (h : UpT T) {w : ByteArray} {l : List Int} (hl : mget (posL T) w = some l) : risesB l = true := by
  rw [posL_get] at hl
  split at hl
  · cases hl
  · rename_i hne
    cases hl
    unfold risesB
    rw [decide_eq_true hne, Bool.and_true]
    exact rises_pw (fun x hx => by have := (ats_up h w).2 x hx; omega) (ats_up h w).1
theorem fold_putW (k : Key) : ∀ (es : List (ByteArray × List Int)) (P : PL), (mkeys es).Nodup → ∀ w, mget (es.foldl (putW k) P) w = match mget es w with
    | none => mget P w
    | some at' => some (putP ((mget P w).getD []) (k, at'))
  | [], _, _, _ => rfl
  | e :: es, P, hn, w => by
    have hn' := List.nodup_cons.1 hn
    rw [List.foldl_cons, fold_putW k es _ hn'.2 w]
    have he : mget (e :: es) w = if w = e.1 then some e.2 else mget es w := by
      obtain ⟨a, b⟩ := e; rfl
    rw [he]
    by_cases h : w = e.1
    · subst h
      rw [if_pos rfl, mget_none.2 hn'.1]
      show mget (mput P e.1 _) e.1 = _
      rw [mget_put, if_pos rfl]
    · have h2 : mget (putW k P e) w = mget P w := by
        show mget (mput P e.1 _) w = _
        rw [mget_put, if_neg h]
      rw [if_neg h, h2]
theorem fold_putW_nodup (k : Key) : ∀ (es : List (ByteArray × List Int)) (P : PL), (mkeys P).Nodup → (mkeys (es.foldl (putW k) P)).Nodup
  | [], _, h => h
  | e :: es, P, h => fold_putW_nodup k es _ (nodup_put h _ _)
theorem dropE_nodup {k : Key} {P : PL} (w : ByteArray) (h : (mkeys P).Nodup) : (mkeys (dropE k P w)).Nodup := by
  unfold dropE; split
  · exact nodup_del (nodup_put h _ _) _
  · exact nodup_put h _ _
theorem dropE_get {k : Key} {P : PL} (h : (mkeys P).Nodup) (w v : ByteArray) : mget (dropE k P w) v = if v = w then (if dropP ((mget P w).getD []) k = [] then none else some (dropP ((mget P w).getD []) k)) else mget P v := by
  unfold dropE
  by_cases hd : dropP ((mget P w).getD []) k = []
  · rw [if_pos hd, if_pos hd, mget_del (nodup_put h _ _), mget_put]
    by_cases e : v = w <;> simp [e]
  · rw [if_neg hd, if_neg hd, mget_put]
open Classical in
theorem fold_dropE (k : Key) : ∀ (ws : List ByteArray) (P : PL), (mkeys P).Nodup → ws.Nodup → (mkeys (ws.foldl (dropE k) P)).Nodup ∧ ∀ w, mget (ws.foldl (dropE k) P) w = if w ∈ ws then (if dropP ((mget P w).getD []) k = [] then none else some (dropP ((mget P w).getD []) k)) else mget P w
  | [], _, h, _ => ⟨h, fun w => by simp⟩
  | v :: ws, P, h, hn => by
    have hn' := List.nodup_cons.1 hn
    obtain ⟨h1, h2⟩ := fold_dropE k ws _ (dropE_nodup (k := k) v h) hn'.2
    refine ⟨h1, fun w => ?_⟩
    rw [List.foldl_cons, h2 w, dropE_get h]
    by_cases e : w = v
    · subst e
      rw [if_neg hn'.1, if_pos rfl, if_pos (List.mem_cons_self : w ∈ w :: ws)]
    · rw [if_neg e]
      by_cases hm : w ∈ ws
      · rw [if_pos hm, if_pos (List.mem_cons_of_mem v hm : w ∈ v :: ws)]
      · rw [if_neg hm, if_neg (fun hc => (List.mem_cons.1 hc).elim e hm : ¬ w ∈ v :: ws)]
end Go.Ix
namespace Go.Proofs.YtklgiidfompdpaaGreatDoor
open Go Go.Sl Go.Gv Go.Kv Go.Po Go.Ix Go.Bst
abbrev tok (r : Rec) : List (ByteArray × List Int) := posL (toksV r.t)
theorem toks_up : ∀ (l : List ByteArray) (i : Nat), (toksOf l i).Pairwise (fun p q => p.2 < q.2) ∧ ∀ p ∈ toksOf l i, (i : Int) ≤ p.2
  | [], _ => ⟨List.Pairwise.nil, fun _ h => by cases h⟩
  | w :: l, i => by
    obtain ⟨h1, h2⟩ := toks_up l (i + 1)
    have e : toksOf (w :: l) i = (w, (i : Int)) :: toksOf l (i + 1) := by unfold toksOf; rw [List.zipIdx_cons]; rfl
    rw [e]
    refine ⟨List.pairwise_cons.2 ⟨fun q hq => ?_, h1⟩, fun p hp => ?_⟩
    · have := h2 q hq; show (i : Int) < q.2; omega
    · rcases List.mem_cons.1 hp with rfl | hp
      · exact Int.le_refl _
      · have := h2 p hp; omega
theorem up_toks (s : ByteArray) : UpT (toksV s) := ⟨(toks_up _ 0).1, fun p hp => by have := (toks_up _ 0).2 p hp; omega⟩
/-- What an index of records is. -/
structure IxIs (rs : List Rec) (s : PL × PW) : Prop where
  keys : (rs.map Rec.key).Nodup
  ln : (mkeys s.1).Nodup
  wn : (mkeys s.2).Nodup
  ws : ∀ k l, mget s.2 k = some l ↔ ∃ r ∈ rs, r.key = k ∧ l = sortB (mkeys (tok r))
  mem : ∀ w l, mget s.1 w = some l → l ≠ [] ∧ mayB l = true ∧ ∀ p, p ∈ l ↔ ∃ r ∈ rs, p.1 = r.key ∧ mget (tok r) w = some p.2
  non : ∀ w, mget s.1 w = none → ∀ r ∈ rs, mget (tok r) w = none
theorem IxIs.nil : IxIs [] ([], []) := ⟨List.nodup_nil, List.nodup_nil, List.nodup_nil, fun k l => ⟨fun h => (by cases h), fun ⟨r, h, _⟩ => (by cases h)⟩, fun w l h => (by cases h), fun w _ r h => (by cases h)⟩
theorem IxIs.getD {rs : List Rec} {s : PL × PW} (h : IxIs rs s) (w : ByteArray) : mayB ((mget s.1 w).getD []) = true ∧ ∀ p, p ∈ (mget s.1 w).getD [] ↔ ∃ r ∈ rs, p.1 = r.key ∧ mget (tok r) w = some p.2 := by
  cases hm : mget s.1 w with
  | none => exact ⟨rfl, fun p => ⟨fun hp => (by cases hp), fun ⟨r, hr, _, h2⟩ => (by rw [h.non w hm r hr] at h2; cases h2)⟩⟩
  | some l => exact (h.mem w l hm).2
theorem put_mem {L : List PostP} {x : PostP} (hm : mayB L = true) (hx : risesB x.2 = true) (hf : ∀ p ∈ L, p.1 ≠ x.1) (p : PostP) : p ∈ putP L x ↔ p = x ∨ p ∈ L := by
  rw [put_is hm hx]
  simp only [List.mem_append, List.mem_filter, List.mem_cons, List.not_mem_nil, or_false]
  refine ⟨fun h => ?_, fun h => ?_⟩
  · rcases h with (h | h) | h
    · exact .inr h.1
    · exact .inl h
    · exact .inr h.1
  · rcases h with h | h
    · exact .inl (.inr h)
    · rcases before_total (hf p h) with e | e
      · exact .inl (.inl ⟨h, e⟩)
      · exact .inr ⟨h, e⟩
theorem IxIs.put {rs : List Rec} {s : PL × PW} (h : IxIs rs s) {r : Rec} (hn : r.key ∉ rs.map Rec.key) {es : List (ByteArray × List Int)} (hp : List.Perm es (tok r)) :
    IxIs (rs ++ [r]) (es.foldl (putW r.key) s.1, mput s.2 r.key (sortB (mkeys (tok r)))) := by
  have hes : (mkeys es).Nodup := (hp.map _).nodup_iff.2 (posL_nodup _)
  have hg : ∀ w, mget (es.foldl (putW r.key) s.1) w = match mget (tok r) w with | none => mget s.1 w | some at' => some (putP ((mget s.1 w).getD []) (r.key, at')) := fun w => by
    rw [fold_putW r.key es s.1 hes w, mget_perm hes hp w]
  refine ⟨?_, fold_putW_nodup _ _ _ h.ln, nodup_put h.wn _ _, fun k l => ?_, fun w l hl => ?_, fun w hl => ?_⟩
  · rw [List.map_append, List.nodup_append]
    exact ⟨h.keys, by simp, fun a ha b hb => by simp at hb; subst hb; exact fun e => hn (e ▸ ha)⟩
  · show mget (mput s.2 r.key _) k = some l ↔ _
    rw [mget_put]
    by_cases e : k = r.key
    · subst e
      rw [if_pos rfl]
      constructor
      · intro hh; cases hh; exact ⟨r, by simp, rfl, rfl⟩
      · rintro ⟨r', hr', hk, rfl⟩
        rcases List.mem_append.1 hr' with hr' | hr'
        · exact (hn (hk ▸ List.mem_map.2 ⟨r', hr', rfl⟩)).elim
        · rw [List.mem_singleton.1 hr']
    · rw [if_neg e, h.ws]
      constructor
      · rintro ⟨r', hr', h1, h2⟩; exact ⟨r', by simp [hr'], h1, h2⟩
      · rintro ⟨r', hr', h1, h2⟩
        rcases List.mem_append.1 hr' with hr' | hr'
        · exact ⟨r', hr', h1, h2⟩
        · rw [List.mem_singleton.1 hr'] at h1; exact (e h1.symm).elim
  · change mget (es.foldl (putW r.key) s.1) w = some l at hl
    rw [hg] at hl
    obtain ⟨hm, hmem⟩ := h.getD w
    cases ht : mget (tok r) w with
    | none =>
      rw [ht] at hl
      obtain ⟨h1, h2, h3⟩ := h.mem w l hl
      refine ⟨h1, h2, fun p => (h3 p).trans ⟨fun ⟨r', hr', h4, h5⟩ => ⟨r', by simp [hr'], h4, h5⟩, fun ⟨r', hr', h4, h5⟩ => ?_⟩⟩
      rcases List.mem_append.1 hr' with hr' | hr'
      · exact ⟨r', hr', h4, h5⟩
      · rw [List.mem_singleton.1 hr', ht] at h5; cases h5
    | some at' =>
      rw [ht] at hl
      have hr := posL_rises (up_toks r.t) ht
      cases hl
      have hf : ∀ p ∈ (mget s.1 w).getD [], p.1 ≠ (r.key, at').1 := fun p hp e => by
        obtain ⟨r', hr', h4, -⟩ := (hmem p).1 hp
        exact hn (List.mem_map.2 ⟨r', hr', by rw [← h4]; exact e⟩)
      have hpm := put_mem hm (x := (r.key, at')) hr hf
      refine ⟨fun e => ?_, put_may hm hr, fun p => ?_⟩
      · have := (hpm (r.key, at')).2 (.inl rfl); rw [e] at this; cases this
      · rw [hpm, hmem]
        constructor
        · rintro (rfl | ⟨r', hr', h4, h5⟩)
          · exact ⟨r, by simp, rfl, ht⟩
          · exact ⟨r', by simp [hr'], h4, h5⟩
        · rintro ⟨r', hr', h4, h5⟩
          rcases List.mem_append.1 hr' with hr' | hr'
          · exact .inr ⟨r', hr', h4, h5⟩
          · rw [List.mem_singleton.1 hr'] at h4 h5
            rw [ht] at h5
            exact .inl (Prod.ext h4 (Option.some.inj h5).symm)
  · change mget (es.foldl (putW r.key) s.1) w = none at hl
    rw [hg] at hl
    cases ht : mget (tok r) w with
    | none =>
      rw [ht] at hl
      intro r' hr'
      rcases List.mem_append.1 hr' with hr' | hr'
      · exact h.non w hl r' hr'
      · rw [List.mem_singleton.1 hr']; exact ht
    | some at' => rw [ht] at hl; cases hl
theorem key_inj {rs : List Rec} (h : (rs.map Rec.key).Nodup) {a b : Rec} (ha : a ∈ rs) (hb : b ∈ rs) (e : a.key = b.key) : a = b := by
  induction rs with
  | nil => cases ha
  | cons x l ih =>
    have h' := List.nodup_cons.1 h
    rcases List.mem_cons.1 ha with h1 | h1
    · rcases List.mem_cons.1 hb with h2 | h2
      · rw [h1, h2]
      · exact (h'.1 (List.mem_map.2 ⟨b, h2, by rw [← e, h1]⟩)).elim
    · rcases List.mem_cons.1 hb with h2 | h2
      · exact (h'.1 (List.mem_map.2 ⟨a, h1, by rw [e, h2]⟩)).elim
      · exact ih h'.2 h1 h2
theorem IxIs.drop {rs : List Rec} {s : PL × PW} (h : IxIs rs s) {r : Rec} (hr : r ∈ rs) :
    IxIs (rs.filter fun x => decide (x.key ≠ r.key)) ((sortB (mkeys (tok r))).foldl (dropE r.key) s.1, mdel s.2 r.key) := by
  have hsn : (sortB (mkeys (tok r))).Nodup := (sortB_perm _).nodup_iff.2 (posL_nodup _)
  obtain ⟨hn, hg⟩ := fold_dropE r.key (sortB (mkeys (tok r))) s.1 h.ln hsn
  have hin : ∀ w, w ∈ sortB (mkeys (tok r)) ↔ mget (tok r) w ≠ none := fun w => by
    rw [sortB_mem]
    have := mget_none (m := tok r) (k := w)
    exact ⟨fun hm e => this.1 e hm, fun hm => Classical.byContradiction fun hc => hm (this.2 hc)⟩
  have hf : ∀ x, x ∈ rs.filter (fun x => decide (x.key ≠ r.key)) ↔ x ∈ rs ∧ x.key ≠ r.key := fun x => by rw [List.mem_filter]; simp
  have hdm : ∀ w p, p ∈ dropP ((mget s.1 w).getD []) r.key ↔ ∃ r' ∈ rs.filter (fun x => decide (x.key ≠ r.key)), p.1 = r'.key ∧ mget (tok r') w = some p.2 := fun w p => by
    obtain ⟨hm, hmem⟩ := h.getD w
    rw [dropP, if_pos hm, List.mem_filter, hmem]
    constructor
    · rintro ⟨⟨r', hr', h4, h5⟩, h6⟩
      exact ⟨r', (hf r').2 ⟨hr', by rw [← h4]; exact of_decide_eq_true h6⟩, h4, h5⟩
    · rintro ⟨r', hr', h4, h5⟩
      exact ⟨⟨r', ((hf r').1 hr').1, h4, h5⟩, decide_eq_true (by rw [h4]; exact ((hf r').1 hr').2)⟩
  refine ⟨List.Nodup.sublist (List.Sublist.map _ List.filter_sublist) h.keys, hn, nodup_del h.wn _, fun k l => ?_, fun w l hl => ?_, fun w hl r' hr' => ?_⟩
  · show mget (mdel s.2 r.key) k = some l ↔ _
    rw [mget_del h.wn]
    by_cases e : k = r.key
    · rw [if_pos e]
      constructor
      · intro hh; cases hh
      · rintro ⟨r', hr', h1, -⟩; exact (((hf r').1 hr').2 (h1.trans e)).elim
    · rw [if_neg e, h.ws]
      constructor
      · rintro ⟨r', hr', h1, h2⟩; exact ⟨r', (hf r').2 ⟨hr', by rw [h1]; exact e⟩, h1, h2⟩
      · rintro ⟨r', hr', h1, h2⟩; exact ⟨r', ((hf r').1 hr').1, h1, h2⟩
  · change mget ((sortB (mkeys (tok r))).foldl (dropE r.key) s.1) w = some l at hl
    rw [hg] at hl
    obtain ⟨hm, hmem⟩ := h.getD w
    by_cases hw : w ∈ sortB (mkeys (tok r))
    · rw [if_pos hw] at hl
      split at hl
      · cases hl
      · rename_i hne
        cases hl
        exact ⟨hne, drop_may hm _, hdm w⟩
    · rw [if_neg hw] at hl
      obtain ⟨h1, h2, h3⟩ := h.mem w l hl
      have ht : mget (tok r) w = none := Classical.byContradiction fun hc => hw ((hin w).2 hc)
      refine ⟨h1, h2, fun p => (h3 p).trans ⟨fun ⟨r', hr', h4, h5⟩ => ⟨r', (hf r').2 ⟨hr', fun e => ?_⟩, h4, h5⟩, fun ⟨r', hr', h4, h5⟩ => ⟨r', ((hf r').1 hr').1, h4, h5⟩⟩⟩
      rw [key_inj h.keys hr' hr e, ht] at h5; cases h5
  · change mget ((sortB (mkeys (tok r))).foldl (dropE r.key) s.1) w = none at hl
    rw [hg] at hl
    cases ht : mget (tok r') w with
    | none => rfl
    | some at' =>
      exfalso
      by_cases hw : w ∈ sortB (mkeys (tok r))
      · rw [if_pos hw] at hl
        split at hl
        · rename_i e
          have := (hdm w (r'.key, at')).2 ⟨r', hr', rfl, ht⟩
          rw [e] at this; cases this
        · cases hl
      · rw [if_neg hw] at hl
        rw [h.non w hl r' ((hf r').1 hr').1] at ht; cases ht
theorem IxIs.wkeys {rs : List Rec} {s : PL × PW} (h : IxIs rs s) : List.Perm (mkeys s.2) (rs.map Rec.key) := by
  rw [List.perm_ext_iff_of_nodup h.wn h.keys]
  intro k
  have := mget_none (m := s.2) (k := k)
  constructor
  · intro hk
    cases hm : mget s.2 k with
    | none => exact ((this.1 hm) hk).elim
    | some l => obtain ⟨r, hr, h1, -⟩ := (h.ws k l).1 hm; exact List.mem_map.2 ⟨r, hr, h1⟩
  · intro hk
    obtain ⟨r, hr, rfl⟩ := List.mem_map.1 hk
    have := mget_mem ((h.ws r.key _).2 ⟨r, hr, rfl, rfl⟩)
    exact List.mem_map.2 ⟨_, this, rfl⟩
theorem IxIs.has {rs : List Rec} {s : PL × PW} (h : IxIs rs s) (k : Key) : (mget s.2 k).isSome = decide (k ∈ rs.map Rec.key) := by
  rw [← decide_eq_decide.2 (h.wkeys.mem_iff (a := k))]
  have := mget_none (m := s.2) (k := k)
  cases hm : mget s.2 k with
  | none => exact (decide_eq_false (this.1 hm)).symm
  | some l => exact (decide_eq_true (Classical.byContradiction fun hc => by rw [this.2 hc] at hm; cases hm)).symm
/-- A put, told of records. -/
def putR (rs : List Rec) (r : Rec) : List Rec := if recB r && decide (r.key ∉ rs.map Rec.key) then rs ++ [r] else rs
theorem IxIs.putN {rs : List Rec} {s : PL × PW} (h : IxIs rs s) (r : Rec) : YtklgiidfompdpaaGreatDoor.putN s.2 r = if recB r then (if r.key ∈ rs.map Rec.key then 6 else 0) else 2 := by
  unfold YtklgiidfompdpaaGreatDoor.putN
  rw [h.has]
  by_cases e : r.key ∈ rs.map Rec.key <;> simp [e]
theorem IxIs.putI {rs : List Rec} {s s' : PL × PW} (h : IxIs rs s) {r : Rec} (hp : PutI r (toksV r.t) s s') : IxIs (putR rs r) s' := by
  unfold PutI at hp
  rw [h.putN] at hp
  unfold putR
  by_cases hr : recB r = true
  · by_cases hk : r.key ∈ rs.map Rec.key
    · rw [if_pos hr, if_pos hk, if_neg (by decide)] at hp
      rw [if_neg (by simp [hk]), hp]; exact h
    · rw [if_pos hr, if_neg hk, if_pos rfl] at hp
      obtain ⟨es, hes, rfl⟩ := hp
      rw [if_pos (by simp [hr, hk])]
      exact h.put hk hes
  · rw [if_neg hr, if_neg (by decide)] at hp
    rw [if_neg (by simp [hr]), hp]; exact h
/-- A drop, told of records. -/
def dropR (rs : List Rec) (k : Key) : List Rec := rs.filter fun x => decide (x.key ≠ k)
theorem dropR_none {rs : List Rec} {k : Key} (h : k ∉ rs.map Rec.key) : dropR rs k = rs := List.filter_eq_self.2 fun x hx => decide_eq_true fun e => h (List.mem_map.2 ⟨x, hx, e⟩)
theorem IxIs.dropK {rs : List Rec} {s : PL × PW} (h : IxIs rs s) (k : Key) (n : Nat) : ∃ s' : PL × PW, Ix.dropK (s.1, s.2, n) k = (s'.1, s'.2, if k ∈ rs.map Rec.key then n + 1 else n) ∧ IxIs (dropR rs k) s' := by
  by_cases hk : k ∈ rs.map Rec.key
  · obtain ⟨r, hr, rfl⟩ := List.mem_map.1 hk
    refine ⟨_, ?_, h.drop hr⟩
    rw [if_pos hk]
    unfold Ix.dropK
    rw [show mget (s.1, s.2, n).2.1 r.key = some (sortB (mkeys (tok r))) from (h.ws _ _).2 ⟨r, hr, rfl, rfl⟩]
  · refine ⟨s, ?_, by rw [dropR_none hk]; exact h⟩
    rw [if_neg hk]
    unfold Ix.dropK
    have : mget s.2 k = none := mget_none.2 fun hm => hk (h.wkeys.mem_iff.1 hm)
    rw [show mget (s.1, s.2, n).2.1 k = none from this]
end Go.Proofs.YtklgiidfompdpaaGreatDoor
namespace Go.Ix
open Go Go.Sl Go.Gv Go.Kv Go.Po Go.Bst
theorem nodup_sub {α : Type} [BEq α] [LawfulBEq α] : ∀ {l m : List α}, l.Nodup → (∀ x ∈ l, x ∈ m) → l.length ≤ m.length
  | [], _, _, _ => Nat.zero_le _
  | a :: l, m, hn, h => by
    have hn' := List.nodup_cons.1 hn
    have ha := h a List.mem_cons_self
    have hp := List.perm_cons_erase ha
    have := nodup_sub (m := m.erase a) hn'.2 fun x hx => by
      have hx2 := hp.subset (h x (List.mem_cons_of_mem _ hx))
      rcases List.mem_cons.1 hx2 with e | e
      · exact (hn'.1 (e ▸ hx)).elim
      · exact e
    have hl := hp.length_eq
    simp only [List.length_cons] at hl ⊢
    omega
end Go.Ix
namespace Go.Proofs.YtklgiidfompdpaaGreatDoor
open Go Go.Sl Go.Gv Go.Kv Go.Po Go.Ix Go.Bst
set_option maxRecDepth 100000
theorem greatRecords_spec {S : HProp} {a : Option Addr} {c : Nat} {xs : List Rec} (hS : Srd S 5 recC a xs) (hl : xs.length ≤ 9223372036854775807) (k : Int) :
    Ct Tryz.prog 26 [.slice a xs.length c, int k] [S] (fun v hs => (∃ b : Bool, v = .bool b ∧ (b = false → xs.length ≤ k)) ∧ hs = [S]) := by
  refine Ct.intro Tryz.func26 rfl (by kernel_rfl) 29 Tryz.ntmps26 (Nat.le_of_ble_eq_true rfl) fun w0 R => ?_
  refine Gs.slAddr (hS.h (by repeat constructor)) fun ab ao ha => ?_
  refine Gsr ?_
  refine Las rfl rfl ?_
  refine Lnt ?_
  refine Gs.seq ?_
  refine Gsr ?_
  refine Las rfl rfl ?_
  refine Lnt ?_
  refine Gs.block ?_
  refine Gs.loop1 (fun i : Nat => i ≤ xs.length) (fun i => [(0, .slice a xs.length c), (1, int k), (5, int i)]) (fun i => [S] ++ R) (fun i => xs.length - i) 0 (Nat.zero_le _) (by repeat constructor) (by repeat constructor) (fun i hi => ?_)
  refine Gs.seq ?_
  refine Gsr ?_
  refine Lmv rfl rfl ?_
  refine Lmv rfl rfl ?_
  refine Lpu rfl rfl trivial (pu_len Tryz.underlying41 rfl) ?_
  refine Lpu rfl rfl trivial (pu_lt rfl rfl) ?_
  refine LpuB rfl rfl trivial (pu_move rfl) (fun hg4 => ?_) (fun hg4 => ?_)
  ·
   have hlt : i < xs.length := by have := of_decide_eq_true hg4; omega
   obtain ⟨x, hx⟩ : ∃ x, xs[i]? = some x := ⟨xs[i], by simp [hlt]⟩
   obtain rfl := ha (by rintro rfl; simp at hlt)
   refine Lpu rfl rfl ⟨_, rfl, rfl⟩ (pu_move rfl) ?_
   refine Lpu rfl rfl ⟨_, rfl, rfl⟩ (pu_len Tryz.underlying41 rfl) ?_
   refine Lpu rfl rfl ⟨_, rfl, rfl⟩ (pu_move rfl) ?_
   refine Lpu rfl rfl ⟨_, rfl, rfl⟩ (pu_le rfl rfl) ?_
   refine Lpu rfl rfl trivial (by first | exact pu_pick_t rfl rfl | exact pu_pick_f rfl rfl) ?_
   refine Lnt ?_
   refine Gs.cond rfl (fun hc0 => ?_) (fun hc0 => ?_)
   ·
    refine Gs.skip ?_
    refine Gs.then_n ?_
    refine Gs.seq ?_
    refine Gs.block ?_
    refine Gsr ?_
    refine Lmv rfl rfl ?_
    refine Lmv rfl rfl ?_
    refine Lpu rfl rfl trivial (pu_ia se_41 rfl rfl (by omega) (by omega)) ?_
    refine Lpu rfl rfl trivial (pu_fa fa_32_2 rfl) ?_
    refine Lrd rfl rfl trivial (rd_ld na_9 rfl (Rdc.elp 1 (hS.h (by repeat constructor)) hx rfl rfl)) ?_
    refine Lpu rfl rfl trivial (pu_lenS Tryz.underlying9 rfl) ?_
    refine Lpu rfl rfl trivial (pu_gt rfl rfl) ?_
    refine Lnt ?_
    refine Gs.cond rfl (fun hc1 => ?_) (fun hc1 => ?_)
    ·
     refine Gsr ?_
     refine Las rfl rfl ?_
     refine Lnt ?_
     refine Gs.ret ?_
     refine Gs.blk_r ?_
     refine Gs.then_r ?_
     refine Gs.then_r ?_
     refine Gs.blk_r ?_
     refine Gs.then_r ?_
     exact Gs.fin1 Tryz.results26 rfl _ (⟨⟨true, rfl, fun h => by cases h⟩, rfl⟩) (by repeat constructor)
    ·
     refine Gs.skip ?_
     refine Gs.blk_n ?_
     refine Gs.then_n ?_
     refine Gs.reg ?_
     refine Lmv rfl rfl ?_
     refine Lpu rfl rfl trivial (by first | exact pu_addI rfl rfl rfl (by omega) (by omega) | exact pu_add rfl rfl) ?_
     refine Las rfl rfl ?_
     refine Lnt ?_
     exact Gs.again1 (i + 1) (by omega) (by omega) (by repeat constructor) (by repeat constructor)
   ·
    refine Gs.exit ?_
    refine Gs.then_x ?_
    refine Gs.then_x ?_
    refine Gs.blk_hit ?_
    refine Gs.then_n ?_
    refine Gsr ?_
    refine Lmv rfl rfl ?_
    refine Lpu rfl rfl trivial (pu_len Tryz.underlying41 rfl) ?_
    refine Lmv rfl rfl ?_
    refine Lpu rfl rfl trivial (pu_gt rfl rfl) ?_
    refine Las rfl rfl ?_
    refine Lnt ?_
    refine Gs.ret ?_
    exact Gs.fin1 Tryz.results26 rfl _ (⟨⟨_, rfl, fun h => by have := of_decide_eq_false h; omega⟩, rfl⟩) (by repeat constructor)
  ·
   refine Loff rfl rfl rfl rfl rfl rfl ?_
   refine Loff rfl rfl rfl rfl rfl rfl ?_
   refine Loff rfl rfl rfl rfl rfl rfl ?_
   refine Loff rfl rfl rfl rfl rfl rfl ?_
   refine Lpu rfl rfl trivial (by first | exact pu_pick_t rfl rfl | exact pu_pick_f rfl rfl) ?_
   refine Lnt ?_
   refine Gs.cond_f rfl ?_
   refine Gs.exit ?_
   refine Gs.then_x ?_
   refine Gs.then_x ?_
   refine Gs.blk_hit ?_
   refine Gs.then_n ?_
   refine Gsr ?_
   refine Lmv rfl rfl ?_
   refine Lpu rfl rfl trivial (pu_len Tryz.underlying41 rfl) ?_
   refine Lmv rfl rfl ?_
   refine Lpu rfl rfl trivial (pu_gt rfl rfl) ?_
   refine Las rfl rfl ?_
   refine Lnt ?_
   refine Gs.ret ?_
   exact Gs.fin1 Tryz.results26 rfl _ (⟨⟨_, rfl, fun h => by have := of_decide_eq_false h; omega⟩, rfl⟩) (by repeat constructor)
abbrev recI (n : Int) (s : ByteArray) : Rec := ⟨1, n, 0, 0, s⟩
theorem toks_le (r : Rec) : (tok r).length ≤ 121 := by
  have h : ∀ T : List WordP, (posL T).length ≤ T.length := fun T => by
    refine snoc_ind (P := fun T => (posL T).length ≤ T.length) (Nat.le_refl _) (fun T p ih => ?_) T
    rw [posL_snoc, posStep, List.length_append]
    have := mput_len (posL T) p.1 ((mget (posL T) p.1).getD [] ++ [p.2])
    simp only [List.length_cons, List.length_nil]; omega
  have := h (toksV r.t)
  rw [toksV, toks_length] at this
  exact Nat.le_trans this (words_len _)
theorem sum_le {α : Type} {f : α → List ByteArray} {k : Nat} : ∀ (l : List α), (∀ x ∈ l, (f x).length ≤ k) → (l.flatMap f).length ≤ k * l.length
  | [], _ => by simp
  | x :: l, h => by
    have h1 := h x List.mem_cons_self
    have h2 := sum_le l fun y hy => h y (List.mem_cons_of_mem _ hy)
    rw [List.flatMap_cons, List.length_append, List.length_cons, Nat.mul_add]; omega
theorem IxIs.words {rs : List Rec} {s : PL × PW} (h : IxIs rs s) : s.1.length ≤ 121 * rs.length := by
  have h1 : (mkeys s.1).length ≤ (rs.flatMap fun r => mkeys (tok r)).length := by
    have hb : ∀ l m : List ByteArray, l.Nodup → (∀ x ∈ l, x ∈ m) → l.length ≤ m.length := fun l m => by
      letI : BEq ByteArray := instBEqOfDecidableEq
      exact nodup_sub
    refine hb _ _ h.ln fun w hw => ?_
    cases hm : mget s.1 w with
    | none => exact (mget_none.1 hm hw).elim
    | some l =>
      obtain ⟨h1, -, h3⟩ := h.mem w l hm
      obtain ⟨p, hpl⟩ := List.exists_mem_of_ne_nil l h1
      obtain ⟨r, hr, -, h5⟩ := (h3 p).1 hpl
      exact List.mem_flatMap.2 ⟨r, hr, List.mem_map.2 ⟨_, mget_mem h5, rfl⟩⟩
  have h2 := sum_le (f := fun r => mkeys (tok r)) (k := 121) rs fun r _ => by rw [List.length_map]; exact toks_le r
  rw [List.length_map] at h1; omega
theorem IxIs.wlen {rs : List Rec} {s : PL × PW} (h : IxIs rs s) : s.2.length = rs.length := by have := h.wkeys.length_eq; simpa using this
theorem IxIs.lists {rs : List Rec} {s : PL × PW} (h : IxIs rs s) {w : ByteArray} {l : List PostP} (hm : mget s.1 w = some l) : l.length ≤ rs.length := by
  obtain ⟨-, h2, h3⟩ := h.mem w l hm
  have nd : (l.map Prod.fst).Nodup := by
    have := may_asc h2
    exact this.imp fun {a b} hab e => by rw [e, before_irr] at hab; cases hab
  have := nodup_sub (m := rs.map Rec.key) nd fun k hk => by
    obtain ⟨p, hp, rfl⟩ := List.mem_map.1 hk
    obtain ⟨r, hr, h4, -⟩ := (h3 p).1 hp
    exact List.mem_map.2 ⟨r, hr, h4.symm⟩
  simpa using this
theorem IxIs.short {rs : List Rec} {L : List (ByteArray × SlV PostV)} {W : List (Key × SlV ByteArray)} (h : IxIs rs (plL L, plW W)) : ∀ p ∈ L, p.2.xs.length ≤ rs.length := fun p hp => by
  have hn : (mkeys L).Nodup := by have := h.ln; simpa [plL, mm, mkeys, Function.comp_def] using this
  have hm := mget_of_mem hn (show (p.1, p.2) ∈ L from hp)
  have := h.lists (w := p.1) (l := plain1 p.2.xs) (by show mget (plL L) p.1 = _; rw [plL, mm_get, hm]; rfl)
  simpa using this
theorem IxIs.llen {rs : List Rec} {L : List (ByteArray × SlV PostV)} {W : List (Key × SlV ByteArray)} (h : IxIs rs (plL L, plW W)) : L.length ≤ 121 * rs.length := by have := h.words; simpa [plL, mm] using this
theorem IxIs.rlen {rs : List Rec} {L : List (ByteArray × SlV PostV)} {W : List (Key × SlV ByteArray)} (h : IxIs rs (plL L, plW W)) : W.length = rs.length := by have := h.wlen; simpa [plW, mm] using this
theorem putR_len (rs : List Rec) (r : Rec) : (putR rs r).length ≤ rs.length + 1 := by unfold putR; split <;> simp
end Go.Proofs.YtklgiidfompdpaaGreatDoor
namespace Go.Qu
open Go Go.Sl Go.Gv Go.Ix
/-- A question, and where its words and its parts lie. -/
inductive AskV where
  | mk (kind n : Int) (w : SlV ByteArray) (sa : Option Addr) (sc : Nat) (ss : List AskV)
def AskV.kind : AskV → Int | .mk k _ _ _ _ _ => k
def AskV.n : AskV → Int | .mk _ n _ _ _ _ => n
def AskV.w : AskV → SlV ByteArray | .mk _ _ w _ _ _ => w
def AskV.sa : AskV → Option Addr | .mk _ _ _ sa _ _ => sa
def AskV.sc : AskV → Nat | .mk _ _ _ _ sc _ => sc
def AskV.ss : AskV → List AskV | .mk _ _ _ _ _ ss => ss
abbrev AskV.ws (a : AskV) : List ByteArray := a.w.xs
abbrev askC (a : AskV) : List Value := [int a.kind, int a.n, .slice a.w.a a.w.xs.length a.w.c, .slice a.sa a.ss.length a.sc]
abbrev askV (a : AskV) : Value := .agg (askC a).toArray
/-- A part of the heap in which a question reads so. -/
inductive ARd (S : HProp) : AskV → Prop
  | mk {a : AskV} (hw : Srd S 1 strC a.w.a a.w.xs) (hs : Srd S 4 askC a.sa a.ss) (hl : a.ws.length ≤ maxLen ∧ a.ss.length ≤ maxLen) (h : ∀ x ∈ a.ss, ARd S x) : ARd S a
theorem ARd.w {S : HProp} {a : AskV} : ARd S a → Srd S 1 strC a.w.a a.w.xs | .mk h _ _ _ => h
theorem ARd.s {S : HProp} {a : AskV} : ARd S a → Srd S 4 askC a.sa a.ss | .mk _ h _ _ => h
theorem ARd.l {S : HProp} {a : AskV} : ARd S a → a.ws.length ≤ maxLen ∧ a.ss.length ≤ maxLen | .mk _ _ h _ => h
theorem ARd.sub {S : HProp} {a : AskV} : ARd S a → ∀ x ∈ a.ss, ARd S x | .mk _ _ _ h => h
theorem ARd.bigs {S : HProp} {L : List HProp} {a : AskV} (h : ARd S a) (m : S ∈ L) : ARd (big L) a := by
  induction h with
  | mk hw hs hl h ih => exact .mk (Srd.bigs hw m) (Srd.bigs hs m) hl ih
/-- No more than is gone through: so deep, and in each question so many parts, of so many words. -/
def FewA : Nat → AskV → Prop
  | 0, _ => False
  | d + 1, a => a.ws.length ≤ 30 ∧ (∀ w ∈ a.ws, w.size ≤ 100) ∧ a.ss.length ≤ 60 ∧ ∀ x ∈ a.ss, FewA d x
/-- How many questions there are in one. -/
def sizeA : Nat → AskV → Nat
  | 0, _ => 1
  | d + 1, a => 1 + (a.ss.map (sizeA d)).sum
def deepA : Nat → AskV → Nat
  | 0, _ => 0
  | d + 1, a => (a.ss.map (deepA d)).foldl max 0 + 1
def termsA : Nat → AskV → Nat
  | 0, _ => 0
  | d + 1, a => if a.ss = [] then max a.ws.length 1 else (a.ss.map (termsA d)).sum
/-- What a question of a kind has: a number, so many words, so many parts. -/
def shapeB (a : AskV) : Bool :=
  if a.kind = 1 ∨ a.kind = 2 then decide (a.n = 0) && decide (a.ss = []) && decide (a.ws.length = 1)
  else if a.kind = 3 then decide (a.n = 0) && decide (a.ss = []) && (decide (1 ≤ a.ws.length) && decide (a.ws.length ≤ 16))
  else if a.kind = 4 then decide (a.ws = []) && decide (a.ss = []) && (decide (0 ≤ a.n) && decide (a.n < 8))
  else if a.kind = 5 ∨ a.kind = 6 then decide (a.ws = []) && decide (a.ss = []) && (decide (0 ≤ a.n) && decide (a.n ≤ 1099511627776))
  else if a.kind = 9 then decide (a.n = 0) && decide (a.ws = []) && decide (a.ss.length = 1)
  else if a.kind = 7 ∨ a.kind = 8 then decide (a.n = 0) && decide (a.ws = []) && decide (2 ≤ a.ss.length)
  else false
/-- May a question be, but for how deep it is, and how many terms it has? -/
def goodA (odd : ByteArray → Bool) : Nat → AskV → Bool
  | 0, _ => false
  | d + 1, a => shapeB a && (a.ws.all (fun w => !odd w) && a.ss.all (goodA odd d))
/-- Do words stand one behind the other? -/
def atB (ws ps : List ByteArray) (i : Nat) : Bool := (List.range ps.length).all fun k => decide (ws[i + k]? = ps[k]?)
def infB (ws ps : List ByteArray) : Bool := decide (ps ≠ []) && (List.range ws.length).any fun i => atB ws ps i
/-- Does a question hold of a record of such words? -/
def holdsA (pre : ByteArray → ByteArray → Bool) (r : Rec) (ws : List ByteArray) : Nat → AskV → Bool
  | 0, _ => false
  | d + 1, a =>
    if a.kind = 1 ∨ a.kind = 3 then infB ws a.ws
    else if a.kind = 2 then ws.any fun w => pre w (a.ws.headD ⟨#[]⟩)
    else if a.kind = 4 then decide (r.o = a.n)
    else if a.kind = 5 then decide (a.n ≤ r.w)
    else if a.kind = 6 then decide (r.w ≤ a.n)
    else if a.kind = 8 then a.ss.any (holdsA pre r ws d)
    else if a.kind = 9 then !(match a.ss with | [] => false | x :: _ => holdsA pre r ws d x)
    else a.ss.all (holdsA pre r ws d)
end Go.Qu
namespace Go.Proofs.YtklgiidfompdpaaGreatDoor
open Go Go.Sl Go.Gv Go.Ix Go.Qu
set_option maxRecDepth 100000
abbrev encC_26 : AskV → List Value := askC
theorem ek_26 : EncOk 4 askC := ⟨fun _ => rfl, fun x v hv => by
  simp only [askC, List.mem_cons, List.not_mem_nil, or_false] at hv
  rcases hv with rfl | rfl | rfl | rfl <;> rfl⟩
end Go.Proofs.YtklgiidfompdpaaGreatDoor
namespace Go.Qu
open Go Go.Sl Go.Gv Go.Ix
theorem size_pos (d : Nat) (a : AskV) : 1 ≤ sizeA d a := by cases d <;> simp [sizeA]
theorem sum_len (d : Nat) (l : List AskV) : l.length ≤ (l.map (sizeA d)).sum := by
  induction l with
  | nil => exact Nat.le_refl _
  | cons a l ih => have := size_pos d a; simp only [List.map_cons, List.sum_cons, List.length_cons]; omega
theorem sum_take {l : List AskV} {f : AskV → Nat} {i : Nat} {x : AskV} (h : l[i]? = some x) : ((l.take (i + 1)).map f).sum = ((l.take i).map f).sum + f x := by
  rw [List.take_add_one, h, List.map_append, List.sum_append]; simp
theorem mem_take {l : List AskV} {p : AskV → Prop} {i : Nat} {x : AskV} (h : l[i]? = some x) (h1 : ∀ y ∈ l.take i, p y) (h2 : p x) : ∀ y ∈ l.take (i + 1), p y := fun y hy => by
  rw [List.take_add_one, h] at hy
  rcases List.mem_append.1 hy with hy | hy
  · exact h1 y hy
  · simp at hy; subst hy; exact h2
theorem deep_le : ∀ (d : Nat) (a : AskV), deepA d a ≤ d
  | 0, _ => Nat.le_refl _
  | d + 1, a => by
    have h : ∀ (l : List Nat) (m : Nat), m ≤ d → (∀ x ∈ l, x ≤ d) → l.foldl max m ≤ d := fun l => by
      induction l with
      | nil => exact fun m hm _ => hm
      | cons x l ih => exact fun m hm hl => ih (max m x) (Nat.max_le.2 ⟨hm, hl x (by simp)⟩) fun y hy => hl y (by simp [hy])
    have := h (a.ss.map (deepA d)) 0 (Nat.zero_le _) fun x hx => by
      obtain ⟨y, -, rfl⟩ := List.mem_map.1 hx
      exact deep_le d y
    simp only [deepA]; omega
theorem deep_fold (d : Nat) (l : List AskV) : (l.map (deepA d)).foldl max 0 ≤ d := by
  have h : ∀ (l : List Nat) (m : Nat), m ≤ d → (∀ x ∈ l, x ≤ d) → l.foldl max m ≤ d := fun l => by
    induction l with
    | nil => exact fun m hm _ => hm
    | cons x l ih => exact fun m hm hl => ih (max m x) (Nat.max_le.2 ⟨hm, hl x (by simp)⟩) fun y hy => hl y (by simp [hy])
  exact h _ 0 (Nat.zero_le _) fun x hx => by
    obtain ⟨y, -, rfl⟩ := List.mem_map.1 hx
    exact deep_le d y
theorem deep_take {d : Nat} {l : List AskV} {i : Nat} {y : AskV} (h : l[i]? = some y) : ((l.take (i + 1)).map (deepA d)).foldl max 0 = max (((l.take i).map (deepA d)).foldl max 0) (deepA d y) := by
  rw [List.take_add_one, h, List.map_append, List.foldl_append]; rfl
theorem max_cast (a b : Nat) : max ((a : Nat) : Int) ((b : Nat) : Int) = ((max a b : Nat) : Int) := by omega
theorem terms_le : ∀ (d : Nat) (a : AskV), FewA d a → termsA d a ≤ 30 * sizeA d a
  | 0, _, h => h.elim
  | d + 1, a, ⟨h1, h2, h3, h4⟩ => by
    simp only [termsA, sizeA]
    by_cases he : a.ss = []
    · rw [if_pos he]; have : max a.ws.length 1 ≤ 30 := Nat.max_le.2 ⟨h1, by decide⟩
      omega
    · rw [if_neg he]
      have h : ∀ l : List AskV, (∀ x ∈ l, FewA d x) → (l.map (termsA d)).sum ≤ 30 * (l.map (sizeA d)).sum := fun l => by
        induction l with
        | nil => exact fun _ => Nat.le_refl _
        | cons x l ih => intro hl; have e1 := ih fun y hy => hl y (by simp [hy]); have e2 := terms_le d x (hl x (by simp)); simp only [List.map_cons, List.sum_cons]; omega
      have := h a.ss h4; omega
end Go.Qu
namespace Go.Proofs.YtklgiidfompdpaaGreatDoor
open Go Go.Sl Go.Gv Go.Kv Go.Po Go.Ix Go.Qu
set_option maxRecDepth 100000
theorem greatTexts_spec {S : HProp} {a : Option Addr} {c : Nat} {xs : List ByteArray} (hS : Srd S 1 strC a xs) (hl : xs.length ≤ 9223372036854775807) (k z : Int) :
    Ct Tryz.prog 46 [.slice a xs.length c, int k, int z] [S] (fun v hs => (∃ b : Bool, v = .bool b ∧ (b = false → xs.length ≤ k ∧ ∀ w ∈ xs, (w.size : Int) ≤ z)) ∧ hs = [S]) := by
  refine Ct.intro Tryz.func46 rfl (by kernel_rfl) 31 Tryz.ntmps46 (Nat.le_of_ble_eq_true rfl) fun w0 R => ?_
  refine Gs.slAddr (hS.h (by repeat constructor)) fun ab ao ha => ?_
  refine Gsr ?_
  refine Las rfl rfl ?_
  refine Lnt ?_
  refine Gs.seq ?_
  refine Gsr ?_
  refine Las rfl rfl ?_
  refine Lnt ?_
  refine Gs.block ?_
  refine Gs.loop1 (fun i : Nat => i ≤ xs.length ∧ ∀ w ∈ xs.take i, (w.size : Int) ≤ z) (fun i => [(0, .slice a xs.length c), (1, int k), (2, int z), (7, int i)]) (fun i => [S] ++ R) (fun i => xs.length - i) 0 (⟨Nat.zero_le _, fun w hw => by cases hw⟩) (by repeat constructor) (by repeat constructor) (fun i ⟨hi, hz⟩ => ?_)
  refine Gs.seq ?_
  refine Gsr ?_
  refine Lmv rfl rfl ?_
  refine Lmv rfl rfl ?_
  refine Lpu rfl rfl trivial (pu_len Tryz.underlying23 rfl) ?_
  refine Lpu rfl rfl trivial (pu_lt rfl rfl) ?_
  refine LpuB rfl rfl trivial (pu_move rfl) (fun hg4 => ?_) (fun hg4 => ?_)
  ·
   have hlt : i < xs.length := by have := of_decide_eq_true hg4; omega
   obtain ⟨x, hx⟩ : ∃ x, xs[i]? = some x := ⟨xs[i], by simp [hlt]⟩
   obtain rfl := ha (by rintro rfl; simp at hlt)
   refine Lpu rfl rfl ⟨_, rfl, rfl⟩ (pu_move rfl) ?_
   refine Lpu rfl rfl ⟨_, rfl, rfl⟩ (pu_len Tryz.underlying23 rfl) ?_
   refine Lpu rfl rfl ⟨_, rfl, rfl⟩ (pu_move rfl) ?_
   refine Lpu rfl rfl ⟨_, rfl, rfl⟩ (pu_le rfl rfl) ?_
   refine Lpu rfl rfl trivial (by first | exact pu_pick_t rfl rfl | exact pu_pick_f rfl rfl) ?_
   refine Lnt ?_
   refine Gs.cond rfl (fun hc0 => ?_) (fun hc0 => ?_)
   ·
    refine Gs.skip ?_
    refine Gs.then_n ?_
    refine Gs.seq ?_
    refine Gs.block ?_
    refine Gsr ?_
    refine Lmv rfl rfl ?_
    refine Lmv rfl rfl ?_
    refine Lpu rfl rfl trivial (pu_ia se_23 rfl rfl (by omega) (by omega)) ?_
    refine Lrd rfl rfl trivial (rd_ld na_9 rfl (Rdc.el0 (hS.h (by repeat constructor)) hx rfl rfl)) ?_
    refine Lpu rfl rfl trivial (pu_lenS Tryz.underlying9 rfl) ?_
    refine Lmv rfl rfl ?_
    refine Lpu rfl rfl trivial (pu_gt rfl rfl) ?_
    refine Lnt ?_
    refine Gs.cond rfl (fun hc1 => ?_) (fun hc1 => ?_)
    ·
     refine Gsr ?_
     refine Las rfl rfl ?_
     refine Lnt ?_
     refine Gs.ret ?_
     refine Gs.blk_r ?_
     refine Gs.then_r ?_
     refine Gs.then_r ?_
     refine Gs.blk_r ?_
     refine Gs.then_r ?_
     exact Gs.fin1 Tryz.results46 rfl _ (⟨⟨true, rfl, fun h => by cases h⟩, rfl⟩) (by repeat constructor)
    ·
     have hxz : (x.size : Int) ≤ z := by have := of_decide_eq_false hc1; omega
     refine Gs.skip ?_
     refine Gs.blk_n ?_
     refine Gs.then_n ?_
     refine Gs.reg ?_
     refine Lmv rfl rfl ?_
     refine Lpu rfl rfl trivial (by first | exact pu_addI rfl rfl rfl (by omega) (by omega) | exact pu_add rfl rfl) ?_
     refine Las rfl rfl ?_
     refine Lnt ?_
     exact Gs.again1 (i + 1) ⟨by omega, fun w hw => by
       rw [List.take_add_one, hx] at hw
       rcases List.mem_append.1 hw with hw | hw
       · exact hz w hw
       · simp at hw; subst hw; exact hxz⟩ (by omega) (by repeat constructor) (by repeat constructor)
   ·
    refine Gs.exit ?_
    refine Gs.then_x ?_
    refine Gs.then_x ?_
    refine Gs.blk_hit ?_
    refine Gs.then_n ?_
    refine Gsr ?_
    refine Lmv rfl rfl ?_
    refine Lpu rfl rfl trivial (pu_len Tryz.underlying23 rfl) ?_
    refine Lmv rfl rfl ?_
    refine Lpu rfl rfl trivial (pu_gt rfl rfl) ?_
    refine Las rfl rfl ?_
    refine Lnt ?_
    refine Gs.ret ?_
    exact Gs.fin1 Tryz.results46 rfl _ (⟨⟨_, rfl, fun h => by have := of_decide_eq_false h; exact ⟨by omega, by first | exact hall | exact absurd (by omega) (of_decide_eq_false hc0)⟩⟩, rfl⟩) (by repeat constructor)
  ·
   have hge : i = xs.length := by have := of_decide_eq_false hg4; omega
   have hall : ∀ w ∈ xs, (w.size : Int) ≤ z := by rw [hge, List.take_length] at hz; exact hz
   refine Loff rfl rfl rfl rfl rfl rfl ?_
   refine Loff rfl rfl rfl rfl rfl rfl ?_
   refine Loff rfl rfl rfl rfl rfl rfl ?_
   refine Loff rfl rfl rfl rfl rfl rfl ?_
   refine Lpu rfl rfl trivial (by first | exact pu_pick_t rfl rfl | exact pu_pick_f rfl rfl) ?_
   refine Lnt ?_
   refine Gs.cond_f rfl ?_
   refine Gs.exit ?_
   refine Gs.then_x ?_
   refine Gs.then_x ?_
   refine Gs.blk_hit ?_
   refine Gs.then_n ?_
   refine Gsr ?_
   refine Lmv rfl rfl ?_
   refine Lpu rfl rfl trivial (pu_len Tryz.underlying23 rfl) ?_
   refine Lmv rfl rfl ?_
   refine Lpu rfl rfl trivial (pu_gt rfl rfl) ?_
   refine Las rfl rfl ?_
   refine Lnt ?_
   refine Gs.ret ?_
   exact Gs.fin1 Tryz.results46 rfl _ (⟨⟨_, rfl, fun h => by have := of_decide_eq_false h; exact ⟨by omega, by first | exact hall | exact absurd (by omega) (of_decide_eq_false hc0)⟩⟩, rfl⟩) (by repeat constructor)
theorem parts_spec {S : HProp} : ∀ (d : Nat) {a : Option Addr} {c : Nat} {xs : List AskV} (hS : Srd S 4 askC a xs) (hA : ∀ x ∈ xs, ARd S x) (hl : xs.length ≤ maxLen) (most : Int) (h0 : -1 ≤ most) (h1 : most ≤ 60) (hd : d ≤ 1000),
    Ct Tryz.prog 29 [.slice a xs.length c, int most, int ((d : Int) - 1)] [S] (fun v hs => (∃ n : Int, v = int n ∧ 0 ≤ n ∧ n ≤ most + 1 ∧ (n ≤ most → (∀ x ∈ xs, FewA d x) ∧ (((xs.map (sizeA d)).sum : Nat) : Int) ≤ n)) ∧ hs = [S])
  | 0, a, c, xs, hS, hA, hl, most, h0, h1, hd => by
    refine Ct.intro Tryz.func29 rfl (by kernel_rfl) 48 Tryz.ntmps29 (Nat.le_of_ble_eq_true rfl) fun w0 R => ?_
    refine Gsr ?_
    refine Las rfl rfl ?_
    refine Lnt ?_
    refine Gsr ?_
    refine Las rfl rfl ?_
    refine Lnt ?_
    refine Gs.seq ?_
    refine Gsr ?_
    refine Lmv rfl rfl ?_
    refine Lpu rfl rfl trivial (pu_lt rfl rfl) ?_
    refine Lnt ?_
    refine Gs.cond_tt rfl (by decide) ?_
    refine Gsr ?_
    refine Lmv rfl rfl ?_
    refine Lpu rfl rfl trivial (pu_addI (z := most + 1) rfl rfl rfl (by omega) (by omega)) ?_
    refine Las rfl rfl ?_
    refine Lnt ?_
    refine Gs.ret ?_
    refine Gs.then_r ?_
    exact Gs.fin1 Tryz.results29 rfl _ (⟨⟨most + 1, rfl, by omega, Int.le_refl _, fun h => by omega⟩, rfl⟩) (by repeat constructor)
  | d + 1, a, c, xs, hS, hA, hl, most, h0, h1, hd => by
    have ih := @parts_spec S d
    have hmx : maxLen = 9223372036854775807 := by decide
    refine Ct.intro Tryz.func29 rfl (by kernel_rfl) 48 Tryz.ntmps29 (Nat.le_of_ble_eq_true rfl) fun w0 R => ?_
    refine Gs.slAddr (hS.h (by repeat constructor)) fun ab ao ha => ?_
    refine Gsr ?_
    refine Las rfl rfl ?_
    refine Lnt ?_
    refine Gsr ?_
    refine Las rfl rfl ?_
    refine Lnt ?_
    refine Gs.seq ?_
    refine Gsr ?_
    refine Lmv rfl rfl ?_
    refine Lpu rfl rfl trivial (pu_lt rfl rfl) ?_
    refine Lnt ?_
    refine Gs.cond_ff rfl (decide_eq_false (by omega)) ?_
    refine Gs.skip ?_
    refine Gs.then_n ?_
    refine Gs.seq ?_
    refine Gsr ?_
    refine Las rfl rfl ?_
    refine Lnt ?_
    refine Gs.block ?_
    refine Gs.loop1 (fun s : Nat × Int => s.1 ≤ xs.length ∧ 0 ≤ s.2 ∧ s.2 ≤ most + 1 ∧ (s.2 ≤ most → (∀ x ∈ xs.take s.1, FewA (d + 1) x) ∧ ((((xs.take s.1).map (sizeA (d + 1))).sum : Nat) : Int) ≤ s.2)) (fun s => [(0, .slice a xs.length c), (1, int most), (2, int (((d + 1 : Nat) : Int) - 1)), (7, int s.2), (8, int s.1)]) (fun s => [S] ++ R) (fun s => xs.length - s.1) (0, 0) (⟨Nat.zero_le _, by decide, by show (0 : Int) ≤ most + 1; omega, fun _ => ⟨(fun x hx => by cases hx), Int.le_refl _⟩⟩) (by repeat constructor) (by repeat constructor) (fun s hs => ?_)
    obtain ⟨i, n⟩ := s
    obtain ⟨hi, hn0, hn1, hn⟩ := hs
    dsimp only at hi hn0 hn1 hn ⊢
    refine Gs.seq ?_
    refine Gsr ?_
    refine Lmv rfl rfl ?_
    refine Lmv rfl rfl ?_
    refine Lpu rfl rfl trivial (pu_len Tryz.underlying24 rfl) ?_
    refine Lpu rfl rfl trivial (pu_lt rfl rfl) ?_
    refine LpuB rfl rfl trivial (pu_move rfl) (fun hg4 => ?_) (fun hg4 => ?_)
    ·
     have hlt : i < xs.length := by have := of_decide_eq_true hg4; omega
     obtain ⟨x, hx⟩ : ∃ x, xs[i]? = some x := ⟨xs[i], by simp [hlt]⟩
     obtain rfl := ha (by rintro rfl; simp at hlt)
     have hxm := List.mem_of_getElem? hx
     have hxa := hA x hxm
     have hxl := hxa.l
     refine Lpu rfl rfl ⟨_, rfl, rfl⟩ (pu_move rfl) ?_
     refine Lpu rfl rfl ⟨_, rfl, rfl⟩ (pu_move rfl) ?_
     refine Lpu rfl rfl ⟨_, rfl, rfl⟩ (pu_le rfl rfl) ?_
     refine Lpu rfl rfl trivial (by first | exact pu_pick_t rfl rfl | exact pu_pick_f rfl rfl) ?_
     refine Lnt ?_
     refine Gs.cond rfl (fun hc1 => ?_) (fun hc1 => ?_)
     ·
      have hnm : n ≤ most := of_decide_eq_true hc1
      obtain ⟨hfw, hsz⟩ := hn hnm
      refine Gs.skip ?_
      refine Gs.then_n ?_
      refine Gs.seq ?_
      refine Gs.block ?_
      refine Gs.seq ?_
      refine Gsr ?_
      refine Lmv rfl rfl ?_
      refine Lmv rfl rfl ?_
      refine Lpu rfl rfl trivial (pu_ia se_24 rfl rfl (by omega) (by omega)) ?_
      refine Lpu rfl rfl trivial (pu_fa fa_26_2 rfl) ?_
      refine Lrd rfl rfl trivial (rd_ld na_23 rfl (Rdc.elp 1 (f := 2) (hS.h (by repeat constructor)) hx rfl rfl)) ?_
      refine Lac rfl rfl trivial (as_call (greatTexts_spec hxa.w (by have h : x.w.xs.length ≤ maxLen := hxl.1; omega) 30 100) (by repeat constructor) (by repeat constructor)) ?_
      rintro _ _ ⟨_, ⟨⟨gt, rfl, hgt⟩, rfl⟩, rfl⟩
      refine Lnt ?_
      refine Gs.cond rfl (fun hc2 => ?_) (fun hc2 => ?_)
      ·
       refine Gsr ?_
       refine Lmv rfl rfl ?_
       refine Lpu rfl rfl trivial (pu_addI (z := most + 1) rfl rfl rfl (by omega) (by omega)) ?_
       refine Las rfl rfl ?_
       refine Lnt ?_
       refine Gs.ret ?_
       refine Gs.then_r ?_
       refine Gs.blk_r ?_
       refine Gs.then_r ?_
       refine Gs.then_r ?_
       refine Gs.blk_r ?_
       refine Gs.then_r ?_
       exact Gs.fin1 Tryz.results29 rfl _ (⟨⟨most + 1, rfl, by omega, Int.le_refl _, fun h => by omega⟩, rfl⟩) (by repeat constructor)
      ·
       obtain ⟨hw1, hw2⟩ := hgt hc2
       refine Gs.skip ?_
       refine Gs.then_n ?_
       refine Gs.reg ?_
       refine Lmv rfl rfl ?_
       refine Lpu rfl rfl trivial (pu_addI (z := n + 1) rfl rfl rfl (by omega) (by omega)) ?_
       refine Lmv rfl rfl ?_
       refine Lmv rfl rfl ?_
       refine Lpu rfl rfl trivial (pu_ia se_24 rfl rfl (by omega) (by omega)) ?_
       refine Lpu rfl rfl trivial (pu_fa fa_26_3 rfl) ?_
       refine Lrd rfl rfl trivial (rd_ld na_24 rfl (Rdc.elp 1 (f := 3) (hS.h (by repeat constructor)) hx rfl rfl)) ?_
       refine Lmv rfl rfl ?_
       refine Lmv rfl rfl ?_
       refine Lpu rfl rfl trivial (pu_subI (z := most - n) rfl rfl rfl (by omega) (by omega)) ?_
       refine Lpu rfl rfl trivial (pu_subI (z := most - n - 1) rfl rfl rfl (by omega) (by omega)) ?_
       refine Lmv rfl rfl ?_
       refine Lpu rfl rfl trivial (pu_subI (z := (d : Int) - 1) rfl rfl (by omega) (by omega) (by omega)) ?_
       refine Lac rfl rfl trivial (as_call (ih hxa.s hxa.sub hxl.2 (most - n - 1) (by omega) (by omega) (by omega)) (by repeat constructor) (by repeat constructor)) ?_
       rintro _ _ ⟨_, ⟨⟨m, rfl, hm0, hm1, hm⟩, rfl⟩, rfl⟩
       refine Lpu rfl rfl trivial (pu_addI (z := n + 1 + m) rfl rfl rfl (by omega) (by omega)) ?_
       refine Las rfl rfl ?_
       refine Lnil ?_
       refine Gs.blk_n ?_
       refine Gs.then_n ?_
       refine Gs.reg ?_
       refine Lmv rfl rfl ?_
       refine Lpu rfl rfl trivial (by first | exact pu_addI rfl rfl rfl (by omega) (by omega) | exact pu_add rfl rfl) ?_
       refine Las rfl rfl ?_
       refine Lnt ?_
       exact Gs.again1 (i + 1, n + 1 + m) ⟨hlt, by show 0 ≤ n + 1 + m; omega, by show n + 1 + m ≤ most + 1; omega, fun h => by
         have h' : n + 1 + m ≤ most := h
         obtain ⟨g1, g2⟩ := hm (by omega)
         have hsl := sum_len d x.ss
         refine ⟨mem_take hx hfw ⟨(show x.w.xs.length ≤ 30 by omega), fun w hw => by have := hw2 w hw; omega, by omega, g1⟩, ?_⟩
         show ((((xs.take (i + 1)).map (sizeA (d + 1))).sum : Nat) : Int) ≤ n + 1 + m
         rw [sum_take hx]
         show (((((xs.take i).map (sizeA (d + 1))).sum + (1 + (x.ss.map (sizeA d)).sum)) : Nat) : Int) ≤ n + 1 + m
         omega⟩ (by show xs.length - (i + 1) < xs.length - i; omega) (by repeat constructor) (by repeat constructor)
     ·
      refine Gs.exit ?_
      refine Gs.then_x ?_
      refine Gs.then_x ?_
      refine Gs.blk_hit ?_
      refine Gs.then_n ?_
      refine Gsr ?_
      refine Lmv rfl rfl ?_
      refine Las rfl rfl ?_
      refine Lnt ?_
      refine Gs.ret ?_
      exact Gs.fin1 Tryz.results29 rfl _ (⟨⟨n, rfl, hn0, hn1, by first | exact hall | exact fun h => absurd h (of_decide_eq_false hc1)⟩, rfl⟩) (by repeat constructor)
    ·
     have hge : i = xs.length := by have := of_decide_eq_false hg4; omega
     have hall : n ≤ most → (∀ x ∈ xs, FewA (d + 1) x) ∧ (((xs.map (sizeA (d + 1))).sum : Nat) : Int) ≤ n := by rw [hge, List.take_length] at hn; exact hn
     refine Loff rfl rfl rfl rfl rfl rfl ?_
     refine Loff rfl rfl rfl rfl rfl rfl ?_
     refine Loff rfl rfl rfl rfl rfl rfl ?_
     refine Lpu rfl rfl trivial (by first | exact pu_pick_t rfl rfl | exact pu_pick_f rfl rfl) ?_
     refine Lnt ?_
     refine Gs.cond_f rfl ?_
     refine Gs.exit ?_
     refine Gs.then_x ?_
     refine Gs.then_x ?_
     refine Gs.blk_hit ?_
     refine Gs.then_n ?_
     refine Gsr ?_
     refine Lmv rfl rfl ?_
     refine Las rfl rfl ?_
     refine Lnt ?_
     refine Gs.ret ?_
     exact Gs.fin1 Tryz.results29 rfl _ (⟨⟨n, rfl, hn0, hn1, by first | exact hall | exact fun h => absurd h (of_decide_eq_false hc1)⟩, rfl⟩) (by repeat constructor)
theorem partsL_spec {L : List HProp} (d : Nat) {a : Option Addr} {c : Nat} {xs : List AskV} (hS : Srd (big L) 4 askC a xs) (hA : ∀ x ∈ xs, ARd (big L) x) (hl : xs.length ≤ maxLen) (most : Int) (h0 : -1 ≤ most) (h1 : most ≤ 60) (hd : d ≤ 1000) :
    Ct Tryz.prog 29 [.slice a xs.length c, int most, int ((d : Int) - 1)] L (fun v hs => (∃ n : Int, v = int n ∧ 0 ≤ n ∧ n ≤ most + 1 ∧ (n ≤ most → (∀ x ∈ xs, FewA d x) ∧ (((xs.map (sizeA d)).sum : Nat) : Int) ≤ n)) ∧ hs = L) :=
  (Ct.bigs (parts_spec (c := c) d hS hA hl most h0 h1 hd) fun v hs hh => ⟨[], hh.2⟩).mono fun v hs ⟨r, ⟨e1, e2⟩, e3⟩ => ⟨e1, by cases e2; rw [e3, List.append_nil]⟩
theorem greatAsk_spec {S : HProp} {x : AskV} (hx : ARd S x) :
    Ct Tryz.prog 8 [askV x] [S] (fun v hs => (∃ b : Bool, v = .bool b ∧ (b = false → FewA 13 x ∧ sizeA 13 x ≤ 60)) ∧ hs = [S]) := by
  refine Ct.intro Tryz.func8 rfl (by kernel_rfl) 7 Tryz.ntmps8 (Nat.le_of_ble_eq_true rfl) fun w0 R => ?_
  refine Gsr ?_
  refine Lac rfl rfl trivial (ac_box rfl rfl) ?_
  rintro _ _ ⟨xb, rfl, rfl⟩
  refine Las rfl rfl ?_
  refine Lnt ?_
  refine Gsr ?_
  refine Lrd rfl rfl trivial (rd_lda ag_26 rfl (Rdc.cl 4 (by repeat constructor) rfl) rfl) ?_
  refine Lac rfl rfl trivial (ac_lit encC_26 ([x]) et_24 ek_26 rfl (by repeat constructor) rfl rfl (by decide)) ?_
  rintro _ _ ⟨a4, rfl, rfl⟩
  refine Lac rfl rfl trivial (as_call (partsL_spec (L := [sl 26 4 askC (some ⟨a4, 0, none⟩) 1 [x], S]) 13 (xs := [x]) (Srd.bigs (A := sl 26 4 askC (some ⟨a4, 0, none⟩) 1 [x]) Srd.own (by simp)) (fun y hy => by simp only [List.mem_singleton] at hy; subst hy; exact hx.bigs (by simp)) (by show 1 ≤ maxLen; decide) 60 (by decide) (by decide) (by decide)) (by repeat constructor) (by repeat constructor)) ?_
  rintro _ _ ⟨_, ⟨⟨n, rfl, hn0, hn1, hn⟩, rfl⟩, rfl⟩
  refine Lpu rfl rfl trivial (pu_gt rfl rfl) ?_
  refine Las rfl rfl ?_
  refine Lnt ?_
  refine Gs.ret ?_
  exact Gs.fin1 Tryz.results8 rfl _ (⟨⟨_, rfl, fun h => by
    obtain ⟨g1, g2⟩ := hn (by have := of_decide_eq_false h; omega)
    refine ⟨g1 x (by simp), ?_⟩
    have h3 : (([x] : List AskV).map (sizeA 13)).sum = sizeA 13 x := by simp
    rw [h3] at g2
    have := of_decide_eq_false h
    omega⟩, rfl⟩) (by repeat constructor)
/-- How deep a question is, by either copy. -/
theorem deep14_spec {S : HProp} : ∀ (d : Nat) {x : AskV} (hA : ARd S x) (hF : FewA d x) (hd : d ≤ 1000),
    Ct Tryz.prog 56 [askV x] [S] (fun v hs => v = int (deepA d x : Nat) ∧ hs = [S])
  | 0, x, hA, hF, hd => hF.elim
  | d + 1, x, hA, hF, hd => by
    have ih := @deep14_spec S d
    obtain ⟨hf1, hf2, hf3, hf4⟩ := hF
    obtain ⟨v0, hv0⟩ : ∃ z, z = deepA (d + 1) x := ⟨_, rfl⟩
    have hvd : v0 = (x.ss.map (deepA d)).foldl max 0 + 1 := hv0
    have hdf := deep_fold d x.ss
    rw [← hv0]
    refine Ct.intro Tryz.func56 rfl (by kernel_rfl) 22 Tryz.ntmps56 (Nat.le_of_ble_eq_true rfl) fun w0 R => ?_
    refine Gs.slAddr (hA.s.h (by repeat constructor)) fun ab ao ha => ?_
    refine Gsr ?_
    refine Lac rfl rfl trivial (ac_box rfl rfl) ?_
    rintro _ _ ⟨xb, rfl, rfl⟩
    refine Las rfl rfl ?_
    refine Lnt ?_
    refine Gsr ?_
    refine Las rfl rfl ?_
    refine Lnt ?_
    refine Gs.seq ?_
    refine Gsr ?_
    refine Las rfl rfl ?_
    refine Lnt ?_
    refine Gs.block ?_
    refine Gs.loop1 (fun i : Nat => i ≤ x.ss.length) (fun i => [(1, ptr xb), (3, int (((x.ss.take i).map (deepA d)).foldl max 0 : Nat)), (4, int i)]) (fun i => [cl xb 26 (askC x), S] ++ R) (fun i => x.ss.length - i) 0 (Nat.zero_le _) (by repeat constructor) (by repeat constructor) (fun i hi => ?_)
    refine Gs.seq ?_
    refine Gsr ?_
    refine Lmv rfl rfl ?_
    refine Lpu rfl rfl trivial (pu_fa fa_26_3 rfl) ?_
    refine Lrd rfl rfl trivial (rd_ld na_24 rfl (Rdc.cl1 (by repeat constructor) rfl)) ?_
    refine Lpu rfl rfl trivial (pu_len Tryz.underlying24 rfl) ?_
    refine Lpu rfl rfl trivial (pu_lt rfl rfl) ?_
    refine Lnt ?_
    refine Gs.cond rfl (fun hc0 => ?_) (fun hc0 => ?_)
    ·
     have hlt : i < x.ss.length := by have := of_decide_eq_true hc0; omega
     obtain ⟨y, hy⟩ : ∃ y, x.ss[i]? = some y := ⟨x.ss[i], by simp [hlt]⟩
     have hsa := ha (fun e => by rw [e] at hlt; exact Nat.not_lt_zero _ hlt)
     have hs := hA.s
     rw [hsa] at hs
     have hym := List.mem_of_getElem? hy
     have hbd := deep_le d y
     refine Gs.skip ?_
     refine Gs.then_n ?_
     refine Gs.seq ?_
     refine Gs.block ?_
     refine Gs.reg ?_
     refine Lmv rfl rfl ?_
     refine Lpu rfl rfl trivial (pu_fa fa_26_3 rfl) ?_
     refine Lrd rfl rfl trivial (rd_ld na_24 rfl (Rdc.cl1 (by repeat constructor) rfl)) ?_
     rw [hsa]
     refine Lmv rfl rfl ?_
     refine Lpu rfl rfl trivial (pu_ia se_24 rfl rfl (by omega) (by omega)) ?_
     refine Lrd rfl rfl trivial (rd_lda ag_26 rfl (Rdc.el0 (hs.h (by repeat constructor)) hy rfl rfl) rfl) ?_
     refine Lac rfl rfl trivial (as_call (ih (hA.sub y hym) (hf4 y hym) (by omega)) (by repeat constructor) (by repeat constructor)) ?_
     rintro _ _ ⟨_, ⟨rfl, rfl⟩, rfl⟩
     refine Lpu rfl rfl trivial (pu_max rfl rfl) ?_
     rw [max_cast, ← deep_take hy]
     refine Las rfl rfl ?_
     refine Lnil ?_
     refine Gs.blk_n ?_
     refine Gs.then_n ?_
     refine Gs.reg ?_
     refine Lmv rfl rfl ?_
     refine Lpu rfl rfl trivial (pu_addI (z := ((i + 1 : Nat) : Int)) rfl rfl (by omega) (by omega) (by omega)) ?_
     refine Las rfl rfl ?_
     refine Lnt ?_
     exact Gs.again1 (i + 1) (by omega) (by omega) (by repeat constructor) (by repeat constructor)
    ·
     have hge : i = x.ss.length := by have := of_decide_eq_false hc0; omega
     rw [hge, List.take_length]
     refine Gs.exit ?_
     refine Gs.then_x ?_
     refine Gs.then_x ?_
     refine Gs.blk_hit ?_
     refine Gs.then_n ?_
     refine Gsr ?_
     refine Lmv rfl rfl ?_
     refine Lpu rfl rfl trivial (pu_addI (z := ((v0 : Nat) : Int)) rfl rfl (by omega) (by omega) (by omega)) ?_
     refine Las rfl rfl ?_
     refine Lnt ?_
     refine Gs.ret ?_
     exact Gs.fin1 Tryz.results56 rfl _ (⟨rfl, rfl⟩) (by repeat constructor)
theorem deepA_spec {S : HProp} : ∀ (d : Nat) {x : AskV} (hA : ARd S x) (hF : FewA d x) (hd : d ≤ 1000),
    Ct Tryz.prog 67 [askV x] [S] (fun v hs => v = int (deepA d x : Nat) ∧ hs = [S])
  | 0, x, hA, hF, hd => hF.elim
  | d + 1, x, hA, hF, hd => by
    have ih := @deepA_spec S d
    obtain ⟨hf1, hf2, hf3, hf4⟩ := hF
    obtain ⟨v0, hv0⟩ : ∃ z, z = deepA (d + 1) x := ⟨_, rfl⟩
    have hvd : v0 = (x.ss.map (deepA d)).foldl max 0 + 1 := hv0
    have hdf := deep_fold d x.ss
    rw [← hv0]
    refine Ct.intro Tryz.func67 rfl (by kernel_rfl) 20 Tryz.ntmps67 (Nat.le_of_ble_eq_true rfl) fun w0 R => ?_
    refine Gs.slAddr (hA.s.h (by repeat constructor)) fun ab ao ha => ?_
    refine Gsr ?_
    refine Lac rfl rfl trivial (ac_box rfl rfl) ?_
    rintro _ _ ⟨xb, rfl, rfl⟩
    refine Las rfl rfl ?_
    refine Lnt ?_
    refine Gsr ?_
    refine Las rfl rfl ?_
    refine Lnt ?_
    refine Gs.seq ?_
    refine Gsr ?_
    refine Lpu rfl rfl trivial (pu_fa fa_26_3 rfl) ?_
    refine Lrd rfl rfl trivial (rd_ld na_24 rfl (Rdc.cl1 (by repeat constructor) rfl)) ?_
    refine Lpu rfl rfl trivial (pu_len Tryz.underlying24 rfl) ?_
    refine Lmv rfl rfl ?_
    refine Lnt ?_
    refine Gs.block ?_
    refine Gs.loop1 (fun i : Nat => i ≤ x.ss.length) (fun i => [(1, ptr xb), (3, int (((x.ss.take i).map (deepA d)).foldl max 0 : Nat)), (7, .slice x.sa x.ss.length x.sc), (8, int x.ss.length), (9, int i)]) (fun i => [cl xb 26 (askC x), S] ++ R) (fun i => x.ss.length - i) 0 (Nat.zero_le _) (by repeat constructor) (by repeat constructor) (fun i hi => ?_)
    refine Gsr ?_
    refine Lpu rfl rfl trivial (pu_lt rfl rfl) ?_
    refine Lnt ?_
    refine Gs.seq ?_
    refine Gs.cond rfl (fun hc0 => ?_) (fun hc0 => ?_)
    ·
     have hlt : i < x.ss.length := by have := of_decide_eq_true hc0; omega
     obtain ⟨y, hy⟩ : ∃ y, x.ss[i]? = some y := ⟨x.ss[i], by simp [hlt]⟩
     have hsa := ha (fun e => by rw [e] at hlt; exact Nat.not_lt_zero _ hlt)
     have hs := hA.s
     rw [hsa] at hs
     have hym := List.mem_of_getElem? hy
     have hbd := deep_le d y
     rw [hsa]
     refine Gs.skip ?_
     refine Gs.then_n ?_
     refine Gs.seq ?_
     refine Gs.block ?_
     refine Gsr ?_
     refine Lpu rfl rfl trivial (pu_ia se_24 rfl rfl (by omega) (by omega)) ?_
     refine Lrd rfl rfl trivial (rd_lda ag_26 rfl (Rdc.el0 (hs.h (by repeat constructor)) hy rfl rfl) rfl) ?_
     refine Lac rfl rfl trivial (ac_alloc zv_26 rfl) ?_
     rintro _ _ ⟨vb, rfl, rfl⟩
     refine Lac0 rfl trivial (ac_st sz_26 rfl rfl (by repeat constructor) rfl rfl rfl rfl) ?_
     rintro _ _ rfl
     refine Lnt ?_
     refine Gs.reg ?_
     refine Lmv rfl rfl ?_
     refine Lrd rfl rfl trivial (rd_lda ag_26 rfl (Rdc.cl 4 (by repeat constructor) rfl) rfl) ?_
     refine Lac rfl rfl trivial (as_call (ih (hA.sub y hym) (hf4 y hym) (by omega)) (by repeat constructor) (by repeat constructor)) ?_
     rintro _ _ ⟨_, ⟨rfl, rfl⟩, rfl⟩
     refine Lpu rfl rfl trivial (pu_max rfl rfl) ?_
     rw [max_cast, ← deep_take hy]
     refine Las rfl rfl ?_
     refine Lnil ?_
     refine Gs.blk_n ?_
     refine Gs.then_n ?_
     refine Gs.reg ?_
     refine Lpu rfl rfl trivial (pu_addI (z := ((i + 1 : Nat) : Int)) rfl rfl (by omega) (by omega) (by omega)) ?_
     refine Lmv rfl rfl ?_
     refine Lnt ?_
     rw [← hsa]
     exact Gs.again1 (i + 1) (by omega) (by omega) (by repeat constructor) (by repeat constructor)
    ·
     have hge : i = x.ss.length := by have := of_decide_eq_false hc0; omega
     rw [hge, List.take_length]
     refine Gs.exit ?_
     refine Gs.then_x ?_
     refine Gs.then_x ?_
     refine Gs.blk_hit ?_
     refine Gs.then_n ?_
     refine Gsr ?_
     refine Lmv rfl rfl ?_
     refine Lpu rfl rfl trivial (pu_addI (z := ((v0 : Nat) : Int)) rfl rfl (by omega) (by omega) (by omega)) ?_
     refine Las rfl rfl ?_
     refine Lnt ?_
     refine Gs.ret ?_
     exact Gs.fin1 Tryz.results67 rfl _ (⟨rfl, rfl⟩) (by repeat constructor)
end Go.Proofs.YtklgiidfompdpaaGreatDoor
namespace Go.Qu
open Go Go.Sl Go.Gv Go.Ix
theorem part_le {l : List AskV} {f : AskV → Nat} {i : Nat} {y : AskV} (h : l[i]? = some y) : ((l.take i).map f).sum + f y ≤ (l.map f).sum := by
  rw [← sum_take h]
  have e : l = l.take (i + 1) ++ l.drop (i + 1) := (List.take_append_drop _ _).symm
  have : (l.map f).sum = ((l.take (i + 1)).map f).sum + ((l.drop (i + 1)).map f).sum := by rw [← List.sum_append, ← List.map_append, ← e]
  omega
theorem terms_part (d : Nat) (l : List AskV) (hl : ∀ x ∈ l, FewA d x) : (l.map (termsA d)).sum ≤ 30 * (l.map (sizeA d)).sum := by
  induction l with
  | nil => exact Nat.le_refl _
  | cons x l ih =>
    have e1 := ih fun y hy => hl y (by simp [hy])
    have e2 := terms_le d x (hl x (by simp))
    simp only [List.map_cons, List.sum_cons]; omega
end Go.Qu
namespace Go.Proofs.YtklgiidfompdpaaGreatDoor
open Go Go.Sl Go.Gv Go.Kv Go.Po Go.Ix Go.Qu
set_option maxRecDepth 100000
theorem terms14_spec {S : HProp} : ∀ (d : Nat) {x : AskV} (hA : ARd S x) (hF : FewA d x) (hz : sizeA d x ≤ 1000),
    Ct Tryz.prog 57 [askV x] [S] (fun v hs => v = int (termsA d x : Nat) ∧ hs = [S])
  | 0, x, hA, hF, hz => hF.elim
  | d + 1, x, hA, hF, hz => by
    have ih := @terms14_spec S d
    have htl := terms_le (d + 1) x hF
    obtain ⟨hf1, hf2, hf3, hf4⟩ := hF
    obtain ⟨v0, hv0⟩ : ∃ z, z = termsA (d + 1) x := ⟨_, rfl⟩
    have hvd : v0 = if x.ss = [] then max x.ws.length 1 else (x.ss.map (termsA d)).sum := hv0
    have hsz : 1 + (x.ss.map (sizeA d)).sum ≤ 1000 := hz
    have hsl := sum_len d x.ss
    rw [← hv0] at htl ⊢
    refine Ct.intro Tryz.func57 rfl (by kernel_rfl) 29 Tryz.ntmps57 (Nat.le_of_ble_eq_true rfl) fun w0 R => ?_
    refine Gs.slAddr (hA.s.h (by repeat constructor)) fun ab ao ha => ?_
    refine Gsr ?_
    refine Lac rfl rfl trivial (ac_box rfl rfl) ?_
    rintro _ _ ⟨xb, rfl, rfl⟩
    refine Las rfl rfl ?_
    refine Lnt ?_
    refine Gs.seq ?_
    refine Gsr ?_
    refine Lpu rfl rfl trivial (pu_fa fa_26_3 rfl) ?_
    refine Lrd rfl rfl trivial (rd_ld na_24 rfl (Rdc.cl1 (by repeat constructor) rfl)) ?_
    refine Lpu rfl rfl trivial (pu_len Tryz.underlying24 rfl) ?_
    refine Lpu rfl rfl trivial (pu_eq rfl rfl) ?_
    refine Lnt ?_
    refine Gs.cond rfl (fun hc0 => ?_) (fun hc0 => ?_)
    ·
     have he : x.ss = [] := by have := of_decide_eq_true hc0; exact List.length_eq_zero_iff.1 (by omega)
     rw [if_pos he] at hvd
     refine Gsr ?_
     refine Lpu rfl rfl trivial (pu_fa fa_26_2 rfl) ?_
     refine Lrd rfl rfl trivial (rd_ld na_23 rfl (Rdc.cl1 (by repeat constructor) rfl)) ?_
     refine Lpu rfl rfl trivial (pu_len Tryz.underlying23 rfl) ?_
     refine Lpu rfl rfl trivial (pu_max rfl rfl) ?_
     rw [show max ((x.w.xs.length : Nat) : Int) (1 : Int) = ((v0 : Nat) : Int) by rw [hvd]; show max ((x.w.xs.length : Nat) : Int) (1 : Int) = ((max x.w.xs.length 1 : Nat) : Int); omega]
     refine Las rfl rfl ?_
     refine Lnt ?_
     refine Gs.ret ?_
     refine Gs.then_r ?_
     exact Gs.fin1 Tryz.results57 rfl _ (⟨rfl, rfl⟩) (by repeat constructor)
    ·
     have he : ¬ x.ss = [] := fun e => by have := of_decide_eq_false hc0; rw [e] at this; exact this rfl
     rw [if_neg he] at hvd
     have hsa := ha he
     have hs := hA.s
     rw [hsa] at hs
     refine Gs.skip ?_
     refine Gs.then_n ?_
     refine Gsr ?_
     refine Las rfl rfl ?_
     refine Lnt ?_
     refine Gs.seq ?_
     refine Gsr ?_
     refine Las rfl rfl ?_
     refine Lnt ?_
     refine Gs.block ?_
     refine Gs.loop1 (fun i : Nat => i ≤ x.ss.length) (fun i => [(1, ptr xb), (3, int (((x.ss.take i).map (termsA d)).sum : Nat)), (4, int i)]) (fun i => [cl xb 26 (askC x), S] ++ R) (fun i => x.ss.length - i) 0 (Nat.zero_le _) (by repeat constructor) (by repeat constructor) (fun i hi => ?_)
     refine Gs.seq ?_
     refine Gsr ?_
     refine Lmv rfl rfl ?_
     refine Lpu rfl rfl trivial (pu_fa fa_26_3 rfl) ?_
     refine Lrd rfl rfl trivial (rd_ld na_24 rfl (Rdc.cl1 (by repeat constructor) rfl)) ?_
     refine Lpu rfl rfl trivial (pu_len Tryz.underlying24 rfl) ?_
     refine Lpu rfl rfl trivial (pu_lt rfl rfl) ?_
     refine Lnt ?_
     refine Gs.cond rfl (fun hc1 => ?_) (fun hc1 => ?_)
     ·
      have hlt : i < x.ss.length := by have := of_decide_eq_true hc1; omega
      obtain ⟨y, hy⟩ : ∃ y, x.ss[i]? = some y := ⟨x.ss[i], by simp [hlt]⟩
      have hym := List.mem_of_getElem? hy
      have hyt := terms_le d y (hf4 y hym)
      have hpt := part_le hy (f := sizeA d)
      have hpm := terms_part d (x.ss.take i) (fun z hz => hf4 z (List.mem_of_mem_take hz))
      refine Gs.skip ?_
      refine Gs.then_n ?_
      refine Gs.seq ?_
      refine Gs.block ?_
      refine Gs.reg ?_
      refine Lmv rfl rfl ?_
      refine Lpu rfl rfl trivial (pu_fa fa_26_3 rfl) ?_
      refine Lrd rfl rfl trivial (rd_ld na_24 rfl (Rdc.cl1 (by repeat constructor) rfl)) ?_
      rw [hsa]
      refine Lmv rfl rfl ?_
      refine Lpu rfl rfl trivial (pu_ia se_24 rfl rfl (by omega) (by omega)) ?_
      refine Lrd rfl rfl trivial (rd_lda ag_26 rfl (Rdc.el0 (hs.h (by repeat constructor)) hy rfl rfl) rfl) ?_
      refine Lac rfl rfl trivial (as_call (ih (hA.sub y hym) (hf4 y hym) (by omega)) (by repeat constructor) (by repeat constructor)) ?_
      rintro _ _ ⟨_, ⟨rfl, rfl⟩, rfl⟩
      refine Lpu rfl rfl trivial (pu_addI (z := ((((x.ss.take (i + 1)).map (termsA d)).sum : Nat) : Int)) rfl rfl (by rw [sum_take hy]; omega) (by omega) (by omega)) ?_
      refine Las rfl rfl ?_
      refine Lnil ?_
      refine Gs.blk_n ?_
      refine Gs.then_n ?_
      refine Gs.reg ?_
      refine Lmv rfl rfl ?_
      refine Lpu rfl rfl trivial (pu_addI (z := ((i + 1 : Nat) : Int)) rfl rfl (by omega) (by omega) (by omega)) ?_
      refine Las rfl rfl ?_
      refine Lnt ?_
      exact Gs.again1 (i + 1) (by omega) (by omega) (by repeat constructor) (by repeat constructor)
     ·
      have hge : i = x.ss.length := by have := of_decide_eq_false hc1; omega
      rw [hge, List.take_length, ← hvd]
      refine Gs.exit ?_
      refine Gs.then_x ?_
      refine Gs.then_x ?_
      refine Gs.blk_hit ?_
      refine Gs.then_n ?_
      refine Gsr ?_
      refine Lmv rfl rfl ?_
      refine Las rfl rfl ?_
      refine Lnt ?_
      refine Gs.ret ?_
      exact Gs.fin1 Tryz.results57 rfl _ (⟨rfl, rfl⟩) (by repeat constructor)
theorem termsA_spec {S : HProp} : ∀ (d : Nat) {x : AskV} (hA : ARd S x) (hF : FewA d x) (hz : sizeA d x ≤ 1000),
    Ct Tryz.prog 68 [askV x] [S] (fun v hs => v = int (termsA d x : Nat) ∧ hs = [S])
  | 0, x, hA, hF, hz => hF.elim
  | d + 1, x, hA, hF, hz => by
    have ih := @termsA_spec S d
    have htl := terms_le (d + 1) x hF
    obtain ⟨hf1, hf2, hf3, hf4⟩ := hF
    obtain ⟨v0, hv0⟩ : ∃ z, z = termsA (d + 1) x := ⟨_, rfl⟩
    have hvd : v0 = if x.ss = [] then max x.ws.length 1 else (x.ss.map (termsA d)).sum := hv0
    have hsz : 1 + (x.ss.map (sizeA d)).sum ≤ 1000 := hz
    have hsl := sum_len d x.ss
    rw [← hv0] at htl ⊢
    refine Ct.intro Tryz.func68 rfl (by kernel_rfl) 27 Tryz.ntmps68 (Nat.le_of_ble_eq_true rfl) fun w0 R => ?_
    refine Gs.slAddr (hA.s.h (by repeat constructor)) fun ab ao ha => ?_
    refine Gsr ?_
    refine Lac rfl rfl trivial (ac_box rfl rfl) ?_
    rintro _ _ ⟨xb, rfl, rfl⟩
    refine Las rfl rfl ?_
    refine Lnt ?_
    refine Gs.seq ?_
    refine Gsr ?_
    refine Lpu rfl rfl trivial (pu_fa fa_26_3 rfl) ?_
    refine Lrd rfl rfl trivial (rd_ld na_24 rfl (Rdc.cl1 (by repeat constructor) rfl)) ?_
    refine Lpu rfl rfl trivial (pu_len Tryz.underlying24 rfl) ?_
    refine Lpu rfl rfl trivial (pu_eq rfl rfl) ?_
    refine Lnt ?_
    refine Gs.cond rfl (fun hc0 => ?_) (fun hc0 => ?_)
    ·
     have he : x.ss = [] := by have := of_decide_eq_true hc0; exact List.length_eq_zero_iff.1 (by omega)
     rw [if_pos he] at hvd
     refine Gsr ?_
     refine Lpu rfl rfl trivial (pu_fa fa_26_2 rfl) ?_
     refine Lrd rfl rfl trivial (rd_ld na_23 rfl (Rdc.cl1 (by repeat constructor) rfl)) ?_
     refine Lpu rfl rfl trivial (pu_len Tryz.underlying23 rfl) ?_
     refine Lpu rfl rfl trivial (pu_max rfl rfl) ?_
     rw [show max ((x.w.xs.length : Nat) : Int) (1 : Int) = ((v0 : Nat) : Int) by rw [hvd]; show max ((x.w.xs.length : Nat) : Int) (1 : Int) = ((max x.w.xs.length 1 : Nat) : Int); omega]
     refine Las rfl rfl ?_
     refine Lnt ?_
     refine Gs.ret ?_
     refine Gs.then_r ?_
     exact Gs.fin1 Tryz.results68 rfl _ (⟨rfl, rfl⟩) (by repeat constructor)
    ·
     have he : ¬ x.ss = [] := fun e => by have := of_decide_eq_false hc0; rw [e] at this; exact this rfl
     rw [if_neg he] at hvd
     have hsa := ha he
     have hs := hA.s
     rw [hsa] at hs
     refine Gs.skip ?_
     refine Gs.then_n ?_
     refine Gsr ?_
     refine Las rfl rfl ?_
     refine Lnt ?_
     refine Gs.seq ?_
     refine Gsr ?_
     refine Lpu rfl rfl trivial (pu_fa fa_26_3 rfl) ?_
     refine Lrd rfl rfl trivial (rd_ld na_24 rfl (Rdc.cl1 (by repeat constructor) rfl)) ?_
     refine Lpu rfl rfl trivial (pu_len Tryz.underlying24 rfl) ?_
     refine Lmv rfl rfl ?_
     refine Lnt ?_
     refine Gs.block ?_
     refine Gs.loop1 (fun i : Nat => i ≤ x.ss.length) (fun i => [(1, ptr xb), (3, int (((x.ss.take i).map (termsA d)).sum : Nat)), (15, .slice x.sa x.ss.length x.sc), (16, int x.ss.length), (17, int i)]) (fun i => [cl xb 26 (askC x), S] ++ R) (fun i => x.ss.length - i) 0 (Nat.zero_le _) (by repeat constructor) (by repeat constructor) (fun i hi => ?_)
     refine Gsr ?_
     refine Lpu rfl rfl trivial (pu_lt rfl rfl) ?_
     refine Lnt ?_
     refine Gs.seq ?_
     refine Gs.cond rfl (fun hc1 => ?_) (fun hc1 => ?_)
     ·
      have hlt : i < x.ss.length := by have := of_decide_eq_true hc1; omega
      obtain ⟨y, hy⟩ : ∃ y, x.ss[i]? = some y := ⟨x.ss[i], by simp [hlt]⟩
      have hym := List.mem_of_getElem? hy
      have hyt := terms_le d y (hf4 y hym)
      have hpt := part_le hy (f := sizeA d)
      rw [hsa]
      have hpm := terms_part d (x.ss.take i) (fun z hz => hf4 z (List.mem_of_mem_take hz))
      refine Gs.skip ?_
      refine Gs.then_n ?_
      refine Gs.seq ?_
      refine Gs.block ?_
      refine Gsr ?_
      refine Lpu rfl rfl trivial (pu_ia se_24 rfl rfl (by omega) (by omega)) ?_
      refine Lrd rfl rfl trivial (rd_lda ag_26 rfl (Rdc.el0 (hs.h (by repeat constructor)) hy rfl rfl) rfl) ?_
      refine Lac rfl rfl trivial (ac_alloc zv_26 rfl) ?_
      rintro _ _ ⟨vb, rfl, rfl⟩
      refine Lac0 rfl trivial (ac_st sz_26 rfl rfl (by repeat constructor) rfl rfl rfl rfl) ?_
      rintro _ _ rfl
      refine Lnt ?_
      refine Gs.reg ?_
      refine Lmv rfl rfl ?_
      refine Lrd rfl rfl trivial (rd_lda ag_26 rfl (Rdc.cl 4 (by repeat constructor) rfl) rfl) ?_
      refine Lac rfl rfl trivial (as_call (ih (hA.sub y hym) (hf4 y hym) (by omega)) (by repeat constructor) (by repeat constructor)) ?_
      rintro _ _ ⟨_, ⟨rfl, rfl⟩, rfl⟩
      refine Lpu rfl rfl trivial (pu_addI (z := ((((x.ss.take (i + 1)).map (termsA d)).sum : Nat) : Int)) rfl rfl (by rw [sum_take hy]; omega) (by omega) (by omega)) ?_
      refine Las rfl rfl ?_
      refine Lnil ?_
      refine Gs.blk_n ?_
      refine Gs.then_n ?_
      refine Gs.reg ?_
      refine Lpu rfl rfl trivial (pu_addI (z := ((i + 1 : Nat) : Int)) rfl rfl (by omega) (by omega) (by omega)) ?_
      refine Lmv rfl rfl ?_
      refine Lnt ?_
      rw [← hsa]
      exact Gs.again1 (i + 1) (by omega) (by omega) (by repeat constructor) (by repeat constructor)
     ·
      have hge : i = x.ss.length := by have := of_decide_eq_false hc1; omega
      rw [hge, List.take_length, ← hvd]
      refine Gs.exit ?_
      refine Gs.then_x ?_
      refine Gs.then_x ?_
      refine Gs.blk_hit ?_
      refine Gs.then_n ?_
      refine Gsr ?_
      refine Lmv rfl rfl ?_
      refine Las rfl rfl ?_
      refine Lnt ?_
      refine Gs.ret ?_
      exact Gs.fin1 Tryz.results68 rfl _ (⟨rfl, rfl⟩) (by repeat constructor)
end Go.Proofs.YtklgiidfompdpaaGreatDoor
namespace Go.Ix
open Go Go.Lib
end Go.Ix
namespace Go.Proofs.YtklgiidfompdpaaGreatDoor
open Go Go.Sl Go.Gv Go.Kv Go.Po Go.Ix
end Go.Proofs.YtklgiidfompdpaaGreatDoor
namespace Go.Sl
open Go
section
variable {P : Program} {w0 : World} {env : Env} {H : List HProp} {d : Option Tmp} {x : Operand} {src dst e ty : TypeId} {pos : String} {af : Array Edge} {g : Option (Nat × Bool)}
end
end Go.Sl
namespace Go.Ix
open Go Go.Lib
end Go.Ix
namespace Go.Proofs.YtklgiidfompdpaaGreatDoor
open Go Go.Sl Go.Gv Go.Kv Go.Po Go.Ix
set_option maxRecDepth 100000
end Go.Proofs.YtklgiidfompdpaaGreatDoor
namespace Go.Proofs.YtklgiidfompdpaaGreatDoor
open Go Go.Sl Go.Gv Go.Kv Go.Po Go.Ix
set_option maxRecDepth 100000
end Go.Proofs.YtklgiidfompdpaaGreatDoor
namespace Go.Proofs
open Go.Shelf
def Tryz.laysCF_ren : Go.Shelf.Ren := ⟨fun | 17 => 207 | 15 => 252 | 20 => 271 | n => n, fun | 9 => 9 | 23 => 114 | 4 => 4 | 3 => 3 | 0 => 0 | 21 => 21 | n => n, fun | n => n⟩
theorem Tryz.laysCF : Go.Proofs.LaysGw.n17 Tryz.prog Tryz.laysCF_ren := {
  mixed := by kernel_rfl
  f15 := Tryz.func252.trans (congrArg some (by kernel_rfl))
  f17 := Tryz.func207.trans (congrArg some (by kernel_rfl))
  f20 := Tryz.func271.trans (congrArg some (by kernel_rfl))
  t0 := Tryz.underlying0
  a0 := Tryz.isAgg0
  z0 := Tryz.sizeOf0
  v0 := Tryz.zeroValue0
  i0 := by kernel_rfl
  t3 := Tryz.underlying3
  a3 := Tryz.isAgg3
  z3 := Tryz.sizeOf3
  v3 := Tryz.zeroValue3
  i3 := by kernel_rfl
  t4 := Tryz.underlying4
  a4 := Tryz.isAgg4
  z4 := Tryz.sizeOf4
  v4 := Tryz.zeroValue4
  i4 := by kernel_rfl
  t9 := Tryz.underlying9
  a9 := Tryz.isAgg9
  z9 := Tryz.sizeOf9
  v9 := Tryz.zeroValue9
  i9 := by kernel_rfl
  t21 := Tryz.underlying21
  a21 := Tryz.isAgg21
  z21 := Tryz.sizeOf21
  v21 := Tryz.zeroValue21
  i21 := by kernel_rfl
  t23 := Tryz.underlying114
  a23 := Tryz.isAgg114
  z23 := Tryz.sizeOf114
  v23 := Tryz.zeroValue114
  i23 := by kernel_rfl }
def Tryz.laysItoa_ren : Go.Shelf.Ren := ⟨fun | 171 => 155 | 243 => 201 | 246 => 249 | 283 => 265 | 284 => 266 | 285 => 267 | 286 => 268 | 129 => 194 | 317 => 275 | 318 => 276 | 319 => 277 | 320 => 278 | 337 => 279 | 338 => 280 | n => n, fun | 3 => 3 | 9 => 9 | 2 => 2 | 4 => 4 | 171 => 298 | 0 => 0 | 53 => 229 | 37 => 174 | 5 => 5 | 173 => 300 | 212 => 309 | 51 => 193 | 20 => 20 | 213 => 310 | 46 => 185 | 232 => 311 | 233 => 312 | n => n, fun | 17 => 6 | 18 => 8 | 19 => 9 | n => n⟩
theorem Tryz.laysItoa : Go.Proofs.LaysM.n171 Tryz.prog Tryz.laysItoa_ren := {
  mixed := by kernel_rfl
  f129 := Tryz.func194.trans (congrArg some (by kernel_rfl))
  f171 := Tryz.func155.trans (congrArg some (by kernel_rfl))
  f243 := Tryz.func201.trans (congrArg some (by kernel_rfl))
  f246 := Tryz.func249.trans (congrArg some (by kernel_rfl))
  f283 := Tryz.func265.trans (congrArg some (by kernel_rfl))
  f284 := Tryz.func266.trans (congrArg some (by kernel_rfl))
  f285 := Tryz.func267.trans (congrArg some (by kernel_rfl))
  f286 := Tryz.func268.trans (congrArg some (by kernel_rfl))
  f317 := Tryz.func275.trans (congrArg some (by kernel_rfl))
  f318 := Tryz.func276.trans (congrArg some (by kernel_rfl))
  f319 := Tryz.func277.trans (congrArg some (by kernel_rfl))
  f320 := Tryz.func278.trans (congrArg some (by kernel_rfl))
  f337 := Tryz.func279.trans (congrArg some (by kernel_rfl))
  f338 := Tryz.func280.trans (congrArg some (by kernel_rfl))
  t0 := Tryz.underlying0
  a0 := Tryz.isAgg0
  z0 := Tryz.sizeOf0
  v0 := Tryz.zeroValue0
  t2 := Tryz.underlying2
  a2 := Tryz.isAgg2
  z2 := Tryz.sizeOf2
  v2 := Tryz.zeroValue2
  t3 := Tryz.underlying3
  a3 := Tryz.isAgg3
  z3 := Tryz.sizeOf3
  v3 := Tryz.zeroValue3
  t4 := Tryz.underlying4
  a4 := Tryz.isAgg4
  z4 := Tryz.sizeOf4
  v4 := Tryz.zeroValue4
  t5 := Tryz.underlying5
  a5 := Tryz.isAgg5
  z5 := Tryz.sizeOf5
  v5 := Tryz.zeroValue5
  t9 := Tryz.underlying9
  a9 := Tryz.isAgg9
  z9 := Tryz.sizeOf9
  v9 := Tryz.zeroValue9
  t20 := Tryz.underlying20
  a20 := Tryz.isAgg20
  z20 := Tryz.sizeOf20
  v20 := Tryz.zeroValue20
  t37 := Tryz.underlying174
  a37 := Tryz.isAgg174
  z37 := Tryz.sizeOf174
  v37 := Tryz.zeroValue174
  t46 := Tryz.underlying185
  a46 := Tryz.isAgg185
  z46 := Tryz.sizeOf185
  v46 := Tryz.zeroValue185
  t51 := Tryz.underlying193
  a51 := Tryz.isAgg193
  z51 := Tryz.sizeOf193
  v51 := Tryz.zeroValue193
  t53 := Tryz.underlying229
  a53 := Tryz.isAgg229
  z53 := Tryz.sizeOf229
  v53 := Tryz.zeroValue229
  t171 := Tryz.underlying298
  a171 := Tryz.isAgg298
  z171 := Tryz.sizeOf298
  v171 := Tryz.zeroValue298
  t173 := Tryz.underlying300
  a173 := Tryz.isAgg300
  z173 := Tryz.sizeOf300
  v173 := Tryz.zeroValue300
  t212 := Tryz.underlying309
  a212 := Tryz.isAgg309
  z212 := Tryz.sizeOf309
  v212 := Tryz.zeroValue309
  t213 := Tryz.underlying310
  a213 := Tryz.isAgg310
  z213 := Tryz.sizeOf310
  t232 := Tryz.underlying311
  a232 := Tryz.isAgg311
  z232 := Tryz.sizeOf311
  v232 := Tryz.zeroValue311
  t233 := Tryz.underlying312
  a233 := Tryz.isAgg312
  z233 := Tryz.sizeOf312
  v233 := Tryz.zeroValue312
  g17 := by kernel_rfl
  g18 := by kernel_rfl
  g19 := by kernel_rfl
  i0 := by kernel_rfl
  i2 := by kernel_rfl
  i3 := by kernel_rfl
  i4 := by kernel_rfl
  i5 := by kernel_rfl
  i9 := by kernel_rfl
  i20 := by kernel_rfl
  i37 := by kernel_rfl
  i46 := by kernel_rfl
  i51 := by kernel_rfl
  i53 := by kernel_rfl
  i171 := by kernel_rfl
  i173 := by kernel_rfl
  i212 := by kernel_rfl
  i232 := by kernel_rfl
  i233 := by kernel_rfl
  m17 := by kernel_rfl
  m18 := by kernel_rfl
  m19 := by kernel_rfl }
def Tryz.laysJoin_ren : Go.Shelf.Ren := ⟨fun | 156 => 156 | 165 => 202 | 166 => 203 | 169 => 143 | 240 => 182 | 241 => 250 | 276 => 238 | 277 => 269 | n => n, fun | 31 => 23 | 9 => 9 | 3 => 3 | 4 => 4 | 0 => 0 | 20 => 20 | 72 => 176 | 76 => 179 | 70 => 173 | 37 => 174 | 75 => 178 | 127 => 220 | 164 => 268 | 5 => 5 | 80 => 181 | n => n, fun | n => n⟩
theorem Tryz.laysJoin : Go.Proofs.Lays.n156 Tryz.prog Tryz.laysJoin_ren := {
  mixed := by kernel_rfl
  f156 := Tryz.func156.trans (congrArg some (by kernel_rfl))
  f165 := Tryz.func202.trans (congrArg some (by kernel_rfl))
  f166 := Tryz.func203.trans (congrArg some (by kernel_rfl))
  f169 := Tryz.func143.trans (congrArg some (by kernel_rfl))
  f240 := Tryz.func182.trans (congrArg some (by kernel_rfl))
  f241 := Tryz.func250.trans (congrArg some (by kernel_rfl))
  f276 := Tryz.func238.trans (congrArg some (by kernel_rfl))
  f277 := Tryz.func269.trans (congrArg some (by kernel_rfl))
  t0 := Tryz.underlying0
  a0 := Tryz.isAgg0
  z0 := Tryz.sizeOf0
  v0 := Tryz.zeroValue0
  t3 := Tryz.underlying3
  a3 := Tryz.isAgg3
  z3 := Tryz.sizeOf3
  v3 := Tryz.zeroValue3
  t4 := Tryz.underlying4
  a4 := Tryz.isAgg4
  z4 := Tryz.sizeOf4
  v4 := Tryz.zeroValue4
  t9 := Tryz.underlying9
  a9 := Tryz.isAgg9
  z9 := Tryz.sizeOf9
  v9 := Tryz.zeroValue9
  t20 := Tryz.underlying20
  a20 := Tryz.isAgg20
  z20 := Tryz.sizeOf20
  v20 := Tryz.zeroValue20
  t31 := Tryz.underlying23
  a31 := Tryz.isAgg23
  z31 := Tryz.sizeOf23
  v31 := Tryz.zeroValue23
  t37 := Tryz.underlying174
  a37 := Tryz.isAgg174
  z37 := Tryz.sizeOf174
  v37 := Tryz.zeroValue174
  t70 := Tryz.underlying173
  a70 := Tryz.isAgg173
  z70 := Tryz.sizeOf173
  v70 := Tryz.zeroValue173
  t72 := Tryz.underlying176
  a72 := Tryz.isAgg176
  z72 := Tryz.sizeOf176
  v72 := Tryz.zeroValue176
  t75 := Tryz.underlying178
  a75 := Tryz.isAgg178
  z75 := Tryz.sizeOf178
  v75 := Tryz.zeroValue178
  t76 := Tryz.underlying179
  a76 := Tryz.isAgg179
  z76 := Tryz.sizeOf179
  v76 := Tryz.zeroValue179
  t127 := Tryz.underlying220
  a127 := Tryz.isAgg220
  z127 := Tryz.sizeOf220
  v127 := Tryz.zeroValue220
  t164 := Tryz.underlying268
  a164 := Tryz.isAgg268
  z164 := Tryz.sizeOf268
  v164 := Tryz.zeroValue268 }
end Go.Proofs
namespace Go.Ix
open Go Go.Sl Go.Gv
end Go.Ix
namespace Go.Proofs.YtklgiidfompdpaaGreatDoor
open Go Go.Sl Go.Gv Go.Kv Go.Po Go.Ix Go.Qu Go.Shelf
set_option maxRecDepth 100000
def oneB (s : ByteArray) : Bool := decide (s ≠ ⟨#[]⟩) && validS s && !decide (0 ≤ Lib.idxFunc notW true s)
/-- May a word not be a question's? -/
def oddB (s : ByteArray) : Bool := decide (40 < s.size) || !oneB s || decide (normB s ≠ s)
theorem containsO_spec {h0 : Hp} (T : TabX h0) (s : ByteArray) : Ct Tryz.prog 207 [.string s, .func (.func 94) #[] #[]] [ro h0] (fun v hs => v = .bool (decide (0 ≤ Lib.idxFunc notW true s)) ∧ hs = [ro h0]) :=
  Ct.ofBelow Tryz.func207 rfl (by kernel_rfl) (V := fun _ => .bool (decide (0 ≤ Lib.idxFunc notW true s))) (fun w0 w R st => Any.strings_ContainsFunc_grows Tryz.laysCF 94 #[] (enters_of Tryz.func94 (by kernel_rfl) rfl) notW s w (other_pays T (Sat.ro st))) (fun _ => ⟨rfl, rfl⟩)
theorem oneT_spec {h0 : Hp} (T : TabX h0) (s : ByteArray) (hs : s.size ≤ 100000) : Ct Tryz.prog 164 [.string s] [ro h0] (fun v hs => v = .bool (oneB s) ∧ hs = [ro h0]) := by
  refine Ct.intro Tryz.func164 rfl (by kernel_rfl) 14 Tryz.ntmps164 (Nat.le_of_ble_eq_true rfl) fun w0 R => ?_
  refine Gsr ?_
  refine Las rfl rfl ?_
  refine Lnt ?_
  refine Gsr ?_
  refine Lmv rfl rfl ?_
  refine Lpu rfl rfl trivial (pu_neS rfl rfl) ?_
  refine LpuB rfl rfl trivial (pu_move rfl) (fun hg2 => ?_) (fun hg2 => ?_)
  ·
   refine Lpu rfl rfl ⟨_, rfl, rfl⟩ (pu_move rfl) ?_
   refine Lac rfl rfl ⟨_, rfl, rfl⟩ (as_call (valid_spec T.1 s (by omega)) (by repeat constructor) (by repeat constructor)) ?_
   rintro _ _ ⟨_, ⟨rfl, rfl⟩, rfl⟩
   refine Lpu rfl rfl trivial (by first | exact pu_pick_t rfl rfl | exact pu_pick_f rfl rfl) ?_
   refine LpuB rfl rfl trivial (pu_move rfl) (fun hg6 => ?_) (fun hg6 => ?_)
   ·
    refine Lpu rfl rfl ⟨_, rfl, rfl⟩ (pu_move rfl) ?_
    refine Lac rfl rfl ⟨_, rfl, rfl⟩ (as_call (containsO_spec T s) (by repeat constructor) (by repeat constructor)) ?_
    rintro _ _ ⟨_, ⟨rfl, rfl⟩, rfl⟩
    refine Lpu rfl rfl ⟨_, rfl, rfl⟩ (pu_not rfl) ?_
    refine Lpu rfl rfl trivial (by first | exact pu_pick_t rfl rfl | exact pu_pick_f rfl rfl) ?_
    refine Las rfl rfl ?_
    refine Lnt ?_
    refine Gs.ret ?_
    exact Gs.fin1 Tryz.results164 rfl _ (⟨by
      first
        | rw [show oneB s = !decide (0 ≤ Lib.idxFunc notW true s) by unfold oneB; rw [show decide (s ≠ ⟨#[]⟩) = true from hg2, hg6]; rfl]
        | rw [show oneB s = false by unfold oneB; rw [show decide (s ≠ ⟨#[]⟩) = true from hg2, hg6]; rfl]
        | rw [show oneB s = false by unfold oneB; rw [show decide (s ≠ ⟨#[]⟩) = false from hg2]; rfl], rfl⟩) (by repeat constructor)
   ·
    refine Loff rfl rfl rfl rfl rfl rfl ?_
    refine Loff rfl rfl rfl rfl rfl rfl ?_
    refine Loff rfl rfl rfl rfl rfl rfl ?_
    refine Lpu rfl rfl trivial (by first | exact pu_pick_t rfl rfl | exact pu_pick_f rfl rfl) ?_
    refine Las rfl rfl ?_
    refine Lnt ?_
    refine Gs.ret ?_
    exact Gs.fin1 Tryz.results164 rfl _ (⟨by
      first
        | rw [show oneB s = !decide (0 ≤ Lib.idxFunc notW true s) by unfold oneB; rw [show decide (s ≠ ⟨#[]⟩) = true from hg2, hg6]; rfl]
        | rw [show oneB s = false by unfold oneB; rw [show decide (s ≠ ⟨#[]⟩) = true from hg2, hg6]; rfl]
        | rw [show oneB s = false by unfold oneB; rw [show decide (s ≠ ⟨#[]⟩) = false from hg2]; rfl], rfl⟩) (by repeat constructor)
  ·
   refine Loff rfl rfl rfl rfl rfl rfl ?_
   refine Loff rfl rfl rfl rfl rfl rfl ?_
   refine Lpu rfl rfl trivial (by first | exact pu_pick_t rfl rfl | exact pu_pick_f rfl rfl) ?_
   refine Lmv rfl rfl ?_
   refine Loff rfl rfl rfl rfl rfl rfl ?_
   refine Loff rfl rfl rfl rfl rfl rfl ?_
   refine Loff rfl rfl rfl rfl rfl rfl ?_
   refine Lpu rfl rfl trivial (by first | exact pu_pick_t rfl rfl | exact pu_pick_f rfl rfl) ?_
   refine Las rfl rfl ?_
   refine Lnt ?_
   refine Gs.ret ?_
   exact Gs.fin1 Tryz.results164 rfl _ (⟨by
     first
       | rw [show oneB s = !decide (0 ≤ Lib.idxFunc notW true s) by unfold oneB; rw [show decide (s ≠ ⟨#[]⟩) = true from hg2, hg6]; rfl]
       | rw [show oneB s = false by unfold oneB; rw [show decide (s ≠ ⟨#[]⟩) = true from hg2, hg6]; rfl]
       | rw [show oneB s = false by unfold oneB; rw [show decide (s ≠ ⟨#[]⟩) = false from hg2]; rfl], rfl⟩) (by repeat constructor)
theorem oddT_spec {h0 : Hp} (T : TabX h0) (s : ByteArray) (hs : s.size ≤ maxLen) : Ct Tryz.prog 118 [.string s] [ro h0] (fun v hs => v = .bool (oddB s) ∧ hs = [ro h0]) := by
  refine Ct.intro Tryz.func118 rfl (by kernel_rfl) 17 Tryz.ntmps118 (Nat.le_of_ble_eq_true rfl) fun w0 R => ?_
  refine Gsr ?_
  refine Las rfl rfl ?_
  refine Lnt ?_
  refine Gsr ?_
  refine Lmv rfl rfl ?_
  refine Lpu rfl rfl trivial (pu_lenS Tryz.underlying9 rfl) ?_
  refine Lpu rfl rfl trivial (pu_gt rfl rfl) ?_
  refine LpuB rfl rfl trivial (pu_move rfl) (fun hg3 => ?_) (fun hg3 => ?_)
  ·
   refine Loff rfl rfl rfl rfl rfl rfl ?_
   refine Loff rfl rfl rfl rfl rfl rfl ?_
   refine Loff rfl rfl rfl rfl rfl rfl ?_
   refine Lpu rfl rfl trivial (by first | exact pu_pick_t rfl rfl | exact pu_pick_f rfl rfl) ?_
   refine Lmv rfl rfl ?_
   refine Loff rfl rfl rfl rfl rfl rfl ?_
   refine Loff rfl rfl rfl rfl rfl rfl ?_
   refine Loff rfl rfl rfl rfl rfl rfl ?_
   refine Loff rfl rfl rfl rfl rfl rfl ?_
   refine Lpu rfl rfl trivial (by first | exact pu_pick_t rfl rfl | exact pu_pick_f rfl rfl) ?_
   refine Las rfl rfl ?_
   refine Lnt ?_
   refine Gs.ret ?_
   exact Gs.fin1 Tryz.results118 rfl _ (⟨by
     first
       | rw [show oddB s = decide (normB s ≠ s) by unfold oddB; rw [show decide (40 < s.size) = false from decide_eq_false (by have := of_decide_eq_false hg3; omega), hg8]; rfl]
       | rw [show oddB s = true by unfold oddB; rw [hg8, Bool.or_true, Bool.true_or]]
       | rw [show oddB s = true by unfold oddB; rw [show decide (40 < s.size) = true from decide_eq_true (by have := of_decide_eq_true hg3; omega)]; rfl], rfl⟩) (by repeat constructor)
  ·
   refine Lpu rfl rfl ⟨_, rfl, rfl⟩ (pu_move rfl) ?_
   refine Lac rfl rfl ⟨_, rfl, rfl⟩ (as_call (oneT_spec T s (by have := of_decide_eq_false hg3; omega)) (by repeat constructor) (by repeat constructor)) ?_
   rintro _ _ ⟨_, ⟨rfl, rfl⟩, rfl⟩
   refine Lpu rfl rfl ⟨_, rfl, rfl⟩ (pu_not rfl) ?_
   refine Lpu rfl rfl trivial (by first | exact pu_pick_t rfl rfl | exact pu_pick_f rfl rfl) ?_
   refine LpuB rfl rfl trivial (pu_move rfl) (fun hg8 => ?_) (fun hg8 => ?_)
   ·
    refine Loff rfl rfl rfl rfl rfl rfl ?_
    refine Loff rfl rfl rfl rfl rfl rfl ?_
    refine Loff rfl rfl rfl rfl rfl rfl ?_
    refine Loff rfl rfl rfl rfl rfl rfl ?_
    refine Lpu rfl rfl trivial (by first | exact pu_pick_t rfl rfl | exact pu_pick_f rfl rfl) ?_
    refine Las rfl rfl ?_
    refine Lnt ?_
    refine Gs.ret ?_
    exact Gs.fin1 Tryz.results118 rfl _ (⟨by
      first
        | rw [show oddB s = decide (normB s ≠ s) by unfold oddB; rw [show decide (40 < s.size) = false from decide_eq_false (by have := of_decide_eq_false hg3; omega), hg8]; rfl]
        | rw [show oddB s = true by unfold oddB; rw [hg8, Bool.or_true, Bool.true_or]]
        | rw [show oddB s = true by unfold oddB; rw [show decide (40 < s.size) = true from decide_eq_true (by have := of_decide_eq_true hg3; omega)]; rfl], rfl⟩) (by repeat constructor)
   ·
    refine Lpu rfl rfl ⟨_, rfl, rfl⟩ (pu_move rfl) ?_
    refine Lac rfl rfl ⟨_, rfl, rfl⟩ (as_call (norm_spec T s (by have := of_decide_eq_false hg3; omega)) (by repeat constructor) (by repeat constructor)) ?_
    rintro _ _ ⟨_, ⟨rfl, rfl⟩, rfl⟩
    refine Lpu rfl rfl ⟨_, rfl, rfl⟩ (pu_move rfl) ?_
    refine Lpu rfl rfl ⟨_, rfl, rfl⟩ (pu_neS rfl rfl) ?_
    refine Lpu rfl rfl trivial (by first | exact pu_pick_t rfl rfl | exact pu_pick_f rfl rfl) ?_
    refine Las rfl rfl ?_
    refine Lnt ?_
    refine Gs.ret ?_
    exact Gs.fin1 Tryz.results118 rfl _ (⟨by
      first
        | rw [show oddB s = decide (normB s ≠ s) by unfold oddB; rw [show decide (40 < s.size) = false from decide_eq_false (by have := of_decide_eq_false hg3; omega), hg8]; rfl]
        | rw [show oddB s = true by unfold oddB; rw [hg8, Bool.or_true, Bool.true_or]]
        | rw [show oddB s = true by unfold oddB; rw [show decide (40 < s.size) = true from decide_eq_true (by have := of_decide_eq_true hg3; omega)]; rfl], rfl⟩) (by repeat constructor)
end Go.Proofs.YtklgiidfompdpaaGreatDoor
namespace Go.Sl
open Go
/-- B stands within U. -/
def Inn (B U : HProp) : Prop := ∃ A, ∀ w0 w R, Sat w0 w (U :: R) ↔ Sat w0 w (B :: A :: R)
theorem Inn.refl {B : HProp} : Inn B B := ⟨big [], fun _ _ _ => ⟨fun s => (s.bigNil).take (.tl .hd), fun s => (s.take (.tl .hd)).drop⟩⟩
theorem Inn.two1 {A B : HProp} : Inn A (two A B) := ⟨B, fun _ _ _ => Sat.two⟩
theorem Inn.trans {A B C : HProp} (h : Inn A B) (k : Inn B C) : Inn A C := by
  obtain ⟨X, hx⟩ := h
  obtain ⟨Y, hy⟩ := k
  refine ⟨two X Y, fun w0 w R => ?_⟩
  rw [hy, hx]
  constructor
  · intro s
    exact (Sat.two.2 (s.takes (As := [X, Y, A]) (by repeat constructor))).take (.tl .hd)
  · intro s
    exact (Sat.two.1 (s.take (.tl .hd))).takes (As := [A, X, Y]) (by repeat constructor)
theorem Ct.inn {P : Program} {f : FuncId} {args : List Value} {B U : HProp} {post : Value → List HProp → Prop} (c : Ct P f args [B] post) (i : Inn B U) (h : ∀ v hs, post v hs → ∃ r, hs = B :: r) : Ct P f args [U] (fun v hs => ∃ r, post v (B :: r) ∧ hs = U :: r) := by
  obtain ⟨A, hA⟩ := i
  refine ⟨c.enters, fun w0 w R s => (c.calls w0 w (A :: R) ((hA _ _ _).1 s)).mono fun _ _ ⟨v, hs, he, hp, hsat⟩ => ?_⟩
  obtain ⟨r, rfl⟩ := h v hs hp
  refine ⟨v, U :: r, he, ⟨r, hp, rfl⟩, (hA _ _ _).2 ?_⟩
  have h1 : Sat w0 _ ((B :: r) ++ A :: R) := hsat
  have h2 := h1.take (take_mid (L1 := B :: r) (L2 := R))
  exact h2.take (.tl .hd)
/-- A contract that changes nothing. -/
theorem Ct.inn0 {P : Program} {f : FuncId} {args : List Value} {B U : HProp} {x : Value} (c : Ct P f args [B] (fun v hs => v = x ∧ hs = [B])) (i : Inn B U) : Ct P f args [U] (fun v hs => v = x ∧ hs = [U]) :=
  (c.inn i fun _ _ h => ⟨[], h.2⟩).mono fun v hs ⟨r, ⟨h1, h2⟩, h3⟩ => ⟨h1, by cases h2; exact h3⟩
end Go.Sl
namespace Go.Proofs.YtklgiidfompdpaaGreatDoor
open Go Go.Sl Go.Gv Go.Kv Go.Po Go.Ix Go.Qu Go.Shelf
set_option maxRecDepth 100000
/-- A part of the heap in which the tables stand. -/
def TabU (U : HProp) : Prop := ∃ h0, TabX h0 ∧ Inn (Sl.ro h0) U
theorem TabU.ct {U : HProp} (h : TabU U) {f : FuncId} {args : List Value} {x : Value} (c : ∀ h0, TabX h0 → Ct Tryz.prog f args [Sl.ro h0] (fun v hs => v = x ∧ hs = [Sl.ro h0])) : Ct Tryz.prog f args [U] (fun v hs => v = x ∧ hs = [U]) := by
  obtain ⟨h0, T, i⟩ := h
  exact (c h0 T).inn0 i
theorem indexS_spec {S : HProp} {g : FuncId} {q : ByteArray → Bool} {a : Option Addr} {c : Nat} {ls : List ByteArray} (hS : Srd S 1 strC a ls) (hg : ∀ l ∈ ls, Ct Tryz.prog g ([] ++ [.string l] ++ []) [S] (fun v hs => v = .bool (q l) ∧ hs = [S])) (hl : ls.length ≤ 1000) :
    Ct Tryz.prog 163 [.slice a ls.length c, .func (.func g) #[] #[]] [S] (fun v hs => (∃ z : Int, v = int z ∧ decide (0 ≤ z) = ls.any q) ∧ hs = [S]) := by
  refine Ct.intro Tryz.func163 rfl (by kernel_rfl) 19 Tryz.ntmps163 (Nat.le_of_ble_eq_true rfl) fun w0 R => ?_
  refine Gs.slAddr (hS.h (by repeat constructor)) fun ab ao ha => ?_
  refine Gsr ?_
  refine Las rfl rfl ?_
  refine Lnt ?_
  refine Gs.seq ?_
  refine Gsr ?_
  refine Lmv rfl rfl ?_
  refine Lpu rfl rfl trivial (pu_len Tryz.underlying23 rfl) ?_
  refine Lmv rfl rfl ?_
  refine Lnt ?_
  refine Gs.block ?_
  refine Gs.loop1 (fun i : Nat => i ≤ ls.length ∧ (ls.take i).any q = false) (fun i => [(0, .slice a ls.length c), (1, .func (.func g) #[] #[]), (7, int ls.length), (8, int i)]) (fun i => [S] ++ R) (fun i => ls.length - i) 0 (⟨Nat.zero_le _, rfl⟩) (by repeat constructor) (by repeat constructor) (fun i ⟨hi, hq⟩ => ?_)
  refine Gsr ?_
  refine Lpu rfl rfl trivial (pu_lt rfl rfl) ?_
  refine Lnt ?_
  refine Gs.seq ?_
  refine Gs.cond rfl (fun hc0 => ?_) (fun hc0 => ?_)
  ·
   have hlt : i < ls.length := by have := of_decide_eq_true hc0; omega
   obtain ⟨x, hx⟩ : ∃ x, ls[i]? = some x := ⟨ls[i], by simp [hlt]⟩
   obtain rfl := ha (by rintro rfl; simp at hlt)
   have hm := List.mem_of_getElem? hx
   refine Gs.skip ?_
   refine Gs.then_n ?_
   refine Gs.seq ?_
   refine Gs.block ?_
   refine Gsr ?_
   refine Lmv rfl rfl ?_
   refine Las rfl rfl ?_
   refine Lnt ?_
   refine Gsr ?_
   refine Lmv rfl rfl ?_
   refine Lmv rfl rfl ?_
   refine Lmv rfl rfl ?_
   refine Lpu rfl rfl trivial (pu_ia se_23 rfl rfl (by omega) (by omega)) ?_
   refine Lrd rfl rfl trivial (rd_ld na_9 rfl (Rdc.el0 (hS.h (by repeat constructor)) hx rfl rfl)) ?_
   refine Lac rfl rfl trivial (as_callV rfl (hg x hm) (by repeat constructor) (by repeat constructor)) ?_
   rintro _ _ ⟨_, ⟨rfl, rfl⟩, rfl⟩
   refine Lnt ?_
   refine Gs.cond rfl (fun hc1 => ?_) (fun hc1 => ?_)
   ·
    have hyes : ls.any q = true := List.any_eq_true.2 ⟨x, hm, hc1⟩
    refine Gsr ?_
    refine Lmv rfl rfl ?_
    refine Las rfl rfl ?_
    refine Lnt ?_
    refine Gs.ret ?_
    refine Gs.blk_r ?_
    refine Gs.then_r ?_
    refine Gs.then_r ?_
    refine Gs.blk_r ?_
    refine Gs.then_r ?_
    exact Gs.fin1 Tryz.results163 rfl _ (⟨⟨_, rfl, by rw [hyes]; exact decide_eq_true (by omega)⟩, rfl⟩) (by repeat constructor)
   ·
    have hno : (ls.take (i + 1)).any q = false := by rw [List.take_add_one, hx, List.any_append, hq]; simp [hc1]
    refine Gs.skip ?_
    refine Gs.blk_n ?_
    refine Gs.then_n ?_
    refine Gs.reg ?_
    refine Lpu rfl rfl trivial (by first | exact pu_addI rfl rfl rfl (by omega) (by omega) | exact pu_add rfl rfl) ?_
    refine Lmv rfl rfl ?_
    refine Lnt ?_
    exact Gs.again1 (i + 1) ⟨hlt, hno⟩ (by show ls.length - (i + 1) < ls.length - i; omega) (by repeat constructor) (by repeat constructor)
  ·
   have hge : i = ls.length := by have := of_decide_eq_false hc0; omega
   rw [hge, List.take_length] at hq
   refine Gs.exit ?_
   refine Gs.then_x ?_
   refine Gs.then_x ?_
   refine Gs.blk_hit ?_
   refine Gs.then_n ?_
   refine Gsr ?_
   refine Las rfl rfl ?_
   refine Lnt ?_
   refine Gs.ret ?_
   exact Gs.fin1 Tryz.results163 rfl _ (⟨⟨_, rfl, by rw [hq]; rfl⟩, rfl⟩) (by repeat constructor)
theorem containsS_spec {S : HProp} {g : FuncId} {q : ByteArray → Bool} {a : Option Addr} {c : Nat} {ls : List ByteArray} (hS : Srd S 1 strC a ls) (hg : ∀ l ∈ ls, Ct Tryz.prog g ([] ++ [.string l] ++ []) [S] (fun v hs => v = .bool (q l) ∧ hs = [S])) (hl : ls.length ≤ 1000) :
    Ct Tryz.prog 117 [.slice a ls.length c, .func (.func g) #[] #[]] [S] (fun v hs => v = .bool (ls.any q) ∧ hs = [S]) := by
  refine Ct.intro Tryz.func117 rfl (by kernel_rfl) 9 Tryz.ntmps117 (Nat.le_of_ble_eq_true rfl) fun w0 R => ?_
  refine Gsr ?_
  refine Las rfl rfl ?_
  refine Lnt ?_
  refine Gsr ?_
  refine Lmv rfl rfl ?_
  refine Lmv rfl rfl ?_
  refine Lac rfl rfl trivial (as_call (indexS_spec hS hg hl) (by repeat constructor) (by repeat constructor)) ?_
  rintro _ _ ⟨_, ⟨⟨z, rfl, hz⟩, rfl⟩, rfl⟩
  refine Lpu rfl rfl trivial (pu_ge rfl rfl) ?_
  refine Las rfl rfl ?_
  refine Lnt ?_
  refine Gs.ret ?_
  exact Gs.fin1 Tryz.results117 rfl _ (⟨by rw [← hz], rfl⟩) (by repeat constructor)
theorem indexA_spec {S : HProp} {g : FuncId} {q : AskV → Bool} {a : Option Addr} {c : Nat} {ls : List AskV} (hS : Srd S 4 askC a ls) (hg : ∀ l ∈ ls, Ct Tryz.prog g ([] ++ [askV l] ++ []) [S] (fun v hs => v = .bool (q l) ∧ hs = [S])) (hl : ls.length ≤ 1000) :
    Ct Tryz.prog 165 [.slice a ls.length c, .func (.func g) #[] #[]] [S] (fun v hs => (∃ z : Int, v = int z ∧ decide (0 ≤ z) = ls.any q) ∧ hs = [S]) := by
  refine Ct.intro Tryz.func165 rfl (by kernel_rfl) 19 Tryz.ntmps165 (Nat.le_of_ble_eq_true rfl) fun w0 R => ?_
  refine Gs.slAddr (hS.h (by repeat constructor)) fun ab ao ha => ?_
  refine Gsr ?_
  refine Las rfl rfl ?_
  refine Lnt ?_
  refine Gs.seq ?_
  refine Gsr ?_
  refine Lmv rfl rfl ?_
  refine Lpu rfl rfl trivial (pu_len Tryz.underlying24 rfl) ?_
  refine Lmv rfl rfl ?_
  refine Lnt ?_
  refine Gs.block ?_
  refine Gs.loop1 (fun i : Nat => i ≤ ls.length ∧ (ls.take i).any q = false) (fun i => [(0, .slice a ls.length c), (1, .func (.func g) #[] #[]), (7, int ls.length), (8, int i)]) (fun i => [S] ++ R) (fun i => ls.length - i) 0 (⟨Nat.zero_le _, rfl⟩) (by repeat constructor) (by repeat constructor) (fun i ⟨hi, hq⟩ => ?_)
  refine Gsr ?_
  refine Lpu rfl rfl trivial (pu_lt rfl rfl) ?_
  refine Lnt ?_
  refine Gs.seq ?_
  refine Gs.cond rfl (fun hc0 => ?_) (fun hc0 => ?_)
  ·
   have hlt : i < ls.length := by have := of_decide_eq_true hc0; omega
   obtain ⟨x, hx⟩ : ∃ x, ls[i]? = some x := ⟨ls[i], by simp [hlt]⟩
   obtain rfl := ha (by rintro rfl; simp at hlt)
   have hm := List.mem_of_getElem? hx
   refine Gs.skip ?_
   refine Gs.then_n ?_
   refine Gs.seq ?_
   refine Gs.block ?_
   refine Gsr ?_
   refine Lmv rfl rfl ?_
   refine Las rfl rfl ?_
   refine Lnt ?_
   refine Gsr ?_
   refine Lmv rfl rfl ?_
   refine Lmv rfl rfl ?_
   refine Lmv rfl rfl ?_
   refine Lpu rfl rfl trivial (pu_ia se_24 rfl rfl (by omega) (by omega)) ?_
   refine Lrd rfl rfl trivial (rd_lda ag_26 rfl (Rdc.el0 (hS.h (by repeat constructor)) hx rfl rfl) rfl) ?_
   refine Lac rfl rfl trivial (as_callV rfl (hg x hm) (by repeat constructor) (by repeat constructor)) ?_
   rintro _ _ ⟨_, ⟨rfl, rfl⟩, rfl⟩
   refine Lnt ?_
   refine Gs.cond rfl (fun hc1 => ?_) (fun hc1 => ?_)
   ·
    have hyes : ls.any q = true := List.any_eq_true.2 ⟨x, hm, hc1⟩
    refine Gsr ?_
    refine Lmv rfl rfl ?_
    refine Las rfl rfl ?_
    refine Lnt ?_
    refine Gs.ret ?_
    refine Gs.blk_r ?_
    refine Gs.then_r ?_
    refine Gs.then_r ?_
    refine Gs.blk_r ?_
    refine Gs.then_r ?_
    exact Gs.fin1 Tryz.results165 rfl _ (⟨⟨_, rfl, by rw [hyes]; exact decide_eq_true (by omega)⟩, rfl⟩) (by repeat constructor)
   ·
    have hno : (ls.take (i + 1)).any q = false := by rw [List.take_add_one, hx, List.any_append, hq]; simp [hc1]
    refine Gs.skip ?_
    refine Gs.blk_n ?_
    refine Gs.then_n ?_
    refine Gs.reg ?_
    refine Lpu rfl rfl trivial (by first | exact pu_addI rfl rfl rfl (by omega) (by omega) | exact pu_add rfl rfl) ?_
    refine Lmv rfl rfl ?_
    refine Lnt ?_
    exact Gs.again1 (i + 1) ⟨hlt, hno⟩ (by show ls.length - (i + 1) < ls.length - i; omega) (by repeat constructor) (by repeat constructor)
  ·
   have hge : i = ls.length := by have := of_decide_eq_false hc0; omega
   rw [hge, List.take_length] at hq
   refine Gs.exit ?_
   refine Gs.then_x ?_
   refine Gs.then_x ?_
   refine Gs.blk_hit ?_
   refine Gs.then_n ?_
   refine Gsr ?_
   refine Las rfl rfl ?_
   refine Lnt ?_
   refine Gs.ret ?_
   exact Gs.fin1 Tryz.results165 rfl _ (⟨⟨_, rfl, by rw [hq]; rfl⟩, rfl⟩) (by repeat constructor)
theorem containsA_spec {S : HProp} {g : FuncId} {q : AskV → Bool} {a : Option Addr} {c : Nat} {ls : List AskV} (hS : Srd S 4 askC a ls) (hg : ∀ l ∈ ls, Ct Tryz.prog g ([] ++ [askV l] ++ []) [S] (fun v hs => v = .bool (q l) ∧ hs = [S])) (hl : ls.length ≤ 1000) :
    Ct Tryz.prog 119 [.slice a ls.length c, .func (.func g) #[] #[]] [S] (fun v hs => v = .bool (ls.any q) ∧ hs = [S]) := by
  refine Ct.intro Tryz.func119 rfl (by kernel_rfl) 9 Tryz.ntmps119 (Nat.le_of_ble_eq_true rfl) fun w0 R => ?_
  refine Gsr ?_
  refine Las rfl rfl ?_
  refine Lnt ?_
  refine Gsr ?_
  refine Lmv rfl rfl ?_
  refine Lmv rfl rfl ?_
  refine Lac rfl rfl trivial (as_call (indexA_spec hS hg hl) (by repeat constructor) (by repeat constructor)) ?_
  rintro _ _ ⟨_, ⟨⟨z, rfl, hz⟩, rfl⟩, rfl⟩
  refine Lpu rfl rfl trivial (pu_ge rfl rfl) ?_
  refine Las rfl rfl ?_
  refine Lnt ?_
  refine Gs.ret ?_
  exact Gs.fin1 Tryz.results119 rfl _ (⟨by rw [← hz], rfl⟩) (by repeat constructor)
end Go.Proofs.YtklgiidfompdpaaGreatDoor
namespace Go.Qu
open Go Go.Sl Go.Gv Go.Ix
variable {odd : ByteArray → Bool} {a : AskV} {d : Nat}
theorem good_no (h : shapeB a = false) : goodA odd (d + 1) a = false := by unfold goodA; rw [h]; rfl
theorem good_yes (h : shapeB a = true) : goodA odd (d + 1) a = (a.ws.all (fun w => !odd w) && a.ss.all (goodA odd d)) := by unfold goodA; rw [h]; rfl
end Go.Qu
namespace Go.Proofs.YtklgiidfompdpaaGreatDoor
open Go Go.Sl Go.Gv Go.Kv Go.Po Go.Ix Go.Qu Go.Shelf
set_option maxRecDepth 100000
end Go.Proofs.YtklgiidfompdpaaGreatDoor
