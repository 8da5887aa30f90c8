/- An index: what it holds, told of the records that it has. Plain. -/
import Derived.Test.YtmbikfojljnnkaaGreatDoorMB
import Derived.Test.YtmbikfojljnnkaaGreatDoorIxE
namespace Go.Ix
open Go Go.Sl Go.Gv Go.Kv Go.Po Go.Bst
theorem snoc_ind {α : Type} {P : List α → Prop} (h0 : P []) (hs : ∀ l x, P l → P (l ++ [x])) (l : List α) : P l := by
  rw [← l.reverse_reverse]
  induction l.reverse with
  | nil => exact h0
  | cons x m ih => rw [List.reverse_cons]; exact hs _ _ ih
section
variable {κ α : Type} [DecidableEq κ]
theorem mget_perm {m n : List (κ × α)} (hm : (mkeys m).Nodup) (p : List.Perm m n) (k : κ) : mget m k = mget n k := by
  have hn : (mkeys n).Nodup := (p.map _).nodup_iff.1 hm
  cases h : mget m k with
  | some v => exact (mget_of_mem hn (p.subset (mget_mem h))).symm
  | none =>
    cases h2 : mget n k with
    | none => rfl
    | some v => rw [mget_of_mem hm (p.symm.subset (mget_mem h2))] at h; cases h
theorem mkeys_of {m n : List (κ × α)} (hm : (mkeys m).Nodup) (hn : (mkeys n).Nodup) (h : ∀ k, mget m k = mget n k) : List.Perm (mkeys m) (mkeys n) := by
  rw [List.perm_ext_iff_of_nodup hm hn]
  intro k
  have h1 := mget_none (m := m) (k := k)
  have h2 := mget_none (m := n) (k := k)
  rw [h k] at h1
  exact ⟨fun hk => Classical.byContradiction fun hc => (h1.1 (h2.2 hc)) hk, fun hk => Classical.byContradiction fun hc => (h2.1 (h1.2 hc)) hk⟩
end
/-- Where a word stands among words that are told with their places. -/
def atsOf (T : List WordP) (w : ByteArray) : List Int := (T.filter fun p => decide (p.1 = w)).map Prod.snd
theorem posL_snoc (T : List WordP) (p : WordP) : posL (T ++ [p]) = posStep (posL T) p := by unfold posL; rw [List.foldl_append]; rfl
theorem atsOf_snoc (T : List WordP) (p : WordP) (w : ByteArray) : atsOf (T ++ [p]) w = if w = p.1 then atsOf T w ++ [p.2] else atsOf T w := by
  unfold atsOf
  rw [List.filter_append, List.map_append]
  by_cases h : w = p.1
  · subst h; simp
  · rw [if_neg h, List.filter_cons_of_neg (by simpa using fun e : p.1 = w => h e.symm)]; simp
theorem posL_get (T : List WordP) (w : ByteArray) : mget (posL T) w = if atsOf T w = [] then none else some (atsOf T w) := by
  refine snoc_ind (P := fun T => mget (posL T) w = if atsOf T w = [] then none else some (atsOf T w)) rfl (fun T p ih => ?_) T
  rw [posL_snoc, posStep, mget_put, atsOf_snoc]
  by_cases h : w = p.1
  · subst h
    have e : (mget (posL T) p.1).getD [] = atsOf T p.1 := by
      rw [ih]; split
      · rename_i e; rw [e]; rfl
      · rfl
    rw [if_pos rfl, if_pos rfl, e, if_neg (by simp)]
  · rw [if_neg h, if_neg h, ih]
theorem posL_nodup (T : List WordP) : (mkeys (posL T)).Nodup :=
  snoc_ind (P := fun T => (mkeys (posL T)).Nodup) List.nodup_nil (fun T p ih => by rw [posL_snoc, posStep]; exact nodup_put ih _ _) T
theorem rises_pw : ∀ {l : List Int} {a : Int}, (∀ x ∈ l, a < x) → l.Pairwise (· < ·) → risesFrom a l = true
  | [], _, _, _ => rfl
  | n :: l, a, h, hp => by
    have hp' := List.pairwise_cons.1 hp
    unfold risesFrom
    rw [decide_eq_true (h n (by simp)), Bool.true_and]
    exact rises_pw hp'.1 hp'.2
/-- A list's places, in order, from 0. -/
def UpT (T : List WordP) : Prop := T.Pairwise (fun p q => p.2 < q.2) ∧ ∀ p ∈ T, 0 ≤ p.2
theorem ats_up {T : List WordP} (h : UpT T) (w : ByteArray) : (atsOf T w).Pairwise (· < ·) ∧ ∀ x ∈ atsOf T w, 0 ≤ x := by
  unfold atsOf
  refine ⟨?_, fun x hx => ?_⟩
  · rw [List.pairwise_map]
    exact List.Pairwise.filter _ h.1
  · obtain ⟨p, hp, rfl⟩ := List.mem_map.1 hx
    exact h.2 p (List.mem_filter.1 hp).1
theorem posL_rises {T : List WordP} (h : UpT T) {w : ByteArray} {l : List Int} (hl : mget (posL T) w = some l) : risesB l = true := by
  rw [posL_get] at hl
  split at hl
  · cases hl
  · rename_i hne
    cases hl
    unfold risesB
    rw [decide_eq_true hne, Bool.and_true]
    exact rises_pw (fun x hx => by have := (ats_up h w).2 x hx; omega) (ats_up h w).1
theorem fold_putW (k : Key) : ∀ (es : List (ByteArray × List Int)) (P : PL), (mkeys es).Nodup → ∀ w, mget (es.foldl (putW k) P) w = match mget es w with
    | none => mget P w
    | some at' => some (putP ((mget P w).getD []) (k, at'))
  | [], _, _, _ => rfl
  | e :: es, P, hn, w => by
    have hn' := List.nodup_cons.1 hn
    rw [List.foldl_cons, fold_putW k es _ hn'.2 w]
    have he : mget (e :: es) w = if w = e.1 then some e.2 else mget es w := by
      obtain ⟨a, b⟩ := e; rfl
    rw [he]
    by_cases h : w = e.1
    · subst h
      rw [if_pos rfl, mget_none.2 hn'.1]
      show mget (mput P e.1 _) e.1 = _
      rw [mget_put, if_pos rfl]
    · have h2 : mget (putW k P e) w = mget P w := by
        show mget (mput P e.1 _) w = _
        rw [mget_put, if_neg h]
      rw [if_neg h, h2]
theorem fold_putW_nodup (k : Key) : ∀ (es : List (ByteArray × List Int)) (P : PL), (mkeys P).Nodup → (mkeys (es.foldl (putW k) P)).Nodup
  | [], _, h => h
  | e :: es, P, h => fold_putW_nodup k es _ (nodup_put h _ _)
theorem dropE_nodup {k : Key} {P : PL} (w : ByteArray) (h : (mkeys P).Nodup) : (mkeys (dropE k P w)).Nodup := by
  unfold dropE; split
  · exact nodup_del (nodup_put h _ _) _
  · exact nodup_put h _ _
theorem dropE_get {k : Key} {P : PL} (h : (mkeys P).Nodup) (w v : ByteArray) : mget (dropE k P w) v = if v = w then (if dropP ((mget P w).getD []) k = [] then none else some (dropP ((mget P w).getD []) k)) else mget P v := by
  unfold dropE
  by_cases hd : dropP ((mget P w).getD []) k = []
  · rw [if_pos hd, if_pos hd, mget_del (nodup_put h _ _), mget_put]
    by_cases e : v = w <;> simp [e]
  · rw [if_neg hd, if_neg hd, mget_put]
open Classical in
theorem fold_dropE (k : Key) : ∀ (ws : List ByteArray) (P : PL), (mkeys P).Nodup → ws.Nodup → (mkeys (ws.foldl (dropE k) P)).Nodup ∧ ∀ w, mget (ws.foldl (dropE k) P) w = if w ∈ ws then (if dropP ((mget P w).getD []) k = [] then none else some (dropP ((mget P w).getD []) k)) else mget P w
  | [], _, h, _ => ⟨h, fun w => by simp⟩
  | v :: ws, P, h, hn => by
    have hn' := List.nodup_cons.1 hn
    obtain ⟨h1, h2⟩ := fold_dropE k ws _ (dropE_nodup (k := k) v h) hn'.2
    refine ⟨h1, fun w => ?_⟩
    rw [List.foldl_cons, h2 w, dropE_get h]
    by_cases e : w = v
    · subst e
      rw [if_neg hn'.1, if_pos rfl, if_pos (List.mem_cons_self : w ∈ w :: ws)]
    · rw [if_neg e]
      by_cases hm : w ∈ ws
      · rw [if_pos hm, if_pos (List.mem_cons_of_mem v hm : w ∈ v :: ws)]
      · rw [if_neg hm, if_neg (fun hc => (List.mem_cons.1 hc).elim e hm : ¬ w ∈ v :: ws)]
end Go.Ix
namespace Go.Proofs.YtmbikfojljnnkaaGreatDoor
open Go Go.Sl Go.Gv Go.Kv Go.Po Go.Ix Go.Bst
abbrev tok (r : Rec) : List (ByteArray × List Int) := posL (toksV r.t)
theorem toks_up : ∀ (l : List ByteArray) (i : Nat), (toksOf l i).Pairwise (fun p q => p.2 < q.2) ∧ ∀ p ∈ toksOf l i, (i : Int) ≤ p.2
  | [], _ => ⟨List.Pairwise.nil, fun _ h => by cases h⟩
  | w :: l, i => by
    obtain ⟨h1, h2⟩ := toks_up l (i + 1)
    have e : toksOf (w :: l) i = (w, (i : Int)) :: toksOf l (i + 1) := by unfold toksOf; rw [List.zipIdx_cons]; rfl
    rw [e]
    refine ⟨List.pairwise_cons.2 ⟨fun q hq => ?_, h1⟩, fun p hp => ?_⟩
    · have := h2 q hq; show (i : Int) < q.2; omega
    · rcases List.mem_cons.1 hp with rfl | hp
      · exact Int.le_refl _
      · have := h2 p hp; omega
theorem up_toks (s : ByteArray) : UpT (toksV s) := ⟨(toks_up _ 0).1, fun p hp => by have := (toks_up _ 0).2 p hp; omega⟩
/-- What an index of records is. -/
structure IxIs (rs : List Rec) (s : PL × PW) : Prop where
  keys : (rs.map Rec.key).Nodup
  ln : (mkeys s.1).Nodup
  wn : (mkeys s.2).Nodup
  ws : ∀ k l, mget s.2 k = some l ↔ ∃ r ∈ rs, r.key = k ∧ l = sortB (mkeys (tok r))
  mem : ∀ w l, mget s.1 w = some l → l ≠ [] ∧ mayB l = true ∧ ∀ p, p ∈ l ↔ ∃ r ∈ rs, p.1 = r.key ∧ mget (tok r) w = some p.2
  non : ∀ w, mget s.1 w = none → ∀ r ∈ rs, mget (tok r) w = none
theorem IxIs.nil : IxIs [] ([], []) := ⟨List.nodup_nil, List.nodup_nil, List.nodup_nil, fun k l => ⟨fun h => (by cases h), fun ⟨r, h, _⟩ => (by cases h)⟩, fun w l h => (by cases h), fun w _ r h => (by cases h)⟩
theorem IxIs.getD {rs : List Rec} {s : PL × PW} (h : IxIs rs s) (w : ByteArray) : mayB ((mget s.1 w).getD []) = true ∧ ∀ p, p ∈ (mget s.1 w).getD [] ↔ ∃ r ∈ rs, p.1 = r.key ∧ mget (tok r) w = some p.2 := by
  cases hm : mget s.1 w with
  | none => exact ⟨rfl, fun p => ⟨fun hp => (by cases hp), fun ⟨r, hr, _, h2⟩ => (by rw [h.non w hm r hr] at h2; cases h2)⟩⟩
  | some l => exact (h.mem w l hm).2
theorem put_mem {L : List PostP} {x : PostP} (hm : mayB L = true) (hx : risesB x.2 = true) (hf : ∀ p ∈ L, p.1 ≠ x.1) (p : PostP) : p ∈ putP L x ↔ p = x ∨ p ∈ L := by
  rw [put_is hm hx]
  simp only [List.mem_append, List.mem_filter, List.mem_cons, List.not_mem_nil, or_false]
  refine ⟨fun h => ?_, fun h => ?_⟩
  · rcases h with (h | h) | h
    · exact .inr h.1
    · exact .inl h
    · exact .inr h.1
  · rcases h with h | h
    · exact .inl (.inr h)
    · rcases before_total (hf p h) with e | e
      · exact .inl (.inl ⟨h, e⟩)
      · exact .inr ⟨h, e⟩
theorem IxIs.put {rs : List Rec} {s : PL × PW} (h : IxIs rs s) {r : Rec} (hn : r.key ∉ rs.map Rec.key) {es : List (ByteArray × List Int)} (hp : List.Perm es (tok r)) :
    IxIs (rs ++ [r]) (es.foldl (putW r.key) s.1, mput s.2 r.key (sortB (mkeys (tok r)))) := by
  have hes : (mkeys es).Nodup := (hp.map _).nodup_iff.2 (posL_nodup _)
  have hg : ∀ w, mget (es.foldl (putW r.key) s.1) w = match mget (tok r) w with | none => mget s.1 w | some at' => some (putP ((mget s.1 w).getD []) (r.key, at')) := fun w => by
    rw [fold_putW r.key es s.1 hes w, mget_perm hes hp w]
  refine ⟨?_, fold_putW_nodup _ _ _ h.ln, nodup_put h.wn _ _, fun k l => ?_, fun w l hl => ?_, fun w hl => ?_⟩
  · rw [List.map_append, List.nodup_append]
    exact ⟨h.keys, by simp, fun a ha b hb => by simp at hb; subst hb; exact fun e => hn (e ▸ ha)⟩
  · show mget (mput s.2 r.key _) k = some l ↔ _
    rw [mget_put]
    by_cases e : k = r.key
    · subst e
      rw [if_pos rfl]
      constructor
      · intro hh; cases hh; exact ⟨r, by simp, rfl, rfl⟩
      · rintro ⟨r', hr', hk, rfl⟩
        rcases List.mem_append.1 hr' with hr' | hr'
        · exact (hn (hk ▸ List.mem_map.2 ⟨r', hr', rfl⟩)).elim
        · rw [List.mem_singleton.1 hr']
    · rw [if_neg e, h.ws]
      constructor
      · rintro ⟨r', hr', h1, h2⟩; exact ⟨r', by simp [hr'], h1, h2⟩
      · rintro ⟨r', hr', h1, h2⟩
        rcases List.mem_append.1 hr' with hr' | hr'
        · exact ⟨r', hr', h1, h2⟩
        · rw [List.mem_singleton.1 hr'] at h1; exact (e h1.symm).elim
  · change mget (es.foldl (putW r.key) s.1) w = some l at hl
    rw [hg] at hl
    obtain ⟨hm, hmem⟩ := h.getD w
    cases ht : mget (tok r) w with
    | none =>
      rw [ht] at hl
      obtain ⟨h1, h2, h3⟩ := h.mem w l hl
      refine ⟨h1, h2, fun p => (h3 p).trans ⟨fun ⟨r', hr', h4, h5⟩ => ⟨r', by simp [hr'], h4, h5⟩, fun ⟨r', hr', h4, h5⟩ => ?_⟩⟩
      rcases List.mem_append.1 hr' with hr' | hr'
      · exact ⟨r', hr', h4, h5⟩
      · rw [List.mem_singleton.1 hr', ht] at h5; cases h5
    | some at' =>
      rw [ht] at hl
      have hr := posL_rises (up_toks r.t) ht
      cases hl
      have hf : ∀ p ∈ (mget s.1 w).getD [], p.1 ≠ (r.key, at').1 := fun p hp e => by
        obtain ⟨r', hr', h4, -⟩ := (hmem p).1 hp
        exact hn (List.mem_map.2 ⟨r', hr', by rw [← h4]; exact e⟩)
      have hpm := put_mem hm (x := (r.key, at')) hr hf
      refine ⟨fun e => ?_, put_may hm hr, fun p => ?_⟩
      · have := (hpm (r.key, at')).2 (.inl rfl); rw [e] at this; cases this
      · rw [hpm, hmem]
        constructor
        · rintro (rfl | ⟨r', hr', h4, h5⟩)
          · exact ⟨r, by simp, rfl, ht⟩
          · exact ⟨r', by simp [hr'], h4, h5⟩
        · rintro ⟨r', hr', h4, h5⟩
          rcases List.mem_append.1 hr' with hr' | hr'
          · exact .inr ⟨r', hr', h4, h5⟩
          · rw [List.mem_singleton.1 hr'] at h4 h5
            rw [ht] at h5
            exact .inl (Prod.ext h4 (Option.some.inj h5).symm)
  · change mget (es.foldl (putW r.key) s.1) w = none at hl
    rw [hg] at hl
    cases ht : mget (tok r) w with
    | none =>
      rw [ht] at hl
      intro r' hr'
      rcases List.mem_append.1 hr' with hr' | hr'
      · exact h.non w hl r' hr'
      · rw [List.mem_singleton.1 hr']; exact ht
    | some at' => rw [ht] at hl; cases hl
theorem key_inj {rs : List Rec} (h : (rs.map Rec.key).Nodup) {a b : Rec} (ha : a ∈ rs) (hb : b ∈ rs) (e : a.key = b.key) : a = b := by
  induction rs with
  | nil => cases ha
  | cons x l ih =>
    have h' := List.nodup_cons.1 h
    rcases List.mem_cons.1 ha with h1 | h1
    · rcases List.mem_cons.1 hb with h2 | h2
      · rw [h1, h2]
      · exact (h'.1 (List.mem_map.2 ⟨b, h2, by rw [← e, h1]⟩)).elim
    · rcases List.mem_cons.1 hb with h2 | h2
      · exact (h'.1 (List.mem_map.2 ⟨a, h1, by rw [e, h2]⟩)).elim
      · exact ih h'.2 h1 h2
theorem IxIs.drop {rs : List Rec} {s : PL × PW} (h : IxIs rs s) {r : Rec} (hr : r ∈ rs) :
    IxIs (rs.filter fun x => decide (x.key ≠ r.key)) ((sortB (mkeys (tok r))).foldl (dropE r.key) s.1, mdel s.2 r.key) := by
  have hsn : (sortB (mkeys (tok r))).Nodup := (sortB_perm _).nodup_iff.2 (posL_nodup _)
  obtain ⟨hn, hg⟩ := fold_dropE r.key (sortB (mkeys (tok r))) s.1 h.ln hsn
  have hin : ∀ w, w ∈ sortB (mkeys (tok r)) ↔ mget (tok r) w ≠ none := fun w => by
    rw [sortB_mem]
    have := mget_none (m := tok r) (k := w)
    exact ⟨fun hm e => this.1 e hm, fun hm => Classical.byContradiction fun hc => hm (this.2 hc)⟩
  have hf : ∀ x, x ∈ rs.filter (fun x => decide (x.key ≠ r.key)) ↔ x ∈ rs ∧ x.key ≠ r.key := fun x => by rw [List.mem_filter]; simp
  have hdm : ∀ w p, p ∈ dropP ((mget s.1 w).getD []) r.key ↔ ∃ r' ∈ rs.filter (fun x => decide (x.key ≠ r.key)), p.1 = r'.key ∧ mget (tok r') w = some p.2 := fun w p => by
    obtain ⟨hm, hmem⟩ := h.getD w
    rw [dropP, if_pos hm, List.mem_filter, hmem]
    constructor
    · rintro ⟨⟨r', hr', h4, h5⟩, h6⟩
      exact ⟨r', (hf r').2 ⟨hr', by rw [← h4]; exact of_decide_eq_true h6⟩, h4, h5⟩
    · rintro ⟨r', hr', h4, h5⟩
      exact ⟨⟨r', ((hf r').1 hr').1, h4, h5⟩, decide_eq_true (by rw [h4]; exact ((hf r').1 hr').2)⟩
  refine ⟨List.Nodup.sublist (List.Sublist.map _ List.filter_sublist) h.keys, hn, nodup_del h.wn _, fun k l => ?_, fun w l hl => ?_, fun w hl r' hr' => ?_⟩
  · show mget (mdel s.2 r.key) k = some l ↔ _
    rw [mget_del h.wn]
    by_cases e : k = r.key
    · rw [if_pos e]
      constructor
      · intro hh; cases hh
      · rintro ⟨r', hr', h1, -⟩; exact (((hf r').1 hr').2 (h1.trans e)).elim
    · rw [if_neg e, h.ws]
      constructor
      · rintro ⟨r', hr', h1, h2⟩; exact ⟨r', (hf r').2 ⟨hr', by rw [h1]; exact e⟩, h1, h2⟩
      · rintro ⟨r', hr', h1, h2⟩; exact ⟨r', ((hf r').1 hr').1, h1, h2⟩
  · change mget ((sortB (mkeys (tok r))).foldl (dropE r.key) s.1) w = some l at hl
    rw [hg] at hl
    obtain ⟨hm, hmem⟩ := h.getD w
    by_cases hw : w ∈ sortB (mkeys (tok r))
    · rw [if_pos hw] at hl
      split at hl
      · cases hl
      · rename_i hne
        cases hl
        exact ⟨hne, drop_may hm _, hdm w⟩
    · rw [if_neg hw] at hl
      obtain ⟨h1, h2, h3⟩ := h.mem w l hl
      have ht : mget (tok r) w = none := Classical.byContradiction fun hc => hw ((hin w).2 hc)
      refine ⟨h1, h2, fun p => (h3 p).trans ⟨fun ⟨r', hr', h4, h5⟩ => ⟨r', (hf r').2 ⟨hr', fun e => ?_⟩, h4, h5⟩, fun ⟨r', hr', h4, h5⟩ => ⟨r', ((hf r').1 hr').1, h4, h5⟩⟩⟩
      rw [key_inj h.keys hr' hr e, ht] at h5; cases h5
  · change mget ((sortB (mkeys (tok r))).foldl (dropE r.key) s.1) w = none at hl
    rw [hg] at hl
    cases ht : mget (tok r') w with
    | none => rfl
    | some at' =>
      exfalso
      by_cases hw : w ∈ sortB (mkeys (tok r))
      · rw [if_pos hw] at hl
        split at hl
        · rename_i e
          have := (hdm w (r'.key, at')).2 ⟨r', hr', rfl, ht⟩
          rw [e] at this; cases this
        · cases hl
      · rw [if_neg hw] at hl
        rw [h.non w hl r' ((hf r').1 hr').1] at ht; cases ht
/-- Two indexes of the same records tell the same. -/
theorem IxIs.same {rs rs' : List Rec} {s s' : PL × PW} (h : IxIs rs s) (h' : IxIs rs' s') (hp : ∀ r, r ∈ rs ↔ r ∈ rs') : (∀ w, mget s.1 w = mget s'.1 w) ∧ ∀ k, mget s.2 k = mget s'.2 k := by
  refine ⟨fun w => ?_, fun k => ?_⟩
  · cases hm : mget s.1 w with
    | none =>
      cases hm' : mget s'.1 w with
      | none => rfl
      | some l' =>
        obtain ⟨h1, -, h3⟩ := h'.mem w l' hm'
        obtain ⟨p, hpl⟩ := List.exists_mem_of_ne_nil l' h1
        obtain ⟨r, hr, -, h5⟩ := (h3 p).1 hpl
        rw [h.non w hm r ((hp r).2 hr)] at h5; cases h5
    | some l =>
      obtain ⟨h1, h2, h3⟩ := h.mem w l hm
      cases hm' : mget s'.1 w with
      | none =>
        obtain ⟨p, hpl⟩ := List.exists_mem_of_ne_nil l h1
        obtain ⟨r, hr, -, h5⟩ := (h3 p).1 hpl
        rw [h'.non w hm' r ((hp r).1 hr)] at h5; cases h5
      | some l' =>
        obtain ⟨-, h2', h3'⟩ := h'.mem w l' hm'
        congr 1
        refine List.Perm.eq_of_pairwise (le := fun a b : PostP => before a.1 b.1 = true) (fun a b _ _ h1 h2 => ?_) (ascP_of h2) (ascP_of h2') ?_
        · rw [before_asymm h1] at h2; cases h2
        · have nd : ∀ {L : List PostP}, AscP L → L.Nodup := fun ha => ha.imp fun {a b} hab e => by rw [e, before_irr] at hab; cases hab
          rw [List.perm_ext_iff_of_nodup (nd (ascP_of h2)) (nd (ascP_of h2'))]
          intro p
          rw [h3, h3']
          exact ⟨fun ⟨r, hr, x⟩ => ⟨r, (hp r).1 hr, x⟩, fun ⟨r, hr, x⟩ => ⟨r, (hp r).2 hr, x⟩⟩
  · cases hm : mget s.2 k with
    | some l =>
      obtain ⟨r, hr, x⟩ := (h.ws k l).1 hm
      exact ((h'.ws k l).2 ⟨r, (hp r).1 hr, x⟩).symm
    | none =>
      cases hm' : mget s'.2 k with
      | none => rfl
      | some l =>
        obtain ⟨r, hr, x⟩ := (h'.ws k l).1 hm'
        rw [(h.ws k l).2 ⟨r, (hp r).2 hr, x⟩] at hm; cases hm
theorem IxIs.sameB {rs rs' : List Rec} {s s' : PL × PW} (h : IxIs rs s) (h' : IxIs rs' s') (hp : ∀ r, r ∈ rs ↔ r ∈ rs') : Ix.sameB s s' = true := by
  obtain ⟨h1, h2⟩ := h.same h' hp
  unfold Ix.sameB mapsB
  have e1 : sortK (mkeys s.2) = sortK (mkeys s'.2) := sortK_of h.wn (sortK_asc h'.wn) ((sortK_perm _).trans (mkeys_of h'.wn h.wn fun k => (h2 k).symm))
  have e2 : s.1.length = s'.1.length := by have := (mkeys_of h.ln h'.ln h1).length_eq; simpa [mkeys] using this
  rw [decide_eq_true e1, decide_eq_true e2, Bool.true_and, Bool.true_and, List.all_eq_true]
  intro p hpm
  exact decide_eq_true (by rw [← h1]; exact mget_of_mem h.ln hpm)
theorem IxIs.wkeys {rs : List Rec} {s : PL × PW} (h : IxIs rs s) : List.Perm (mkeys s.2) (rs.map Rec.key) := by
  rw [List.perm_ext_iff_of_nodup h.wn h.keys]
  intro k
  have := mget_none (m := s.2) (k := k)
  constructor
  · intro hk
    cases hm : mget s.2 k with
    | none => exact ((this.1 hm) hk).elim
    | some l => obtain ⟨r, hr, h1, -⟩ := (h.ws k l).1 hm; exact List.mem_map.2 ⟨r, hr, h1⟩
  · intro hk
    obtain ⟨r, hr, rfl⟩ := List.mem_map.1 hk
    have := mget_mem ((h.ws r.key _).2 ⟨r, hr, rfl, rfl⟩)
    exact List.mem_map.2 ⟨_, this, rfl⟩
theorem IxIs.has {rs : List Rec} {s : PL × PW} (h : IxIs rs s) (k : Key) : (mget s.2 k).isSome = decide (k ∈ rs.map Rec.key) := by
  rw [← decide_eq_decide.2 (h.wkeys.mem_iff (a := k))]
  have := mget_none (m := s.2) (k := k)
  cases hm : mget s.2 k with
  | none => exact (decide_eq_false (this.1 hm)).symm
  | some l => exact (decide_eq_true (Classical.byContradiction fun hc => by rw [this.2 hc] at hm; cases hm)).symm
/-- A put, told of records. -/
def putR (rs : List Rec) (r : Rec) : List Rec := if recB r && decide (r.key ∉ rs.map Rec.key) then rs ++ [r] else rs
theorem IxIs.putN {rs : List Rec} {s : PL × PW} (h : IxIs rs s) (r : Rec) : YtmbikfojljnnkaaGreatDoor.putN s.2 r = if recB r then (if r.key ∈ rs.map Rec.key then 6 else 0) else 2 := by
  unfold YtmbikfojljnnkaaGreatDoor.putN
  rw [h.has]
  by_cases e : r.key ∈ rs.map Rec.key <;> simp [e]
theorem IxIs.putI {rs : List Rec} {s s' : PL × PW} (h : IxIs rs s) {r : Rec} (hp : PutI r (toksV r.t) s s') : IxIs (putR rs r) s' := by
  unfold PutI at hp
  rw [h.putN] at hp
  unfold putR
  by_cases hr : recB r = true
  · by_cases hk : r.key ∈ rs.map Rec.key
    · rw [if_pos hr, if_pos hk, if_neg (by decide)] at hp
      rw [if_neg (by simp [hk]), hp]; exact h
    · rw [if_pos hr, if_neg hk, if_pos rfl] at hp
      obtain ⟨es, hes, rfl⟩ := hp
      rw [if_pos (by simp [hr, hk])]
      exact h.put hk hes
  · rw [if_neg hr, if_neg (by decide)] at hp
    rw [if_neg (by simp [hr]), hp]; exact h
/-- A drop, told of records. -/
def dropR (rs : List Rec) (k : Key) : List Rec := rs.filter fun x => decide (x.key ≠ k)
theorem dropR_none {rs : List Rec} {k : Key} (h : k ∉ rs.map Rec.key) : dropR rs k = rs := List.filter_eq_self.2 fun x hx => decide_eq_true fun e => h (List.mem_map.2 ⟨x, hx, e⟩)
theorem IxIs.dropK {rs : List Rec} {s : PL × PW} (h : IxIs rs s) (k : Key) (n : Nat) : ∃ s' : PL × PW, Ix.dropK (s.1, s.2, n) k = (s'.1, s'.2, if k ∈ rs.map Rec.key then n + 1 else n) ∧ IxIs (dropR rs k) s' := by
  by_cases hk : k ∈ rs.map Rec.key
  · obtain ⟨r, hr, rfl⟩ := List.mem_map.1 hk
    refine ⟨_, ?_, h.drop hr⟩
    rw [if_pos hk]
    unfold Ix.dropK
    rw [show mget (s.1, s.2, n).2.1 r.key = some (sortB (mkeys (tok r))) from (h.ws _ _).2 ⟨r, hr, rfl, rfl⟩]
  · refine ⟨s, ?_, by rw [dropR_none hk]; exact h⟩
    rw [if_neg hk]
    unfold Ix.dropK
    have : mget s.2 k = none := mget_none.2 fun hm => hk (h.wkeys.mem_iff.1 hm)
    rw [show mget (s.1, s.2, n).2.1 k = none from this]
theorem IxIs.dropKs {ks : List Key} : ∀ {rs : List Rec} {s : PL × PW} {n : Nat}, IxIs rs s → ∃ s' : PL × PW, ∃ m, ks.foldl Ix.dropK (s.1, s.2, n) = (s'.1, s'.2, m) ∧ IxIs (ks.foldl dropR rs) s' := by
  induction ks with
  | nil => exact fun {rs s n} h => ⟨s, n, rfl, h⟩
  | cons k ks ih =>
    intro rs s n h
    obtain ⟨s1, e, h1⟩ := h.dropK k n
    obtain ⟨s2, m, e2, h2⟩ := ih (n := if k ∈ rs.map Rec.key then n + 1 else n) h1
    exact ⟨s2, m, by rw [List.foldl_cons, e]; exact e2, h2⟩
end Go.Proofs.YtmbikfojljnnkaaGreatDoor
