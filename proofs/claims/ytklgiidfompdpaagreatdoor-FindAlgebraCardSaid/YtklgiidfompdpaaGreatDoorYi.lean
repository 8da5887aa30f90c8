/- What the closing leans on: part 9. -/
import Derived.Test.YtklgiidfompdpaaGreatDoorYg
import Derived.Test.YtklgiidfompdpaaGreatDoorYh
import Derived.Test.YtklgiidfompdpaaGreatDoorYd
import Derived.Test.YtklgiidfompdpaaGreatDoorYe
namespace Go.Qu
open Go Go.Sl Go.Gv Go.Kv Go.Po Go.Ix
theorem atB_iff {ws ps : List ByteArray} {i : Nat} : atB ws ps i = true ↔ ∀ k, k < ps.length → ws[i + k]? = ps[k]? := by
 unfold atB; rw [List.all_eq_true]
 exact ⟨fun h k hk => of_decide_eq_true (h k (List.mem_range.2 hk)), fun h k hk => decide_eq_true (h k (List.mem_range.1 hk))⟩
theorem infB_iff {ws ps : List ByteArray} : infB ws ps = true ↔ ps ≠ [] ∧ ∃ i, i < ws.length ∧ ∀ k, k < ps.length → ws[i + k]? = ps[k]? := by
 unfold infB
 rw [Bool.and_eq_true, decide_eq_true_iff, List.any_eq_true]
 constructor
 · rintro ⟨h, i, hi, ha⟩; exact ⟨h, i, List.mem_range.1 hi, atB_iff.1 ha⟩
 · rintro ⟨h, i, hi, ha⟩; exact ⟨h, i, List.mem_range.2 hi, atB_iff.2 ha⟩
def memB (w : ByteArray) (ws : List ByteArray) : Bool := ws.any fun v => decide (v = w)
theorem memB_iff {w : ByteArray} {ws : List ByteArray} : memB w ws = true ↔ w ∈ ws := by
 unfold memB; rw [List.any_eq_true]
 exact ⟨fun ⟨v, hv, e⟩ => by rw [← of_decide_eq_true e]; exact hv, fun h => ⟨w, h, decide_eq_true rfl⟩⟩
theorem infB_one (ws : List ByteArray) (w : ByteArray) : infB ws [w] = memB w ws := by
 rw [Bool.eq_iff_iff, infB_iff, memB_iff, List.mem_iff_getElem?]
 constructor
 · rintro ⟨-, i, -, h⟩; exact ⟨i, by simpa using h 0 (by simp)⟩
 · rintro ⟨i, h⟩
   refine ⟨by simp, i, (List.getElem?_eq_some_iff.1 h).1, fun k hk => ?_⟩
   have : k = 0 := by simp at hk; omega
   subst this; simpa using h
end Go.Qu
namespace Go.Proofs.YtklgiidfompdpaaGreatDoor
open Go Go.Sl Go.Gv Go.Kv Go.Po Go.Ix Go.Bst Go.Qu
theorem mem_atsO : ∀ (l : List ByteArray) (n : Nat) (w : ByteArray) (x : Int), x ∈ atsOf (toksOf l n) w ↔ ∃ i : Nat, x = ((n + i : Nat) : Int) ∧ l[i]? = some w
 | [], n, w, x => by simp [atsOf, toksOf]
 | v :: l, n, w, x => by
   have ih := mem_atsO l (n + 1) w x
   have e : toksOf (v :: l) n = (v, (n : Int)) :: toksOf l (n + 1) := by unfold toksOf; rw [List.zipIdx_cons]; rfl
   have e2 : x ∈ atsOf (toksOf (v :: l) n) w ↔ (x = (n : Int) ∧ v = w) ∨ x ∈ atsOf (toksOf l (n + 1)) w := by
     rw [e]; unfold atsOf
     by_cases hv : v = w
     · rw [List.filter_cons_of_pos (by simpa using hv)]; simp [hv]
     · rw [List.filter_cons_of_neg (by simpa using hv)]; simp [hv]
   rw [e2, ih]
   constructor
   · rintro (⟨h1, h2⟩ | ⟨i, h1, h2⟩)
     · exact ⟨0, by simpa using h1, by simp [h2]⟩
     · exact ⟨i + 1, by rw [h1]; congr 1; omega, by simpa using h2⟩
   · rintro ⟨i, h1, h2⟩
     cases i with
     | zero => exact .inl ⟨by simpa using h1, by simpa using h2⟩
     | succ i => exact .inr ⟨i, by rw [h1]; congr 1; omega, by simpa using h2⟩
theorem ats_ne {l : List ByteArray} {w : ByteArray} : atsOf (toksOf l 0) w ≠ [] ↔ w ∈ l := by
 constructor
 · intro h
   obtain ⟨x, hx⟩ := List.exists_mem_of_ne_nil _ h
   obtain ⟨i, -, hi⟩ := (mem_atsO l 0 w x).1 hx
   exact List.mem_of_getElem? hi
 · intro h e
   obtain ⟨i, hi⟩ := List.mem_iff_getElem?.1 h
   have := (mem_atsO l 0 w ((0 + i : Nat) : Int)).2 ⟨i, rfl, hi⟩
   rw [e] at this; cases this
theorem steps_words {l : List ByteArray} {a : Nat} (ha : a ≤ 1000) : ∀ (ws : List ByteArray) (i : Nat), i + ws.length ≤ 1000 → (stepsFrom (a : Int) i (ws.map fun w => atsOf (toksOf l 0) w) = true ↔ ∀ k, k < ws.length → l[a + i + k]? = ws[k]?)
 | [], i, _ => by simp [stepsFrom]
 | w :: ws, i, hl => by
   have ih := steps_words (l := l) ha ws (i + 1) (by simp at hl; omega)
   simp only [List.map_cons, stepsFrom, Bool.and_eq_true, decide_eq_true_eq]
   rw [wrap_in (by omega) (by simp at hl; omega), ih]
   have e : ((a : Int) + (i : Int) ∈ atsOf (toksOf l 0) w) ↔ l[a + i]? = some w := by
     rw [mem_atsO]
     constructor
     · rintro ⟨j, h1, h2⟩
       have : j = a + i := by omega
       rw [← this]; exact h2
     · intro h; exact ⟨a + i, by omega, h⟩
   rw [e]
   constructor
   · rintro ⟨h1, h2⟩ k hk
     cases k with
     | zero => simpa using h1
     | succ k =>
       have := h2 k (by simpa using hk)
       rw [show a + i + (k + 1) = a + (i + 1) + k by omega]; simpa using this
   · intro h
     refine ⟨by simpa using h 0 (by simp), fun k hk => ?_⟩
     have := h (k + 1) (by simpa using hk)
     rw [show a + (i + 1) + k = a + i + (k + 1) by omega]; simpa using this
theorem follow_words {l : List ByteArray} {ws : List ByteArray} (hl : l.length ≤ 1000) (hw : ws.length ≤ 900) : followB (ws.map fun w => atsOf (toksOf l 0) w) = infB l ws := by
 cases ws with
 | nil => rfl
 | cons w ws =>
   rw [Bool.eq_iff_iff, infB_iff]
   unfold followB
   rw [List.map_cons, List.any_eq_true]
   constructor
   · rintro ⟨x, hx, h⟩
     obtain ⟨i, rfl, hi⟩ := (mem_atsO l 0 w x).1 hx
     have hil := (List.getElem?_eq_some_iff.1 hi).1
     rw [Nat.zero_add] at h
     have := (steps_words (l := l) (a := i) (by omega) (w :: ws) 0 (by simp at hw ⊢; omega)).1 h
     exact ⟨by simp, i, hil, this⟩
   · rintro ⟨-, i, hil, h⟩
     have h0 := h 0 (by simp)
     refine ⟨((0 + i : Nat) : Int), (mem_atsO l 0 w _).2 ⟨i, rfl, by simpa using h0⟩, ?_⟩
     rw [Nat.zero_add]
     exact (steps_words (l := l) (a := i) (by omega) (w :: ws) 0 (by simp at hw ⊢; omega)).2 h
def IsK (rs : List Rec) (f : Rec → Bool) (ks : List Key) : Prop := AscK ks ∧ ∀ k, k ∈ ks ↔ ∃ r ∈ rs, r.key = k ∧ f r = true
section
variable {rs : List Rec} {f g : Rec → Bool} {ks ls : List Key}
theorem IsK.uniq (h : IsK rs f ks) (h' : IsK rs g ls) (e : ∀ r ∈ rs, f r = g r) : ks = ls := asc_ext h.1 h'.1 fun k => by
 rw [h.2, h'.2]
 exact ⟨fun ⟨r, hr, h1, h2⟩ => ⟨r, hr, h1, by rw [← e r hr]; exact h2⟩, fun ⟨r, hr, h1, h2⟩ => ⟨r, hr, h1, by rw [e r hr]; exact h2⟩⟩
theorem IsK.congr (h : IsK rs f ks) (e : ∀ r ∈ rs, f r = g r) : IsK rs g ks := ⟨h.1, fun k => by
 rw [h.2]
 exact ⟨fun ⟨r, hr, h1, h2⟩ => ⟨r, hr, h1, by rw [← e r hr]; exact h2⟩, fun ⟨r, hr, h1, h2⟩ => ⟨r, hr, h1, by rw [e r hr]; exact h2⟩⟩⟩
theorem IsK.at (hn : (rs.map Rec.key).Nodup) (h : IsK rs f ks) {r : Rec} (hr : r ∈ rs) : r.key ∈ ks ↔ f r = true := by
 rw [h.2]
 exact ⟨fun ⟨r', hr', h1, h2⟩ => by rw [← key_inj hn hr' hr h1]; exact h2, fun h1 => ⟨r, hr, rfl, h1⟩⟩
theorem IsK.nodup (h : IsK rs f ks) : ks.Nodup := h.1.imp fun {a b} hab e => by rw [e, before_irr] at hab; cases hab
theorem IsK.len (h : IsK rs f ks) : ks.length ≤ rs.length := by
 have := nodup_sub (l := ks) (m := rs.map Rec.key) h.nodup fun k hk => by
   obtain ⟨r, hr, e, -⟩ := (h.2 k).1 hk
   exact List.mem_map.2 ⟨r, hr, e⟩
 simpa using this
theorem IsK.all {s : PL × PW} (h : IxIs rs s) : IsK rs (fun _ => true) (sortK (mkeys s.2)) := ⟨sortK_asc h.wn, fun k => by
 rw [sortK_mem, h.wkeys.mem_iff, List.mem_map]
 exact ⟨fun ⟨r, hr, e⟩ => ⟨r, hr, e, rfl⟩, fun ⟨r, hr, e, _⟩ => ⟨r, hr, e⟩⟩⟩
theorem IsK.sub (hn : (rs.map Rec.key).Nodup) (h : IsK rs f ks) (p : Key → Bool) (hp : ∀ r ∈ rs, p r.key = g r) : IsK rs (fun r => f r && g r) (ks.filter p) := ⟨asc_filter h.1 p, fun k => by
 rw [List.mem_filter, h.2]
 constructor
 · rintro ⟨⟨r, hr, rfl, h2⟩, h3⟩; exact ⟨r, hr, rfl, by show (f r && g r) = true; rw [h2, ← hp r hr, h3]; rfl⟩
 · rintro ⟨r, hr, rfl, h2⟩
   rw [Bool.and_eq_true] at h2
   exact ⟨⟨r, hr, rfl, h2.1⟩, by rw [hp r hr]; exact h2.2⟩⟩
theorem IsK.less (hn : (rs.map Rec.key).Nodup) (h : IsK rs f ks) (h' : IsK rs g ls) : IsK rs (fun r => f r && !g r) (lessK ks ls) :=
 IsK.sub hn h (fun k => !decide (k ∈ ls)) fun r hr => by
   congr 1
   rw [Bool.eq_iff_iff, decide_eq_true_iff]; exact h'.at hn hr
theorem eachV_and (ls : List (SlV PostV)) : eachV (fun _ => true) ls = andV ls := by
 unfold eachV andV
 split
 · rfl
 · rename_i l0 r
   split
   · rename_i hm
     have h0 : mayB (l0.xs.map PostV.p) = true := List.all_eq_true.1 hm _ (by simp)
     congr 1
     refine List.filter_congr fun p hp => ?_
     have hl := look_self (may_asc h0) hp
     have hf : foundV (l0 :: r) p.k = p :: foundV r p.k := by
       unfold foundV
       rw [List.filterMap_cons_some (f := fun l : SlV PostV => lookP l.xs p.k) hl]
     rw [← found_all, hf, Bool.and_true]
   · rfl
def LsIs (P : PL) (ws : List ByteArray) (ls : List (SlV PostV)) : Prop := ls.map (fun l => plain1 l.xs) = ws.map fun w => (mget P w).getD []
theorem LsIs.may {s : PL × PW} (h : IxIs rs s) {ws : List ByteArray} {ls : List (SlV PostV)} (e : LsIs s.1 ws ls) : MayL ls := by
 have e' : (ls.map fun l => l.xs.map PostV.p) = ws.map fun w => (mget s.1 w).getD [] := e
 unfold MayL
 rw [e', mayAll, List.all_map, List.all_eq_true]
 exact fun w _ => (h.getD w).1
theorem LsIs.at {P : PL} {ws : List ByteArray} {ls : List (SlV PostV)} (e : LsIs P ws ls) {i : Nat} {l : SlV PostV} (hl : ls[i]? = some l) : ∃ w, ws[i]? = some w ∧ plain1 l.xs = (mget P w).getD [] := by
 have := congrArg (·[i]?) e
 simp only [List.getElem?_map, hl, Option.map_some] at this
 cases hw : ws[i]? with
 | none => rw [hw] at this; cases this
 | some w => rw [hw] at this; exact ⟨w, rfl, Option.some.inj this⟩
theorem LsIs.back {P : PL} {ws : List ByteArray} {ls : List (SlV PostV)} (e : LsIs P ws ls) {w : ByteArray} (hw : w ∈ ws) : ∃ l ∈ ls, plain1 l.xs = (mget P w).getD [] := by
 obtain ⟨i, hi⟩ := List.mem_iff_getElem?.1 hw
 have := congrArg (·[i]?) e
 simp only [List.getElem?_map, hi, Option.map_some] at this
 cases hl : ls[i]? with
 | none => rw [hl] at this; cases this
 | some l => rw [hl] at this; exact ⟨l, List.mem_of_getElem? hl, Option.some.inj this⟩
theorem post_is {s : PL × PW} (h : IxIs rs s) {w : ByteArray} {l : List PostV} (e : plain1 l = (mget s.1 w).getD []) (k : Key) : (∃ p ∈ l, p.k = k) ↔ ∃ r ∈ rs, r.key = k ∧ w ∈ wordsB r.t := by
 obtain ⟨-, hm⟩ := h.getD w
 constructor
 · rintro ⟨p, hp, rfl⟩
   have h1 : p.p ∈ (mget s.1 w).getD [] := by rw [← e]; exact List.mem_map.2 ⟨p, hp, rfl⟩
   obtain ⟨r, hr, h2, h3⟩ := (hm p.p).1 h1
   refine ⟨r, hr, h2.symm, ats_ne.1 fun hc => ?_⟩
   rw [posL_get, if_pos (show atsOf (toksV r.t) w = [] from hc)] at h3; cases h3
 · rintro ⟨r, hr, rfl, hw⟩
   have h3 : mget (tok r) w = some (atsOf (toksV r.t) w) := by rw [posL_get, if_neg (show ¬ atsOf (toksV r.t) w = [] from ats_ne.2 hw)]
   have h1 := (hm (r.key, atsOf (toksV r.t) w)).2 ⟨r, hr, rfl, h3⟩
   rw [← e] at h1
   obtain ⟨p, hp, hpe⟩ := List.mem_map.1 h1
   exact ⟨p, hp, congrArg Prod.fst hpe⟩
theorem IsK.and {s : PL × PW} (h : IxIs rs s) {ws : List ByteArray} {ls : List (SlV PostV)} (e : LsIs s.1 ws ls) (hne : ws ≠ []) : IsK rs (fun r => ws.all fun w => memB w (wordsB r.t)) (andV ls) := ⟨andV_asc ls, fun k => by
 have hln : ls ≠ [] := by
   intro hc; subst hc
   have := congrArg List.length e
   simp at this; exact hne (List.length_eq_zero_iff.1 this.symm)
 rw [andV_iff (e.may h) hln]
 constructor
 · intro hk
   obtain ⟨w0, hw0⟩ := List.exists_mem_of_ne_nil _ hne
   obtain ⟨l0, hl0, e0⟩ := e.back hw0
   obtain ⟨r, hr, hrk, -⟩ := (post_is h e0 k).1 (hk l0 hl0)
   refine ⟨r, hr, hrk, List.all_eq_true.2 fun w hw => memB_iff.2 ?_⟩
   obtain ⟨l, hl, el⟩ := e.back hw
   obtain ⟨r', hr', hrk', hw'⟩ := (post_is h el k).1 (hk l hl)
   rw [key_inj h.keys hr hr' (hrk.trans hrk'.symm)]; exact hw'
 · rintro ⟨r, hr, hrk, ha⟩ l hl
   obtain ⟨i, hi⟩ := List.mem_iff_getElem?.1 hl
   obtain ⟨w, hw, el⟩ := e.at hi
   exact (post_is h el k).2 ⟨r, hr, hrk, memB_iff.1 (List.all_eq_true.1 ha w (List.mem_of_getElem? hw))⟩⟩
theorem look_of {l : List PostV} {k : Key} {p : PostV} (h : lookP l k = some p) : p ∈ l ∧ p.k = k := by
 unfold lookP at h
 exact ⟨List.mem_of_find?_eq_some h, of_decide_eq_true (List.find?_some (p := fun p : PostV => decide (p.k = k)) h)⟩
theorem ats_is {s : PL × PW} (h : IxIs rs s) {r : Rec} (hr : r ∈ rs) : ∀ (ws : List ByteArray) (ls : List (SlV PostV)), LsIs s.1 ws ls → (∀ w ∈ ws, w ∈ wordsB r.t) → atsV ls r.key = ws.map fun w => atsOf (toksV r.t) w
 | [], ls, e, _ => by
   have : ls = [] := by have := congrArg List.length e; simp at this; exact this
   subst this; rfl
 | w :: ws, [], e, _ => by have := congrArg List.length e; simp at this
 | w :: ws, l :: ls, e, hw => by
   unfold LsIs at e
   rw [List.map_cons, List.map_cons] at e
   have e1 : plain1 l.xs = (mget s.1 w).getD [] := (List.cons.inj e).1
   have ih := ats_is h hr ws ls (List.cons.inj e).2 fun v hv => hw v (List.mem_cons_of_mem _ hv)
   obtain ⟨p0, hp0, hk0⟩ := (post_is h e1 r.key).2 ⟨r, hr, rfl, hw w (by simp)⟩
   obtain ⟨p, hp⟩ : ∃ p, lookP l.xs r.key = some p := Option.isSome_iff_exists.1 (look_iff.2 ⟨p0, hp0, hk0⟩)
   obtain ⟨hpm, hpk⟩ := look_of hp
   have h1 : p.p ∈ (mget s.1 w).getD [] := by rw [← e1]; exact List.mem_map.2 ⟨p, hpm, rfl⟩
   obtain ⟨r', hr', h2, h3⟩ := ((h.getD w).2 p.p).1 h1
   have hrr : r' = r := key_inj h.keys hr' hr (h2.symm.trans hpk)
   subst hrr
   rw [posL_get, if_neg (show ¬ atsOf (toksV r'.t) w = [] from ats_ne.2 (hw w (by simp)))] at h3
   have h4 : p.t.xs = atsOf (toksV r'.t) w := (Option.some.inj h3).symm
   unfold atsV foundV at ih ⊢
   rw [List.filterMap_cons_some (f := fun l : SlV PostV => lookP l.xs r'.key) hp, List.map_cons, List.map_cons, ih, h4]
theorem inf_all {l ws : List ByteArray} (h : infB l ws = true) : ∀ w ∈ ws, w ∈ l := fun w hw => by
 obtain ⟨-, i, -, hi⟩ := infB_iff.1 h
 obtain ⟨k, hk⟩ := List.mem_iff_getElem?.1 hw
 have := hi k (List.getElem?_eq_some_iff.1 hk).1
 rw [hk] at this
 exact List.mem_of_getElem? this
theorem IsK.phrase {s : PL × PW} (h : IxIs rs s) {ws : List ByteArray} {ls : List (SlV PostV)} (e : LsIs s.1 ws ls) (hne : ws ≠ []) (hw : ws.length ≤ 900) : IsK rs (fun r => infB (wordsB r.t) ws) (phraseV ls) := ⟨phraseV_asc ls, fun k => by
 unfold phraseV
 rw [List.mem_filter, (IsK.and h e hne).2]
 have key : ∀ r ∈ rs, (∀ w ∈ ws, w ∈ wordsB r.t) → followB (atsV ls r.key) = infB (wordsB r.t) ws := fun r hr ha => by
   rw [ats_is h hr ws ls e ha]
   exact follow_words (by have := words_len r.t; omega) hw
 constructor
 · rintro ⟨⟨r, hr, rfl, ha⟩, hf⟩
   have ha' : ∀ w ∈ ws, w ∈ wordsB r.t := fun w hw => memB_iff.1 (List.all_eq_true.1 ha w hw)
   exact ⟨r, hr, rfl, by show infB (wordsB r.t) ws = true; rw [← key r hr ha']; exact hf⟩
 · rintro ⟨r, hr, rfl, hi⟩
   have ha' := inf_all hi
   exact ⟨⟨r, hr, rfl, List.all_eq_true.2 fun w hw => memB_iff.2 (ha' w hw)⟩, by rw [key r hr ha']; exact hi⟩⟩
theorem IsK.word {s : PL × PW} (h : IxIs rs s) {w : ByteArray} {ls : List (SlV PostV)} (e : LsIs s.1 [w] ls) : IsK rs (fun r => infB (wordsB r.t) [w]) (andV ls) :=
 (IsK.and h e (by simp)).congr fun r _ => by rw [infB_one]; simp
theorem IxIs.gd {s : PL × PW} (h : IxIs rs s) (w : ByteArray) : ((mget s.1 w).getD []).length ≤ rs.length ∧ ∀ p ∈ (mget s.1 w).getD [], p.2.length ≤ 121 := by
 refine ⟨?_, fun p hp => ?_⟩
 · cases hm : mget s.1 w with
   | none => exact Nat.zero_le _
   | some l => exact h.lists hm
 · obtain ⟨r, hr, -, h2⟩ := ((h.getD w).2 p).1 hp
   rw [posL_get] at h2
   split at h2
   · cases h2
   · rw [← Option.some.inj h2]
     unfold atsOf
     rw [List.length_map]
     exact Nat.le_trans (List.length_filter_le ..) (toks_le121 r)
theorem word_tok {r : Rec} {w : ByteArray} : mget (tok r) w ≠ none ↔ w ∈ wordsB r.t := by
 rw [posL_get]
 by_cases hw : w ∈ wordsB r.t
 · rw [if_neg (show ¬ atsOf (toksV r.t) w = [] from ats_ne.2 hw)]; simp [hw]
 · rw [if_pos (show atsOf (toksV r.t) w = [] from Classical.byContradiction fun hc => hw (ats_ne.1 hc))]; simp [hw]
theorem IsK.prefix {s : PL × PW} (h : IxIs rs s) (w : ByteArray) {l : SlV PostV} (hp : List.Perm (plain1 l.xs) (mm sortI (prefM w s.1))) (ho : (plain1 l.xs).Pairwise fun p q => before q.1 p.1 = false) :
   (MayL [l] ∧ l.xs.length ≤ rs.length ∧ ∀ p ∈ l.xs, p.t.xs.length ≤ 1000) ∧ IsK rs (fun r => (wordsB r.t).any fun v => preB v w) (andV [l]) := by
 obtain ⟨h1, h2, h3, h4⟩ := h.pre w hp ho
 have hm : MayL [l] := by unfold MayL; rw [List.map_singleton, mayAll, List.all_cons, List.all_nil, Bool.and_true]; exact h1
 obtain ⟨i1, i2, i3⟩ := h.pre_get w (sortB (mkeys s.1)) [] List.nodup_nil (fun k hk => by cases hk)
 have hlen : l.xs.length ≤ rs.length := by
   have h9 := nodup_sub (l := mkeys (prefM w s.1)) (m := rs.map Rec.key) i1 i2
   have h8 := hp.length_eq
   simp only [mm, mkeys, plain1, List.length_map] at h8 h9
   omega
 refine ⟨⟨hm, hlen, fun p hpl => h3 p.p (List.mem_map.2 ⟨p, hpl, rfl⟩)⟩, andV_asc _, fun k => ?_⟩
 rw [andV_iff hm (by simp)]
 have e0 : (∀ l' ∈ [l], ∃ p ∈ l'.xs, p.k = k) ↔ ∃ p ∈ l.xs, p.k = k := by simp
 rw [e0]
 constructor
 · rintro ⟨p, hpl, rfl⟩
   have hx : p.p ∈ mm sortI (prefM w s.1) := hp.subset (List.mem_map.2 ⟨p, hpl, rfl⟩)
   obtain ⟨e, he, hxe⟩ := List.mem_map.1 hx
   have hek : e.1 = p.k := congrArg Prod.fst hxe
   obtain ⟨r, hr, hrk⟩ := List.mem_map.1 (i2 e.1 (List.mem_map.2 ⟨e, he, rfl⟩))
   refine ⟨r, hr, hrk.trans hek, ?_⟩
   obtain ⟨j1, j2⟩ := i3 r hr
   have hg : mget (prefM w s.1) r.key = some e.2 := mget_of_mem i1 (by rw [hrk]; exact he)
   have hne : preAts w (sortB (mkeys s.1)) r ≠ [] := fun hc => by
     have h9 : mget (prefM w s.1) r.key = none := j2.2 ⟨rfl, hc⟩
     rw [h9] at hg; cases hg
   obtain ⟨x, hx⟩ := List.exists_mem_of_ne_nil _ hne
   obtain ⟨v, hv, hxv⟩ := List.mem_flatMap.1 hx
   have hvp := (List.mem_filter.1 hv).2
   refine List.any_eq_true.2 ⟨v, ats_ne.1 (fun hc => ?_), hvp⟩
   have hxv' : x ∈ atsOf (toksOf (wordsB r.t) 0) v := hxv
   rw [hc] at hxv'; cases hxv'
 · rintro ⟨r, hr, rfl, ha⟩
   obtain ⟨v, hv, hvp⟩ := List.any_eq_true.1 ha
   obtain ⟨at', hat⟩ : ∃ at', mget (tok r) v = some at' := Option.ne_none_iff_exists'.1 (word_tok.2 hv)
   have hvs : v ∈ sortB (mkeys s.1) := by
     rw [sortB_mem]
     refine Classical.byContradiction fun hc => ?_
     rw [h.non v (mget_none.2 hc) r hr] at hat; cases hat
   obtain ⟨p, hpl, hpk, -⟩ := h4 r hr v hvs hvp at' hat
   obtain ⟨q, hq, hqe⟩ := List.mem_map.1 hpl
   exact ⟨q, hq, by rw [← hpk, ← hqe]; rfl⟩
end
end Go.Proofs.YtklgiidfompdpaaGreatDoor
namespace Go.Qu
open Go Go.Sl Go.Gv Go.Ix
section
variable {pre : ByteArray → ByteArray → Bool} {r : Rec} {ws : List ByteArray} {d : Nat} {a : AskV}
theorem holds_1 (h : a.kind = 1 ∨ a.kind = 3) : holdsA pre r ws (d + 1) a = infB ws a.ws := if_pos h
theorem holds_2 (h : a.kind = 2) : holdsA pre r ws (d + 1) a = ws.any fun w => pre w (a.ws.headD ⟨#[]⟩) := by unfold holdsA; rw [if_neg (by omega), if_pos h]
theorem holds_4 (h : a.kind = 4) : holdsA pre r ws (d + 1) a = decide (r.o = a.n) := by unfold holdsA; rw [if_neg (by omega), if_neg (by omega), if_pos h]
theorem holds_5 (h : a.kind = 5) : holdsA pre r ws (d + 1) a = decide (a.n ≤ r.w) := by unfold holdsA; rw [if_neg (by omega), if_neg (by omega), if_neg (by omega), if_pos h]
theorem holds_6 (h : a.kind = 6) : holdsA pre r ws (d + 1) a = decide (r.w ≤ a.n) := by unfold holdsA; rw [if_neg (by omega), if_neg (by omega), if_neg (by omega), if_neg (by omega), if_pos h]
theorem holds_8 (h : a.kind = 8) : holdsA pre r ws (d + 1) a = a.ss.any (holdsA pre r ws d) := by unfold holdsA; rw [if_neg (by omega), if_neg (by omega), if_neg (by omega), if_neg (by omega), if_neg (by omega), if_pos h]
theorem holds_9 (h : a.kind = 9) : holdsA pre r ws (d + 1) a = !(match a.ss with | [] => false | x :: _ => holdsA pre r ws d x) := by
 conv => lhs; unfold holdsA
 rw [if_neg (by omega), if_neg (by omega), if_neg (by omega), if_neg (by omega), if_neg (by omega), if_neg (by omega), if_pos h]
 rfl
theorem holds_7 (h : a.kind = 7) : holdsA pre r ws (d + 1) a = a.ss.all (holdsA pre r ws d) := by unfold holdsA; rw [if_neg (by omega), if_neg (by omega), if_neg (by omega), if_neg (by omega), if_neg (by omega), if_neg (by omega), if_neg (by omega)]
theorem holdsNot {x : AskV} (h : a.kind = 9) (hs : a.ss = [x]) : holdsA pre r ws (d + 1) a = !holdsA pre r ws d x := by rw [holds_9 h, hs]
end
theorem good_kind {odd : ByteArray → Bool} {d : Nat} {a : AskV} (h : goodA odd (d + 1) a = true) :
   ((a.kind = 1 ∨ a.kind = 2) ∧ a.ss = [] ∧ a.ws.length = 1) ∨ (a.kind = 3 ∧ a.ss = [] ∧ 1 ≤ a.ws.length ∧ a.ws.length ≤ 16) ∨ ((a.kind = 4 ∨ a.kind = 5 ∨ a.kind = 6) ∧ a.ss = []) ∨ (a.kind = 9 ∧ a.ss.length = 1) ∨ ((a.kind = 7 ∨ a.kind = 8) ∧ 2 ≤ a.ss.length) := by
 have hs : shapeB a = true := by
   cases hh : shapeB a with
   | true => rfl
   | false => rw [good_no hh] at h; cases h
 unfold shapeB at hs
 by_cases h1 : a.kind = 1 ∨ a.kind = 2
 · rw [if_pos h1] at hs; simp only [Bool.and_eq_true, decide_eq_true_eq] at hs; exact .inl ⟨h1, hs.1.2, hs.2⟩
 rw [if_neg h1] at hs
 by_cases h3 : a.kind = 3
 · rw [if_pos h3] at hs; simp only [Bool.and_eq_true, decide_eq_true_eq] at hs; exact .inr (.inl ⟨h3, hs.1.2, hs.2⟩)
 rw [if_neg h3] at hs
 by_cases h4 : a.kind = 4
 · rw [if_pos h4] at hs; simp only [Bool.and_eq_true, decide_eq_true_eq] at hs; exact .inr (.inr (.inl ⟨.inl h4, hs.1.2⟩))
 rw [if_neg h4] at hs
 by_cases h5 : a.kind = 5 ∨ a.kind = 6
 · rw [if_pos h5] at hs; simp only [Bool.and_eq_true, decide_eq_true_eq] at hs; exact .inr (.inr (.inl ⟨.inr h5, hs.1.2⟩))
 rw [if_neg h5] at hs
 by_cases h9 : a.kind = 9
 · rw [if_pos h9] at hs; simp only [Bool.and_eq_true, decide_eq_true_eq] at hs; exact .inr (.inr (.inr (.inl ⟨h9, hs.2⟩)))
 rw [if_neg h9] at hs
 by_cases h7 : a.kind = 7 ∨ a.kind = 8
 · rw [if_pos h7] at hs; simp only [Bool.and_eq_true, decide_eq_true_eq] at hs; exact .inr (.inr (.inr (.inr ⟨h7, hs.2⟩)))
 rw [if_neg h7] at hs; cases hs
theorem good_subs {odd : ByteArray → Bool} {d : Nat} {a : AskV} (h : goodA odd (d + 1) a = true) : ∀ x ∈ a.ss, goodA odd d x = true := by
 have hs : shapeB a = true := by
   cases hh : shapeB a with
   | true => rfl
   | false => rw [good_no hh] at h; cases h
 rw [good_yes hs, Bool.and_eq_true] at h
 exact List.all_eq_true.1 h.2
end Go.Qu
namespace Go.Proofs.YtklgiidfompdpaaGreatDoor
open Go Go.Sl Go.Gv Go.Kv Go.Po Go.Ix Go.Bst Go.Qu
def holdsQ (d : Nat) (a : AskV) (r : Rec) : Bool := holdsA preB r (wordsB r.t) d a
end Go.Proofs.YtklgiidfompdpaaGreatDoor
namespace Go.Sl
open Go
section
variable {P : Program} {env : Env} {d : Option Tmp} {x z : Operand} {T ty : TypeId} {pos : String} {af : Array Edge} {g : Option (Nat × Bool)}
theorem cmp_si {t t0 t1 : TypeId} {f0 f1 : Field} {k : IntKind} (ht : P.underlying t = some (.struct #[f0, f1])) (hs : P.stoodInHeld t = false) (hn : f0.name ≠ "_" ∧ f1.name ≠ "_") (hf : (f0.type = t0 ∧ f1.type = t1) ∧ f0.offset = 0 ∧ f1.offset = 1)
   (h0 : P.underlying t0 = some .string) (n0 : NA P t0) (h1 : P.underlying t1 = some (.int k)) (n1 : NA P t1) : CmpT P t (fun p : ByteArray × Int => .agg #[.string p.1, .int k p.2]) 2 := fun d hd a b w => by
 obtain ⟨d, rfl⟩ : ∃ e, d = e + 1 := ⟨d - 1, by omega⟩
 have e := equalIn_struct (P := P) (d := d) (w := w) (xs := #[.string a.1, .int k a.2]) (ys := #[.string b.1, .int k b.2]) (bs := [decide (a.1 = b.1), decide (a.2 = b.2)]) ht hs rfl (fun i f c hf' hc => by
   match i with
   | 0 => simp at hf' hc; subst hf'; subst hc; rw [hf.1.1, hf.2.1]; exact ⟨hn.1, _, _, part_na n0 rfl, part_na n0 rfl, cmp_str h0 d (by omega) _ _ w⟩
   | 1 => simp at hf' hc; subst hf'; subst hc; rw [hf.1.2, hf.2.2]; exact ⟨hn.2, _, _, part_na n1 rfl, part_na n1 rfl, cmp_int h1 d (by omega) _ _ w⟩
   | i + 2 => simp at hf')
 refine e.trans ?_; congr 1
 cases a; cases b; simp
theorem Ct.fr {P : Program} {f : FuncId} {args : List Value} {S F : HProp} {x : Value} (c : Ct P f args [S] (fun v hs => v = x ∧ hs = [S])) : Ct P f args [S, F] (fun v hs => v = x ∧ hs = [S, F]) :=
 ⟨c.enters, fun w0 w R s => (c.calls w0 w (F :: R) s).mono fun _ _ ⟨v, hs, e, ⟨h1, h2⟩, t⟩ => ⟨v, [S, F], e, ⟨h1, rfl⟩, by subst h2; exact t⟩⟩
theorem Ct.two0 {P : Program} {f : FuncId} {args : List Value} {A B : HProp} {x : Value} (c : Ct P f args [Sl.two A B] (fun v hs => v = x ∧ hs = [Sl.two A B])) : Ct P f args [A, B] (fun v hs => v = x ∧ hs = [A, B]) :=
 (c.two fun _ _ h => ⟨[], h.2⟩).mono fun v hs ⟨r, ⟨h1, h2⟩, h3⟩ => ⟨h1, by cases h2; exact h3⟩
end
end Go.Sl
namespace Go.Qu
open Go Go.Sl Go.Gv Go.Ix
theorem ARd.two1 {S A : HProp} {a : AskV} (h : ARd S a) : ARd (two S A) a := by
 induction h with
 | mk hw hs hl h ih => exact .mk (Srd.two1 hw) (Srd.two1 hs) hl ih
end Go.Qu
namespace Go.Ix
open Go Go.Sl Go.Gv Go.Kv Go.Po Go.Bst
end Go.Ix
namespace Go.Proofs.YtklgiidfompdpaaGreatDoor
open Go Go.Sl Go.Gv Go.Kv Go.Po Go.Ix Go.Qu Go.Shelf
set_option maxRecDepth 100000
theorem tok_at (l : List ByteArray) (i : Nat) : (toksOf l 0)[i]? = l[i]?.map fun w => (w, (i : Int)) := by
 unfold toksOf
 rw [List.getElem?_map, List.getElem?_zipIdx]
 cases l[i]? <;> simp
theorem cmp_98 : CmpT Tryz.prog 98 (fun p : ByteArray × Int => .agg #[.string p.1, .int .i64 p.2]) 2 :=
 cmp_si Tryz.underlying98 Tryz.stoodInHeld98 ⟨by decide, by decide⟩ ⟨⟨rfl, rfl⟩, rfl, rfl⟩ Tryz.underlying9 na_9 Tryz.underlying3 na_3
theorem indexW_spec {S F : HProp} {g : FuncId} {c1 : Value} {q : WordP → Bool} {a : Option Addr} {c : Nat} {l : List WordP} (hS : Srd S 2 wordC a l) (hl : l.length ≤ 1000) (hg : ∀ x ∈ l, Ct Tryz.prog g ([] ++ [wordV x] ++ [c1]) [S, F] (fun v hs => v = .bool (q x) ∧ hs = [S, F])) :
   Ct Tryz.prog 204 [.slice a l.length c, .func (.func g) #[] #[c1]] [S, F] (fun v hs => (∃ z : Int, v = int z ∧ decide (0 ≤ z) = l.any q) ∧ hs = [S, F]) := by
 refine Cti Tryz.func204 (by kernel_rfl) 19 Tryz.ntmps204 rfl rfl fun w0 R => ?_
 refine Gs.slAddr (hS.h (by repeat constructor)) fun ab ao ha => ?_
 refine Gsr (Las rfl rfl (Lnt (Gs.seq (Gsr (Lmv rfl rfl (Lq rfl (pu_len Tryz.underlying83 rfl) (Lmv rfl rfl (Lnt (Gs.block (Gs.loop1 (fun i : Nat => i ≤ l.length ∧ (l.take i).any q = false) (fun i => [(0, .slice a l.length c), (1, .func (.func g) #[] #[c1]), (7, int l.length), (8, int i)]) (fun i => [S, F] ++ R) (fun i => l.length - i) 0 (⟨Nat.zero_le _, rfl⟩) (by repeat constructor) (by repeat constructor) (fun i ⟨hi, hq⟩ => ?_)))))))))))
 refine Gsr (Lq rfl (pu_lt rfl rfl) (Lnt (Gs.seq (Gs.cond rfl (fun hc0 => ?_) (fun hc0 => ?_)))))
 ·
  have hlt : i < l.length := by have := of_decide_eq_true hc0; omega
  obtain ⟨x, hx⟩ : ∃ x, l[i]? = some x := ⟨l[i], by simp [hlt]⟩
  obtain rfl := ha (by rintro rfl; simp at hlt)
  have hm := List.mem_of_getElem? hx
  refine Gs.skip (Gn (Gs.seq (Gs.block (Gsr (Lmv rfl rfl (Las rfl rfl (Lnt (Gsr (Lmv rfl rfl (Lmv rfl rfl (Lmv rfl rfl ?_)))))))))))
  refine Lq rfl (pu_ia se_83 rfl rfl (by omega) (by omega)) (Lr rfl (rd_lda ag_98 rfl (Rdc.el0 (hS.h (by repeat constructor)) hx rfl rfl) rfl) ?_)
  refine La rfl (as_callV rfl (hg x hm) (by repeat constructor) (by repeat constructor)) ?_
  rintro _ _ ⟨_, ⟨rfl, rfl⟩, rfl⟩
  refine Lnt (Gs.cond rfl (fun hc1 => ?_) (fun hc1 => ?_))
  ·
   have hyes : l.any q = true := List.any_eq_true.2 ⟨x, hm, hc1⟩
   refine Gsr (Lmv rfl rfl (Las rfl rfl (Lnt (Gs.ret (Gs.blk_r (Gr (Gr (Gs.blk_r (Gr ?_)))))))))
   exact Gs.fin1 Tryz.results204 rfl _ (⟨⟨_, rfl, by rw [hyes]; exact decide_eq_true (by omega)⟩, rfl⟩) (by repeat constructor)
  have hno : (l.take (i + 1)).any q = false := by rw [List.take_add_one, hx, List.any_append, hq]; simp [hc1]
  refine Gs.skip (Gs.blk_n (Gn (Gs.reg (Lq rfl (by first | exact pu_addI rfl rfl rfl (by omega) (by omega) | exact pu_add rfl rfl) ?_))))
  refine Lmv rfl rfl (Lnt ?_)
  exact Ag (i + 1) ⟨hlt, hno⟩ (by show l.length - (i + 1) < l.length - i; omega)
 have hge : i = l.length := by have := of_decide_eq_false hc0; omega
 rw [hge, List.take_length] at hq
 refine Gs.exit (Gx (Gx (Gs.blk_hit (Gn (Gsr (Las rfl rfl (Lnt (Gs.ret ?_))))))))
 exact Gs.fin1 Tryz.results204 rfl _ (⟨⟨_, rfl, by rw [hq]; rfl⟩, rfl⟩) (by repeat constructor)
theorem containsW_spec {S F : HProp} {g : FuncId} {c1 : Value} {q : WordP → Bool} {a : Option Addr} {c : Nat} {l : List WordP} (hS : Srd S 2 wordC a l) (hl : l.length ≤ 1000) (hg : ∀ x ∈ l, Ct Tryz.prog g ([] ++ [wordV x] ++ [c1]) [S, F] (fun v hs => v = .bool (q x) ∧ hs = [S, F])) :
   Ct Tryz.prog 159 [.slice a l.length c, .func (.func g) #[] #[c1]] [S, F] (fun v hs => v = .bool (l.any q) ∧ hs = [S, F]) := by
 refine Cti Tryz.func159 (by kernel_rfl) 9 Tryz.ntmps159 rfl rfl fun w0 R => ?_
 refine Gsr (Las rfl rfl (Lnt (Gsr (Lmv rfl rfl (Lmv rfl rfl (La rfl (asC (indexW_spec hS hl hg)) ?_))))))
 rintro _ _ ⟨_, ⟨⟨z, rfl, hz⟩, rfl⟩, rfl⟩
 refine Lq rfl (pu_ge rfl rfl) (Las rfl rfl (Lnt (Gs.ret ?_)))
 exact Gs.fin1 Tryz.results159 rfl _ (⟨by rw [← hz], rfl⟩) (by repeat constructor)
theorem indexAv_spec {S F : HProp} {g : FuncId} {us cs : List Value} {q : AskV → Bool} {a : Option Addr} {c : Nat} {ls : List AskV} (hS : Srd S 4 askC a ls) (hg : ∀ l ∈ ls, Ct Tryz.prog g (us ++ [askV l] ++ cs) [S, F] (fun v hs => v = .bool (q l) ∧ hs = [S, F])) (hl : ls.length ≤ 1000) :
   Ct Tryz.prog 165 [.slice a ls.length c, .func (.func g) us.toArray cs.toArray] [S, F] (fun v hs => (∃ z : Int, v = int z ∧ decide (0 ≤ z) = ls.any q) ∧ hs = [S, F]) := by
 refine Cti Tryz.func165 (by kernel_rfl) 19 Tryz.ntmps165 rfl rfl fun w0 R => ?_
 refine Gs.slAddr (hS.h (by repeat constructor)) fun ab ao ha => ?_
 refine Gsr (Las rfl rfl (Lnt (Gs.seq (Gsr (Lmv rfl rfl (Lq rfl (pu_len Tryz.underlying24 rfl) (Lmv rfl rfl (Lnt (Gs.block (Gs.loop1 (fun i : Nat => i ≤ ls.length ∧ (ls.take i).any q = false) (fun i => [(0, .slice a ls.length c), (1, .func (.func g) us.toArray cs.toArray), (7, int ls.length), (8, int i)]) (fun i => [S, F] ++ R) (fun i => ls.length - i) 0 (⟨Nat.zero_le _, rfl⟩) (by repeat constructor) (by repeat constructor) (fun i ⟨hi, hq⟩ => ?_)))))))))))
 refine Gsr (Lq rfl (pu_lt rfl rfl) (Lnt (Gs.seq (Gs.cond rfl (fun hc0 => ?_) (fun hc0 => ?_)))))
 ·
  have hlt : i < ls.length := by have := of_decide_eq_true hc0; omega
  obtain ⟨x, hx⟩ : ∃ x, ls[i]? = some x := ⟨ls[i], by simp [hlt]⟩
  obtain rfl := ha (by rintro rfl; simp at hlt)
  have hm := List.mem_of_getElem? hx
  refine Gs.skip (Gn (Gs.seq (Gs.block (Gsr (Lmv rfl rfl (Las rfl rfl (Lnt (Gsr (Lmv rfl rfl (Lmv rfl rfl (Lmv rfl rfl ?_)))))))))))
  refine Lq rfl (pu_ia se_24 rfl rfl (by omega) (by omega)) (Lr rfl (rd_lda ag_26 rfl (Rdc.el0 (hS.h (by repeat constructor)) hx rfl rfl) rfl) ?_)
  refine La rfl (as_callV rfl (hg x hm) (by repeat constructor) (by repeat constructor)) ?_
  rintro _ _ ⟨_, ⟨rfl, rfl⟩, rfl⟩
  refine Lnt (Gs.cond rfl (fun hc1 => ?_) (fun hc1 => ?_))
  ·
   have hyes : ls.any q = true := List.any_eq_true.2 ⟨x, hm, hc1⟩
   refine Gsr (Lmv rfl rfl (Las rfl rfl (Lnt (Gs.ret (Gs.blk_r (Gr (Gr (Gs.blk_r (Gr ?_)))))))))
   exact Gs.fin1 Tryz.results165 rfl _ (⟨⟨_, rfl, by rw [hyes]; exact decide_eq_true (by omega)⟩, rfl⟩) (by repeat constructor)
  have hno : (ls.take (i + 1)).any q = false := by rw [List.take_add_one, hx, List.any_append, hq]; simp [hc1]
  refine Gs.skip (Gs.blk_n (Gn (Gs.reg (Lq rfl (by first | exact pu_addI rfl rfl rfl (by omega) (by omega) | exact pu_add rfl rfl) ?_))))
  refine Lmv rfl rfl (Lnt ?_)
  exact Ag (i + 1) ⟨hlt, hno⟩ (by show ls.length - (i + 1) < ls.length - i; omega)
 have hge : i = ls.length := by have := of_decide_eq_false hc0; omega
 rw [hge, List.take_length] at hq
 refine Gs.exit (Gx (Gx (Gs.blk_hit (Gn (Gsr (Las rfl rfl (Lnt (Gs.ret ?_))))))))
 exact Gs.fin1 Tryz.results165 rfl _ (⟨⟨_, rfl, by rw [hq]; rfl⟩, rfl⟩) (by repeat constructor)
theorem containsAv_spec {S F : HProp} {g : FuncId} {us cs : List Value} {q : AskV → Bool} {a : Option Addr} {c : Nat} {ls : List AskV} (hS : Srd S 4 askC a ls) (hg : ∀ l ∈ ls, Ct Tryz.prog g (us ++ [askV l] ++ cs) [S, F] (fun v hs => v = .bool (q l) ∧ hs = [S, F])) (hl : ls.length ≤ 1000) :
   Ct Tryz.prog 119 [.slice a ls.length c, .func (.func g) us.toArray cs.toArray] [S, F] (fun v hs => v = .bool (ls.any q) ∧ hs = [S, F]) := by
 refine Cti Tryz.func119 (by kernel_rfl) 9 Tryz.ntmps119 rfl rfl fun w0 R => ?_
 refine Gsr (Las rfl rfl (Lnt (Gsr (Lmv rfl rfl (Lmv rfl rfl (La rfl (asC (indexAv_spec hS hg hl)) ?_))))))
 rintro _ _ ⟨_, ⟨⟨z, rfl, hz⟩, rfl⟩, rfl⟩
 refine Lq rfl (pu_ge rfl rfl) (Las rfl rfl (Lnt (Gs.ret ?_)))
 exact Gs.fin1 Tryz.results119 rfl _ (⟨by rw [← hz], rfl⟩) (by repeat constructor)
theorem phraseD_spec {S : HProp} {a b : Option Addr} {c e : Nat} {l ps : List ByteArray} (hS : Srd S 2 wordC a (toksOf l 0)) (hP : Srd S 1 strC b ps) (hl : l.length ≤ 1000) (hpl : ps.length ≤ 1000) :
   Ct Tryz.prog 158 [.slice a (toksOf l 0).length c, .slice b ps.length e] [S] (fun v hs => v = .bool (infB l ps) ∧ hs = [S]) := by
 obtain ⟨v0, hv0⟩ : ∃ z, z = infB l ps := ⟨_, rfl⟩
 rw [← hv0]
 have hTl := toks_length l 0
 refine Cti Tryz.func158 (by kernel_rfl) 56 Tryz.ntmps158 rfl rfl fun w0 R => ?_
 refine Gs.slAddr (hS.h (by repeat constructor)) fun ab ao ha => ?_
 refine Gs.slAddr (hP.h (by repeat constructor)) fun bb bo hb => ?_
 refine Gsr (Las rfl rfl (Lnt (Gs.seq (Gsr (Lmv rfl rfl (Lq rfl (pu_len Tryz.underlying83 rfl) (Lmv rfl rfl (Lnt (Gs.block (Gs.loop1 (fun i : Nat => i ≤ l.length ∧ (ps = [] ∨ ∀ j, j < i → ¬ ∀ k, k < ps.length → l[j + k]? = ps[k]?)) (fun i => [(0, .slice a (toksOf l 0).length c), (1, .slice b ps.length e), (8, int (toksOf l 0).length), (9, int i)]) (fun i => [S] ++ R) (fun i => l.length - i) 0 (⟨Nat.zero_le _, .inr fun j h => by omega⟩) (by repeat constructor) (by repeat constructor) (fun i ⟨hi, hno⟩ => ?_)))))))))))
 refine Gsr (Lq rfl (pu_lt rfl rfl) (Lnt (Gs.seq (Gs.cond rfl (fun hc0 => ?_) (fun hc0 => ?_)))))
 ·
  have hlt : i < l.length := by have := of_decide_eq_true hc0; omega
  obtain ⟨w, hw⟩ : ∃ z, l[i]? = some z := ⟨l[i], by simp [hlt]⟩
  have hwT : (toksOf l 0)[i]? = some (w, (i : Int)) := by rw [tok_at, hw]; rfl
  obtain rfl := ha (fun hc => by rw [hc] at hTl; simp at hTl; omega)
  refine Gs.skip (Gn (Gs.seq (Gs.block (Gsr (Lmv rfl rfl (Las rfl rfl (Lnt (Gsr (Las rfl rfl (Lnt (Gs.seq ?_)))))))))))
  refine Gs.block (Gs.loop1 (fun n : Nat => n ≤ ps.length ∧ ∀ k, k < n → l[i + k]? = ps[k]?) (fun n => [(0, .slice (some ⟨ab, ao, none⟩) (toksOf l 0).length c), (1, .slice b ps.length e), (5, int i), (6, int n), (8, int (toksOf l 0).length), (9, int i)]) (fun n => [S] ++ R) (fun n => ps.length - n) 0 (⟨Nat.zero_le _, fun k h => by omega⟩) (by repeat constructor) (by repeat constructor) (fun n ⟨hn, hall⟩ => ?_))
  refine Gs.seq (Gs.seq (Gs.regD mixed (by kernel_rfl) (Rmv 0 rfl (by kernel_rfl) rfl (Rmv 1 rfl (by kernel_rfl) rfl (Rq 2 rfl (by kernel_rfl) (pu_len Tryz.underlying23 rfl) (Rq 3 rfl (by kernel_rfl) (pu_lt rfl rfl) (Rg.puB 4 rfl rfl (by kernel_rfl) trivial (pu_move rfl) (fun hg4 => ?_) (fun hg4 => ?_))))))))
  ·
   have hnl : n < ps.length := by have := of_decide_eq_true hg4; omega
   obtain ⟨p, hp⟩ : ∃ z, ps[n]? = some z := ⟨ps[n], by simp [hnl]⟩
   obtain rfl := hb (by rintro rfl; simp at hnl)
   refine Rg.pu 5 rfl rfl (by kernel_rfl) ⟨_, rfl, rfl⟩ (pu_move rfl) (Rg.pu 6 rfl rfl (by kernel_rfl) ⟨_, rfl, rfl⟩ (pu_move rfl) (Rg.pu 7 rfl rfl (by kernel_rfl) ⟨_, rfl, rfl⟩ (pu_addI (z := ((i + n : Nat) : Int)) rfl rfl (by omega) (by omega) (by omega)) ?_))
   refine Rg.pu 8 rfl rfl (by kernel_rfl) ⟨_, rfl, rfl⟩ (pu_move rfl) (Rg.pu 9 rfl rfl (by kernel_rfl) ⟨_, rfl, rfl⟩ (pu_len Tryz.underlying83 rfl) (Rg.pu 10 rfl rfl (by kernel_rfl) ⟨_, rfl, rfl⟩ (pu_lt rfl rfl) (Rpk 11 rfl (by kernel_rfl) rfl rfl (Rg.puB 12 rfl rfl (by kernel_rfl) trivial (pu_move rfl) (fun hg12 => ?_) (fun hg12 => ?_)))))
   ·
    have hin : i + n < l.length := by have := of_decide_eq_true hg12; omega
    obtain ⟨x, hx⟩ : ∃ z, l[i + n]? = some z := ⟨l[i + n], by simp [hin]⟩
    have hxT : (toksOf l 0)[i + n]? = some (x, ((i + n : Nat) : Int)) := by rw [tok_at, hx]; rfl
    refine Rg.pu 13 rfl rfl (by kernel_rfl) ⟨_, rfl, rfl⟩ (pu_move rfl) (Rg.pu 14 rfl rfl (by kernel_rfl) ⟨_, rfl, rfl⟩ (pu_move rfl) (Rg.pu 15 rfl rfl (by kernel_rfl) ⟨_, rfl, rfl⟩ (pu_move rfl) (Rg.pu 16 rfl rfl (by kernel_rfl) ⟨_, rfl, rfl⟩ (pu_addI (z := ((i + n : Nat) : Int)) rfl rfl (by omega) (by omega) (by omega)) ?_)))
    refine Rg.pu 17 rfl rfl (by kernel_rfl) ⟨_, rfl, rfl⟩ (pu_ia se_83 rfl rfl (by omega) (by omega)) (Rg.rd 18 rfl rfl (by kernel_rfl) ⟨_, rfl, rfl⟩ (rd_lda ag_98 rfl (Rdc.el0 (hS.h (by repeat constructor)) hxT rfl rfl) rfl) ?_)
    refine Rg.pu 19 rfl rfl (by kernel_rfl) ⟨_, rfl, rfl⟩ (pu_move rfl) (Rg.pu 20 rfl rfl (by kernel_rfl) ⟨_, rfl, rfl⟩ (pu_move rfl) (Rg.pu 21 rfl rfl (by kernel_rfl) ⟨_, rfl, rfl⟩ (pu_ia se_23 rfl rfl (by omega) (by omega)) (Rg.rd 22 rfl rfl (by kernel_rfl) ⟨_, rfl, rfl⟩ (rd_ld na_9 rfl (Rdc.el0 (hP.h (by repeat constructor)) hp rfl rfl)) ?_)))
    refine Rg.pu 23 rfl rfl (by kernel_rfl) ⟨_, rfl, rfl⟩ (pu_move rfl) (Rg.pu 24 rfl rfl (by kernel_rfl) ⟨_, rfl, rfl⟩ (pu_move rfl) (Rg.pu 25 rfl rfl (by kernel_rfl) ⟨_, rfl, rfl⟩ (pu_ia se_83 rfl rfl (by omega) (by omega)) (Rg.pu 26 rfl rfl (by kernel_rfl) ⟨_, rfl, rfl⟩ (pu_fa fa_98_1 rfl) (Rg.rd 27 rfl rfl (by kernel_rfl) ⟨_, rfl, rfl⟩ (rd_ld na_3 rfl (Rdc.elp 1 (hS.h (by repeat constructor)) hwT rfl rfl)) ?_))))
    refine Rg.pu 28 rfl rfl (by kernel_rfl) ⟨_, rfl, rfl⟩ (pu_move rfl) (Rg.pu 29 rfl rfl (by kernel_rfl) ⟨_, rfl, rfl⟩ (pu_addI (z := ((i + n : Nat) : Int)) rfl rfl (by omega) (by omega) (by omega)) ?_)
    refine Rg.pu 30 rfl rfl (by kernel_rfl) ⟨_, rfl, rfl⟩ (pu_build bd_98 (by repeat constructor) rfl) ?_
    refine Rg.pu 31 rfl rfl (by kernel_rfl) ⟨_, rfl, rfl⟩ (pu_eqT (cs := wordC) (a := (x, ((i + n : Nat) : Int))) (b := (p, ((i + n : Nat) : Int))) cmp_98 (by decide) Tryz.eqGuardType98 rfl rfl) ?_
    refine Rpk 32 rfl (by kernel_rfl) rfl rfl (Rg.end (by kernel_rfl) (Gn (Gs.cond rfl (fun hc1 => ?_) (fun hc1 => ?_))))
    ·
     have hxp : x = p := congrArg Prod.fst (of_decide_eq_true hc1)
     have hall2 : ∀ k, k < n + 1 → l[i + k]? = ps[k]? := fun k hk => by
       by_cases e : k = n
       · subst e; rw [hx, hp, hxp]
       · exact hall k (by omega)
     refine Gs.skip (Gn (Gs.block (Gs.reg (Lmv rfl rfl (Lq rfl (by first | exact pu_addI rfl rfl rfl (by omega) (by omega) | exact pu_add rfl rfl) ?_)))))
     refine Las rfl rfl (Lnil (Gs.blk_n (Gn ?_)))
     exact Ag (n + 1) ⟨hnl, hall2⟩ (by omega)
    have hend : n = ps.length ∨ (n < ps.length ∧ l[i + n]? ≠ ps[n]?) := .inr ⟨hnl, by rw [hx, hp]; exact fun h => (of_decide_eq_false hc1) (by cases h; rfl)⟩
    refine Gs.exit (Gx (Gx (Gs.blk_hit (Gn (Gsr (Lmv rfl rfl (Lq rfl (pu_gt rfl rfl) (LpuB rfl rfl trivial (pu_move rfl) (fun hg2 => ?_) (fun hg2 => ?_)))))))))
    ·
     refine Lpu rfl rfl ⟨_, rfl, rfl⟩ (pu_move rfl) (Lpu rfl rfl ⟨_, rfl, rfl⟩ (pu_move rfl) (Lpu rfl rfl ⟨_, rfl, rfl⟩ (pu_len Tryz.underlying23 rfl) (Lpu rfl rfl ⟨_, rfl, rfl⟩ (pu_eq rfl rfl) (Lpk rfl rfl rfl (Lnt (Gs.cond rfl (fun hc2 => ?_) (fun hc2 => ?_)))))))
     ·
      have hpos : 0 < n := by have := of_decide_eq_true hg2; omega
      have hyes : infB l ps = true := infB_iff.2 ⟨fun e => by rw [e] at hn; simp at hn; omega, i, hlt, fun k hk => hall k (by have := of_decide_eq_true hc2; omega)⟩
      refine Gsr (Las rfl rfl (Lnt (Gs.ret (Gs.blk_r (Gr (Gr (Gs.blk_r (Gr ?_))))))))
      exact Gs.fin1 Tryz.results158 rfl _ (⟨by rw [hv0, hyes], rfl⟩) (by repeat constructor)
     have hfin : ps = [] ∨ ∀ j, j < i + 1 → ¬ ∀ k, k < ps.length → l[j + k]? = ps[k]? := by
       have hz : n ≠ ps.length := by have := of_decide_eq_false hc2; omega
       rcases hend with h | ⟨h1, h2⟩
       · exact absurd h hz
       · rcases hno with h3 | h3
         · exact .inl h3
         · refine .inr fun j hj hc => ?_
           by_cases ej : j = i
           · subst ej; exact h2 (hc n h1)
           · exact h3 j (by omega) hc
     refine Gs.skip (Gs.blk_n (Gn (Gs.reg (Lq rfl (by first | exact pu_addI rfl rfl rfl (by omega) (by omega) | exact pu_add rfl rfl) ?_))))
     refine Lmv rfl rfl (Lnt ?_)
     exact Ag (i + 1) ⟨hlt, hfin⟩ (by omega)
    have hfin : ps = [] ∨ ∀ j, j < i + 1 → ¬ ∀ k, k < ps.length → l[j + k]? = ps[k]? := by
      have hz : n = 0 := by have := of_decide_eq_false hg2; omega
      rcases hend with h | ⟨h1, h2⟩
      · exact .inl (List.length_eq_zero_iff.1 (by omega))
      · rcases hno with h3 | h3
        · exact .inl h3
        · refine .inr fun j hj hc => ?_
          by_cases ej : j = i
          · subst ej; exact h2 (hc n h1)
          · exact h3 j (by omega) hc
    refine Lof rfl (Lof rfl (Lof rfl (Lof rfl (Lpk rfl rfl rfl (Lnt (Gs.cond_f rfl (Gs.skip (Gs.blk_n (Gn (Gs.reg (Lq rfl (by first | exact pu_addI rfl rfl rfl (by omega) (by omega) | exact pu_add rfl rfl) ?_)))))))))))
    refine Lmv rfl rfl (Lnt ?_)
    exact Ag (i + 1) ⟨hlt, hfin⟩ (by omega)
   have hend : n = ps.length ∨ (n < ps.length ∧ l[i + n]? ≠ ps[n]?) := .inr ⟨hnl, by rw [hp, List.getElem?_eq_none (by have := of_decide_eq_false hg12; omega)]; exact fun h => by cases h⟩
   refine Rof 13 rfl (by kernel_rfl) rfl (Rof 14 rfl (by kernel_rfl) rfl (Rof 15 rfl (by kernel_rfl) rfl (Rof 16 rfl (by kernel_rfl) rfl (Rof 17 rfl (by kernel_rfl) rfl (Rof 18 rfl (by kernel_rfl) rfl (Rof 19 rfl (by kernel_rfl) rfl (Rof 20 rfl (by kernel_rfl) rfl (Rof 21 rfl (by kernel_rfl) rfl (Rof 22 rfl (by kernel_rfl) rfl (Rof 23 rfl (by kernel_rfl) rfl (Rof 24 rfl (by kernel_rfl) rfl ?_)))))))))))
   refine Rof 25 rfl (by kernel_rfl) rfl (Rof 26 rfl (by kernel_rfl) rfl (Rof 27 rfl (by kernel_rfl) rfl (Rof 28 rfl (by kernel_rfl) rfl (Rof 29 rfl (by kernel_rfl) rfl (Rof 30 rfl (by kernel_rfl) rfl (Rof 31 rfl (by kernel_rfl) rfl (Rpk 32 rfl (by kernel_rfl) rfl rfl (Rg.end (by kernel_rfl) (Gn (Gs.cond_f rfl (Gs.exit ?_)))))))))))
   refine Gx (Gx (Gs.blk_hit (Gn (Gsr (Lmv rfl rfl (Lq rfl (pu_gt rfl rfl) (LpuB rfl rfl trivial (pu_move rfl) (fun hg2 => ?_) (fun hg2 => ?_))))))))
   ·
    refine Lpu rfl rfl ⟨_, rfl, rfl⟩ (pu_move rfl) (Lpu rfl rfl ⟨_, rfl, rfl⟩ (pu_move rfl) (Lpu rfl rfl ⟨_, rfl, rfl⟩ (pu_len Tryz.underlying23 rfl) (Lpu rfl rfl ⟨_, rfl, rfl⟩ (pu_eq rfl rfl) (Lpk rfl rfl rfl (Lnt (Gs.cond rfl (fun hc2 => ?_) (fun hc2 => ?_)))))))
    ·
     have hpos : 0 < n := by have := of_decide_eq_true hg2; omega
     have hyes : infB l ps = true := infB_iff.2 ⟨fun e => by rw [e] at hn; simp at hn; omega, i, hlt, fun k hk => hall k (by have := of_decide_eq_true hc2; omega)⟩
     refine Gsr (Las rfl rfl (Lnt (Gs.ret (Gs.blk_r (Gr (Gr (Gs.blk_r (Gr ?_))))))))
     exact Gs.fin1 Tryz.results158 rfl _ (⟨by rw [hv0, hyes], rfl⟩) (by repeat constructor)
    have hfin : ps = [] ∨ ∀ j, j < i + 1 → ¬ ∀ k, k < ps.length → l[j + k]? = ps[k]? := by
      have hz : n ≠ ps.length := by have := of_decide_eq_false hc2; omega
      rcases hend with h | ⟨h1, h2⟩
      · exact absurd h hz
      · rcases hno with h3 | h3
        · exact .inl h3
        · refine .inr fun j hj hc => ?_
          by_cases ej : j = i
          · subst ej; exact h2 (hc n h1)
          · exact h3 j (by omega) hc
    refine Gs.skip (Gs.blk_n (Gn (Gs.reg (Lq rfl (by first | exact pu_addI rfl rfl rfl (by omega) (by omega) | exact pu_add rfl rfl) ?_))))
    refine Lmv rfl rfl (Lnt ?_)
    exact Ag (i + 1) ⟨hlt, hfin⟩ (by omega)
   have hfin : ps = [] ∨ ∀ j, j < i + 1 → ¬ ∀ k, k < ps.length → l[j + k]? = ps[k]? := by
     have hz : n = 0 := by have := of_decide_eq_false hg2; omega
     rcases hend with h | ⟨h1, h2⟩
     · exact .inl (List.length_eq_zero_iff.1 (by omega))
     · rcases hno with h3 | h3
       · exact .inl h3
       · refine .inr fun j hj hc => ?_
         by_cases ej : j = i
         · subst ej; exact h2 (hc n h1)
         · exact h3 j (by omega) hc
   refine Lof rfl (Lof rfl (Lof rfl (Lof rfl (Lpk rfl rfl rfl (Lnt (Gs.cond_f rfl (Gs.skip (Gs.blk_n (Gn (Gs.reg (Lq rfl (by first | exact pu_addI rfl rfl rfl (by omega) (by omega) | exact pu_add rfl rfl) ?_)))))))))))
   refine Lmv rfl rfl (Lnt ?_)
   exact Ag (i + 1) ⟨hlt, hfin⟩ (by omega)
  have hend : n = ps.length ∨ (n < ps.length ∧ l[i + n]? ≠ ps[n]?) := .inl (by have := of_decide_eq_false hg4; omega)
  refine Rof 5 rfl (by kernel_rfl) rfl (Rof 6 rfl (by kernel_rfl) rfl (Rof 7 rfl (by kernel_rfl) rfl (Rof 8 rfl (by kernel_rfl) rfl (Rof 9 rfl (by kernel_rfl) rfl (Rof 10 rfl (by kernel_rfl) rfl (Rpk 11 rfl (by kernel_rfl) rfl rfl (Rmv 12 rfl (by kernel_rfl) rfl (Rof 13 rfl (by kernel_rfl) rfl (Rof 14 rfl (by kernel_rfl) rfl (Rof 15 rfl (by kernel_rfl) rfl (Rof 16 rfl (by kernel_rfl) rfl ?_)))))))))))
  refine Rof 17 rfl (by kernel_rfl) rfl (Rof 18 rfl (by kernel_rfl) rfl (Rof 19 rfl (by kernel_rfl) rfl (Rof 20 rfl (by kernel_rfl) rfl (Rof 21 rfl (by kernel_rfl) rfl (Rof 22 rfl (by kernel_rfl) rfl (Rof 23 rfl (by kernel_rfl) rfl (Rof 24 rfl (by kernel_rfl) rfl (Rof 25 rfl (by kernel_rfl) rfl (Rof 26 rfl (by kernel_rfl) rfl (Rof 27 rfl (by kernel_rfl) rfl (Rof 28 rfl (by kernel_rfl) rfl ?_)))))))))))
  refine Rof 29 rfl (by kernel_rfl) rfl (Rof 30 rfl (by kernel_rfl) rfl (Rof 31 rfl (by kernel_rfl) rfl (Rpk 32 rfl (by kernel_rfl) rfl rfl (Rg.end (by kernel_rfl) (Gn (Gs.cond_f rfl (Gs.exit (Gx (Gx (Gs.blk_hit (Gn ?_)))))))))))
  refine Gsr (Lmv rfl rfl (Lq rfl (pu_gt rfl rfl) (LpuB rfl rfl trivial (pu_move rfl) (fun hg2 => ?_) (fun hg2 => ?_))))
  ·
   refine Lpu rfl rfl ⟨_, rfl, rfl⟩ (pu_move rfl) (Lpu rfl rfl ⟨_, rfl, rfl⟩ (pu_move rfl) (Lpu rfl rfl ⟨_, rfl, rfl⟩ (pu_len Tryz.underlying23 rfl) (Lpu rfl rfl ⟨_, rfl, rfl⟩ (pu_eq rfl rfl) (Lpk rfl rfl rfl (Lnt (Gs.cond rfl (fun hc2 => ?_) (fun hc2 => ?_)))))))
   ·
    have hpos : 0 < n := by have := of_decide_eq_true hg2; omega
    have hyes : infB l ps = true := infB_iff.2 ⟨fun e => by rw [e] at hn; simp at hn; omega, i, hlt, fun k hk => hall k (by have := of_decide_eq_true hc2; omega)⟩
    refine Gsr (Las rfl rfl (Lnt (Gs.ret (Gs.blk_r (Gr (Gr (Gs.blk_r (Gr ?_))))))))
    exact Gs.fin1 Tryz.results158 rfl _ (⟨by rw [hv0, hyes], rfl⟩) (by repeat constructor)
   have hfin : ps = [] ∨ ∀ j, j < i + 1 → ¬ ∀ k, k < ps.length → l[j + k]? = ps[k]? := by
     have hz : n ≠ ps.length := by have := of_decide_eq_false hc2; omega
     rcases hend with h | ⟨h1, h2⟩
     · exact absurd h hz
     · rcases hno with h3 | h3
       · exact .inl h3
       · refine .inr fun j hj hc => ?_
         by_cases ej : j = i
         · subst ej; exact h2 (hc n h1)
         · exact h3 j (by omega) hc
   refine Gs.skip (Gs.blk_n (Gn (Gs.reg (Lq rfl (by first | exact pu_addI rfl rfl rfl (by omega) (by omega) | exact pu_add rfl rfl) ?_))))
   refine Lmv rfl rfl (Lnt ?_)
   exact Ag (i + 1) ⟨hlt, hfin⟩ (by omega)
  have hfin : ps = [] ∨ ∀ j, j < i + 1 → ¬ ∀ k, k < ps.length → l[j + k]? = ps[k]? := by
    have hz : n = 0 := by have := of_decide_eq_false hg2; omega
    rcases hend with h | ⟨h1, h2⟩
    · exact .inl (List.length_eq_zero_iff.1 (by omega))
    · rcases hno with h3 | h3
      · exact .inl h3
      · refine .inr fun j hj hc => ?_
        by_cases ej : j = i
        · subst ej; exact h2 (hc n h1)
        · exact h3 j (by omega) hc
  refine Lof rfl (Lof rfl (Lof rfl (Lof rfl (Lpk rfl rfl rfl (Lnt (Gs.cond_f rfl (Gs.skip (Gs.blk_n (Gn (Gs.reg (Lq rfl (by first | exact pu_addI rfl rfl rfl (by omega) (by omega) | exact pu_add rfl rfl) ?_)))))))))))
  refine Lmv rfl rfl (Lnt ?_)
  exact Ag (i + 1) ⟨hlt, hfin⟩ (by omega)
 have hge : i = l.length := by have := of_decide_eq_false hc0; omega
 have hres : infB l ps = false := by
   rw [Bool.eq_false_iff]
   intro hc
   obtain ⟨h1, j, hj, h2⟩ := infB_iff.1 hc
   rcases hno with h3 | h3
   · exact h1 h3
   · exact h3 j (by omega) h2
 refine Gs.exit (Gx (Gx (Gs.blk_hit (Gn (Gsr (Las rfl rfl (Lnt (Gs.ret ?_))))))))
 exact Gs.fin1 Tryz.results158 rfl _ (⟨by rw [hv0, hres], rfl⟩) (by repeat constructor)
end Go.Proofs.YtklgiidfompdpaaGreatDoor
namespace Go.Sl
open Go
theorem Ct.inn2 {P : Program} {f : FuncId} {args : List Value} {A B U : HProp} {φ : Value → HProp → Prop} (c : Ct P f args [A, B] (fun v hs => ∃ A', φ v A' ∧ hs = [A', B])) (i : Inn B U) : Ct P f args [A, U] (fun v hs => ∃ A', φ v A' ∧ hs = [A', U]) := by
 obtain ⟨X, hX⟩ := i
 refine ⟨c.enters, fun w0 w R s => ?_⟩
 have s1 : Sat w0 w (U :: A :: R) := Sat.take (A := U) s (.tl .hd)
 have s2 : Sat w0 w (A :: B :: X :: R) := ((hX _ _ _).1 s1).takes (As := [A, B]) (.cons (.tl (.tl .hd)) (.cons .hd .nil))
 refine (c.calls w0 w (X :: R) s2).mono fun _ _ ⟨v, hs, he, ⟨A', hp, e⟩, hsat⟩ => ⟨v, [A', U], he, ⟨A', hp, rfl⟩, ?_⟩
 subst e
 have s3 : Sat w0 _ (B :: X :: A' :: R) := Sat.takes (As := [B, X]) (L := A' :: B :: X :: R) hsat (.cons (.tl .hd) (.cons (.tl .hd) .nil))
 exact Sat.take (A := A') ((hX _ _ _).2 s3) (.tl .hd)
theorem Ct.twoR {P : Program} {f : FuncId} {args : List Value} {A B C : HProp} {φ : Value → HProp → Prop} (c : Ct P f args [A, Sl.two B C] (fun v hs => ∃ A', φ v A' ∧ hs = [A', Sl.two B C])) : Ct P f args [A, B, C] (fun v hs => ∃ A', φ v A' ∧ hs = [A', B, C]) := by
 refine ⟨c.enters, fun w0 w R s => ?_⟩
 have s1 : Sat w0 w (B :: C :: A :: R) := Sat.takes (As := [B, C]) s (.cons (.tl .hd) (.cons (.tl .hd) .nil))
 have s2 : Sat w0 w (A :: Sl.two B C :: R) := Sat.take (Sat.two.2 s1) (.tl .hd)
 refine (c.calls w0 w R s2).mono fun _ _ ⟨v, hs, he, ⟨A', hp, e⟩, hsat⟩ => ⟨v, [A', B, C], he, ⟨A', hp, rfl⟩, ?_⟩
 subst e
 have s3 : Sat w0 _ (Sl.two B C :: A' :: R) := Sat.take (L := A' :: Sl.two B C :: R) hsat (.tl .hd)
 exact Sat.take (A := A') (Sat.two.1 s3) (.tl (.tl .hd))
end Go.Sl
namespace Go.Proofs.YtklgiidfompdpaaGreatDoor
open Go Go.Sl Go.Gv Go.Kv Go.Po Go.Ix Go.Qu Go.Shelf
set_option maxRecDepth 100000
theorem TabU.inn {U V : HProp} (h : TabU U) (i : Inn U V) : TabU V := let ⟨h0, T, j⟩ := h; ⟨h0, T, j.trans i⟩
def lookR (L : List Rec) (k : Key) : Option Rec := L.find? fun r => r.key = k
def RecM (rs : List Rec) (M : List (Key × Rec)) : Prop := ∀ k r, mget M k = some r ↔ r ∈ rs ∧ r.key = k
theorem RecM.nil : RecM [] [] := fun k r => ⟨fun h => (by cases h), fun h => (by cases h.1)⟩
theorem RecM.put {rs : List Rec} {M : List (Key × Rec)} (h : RecM rs M) {r : Rec} (hn : r.key ∉ rs.map Rec.key) : RecM (rs ++ [r]) (mput M r.key r) := fun k x => by
 rw [mget_put]
 by_cases e : k = r.key
 · rw [if_pos e]
   constructor
   · intro hh; cases hh; exact ⟨by simp, e.symm⟩
   · rintro ⟨hx, hk⟩
     rcases List.mem_append.1 hx with hx | hx
     · exact (hn (by rw [← e, ← hk]; exact List.mem_map.2 ⟨x, hx, rfl⟩)).elim
     · rw [List.mem_singleton.1 hx]
 · rw [if_neg e, h]
   constructor
   · rintro ⟨hx, hk⟩; exact ⟨by simp [hx], hk⟩
   · rintro ⟨hx, hk⟩
     rcases List.mem_append.1 hx with hx | hx
     · exact ⟨hx, hk⟩
     · rw [List.mem_singleton.1 hx] at hk; exact (e hk.symm).elim
theorem RecM.drop {rs : List Rec} {M : List (Key × Rec)} (hM : (mkeys M).Nodup) (h : RecM rs M) (k : Key) : RecM (dropR rs k) (mdel M k) := fun j x => by
 rw [mget_del hM]
 unfold dropR
 rw [List.mem_filter]
 by_cases e : j = k
 · rw [if_pos e]
   constructor
   · intro hh; cases hh
   · rintro ⟨⟨-, h2⟩, h3⟩; exact ((of_decide_eq_true h2) (h3.trans e)).elim
 · rw [if_neg e, h]
   exact ⟨fun ⟨h1, h2⟩ => ⟨⟨h1, decide_eq_true (by rw [h2]; exact e)⟩, h2⟩, fun ⟨⟨h1, _⟩, h2⟩ => ⟨h1, h2⟩⟩
theorem lookR_some {L : List Rec} {k : Key} {r : Rec} (h : lookR L k = some r) : r ∈ L ∧ r.key = k := ⟨List.mem_of_find?_eq_some h, of_decide_eq_true (List.find?_some (p := fun r : Rec => decide (r.key = k)) h)⟩
theorem lookR_at {L : List Rec} (hn : (L.map Rec.key).Nodup) {r : Rec} (h : r ∈ L) : lookR L r.key = some r := by
 cases hh : lookR L r.key with
 | some x => rw [key_inj hn (lookR_some hh).1 h (lookR_some hh).2]
 | none => exact absurd (decide_eq_true rfl) (by have := List.find?_eq_none.1 hh r h; exact this)
theorem RecM.get {rs : List Rec} {M : List (Key × Rec)} (hn : (rs.map Rec.key).Nodup) (h : RecM rs M) (k : Key) : mget M k = lookR rs k := by
 cases hm : mget M k with
 | some r =>
   obtain ⟨h1, h2⟩ := (h k r).1 hm
   rw [← h2, lookR_at hn h1]
 | none =>
   cases hl : lookR rs k with
   | none => rfl
   | some r => rw [(h k r).2 (lookR_some hl)] at hm; cases hm
structure ShQ where
 i : Nat
 L : List (ByteArray × SlV PostV)
 W : List (Key × SlV ByteArray)
 m : Nat
 M : List (Key × Rec)
abbrev shC (i m : Nat) : List Value := [ptr i, .map (some m)]
def shA (x : Nat) (rs : List Rec) : HProp := fun h => ∃ q : ShQ, (IxIs rs (plL q.L, plW q.W) ∧ RecM rs q.M) ∧ two (cl x 76 (shC q.i q.m)) (two (ixA q.i q.L q.W) (mp keyV recV q.m q.M)) h
section
variable {w0 : World} {n : Nat} {env : Env} {H : List HProp} {X : Act → World → Prop} {x : Nat} {rs : List Rec}
theorem Gs.sh (g : ∀ i L W m M, IxIs rs (plL L, plW W) → RecM rs M → Gs w0 n env (cl x 76 (shC i m) :: ixA i L W :: mp keyV recV m M :: H) X) : Gs w0 n env (shA x rs :: H) X :=
 Gs.ex (A := fun q : ShQ => fun h => (IxIs rs (plL q.L, plW q.W) ∧ RecM rs q.M) ∧ two (cl x 76 (shC q.i q.m)) (two (ixA q.i q.L q.W) (mp keyV recV q.m q.M)) h)
   fun q => Gs.pure fun hq => Gs.two (fun a w e s => g q.i q.L q.W q.m q.M hq.1 hq.2 a w e (by
     have s2 := Sat.two.1 (s.take (.tl .hd))
     exact Ent.sat (by repeat constructor) s2))
theorem Gs.shc {i : Nat} {L : List (ByteArray × SlV PostV)} {W : List (Key × SlV ByteArray)} {m : Nat} {M : List (Key × Rec)} (h1 : IxIs rs (plL L, plW W)) (h2 : RecM rs M) (g : Gs w0 n env (shA x rs :: H) X) :
   Gs w0 n env (cl x 76 (shC i m) :: ixA i L W :: mp keyV recV m M :: H) X := fun a w e s => g a w e (by
 have s1 : Sat w0 w (ixA i L W :: mp keyV recV m M :: cl x 76 (shC i m) :: H) := Ent.sat (by repeat constructor) s
 have s2 := (Sat.two.2 s1).take (A := cl x 76 (shC i m)) (.tl .hd)
 exact (Sat.two.2 s2).ent fun h hh => ⟨⟨i, L, W, m, M⟩, ⟨h1, h2⟩, hh⟩)
end
theorem Gs.shKeys {w0 : World} {n : Nat} {env : Env} {H : List HProp} {X : Act → World → Prop} {x : Nat} {rs : List Rec} (g : (rs.map Rec.key).Nodup → Gs w0 n env (shA x rs :: H) X) : Gs w0 n env (shA x rs :: H) X := fun a w e s => by
 obtain ⟨h0, ⟨q, ⟨hq, _⟩, _⟩, _⟩ := s.toRo
 exact g hq.keys a w e s
theorem snew_spec : Ct Tryz.prog 10 [] [] (fun v hs => ∃ x, v = ptr x ∧ hs = [shA x []]) := by
 refine Cti Tryz.func10 (by kernel_rfl) 5 Tryz.ntmps10 rfl rfl fun w0 R => ?_
 refine Gsr (Las rfl rfl (Lnt (Gsr (La rfl (asC (new_spec)) ?_))))
 rintro _ _ ⟨_, ⟨i, rfl, rfl⟩, rfl⟩
 refine La rfl (ac_mkmap enck_28 encv_32) ?_
 rintro _ _ ⟨m2, rfl, rfl⟩
 refine Lq rfl (pu_build bd_76 (by repeat constructor) rfl) ?_
 refine La rfl (ac_box rfl rfl) ?_
 rintro _ _ ⟨b4, rfl, rfl⟩
 refine Las rfl rfl (Lnt (Gs.ret (Gs.takes (As := [cl b4 76 (shC i m2), ixA i [] [], mp keyV recV m2 ([] : List (Key × Rec))]) (by repeat constructor) (Gs.shc (rs := []) IxIs.nil RecM.nil ?_))))
 exact Gs.fin1 Tryz.results10 rfl _ (⟨b4, rfl, rfl⟩) (by repeat constructor)
theorem put_len (rs : List Rec) : ∀ ys : List Rec, rs.length ≤ (ys.foldl putR rs).length ∧ (ys.foldl putR rs).length ≤ rs.length + ys.length := fun ys => by
 induction ys generalizing rs with
 | nil => exact ⟨Nat.le_refl _, Nat.le_refl _⟩
 | cons y ys ih =>
   have h1 := ih (putR rs y)
   have h2 := putR_len rs y
   have h3 : rs.length ≤ (putR rs y).length := by unfold putR; split <;> simp
   rw [List.foldl_cons, List.length_cons]; omega
theorem sput_spec {S : HProp} (hT : TabU S) (x : Nat) (rs : List Rec) {a : Option Addr} {c : Nat} {ys : List Rec} (hY : Srd S 5 recC a ys) (hl : rs.length + ys.length ≤ 800) :
   Ct Tryz.prog 13 [ptr x, .slice a ys.length c] [shA x rs, S] (fun v hs => ∃ A', (v = int (((ys.foldl putR rs).length - rs.length : Nat) : Int) ∧ A' = shA x (ys.foldl putR rs)) ∧ hs = [A', S]) := by
 obtain ⟨h0, T, hi⟩ := hT
 refine Cti Tryz.func13 (by kernel_rfl) 34 Tryz.ntmps13 rfl rfl fun w0 R => ?_
 refine Gs.slAddr (hY.h (by repeat constructor)) fun ab ao ha => ?_
 refine Gsr (Las rfl rfl (Lnt (Gs.seq (Gsr (Lmv rfl rfl (Lq rfl (pu_eqN Tryz.underlying38 rfl rfl) (Lnt (Gs.cond_ff rfl rfl (Gs.skip (Gn (Gsr ?_)))))))))))
 refine Las rfl rfl (Lnt (Gs.seq (Gsr (Lmv rfl rfl (Lq rfl (pu_len Tryz.underlying41 rfl) (Lmv rfl rfl (Lnt (Gs.block (Gs.loop1 (fun s : Nat × Nat => s.1 ≤ ys.length ∧ s.2 = ((ys.take s.1).foldl putR rs).length - rs.length) (fun s => [(0, ptr x), (5, int s.2), (10, .slice a ys.length c), (11, int ys.length), (12, int s.1)]) (fun s => [shA x ((ys.take s.1).foldl putR rs), S] ++ R) (fun s => ys.length - s.1) (0, 0) (⟨Nat.zero_le _, by show 0 = rs.length - rs.length; omega⟩) (by repeat constructor) (by repeat constructor) (fun s hs => ?_))))))))))
 obtain ⟨i, n⟩ := s
 obtain ⟨hi0, hn0⟩ := hs
 dsimp only at hi0 hn0 ⊢
 refine Gsr (Lq rfl (pu_lt rfl rfl) (Lnt (Gs.seq (Gs.cond rfl (fun hc1 => ?_) (fun hc1 => ?_)))))
 ·
  have hlt : i < ys.length := by have := of_decide_eq_true hc1; omega
  obtain ⟨y, hy⟩ : ∃ z, ys[i]? = some z := ⟨ys[i], by simp [hlt]⟩
  obtain rfl := ha (by rintro rfl; simp at hlt)
  obtain ⟨qs, hqs⟩ : ∃ z, z = (ys.take i).foldl putR rs := ⟨_, rfl⟩
  have hnx : (ys.take (i + 1)).foldl putR rs = putR qs y := by rw [fold_take putR rs hy, hqs]
  have hln := put_len rs (ys.take i)
  have hln2 := put_len rs (ys.take (i + 1))
  rw [hnx] at hln2
  rw [← hqs] at hln hn0 ⊢
  rw [List.length_take] at hln hln2
  refine Gs.takes (As := [shA x qs]) (by repeat constructor) (Gs.sh fun ix L W m M hI hM => ?_)
  have hsh := hI.short
  have hpn := hI.putN y
  refine Gs.skip (Gn (Gs.seq (Gs.block (Gsr (Lq rfl (pu_ia se_41 rfl rfl (by omega) (by omega)) (Lr rfl (rd_lda ag_32 rfl (Rdc.el0 (hY.h (by repeat constructor)) hy rfl rfl) rfl) ?_))))))
  refine La rfl (ac_alloc zv_32 rfl) ?_
  rintro _ _ ⟨rb, rfl, rfl⟩
  refine Lac0 rfl trivial (ac_st sz_32 rfl rfl (by repeat constructor) rfl rfl rfl rfl) ?_
  rintro _ _ rfl
  refine Lnt (Gs.seq (Gs.regD mixed (by kernel_rfl) (Rmv 0 rfl (by kernel_rfl) rfl (Rq 1 rfl (by kernel_rfl) (by first | exact pu_nil rfl | exact pu_nilF rfl) ?_))))
  refine Rq 2 rfl (by kernel_rfl) (pu_fa fa_76_0 rfl) (Rr 3 rfl (by kernel_rfl) (rd_ld na_72 rfl (Rdc.cl1 (by repeat constructor) rfl)) ?_)
  refine Rr 4 rfl (by kernel_rfl) (rd_lda ag_32 rfl (Rdc.cl 5 (by repeat constructor) rfl) rfl) ?_
  refine Rg.one (by kernel_rfl) (Stp.ac 5 rfl rfl (by kernel_rfl) trivial (asC (Ct.inn2 (φ := fun v A' => ∃ L' W', v = int (putN (plW W) y) ∧ PutI y (toksV y.t) (plL L, plW W) (plL L', plW W') ∧ A' = ixA ix L' W') ((put_spec T ix L W y (fun p hp => by have := hsh p hp; omega)).mono (by rintro _ _ ⟨L', W', h1, h2, rfl⟩; exact ⟨_, ⟨L', W', h1, h2, rfl⟩, rfl⟩)) hi))  ?_)
  rintro _ _ ⟨_, ⟨_, ⟨L', W', rfl, hP, rfl⟩, rfl⟩, rfl⟩
  have hI' := hI.putI hP
  refine Rq 6 rfl (by kernel_rfl) (pu_eq rfl rfl) (Rg.end (by kernel_rfl) (Gn (Gs.cond rfl (fun hc2 => ?_) (fun hc2 => ?_))))
  ·
   have hz : putN (plW W) y = 0 := of_decide_eq_true hc2
   have hyes : recB y = true ∧ y.key ∉ qs.map Rec.key := by
     rw [hpn] at hz
     split at hz
     · rename_i h1
       split at hz
       · omega
       · rename_i h2; exact ⟨h1, h2⟩
     · omega
   have hput : putR qs y = qs ++ [y] := by unfold putR; rw [if_pos (by rw [hyes.1, decide_eq_true hyes.2]; rfl)]
   have hM' : RecM (putR qs y) (mput M y.key y) := by rw [hput]; exact hM.put hyes.2
   have hcnt : n + 1 = (putR qs y).length - rs.length := by rw [hput, List.length_append, List.length_singleton]; omega
   refine Gs.seq (Gs.regD mixed (by kernel_rfl) (Rmv 0 rfl (by kernel_rfl) rfl (Rq 1 rfl (by kernel_rfl) (by first | exact pu_nil rfl | exact pu_nilF rfl) ?_)))
   refine Rq 2 rfl (by kernel_rfl) (pu_fa fa_76_1 rfl) (Rr 3 rfl (by kernel_rfl) (rd_ld na_74 rfl (Rdc.cl1 (by repeat constructor) rfl)) ?_)
   refine Rq 4 rfl (by kernel_rfl) (pu_fa fa_32_0 rfl) (Rr 5 rfl (by kernel_rfl) (rd_lda ag_28 rfl (Rdc.cl 2 (by repeat constructor) rfl) rfl) ?_)
   refine Rr 6 rfl (by kernel_rfl) (rd_lda ag_32 rfl (Rdc.cl 5 (by repeat constructor) rfl) rfl) ?_
   refine Rg.one (by kernel_rfl) (Stp.ac0 7 rfl rfl (by kernel_rfl) trivial (ac_put (encv := recV) (k := y.key) (v := y) Tryz.underlying74 kt_28 rfl rfl rfl (by repeat constructor))  ?_)
   rintro _ _ rfl
   refine Rg.end (by kernel_rfl) (Gn (Gs.reg (Lmv rfl rfl (Lq rfl (by first | exact pu_addI rfl rfl rfl (by omega) (by omega) | exact pu_add rfl rfl) ?_))))
   refine Las rfl rfl (Lnil (Gs.takes (As := [cl x 76 (shC ix m), ixA ix L' W', mp keyV recV m (mput M y.key y)]) (by repeat constructor) (Gs.shc hI' hM' ?_)))
   rw [← hnx]
   refine Gs.blk_n (Gn (Gs.reg (Lq rfl (by first | exact pu_addI rfl rfl rfl (by omega) (by omega) | exact pu_add rfl rfl) ?_)))
   refine Lmv rfl rfl (Lnt ?_)
   first | exact Ag (i + 1, n + 1) ⟨hlt, by rw [hnx]; exact hcnt⟩ (by show ys.length - (i + 1) < ys.length - i; omega) | exact Ag (i + 1, n) ⟨hlt, by rw [hnx]; exact hcnt⟩ (by show ys.length - (i + 1) < ys.length - i; omega)
  have hz : putN (plW W) y ≠ 0 := of_decide_eq_false hc2
  have hput : putR qs y = qs := by
    rw [hpn] at hz
    unfold putR
    refine if_neg fun h => ?_
    rw [Bool.and_eq_true, decide_eq_true_iff] at h
    rw [if_pos h.1, if_neg h.2] at hz
    exact hz rfl
  have hM' : RecM (putR qs y) M := by rw [hput]; exact hM
  have hcnt : n = (putR qs y).length - rs.length := by rw [hput]; exact hn0
  refine Gs.takes (As := [cl x 76 (shC ix m), ixA ix L' W', mp keyV recV m M]) (by repeat constructor) (Gs.shc hI' hM' ?_)
  rw [← hnx]
  refine Gs.skip (Gs.blk_n (Gn (Gs.reg (Lq rfl (by first | exact pu_addI rfl rfl rfl (by omega) (by omega) | exact pu_add rfl rfl) ?_))))
  refine Lmv rfl rfl (Lnt ?_)
  first | exact Ag (i + 1, n + 1) ⟨hlt, by rw [hnx]; exact hcnt⟩ (by show ys.length - (i + 1) < ys.length - i; omega) | exact Ag (i + 1, n) ⟨hlt, by rw [hnx]; exact hcnt⟩ (by show ys.length - (i + 1) < ys.length - i; omega)
 have hge : i = ys.length := by have := of_decide_eq_false hc1; omega
 rw [hge, List.take_length] at hn0 ⊢
 subst hn0
 refine Gs.exit (Gx (Gx (Gs.blk_hit (Gn (Gsr (Lmv rfl rfl (Las rfl rfl (Lnt (Gs.ret ?_)))))))))
 exact Gs.fin1 Tryz.results13 rfl _ (⟨_, ⟨rfl, rfl⟩, rfl⟩) (by repeat constructor)
theorem drop_len {rs : List Rec} (hn : (rs.map Rec.key).Nodup) (k : Key) : (dropR rs k).length + (if k ∈ rs.map Rec.key then 1 else 0) = rs.length := by
 induction rs with
 | nil => rfl
 | cons r rs ih =>
   have hn' := List.nodup_cons.1 hn
   have ih := ih hn'.2
   unfold dropR at ih ⊢
   by_cases e : r.key = k
   · rw [List.filter_cons_of_neg (by simp [e])]
     have h1 : k ∉ rs.map Rec.key := by rw [← e]; exact hn'.1
     rw [if_neg h1] at ih
     rw [if_pos (by rw [List.map_cons, e]; exact List.mem_cons_self ..), List.length_cons]; omega
   · rw [List.filter_cons_of_pos (by simpa using e)]
     have h1 : (k ∈ (r :: rs).map Rec.key) ↔ k ∈ rs.map Rec.key := by
       rw [List.map_cons, List.mem_cons]
       exact ⟨fun h => h.resolve_left fun h => e h.symm, .inr⟩
     simp only [h1, List.length_cons]; omega
theorem dropK_cnt {rs : List Rec} {s : PL × PW} (h : IxIs rs s) (k : Key) (n : Nat) : ∃ s' : PL × PW, Ix.dropK (s.1, s.2, n) k = (s'.1, s'.2, n + (rs.length - (dropR rs k).length)) ∧ IxIs (dropR rs k) s' := by
 obtain ⟨s', h1, h2⟩ := h.dropK k n
 refine ⟨s', ?_, h2⟩
 have := drop_len h.keys k
 rw [h1]
 by_cases e : k ∈ rs.map Rec.key
 · rw [if_pos e] at this ⊢; rw [show rs.length - (dropR rs k).length = 1 by omega]
 · rw [if_neg e] at this ⊢; rw [show rs.length - (dropR rs k).length = 0 by omega]; rfl
theorem dropR_le (rs : List Rec) (k : Key) : (dropR rs k).length ≤ rs.length := List.length_filter_le ..
theorem drops_le : ∀ (ks : List Key) (rs : List Rec), (ks.foldl dropR rs).length ≤ rs.length
 | [], _ => Nat.le_refl _
 | k :: ks, rs => Nat.le_trans (drops_le ks (dropR rs k)) (dropR_le rs k)
theorem dropKs_cnt : ∀ (ks : List Key) {rs : List Rec} {s : PL × PW} (h : IxIs rs s) (n : Nat), ∃ s' : PL × PW, ks.foldl Ix.dropK (s.1, s.2, n) = (s'.1, s'.2, n + (rs.length - (ks.foldl dropR rs).length)) ∧ IxIs (ks.foldl dropR rs) s'
 | [], rs, s, h, n => ⟨s, by simp, h⟩
 | k :: ks, rs, s, h, n => by
   obtain ⟨s1, h1, h2⟩ := dropK_cnt h k n
   obtain ⟨s2, h3, h4⟩ := dropKs_cnt ks h2 (n + (rs.length - (dropR rs k).length))
   refine ⟨s2, ?_, h4⟩
   have e1 := dropR_le rs k
   have e2 := drops_le ks (dropR rs k)
   rw [List.foldl_cons, h1, h3, List.foldl_cons]
   rw [show n + (rs.length - (dropR rs k).length) + ((dropR rs k).length - (ks.foldl dropR (dropR rs k)).length) = n + (rs.length - (ks.foldl dropR (dropR rs k)).length) by omega]
theorem sdrop_spec (x : Nat) (rs : List Rec) {U : HProp} {a : Option Addr} {c : Nat} {ks : List Key} (hU : Srd U 2 keyC a ks) (hl : ks.length ≤ 1000000) :
   Ct Tryz.prog 11 [ptr x, .slice a ks.length c] [shA x rs, U] (fun v hs => v = int ((rs.length - (ks.foldl dropR rs).length : Nat) : Int) ∧ hs = [shA x (ks.foldl dropR rs), U]) := by
 refine Cti Tryz.func11 (by kernel_rfl) 27 Tryz.ntmps11 rfl rfl fun w0 R => ?_
 refine Gs.slAddr (hU.h (by repeat constructor)) fun ab ao ha => Gs.sh fun ix L W m M hI hM => ?_
 refine Gsr (Las rfl rfl (Lnt (Gs.seq (Gsr (Lmv rfl rfl (Lq rfl (pu_eqN Tryz.underlying38 rfl rfl) (Lnt (Gs.cond_ff rfl rfl (Gs.skip (Gn (Gs.seq ?_)))))))))))
 refine Gsr (Lmv rfl rfl (Lq rfl (pu_len Tryz.underlying48 rfl) (Lmv rfl rfl (Lnt (Gs.block (Gs.loop1 (fun s : Nat × List (Key × Rec) => s.1 ≤ ks.length ∧ RecM ((ks.take s.1).foldl dropR rs) s.2) (fun s => [(0, ptr x), (1, .slice a ks.length c), (9, .slice a ks.length c), (10, int ks.length), (11, int s.1)]) (fun s => [cl x 76 (shC ix m), ixA ix L W, mp keyV recV m s.2, U] ++ R) (fun s => ks.length - s.1) (0, M) (⟨Nat.zero_le _, hM⟩) (by repeat constructor) (by repeat constructor) (fun s hs => ?_)))))))
 obtain ⟨i, M1⟩ := s
 obtain ⟨hi, hM1⟩ := hs
 dsimp only at hi hM1 ⊢
 refine Gsr (Lq rfl (pu_lt rfl rfl) (Lnt (Gs.seq (Gs.cond rfl (fun hc1 => ?_) (fun hc1 => ?_)))))
 ·
  have hlt : i < ks.length := by have := of_decide_eq_true hc1; omega
  obtain ⟨k, hk⟩ : ∃ z, ks[i]? = some z := ⟨ks[i], by simp [hlt]⟩
  obtain rfl := ha (by rintro rfl; simp at hlt)
  refine Gs.mpNodup (enck := keyV) (encv := recV) (b := m) (m := M1) (by repeat constructor) fun hmn => ?_
  have hM2 : RecM ((ks.take (i + 1)).foldl dropR rs) (mdel M1 k) := by rw [fold_take dropR rs hk]; exact hM1.drop hmn k
  refine Gs.skip (Gn (Gs.seq (Gs.block (Gsr (Lq rfl (pu_ia se_48 rfl rfl (by omega) (by omega)) (Lr rfl (rd_lda ag_28 rfl (Rdc.el0 (hU.h (by repeat constructor)) hk rfl rfl) rfl) ?_))))))
  refine La rfl (ac_alloc zv_28 rfl) ?_
  rintro _ _ ⟨kb, rfl, rfl⟩
  refine Lac0 rfl trivial (ac_st sz_28 rfl rfl (by repeat constructor) rfl rfl rfl rfl) ?_
  rintro _ _ rfl
  refine Lnt (Gs.regD mixed (by kernel_rfl) (Rmv 0 rfl (by kernel_rfl) rfl (Rq 1 rfl (by kernel_rfl) (by first | exact pu_nil rfl | exact pu_nilF rfl) ?_)))
  refine Rq 2 rfl (by kernel_rfl) (pu_fa fa_76_1 rfl) (Rr 3 rfl (by kernel_rfl) (rd_ld na_74 rfl (Rdc.cl1 (by repeat constructor) rfl)) ?_)
  refine Rr 4 rfl (by kernel_rfl) (rd_lda ag_28 rfl (Rdc.cl 2 (by repeat constructor) rfl) rfl) ?_
  refine Rg.one (by kernel_rfl) (Stp.ac0 5 rfl rfl (by kernel_rfl) trivial (ac_del (encv := recV) (k := k) Tryz.underlying74 kt_28 rfl rfl rfl (by repeat constructor))  ?_)
  rintro _ _ rfl
  refine Rg.end (by kernel_rfl) (Gs.blk_n (Gn (Gs.reg (Lq rfl (by first | exact pu_addI rfl rfl rfl (by omega) (by omega) | exact pu_add rfl rfl) ?_))))
  refine Lmv rfl rfl (Lnt ?_)
  exact Ag (i + 1, mdel M1 k) ⟨hlt, hM2⟩ (by show ks.length - (i + 1) < ks.length - i; omega)
 have hge : i = ks.length := by have := of_decide_eq_false hc1; omega
 rw [hge, List.take_length] at hM1
 refine Gs.exit (Gx (Gx (Gs.blk_hit (Gn (Gsr (Lmv rfl rfl (Lq rfl (by first | exact pu_nil rfl | exact pu_nilF rfl) ?_)))))))
 refine Lq rfl (pu_fa fa_76_0 rfl) (Lr rfl (rd_ld na_72 rfl (Rdc.cl1 (by repeat constructor) rfl)) ?_)
 refine Lmv rfl rfl (La rfl (asC (drop_spec ix L W hU hl)) ?_)
 rintro _ _ ⟨_, ⟨nn, L', W', rfl, hst, rfl⟩, rfl⟩
 refine Las rfl rfl (Lnil ?_)
 obtain ⟨s', h1, h2⟩ := dropKs_cnt ks hI 0
 rw [h1, Nat.zero_add] at hst
 have hI' : IxIs (ks.foldl dropR rs) (plL L', plW W') := by
   have e1 : plL L' = s'.1 := congrArg Prod.fst hst
   have e2 : plW W' = s'.2 := congrArg (fun p => p.2.1) hst
   rw [e1, e2]; exact h2
 have hnn : nn = rs.length - (ks.foldl dropR rs).length := congrArg (fun p => p.2.2) hst
 subst hnn
 refine Gs.takes (As := [cl x 76 (shC ix m), ixA ix L' W', mp keyV recV m M1]) (by repeat constructor) (Gs.shc hI' hM1 ?_)
 refine Gn (Gs.ret ?_)
 exact Gs.fin1 Tryz.results11 rfl _ (⟨rfl, rfl⟩) (by repeat constructor)
def ofR (rs : List Rec) (ks : List Key) : List Rec := ks.map fun k => (lookR rs k).getD Rec.zero
theorem of_snoc {rs : List Rec} {ks : List Key} {i : Nat} {k : Key} (h : ks[i]? = some k) : ofR rs (ks.take (i + 1)) = ofR rs (ks.take i) ++ [(lookR rs k).getD Rec.zero] := by
 unfold ofR; rw [List.take_add_one, h, List.map_append]; rfl
theorem sof_spec (x : Nat) (rs : List Rec) {U : HProp} {a : Option Addr} {c : Nat} {ks : List Key} (hU : Srd U 2 keyC a ks) (hl : ks.length ≤ 100000) :
   Ct Tryz.prog 41 [ptr x, .slice a ks.length c] [shA x rs, U] (fun v hs => ∃ a' c', v = .slice a' (ofR rs ks).length c' ∧ hs = [shA x rs, U, sl 32 5 recC a' c' (ofR rs ks)]) := by
 refine Cti Tryz.func41 (by kernel_rfl) 25 Tryz.ntmps41 rfl rfl fun w0 R => ?_
 refine Gs.slAddr (hU.h (by repeat constructor)) fun ab ao ha => Gs.sh fun ix L W m M hI hM => ?_
 refine Gsr (Las rfl rfl (Lnt (Gsr (Las rfl rfl (Lnil (Gs.slNil 32 5 recC (Gn (Gs.seq (Gsr (Lmv rfl rfl (Lq rfl (pu_len Tryz.underlying48 rfl) ?_)))))))))))
 refine Lmv rfl rfl (Lnt (Gs.block (Gs.loop1 (fun s : Nat × Option Addr × Nat => s.1 ≤ ks.length) (fun s => [(0, ptr x), (5, .slice s.2.1 (ofR rs (ks.take s.1)).length s.2.2), (8, .slice a ks.length c), (9, int ks.length), (10, int s.1)]) (fun s => [cl x 76 (shC ix m), ixA ix L W, mp keyV recV m M, U, sl 32 5 recC s.2.1 s.2.2 (ofR rs (ks.take s.1))] ++ R) (fun s => ks.length - s.1) (0, none, 0) (Nat.zero_le _) (by repeat constructor) (by repeat constructor) (fun s hi => ?_))))
 obtain ⟨i, oa, oc⟩ := s
 dsimp only at hi ⊢
 have hol : (ofR rs (ks.take i)).length = i := by unfold ofR; rw [List.length_map, List.length_take]; omega
 refine Gsr (Lq rfl (pu_lt rfl rfl) (Lnt (Gs.seq (Gs.cond rfl (fun hc0 => ?_) (fun hc0 => ?_)))))
 ·
  have hlt : i < ks.length := by have := of_decide_eq_true hc0; omega
  obtain ⟨k, hk⟩ : ∃ z, ks[i]? = some z := ⟨ks[i], by simp [hlt]⟩
  obtain rfl := ha (by rintro rfl; simp at hlt)
  have hget := hM.get hI.keys k
  have hsn := of_snoc (rs := rs) hk
  refine Gs.skip (Gn (Gs.seq (Gs.block (Gsr (Lq rfl (pu_ia se_48 rfl rfl (by omega) (by omega)) (Lr rfl (rd_lda ag_28 rfl (Rdc.el0 (hU.h (by repeat constructor)) hk rfl rfl) rfl) ?_))))))
  refine La rfl (ac_alloc zv_28 rfl) ?_
  rintro _ _ ⟨kb, rfl, rfl⟩
  refine Lac0 rfl trivial (ac_st sz_28 rfl rfl (by repeat constructor) rfl rfl rfl rfl) ?_
  rintro _ _ rfl
  refine Lnt (Gs.regD mixed (by kernel_rfl) (Rmv 0 rfl (by kernel_rfl) rfl (Rmv 1 rfl (by kernel_rfl) rfl (Rq 2 rfl (by kernel_rfl) (by first | exact pu_nil rfl | exact pu_nilF rfl) ?_))))
  refine Rq 3 rfl (by kernel_rfl) (pu_fa fa_76_1 rfl) (Rr 4 rfl (by kernel_rfl) (rd_ld na_74 rfl (Rdc.cl1 (by repeat constructor) rfl)) ?_)
  refine Rr 5 rfl (by kernel_rfl) (rd_lda ag_28 rfl (Rdc.cl 2 (by repeat constructor) rfl) rfl) ?_
  refine Rr 6 rfl (by kernel_rfl) (rd_look1 (k := k) (encv := recV) Tryz.underlying74 kt_28 zvk_32 rfl rfl (by repeat constructor)) ?_
  rw [hget]
  refine Rg.one (by kernel_rfl) (Stp.ac 7 rfl rfl (by kernel_rfl) trivial (ac_lit encC_32 ([(lookR rs k).getD Rec.zero]) et_41 ek_32 rfl (by repeat constructor) rfl rfl (by decide))  ?_)
  rintro _ _ ⟨a21, rfl, rfl⟩
  refine Rg.one (by kernel_rfl) (Stp.ac 8 rfl rfl (by kernel_rfl) trivial (ac_append (xs := ofR rs (ks.take i)) (ys := [(lookR rs k).getD Rec.zero]) et_41 ek_32 rfl rfl (by repeat constructor) (SrcH.sl Tryz.underlying41 ek_32 (SlH.own (by repeat constructor))) (by first | omega | (simp; omega)) (by first | omega | (simp; omega)))  ?_)
  rintro _ _ ⟨a22, c22, rfl, rfl⟩
  refine Rq 9 rfl (by kernel_rfl) (pu_assign rfl) (Rg.end (by kernel_rfl) ?_)
  rw [← hsn]
  refine Gs.blk_n (Gn (Gs.reg (Lq rfl (by first | exact pu_addI rfl rfl rfl (by omega) (by omega) | exact pu_add rfl rfl) ?_)))
  refine Lmv rfl rfl (Lnt ?_)
  exact Ag (i + 1, a22, c22) hlt (by show ks.length - (i + 1) < ks.length - i; omega)
 have hge : i = ks.length := by have := of_decide_eq_false hc0; omega
 rw [hge, List.take_length]
 refine Gs.takes (As := [cl x 76 (shC ix m), ixA ix L W, mp keyV recV m M]) (by repeat constructor) (Gs.shc hI hM ?_)
 refine Gs.exit (Gx (Gx (Gs.blk_hit (Gn (Gsr (Lmv rfl rfl (Las rfl rfl (Lnt (Gs.ret ?_)))))))))
 exact Gs.fin1 Tryz.results41 rfl _ (⟨oa, oc, rfl, rfl⟩) (by repeat constructor)
theorem skeys_spec (x : Nat) (rs : List Rec) (hl : rs.length ≤ 100000) {ix m : Nat} {L : List (ByteArray × SlV PostV)} {W : List (Key × SlV ByteArray)} (hI : IxIs rs (plL L, plW W)) :
   Ct Tryz.prog 44 [ptr ix] [ixA ix L W] (fun v hs => ∃ a c ks, v = .slice a ks.length c ∧ IsK rs (fun _ => true) ks ∧ hs = [ixA ix L W, sl 28 2 keyC a c ks]) :=
 (keys_spec ix L W (by have := hI.rlen; omega)).mono fun v hs ⟨a, c, h1, h2⟩ => ⟨a, c, _, h1, by have h9 := IsK.all hI; rw [show mkeys (plL L, plW W).2 = mkeys W by show mkeys (plW W) = _; simp [plW, mm, mkeys]] at h9; exact h9, h2⟩
theorem srecs_spec (x : Nat) (rs : List Rec) (hl : rs.length ≤ 100000) :
   Ct Tryz.prog 20 [ptr x] [shA x rs] (fun v hs => ∃ a c ks, v = .slice a (ofR rs ks).length c ∧ IsK rs (fun _ => true) ks ∧ hs = [shA x rs, sl 32 5 recC a c (ofR rs ks)]) := by
 refine Cti Tryz.func20 (by kernel_rfl) 12 Tryz.ntmps20 rfl rfl fun w0 R => ?_
 refine Gs.sh fun ix L W m M hI hM => ?_
 refine Gsr (Las rfl rfl (Lnt (Gs.seq (Gsr (Lmv rfl rfl (Lq rfl (pu_eqN Tryz.underlying38 rfl rfl) (Lnt (Gs.cond_ff rfl rfl (Gs.skip (Gn (Gsr ?_)))))))))))
 refine Lmv rfl rfl (Lmv rfl rfl (Lq rfl (by first | exact pu_nil rfl | exact pu_nilF rfl) ?_))
 refine Lq rfl (pu_fa fa_76_0 rfl) (Lr rfl (rd_ld na_72 rfl (Rdc.cl1 (by repeat constructor) rfl)) ?_)
 refine La rfl (asC (skeys_spec x rs hl hI (m := m))) ?_
 rintro _ _ ⟨_, ⟨ka, kc, ks, rfl, hK, rfl⟩, rfl⟩
 have hkl := hK.len
 refine Gs.takes (As := [cl x 76 (shC ix m), ixA ix L W, mp keyV recV m M]) (by repeat constructor) (Gs.shc hI hM ?_)
 refine La rfl (asC (sof_spec x rs (U := sl 28 2 keyC ka kc ks) Srd.own (by omega))) ?_
 rintro _ _ ⟨_, ⟨oa, oc, rfl, rfl⟩, rfl⟩
 refine Las rfl rfl (Lnt (Gs.ret ?_))
 exact Gs.fin1 Tryz.results20 rfl _ (⟨oa, oc, ks, rfl, hK, rfl⟩) (by repeat constructor)
theorem sget_spec (x : Nat) (rs : List Rec) (k : Key) :
   Ct Tryz.prog 17 [ptr x, keyV k] [shA x rs] (fun v hs => v = .tuple #[recV ((lookR rs k).getD Rec.zero), .bool (lookR rs k).isSome] ∧ hs = [shA x rs]) := by
 refine Cti Tryz.func17 (by kernel_rfl) 22 Tryz.ntmps17 rfl rfl fun w0 R => ?_
 refine Gs.sh fun ix L W m M hI hM => ?_
 have hget := hM.get hI.keys k
 refine Gsr (La rfl (ac_box rfl rfl) ?_)
 rintro _ _ ⟨kb, rfl, rfl⟩
 refine La rfl (ac_alloc zv_32 rfl) ?_
 rintro _ _ ⟨vb, rfl, rfl⟩
 refine Las rfl rfl (Lnt (Gs.seq (Gsr (Lmv rfl rfl (Lq rfl (pu_eqN Tryz.underlying38 rfl rfl) (Lnt (Gs.cond_ff rfl rfl (Gs.skip (Gn (Gs.seq (Gs.regD mixed (by kernel_rfl) ?_)))))))))))
 refine Rmv 0 rfl (by kernel_rfl) rfl (Rq 1 rfl (by kernel_rfl) (by first | exact pu_nil rfl | exact pu_nilF rfl) ?_)
 refine Rq 2 rfl (by kernel_rfl) (pu_fa fa_76_1 rfl) (Rr 3 rfl (by kernel_rfl) (rd_ld na_74 rfl (Rdc.cl1 (by repeat constructor) rfl)) ?_)
 refine Rr 4 rfl (by kernel_rfl) (rd_lda ag_28 rfl (Rdc.cl 2 (by repeat constructor) rfl) rfl) ?_
 refine Rr 5 rfl (by kernel_rfl) (rd_look2 (k := k) (encv := recV) Tryz.underlying74 kt_28 zvk_32 rfl rfl (by repeat constructor)) ?_
 rw [hget]
 refine Rmv 6 rfl (by kernel_rfl) rfl (Rq 7 rfl (by kernel_rfl) (pu_extract rfl rfl) (Rq 8 rfl (by kernel_rfl) (pu_extract rfl rfl) (Rg.one (by kernel_rfl) (Stp.acK 9 rfl rfl (by kernel_rfl) trivial (ac_alloc zv_32 rfl) (by rintro _ _ ⟨ub, rfl, rfl⟩ w s; first | exact s.drop | exact s | exact Ent.sat (by repeat constructor) s) ?_))))
 rintro _ _ ⟨ub, rfl, rfl⟩
 refine Rg.one (by kernel_rfl) (Stp.ac0 10 rfl rfl (by kernel_rfl) trivial (ac_st sz_32 rfl rfl (by repeat constructor) rfl rfl rfl rfl)  ?_)
 rintro _ _ rfl
 refine Rq 11 rfl (by kernel_rfl) (pu_assign rfl) (Rg.end (by kernel_rfl) (Gn (Gsr (Lr rfl (rd_lda ag_32 rfl (Rdc.cl 5 (by repeat constructor) rfl) rfl) ?_))))
 refine Lmv rfl rfl (Lac0 rfl trivial (ac_st sz_32 rfl rfl (by repeat constructor) rfl rfl rfl rfl) ?_)
 rintro _ _ rfl
 refine Las rfl rfl (Lnt (Gs.ret (Gs.takes (As := [cl x 76 (shC ix m), ixA ix L W, mp keyV recV m M]) (by repeat constructor) (Gs.shc hI hM ?_))))
 exact Gs.finc2 Tryz.results17 ag_32 rfl (Rdc.cl 5 (by repeat constructor) rfl) rfl rfl _ (⟨rfl, rfl⟩) (by repeat constructor)
end Go.Proofs.YtklgiidfompdpaaGreatDoor
namespace Go.Proofs.YtklgiidfompdpaaGreatDoor
open Go Go.Sl Go.Gv Go.Kv Go.Po Go.Ix Go.Qu Go.Shelf
set_option maxRecDepth 100000
abbrev lookC (r : Rec) (a : Option Addr) (n c : Nat) : List Value := [int r.o, int r.q, int r.w, int r.c, .string r.t, .slice a n c]
abbrev lookV (r : Rec) (a : Option Addr) (n c : Nat) : Value := .agg (lookC r a n c).toArray
theorem holds1_spec {S : HProp} {x : AskV} {xb : Nat} {p : ByteArray} (hA : ARd S x) (hp : x.w.xs[0]? = some p) (w : WordP) :
   Ct Tryz.prog 160 ([] ++ [wordV w] ++ [ptr xb]) [S, cl xb 26 (askC x)] (fun v hs => v = .bool (preB w.1 p) ∧ hs = [S, cl xb 26 (askC x)]) := by
 have hlt := (List.getElem?_eq_some_iff.1 hp).1
 have hmx : maxLen = 9223372036854775807 := by decide
 have hxl := hA.l
 refine Cti Tryz.func160 (by kernel_rfl) 11 Tryz.ntmps160 rfl rfl fun w0 R => ?_
 refine Gs.slAddr (hA.w.h (by repeat constructor)) fun ab ao ha => ?_
 have hsa := ha (fun e => by rw [e] at hlt; simp at hlt)
 have hs := hA.w
 rw [hsa] at hs
 refine Gsr (La rfl (ac_box rfl rfl) ?_)
 rintro _ _ ⟨wb, rfl, rfl⟩
 refine Las rfl rfl (Lnt (Gs.seq (Gs.regD mixed (by kernel_rfl) (Rq 0 rfl (by kernel_rfl) (pu_fa fa_98_0 rfl) (Rr 1 rfl (by kernel_rfl) (rd_ld na_9 rfl (Rdc.cl1 (by repeat constructor) rfl)) ?_)))))
 refine Rq 2 rfl (by kernel_rfl) (pu_fa fa_26_2 rfl) (Rr 3 rfl (by kernel_rfl) (rd_ld na_23 rfl (Rdc.cl1 (by repeat constructor) rfl)) ?_)
 rw [hsa]
 refine Rq 4 rfl (by kernel_rfl) (pu_ia se_23 rfl rfl (by omega) (by omega)) (Rr 5 rfl (by kernel_rfl) (rd_ld na_9 rfl (Rdc.el0 (hs.h (by repeat constructor)) hp rfl rfl)) ?_)
 refine Rg.one (by kernel_rfl) (Stp.ac 6 rfl rfl (by kernel_rfl) trivial (asC (hasPrefix_spec w.1 p))  ?_)
 rintro _ _ ⟨_, ⟨rfl, rfl⟩, rfl⟩
 refine Rq 7 rfl (by kernel_rfl) (pu_assign rfl) (Rg.end (by kernel_rfl) (Gn (Gs.ret ?_)))
 exact Gs.fin1 Tryz.results160 rfl _ (⟨rfl, rfl⟩) (by repeat constructor)
theorem holds2_spec {S : HProp} {r : Rec} {a : Option Addr} {n c lb : Nat} {y : AskV} {b : Bool} (h : Ct Tryz.prog 112 [lookV r a n c, askV y] [S] (fun v hs => v = .bool b ∧ hs = [S])) :
   Ct Tryz.prog 161 ([] ++ [askV y] ++ [ptr lb]) [S, cl lb 148 (lookC r a n c)] (fun v hs => v = .bool (!b) ∧ hs = [S, cl lb 148 (lookC r a n c)]) := by
 refine Cti Tryz.func161 (by kernel_rfl) 8 Tryz.ntmps161 rfl rfl fun w0 R => ?_
 refine Gsr (La rfl (ac_box rfl rfl) ?_)
 rintro _ _ ⟨yb, rfl, rfl⟩
 refine Las rfl rfl (Lnt (Gsr (Lr rfl (rd_lda ag_148 rfl (Rdc.cl 6 (by repeat constructor) rfl) rfl) ?_)))
 refine Lr rfl (rd_lda ag_26 rfl (Rdc.cl 4 (by repeat constructor) rfl) rfl) ?_
 refine La rfl (asC (h)) ?_
 rintro _ _ ⟨_, ⟨rfl, rfl⟩, rfl⟩
 refine Lq rfl (pu_not rfl) (Las rfl rfl (Lnt (Gs.ret ?_)))
 exact Gs.fin1 Tryz.results161 rfl _ (⟨rfl, rfl⟩) (by repeat constructor)
theorem toks_any (pre : ByteArray → ByteArray → Bool) (l : List ByteArray) (p : ByteArray) : (toksOf l 0).any (fun w => pre w.1 p) = l.any fun w => pre w p := by
 have h : (toksOf l 0).map Prod.fst = l := by
   refine List.ext_getElem? fun i => ?_
   rw [List.getElem?_map, tok_at]; cases l[i]? <;> rfl
 rw [← h, List.any_map, h]; rfl
set_option maxHeartbeats 1000000 in
theorem holdsD_spec {S : HProp} (r : Rec) {wa : Option Addr} {wc : Nat} {l : List ByteArray} (hS : Srd S 2 wordC wa (toksOf l 0)) (hl : l.length ≤ 1000) : ∀ (d : Nat) {x : AskV} (hA : ARd S x) (hF : FewA d x) (hG : goodA oddB d x = true),
   Ct Tryz.prog 112 [lookV r wa (toksOf l 0).length wc, askV x] [S] (fun v hs => v = .bool (holdsA preB r l d x) ∧ hs = [S])
 | 0, x, hA, hF, hG => hF.elim
 | d + 1, x, hA, hF, hG => by
   have ih := @holdsD_spec S r wa wc l hS hl d
   have hkd := good_kind hG
   have hgs := good_subs hG
   obtain ⟨hf1, hf2, hf3, hf4⟩ := hF
   have hmx : maxLen = 9223372036854775807 := by decide
   have hxl := hA.l
   have hTl := toks_length l 0
   obtain ⟨v0, hv0⟩ : ∃ z, z = holdsA preB r l (d + 1) x := ⟨_, rfl⟩
   rw [← hv0]
   refine Cti Tryz.func112 (by kernel_rfl) 71 Tryz.ntmps112 rfl rfl fun w0 R => ?_
   refine Gs.slAddr (hA.s.h (by repeat constructor)) fun ab ao ha => ?_
   refine Gsr (La rfl (ac_box rfl rfl) ?_)
   rintro _ _ ⟨lb, rfl, rfl⟩
   refine La rfl (ac_box rfl rfl) ?_
   rintro _ _ ⟨xb, rfl, rfl⟩
   refine Las rfl rfl (Lnt (Gs.seq (Gsr (Lq rfl (pu_fa fa_26_0 rfl) (Lr rfl (rd_ld na_3 rfl (Rdc.cl1 (by repeat constructor) rfl)) ?_)))))
   refine Lnt (Gs.block (Gs.seq (Gsr (Lq rfl (pu_eq rfl rfl) (Las rfl rfl (Lnt (Gs.cut (E := [(2, ptr lb), (3, ptr xb), (7, int x.kind), (8, .bool (decide (x.kind = 1 ∨ x.kind = 3)))]) (I := ([cl lb 148 (lookC r wa (toksOf l 0).length wc), cl xb 26 (askC x), S] ++ R)) ?_ ?_)))))))
   ·
    refine Gs.cond rfl (fun hka => ?_) (fun hka => ?_)
    ·
     rw [show decide (x.kind = 1) = decide (x.kind = 1 ∨ x.kind = 3) from (decide_eq_true (of_decide_eq_true hka)).trans (decide_eq_true (.inl (of_decide_eq_true hka))).symm]
     refine Gs.skip (Gn ?_)
     exact Gs.cutEnd (by repeat constructor) (by repeat constructor)
    refine Gs.reg (Lq rfl (pu_eq rfl rfl) (Las rfl rfl ?_))
    rw [show decide (x.kind = 3) = decide (x.kind = 1 ∨ x.kind = 3) from decide_eq_decide.2 ⟨fun h => .inr h, fun h => h.resolve_left (of_decide_eq_false hka)⟩]
    refine Lnt ?_
    exact Gs.cutEnd (by repeat constructor) (by repeat constructor)
   refine Gs.cond rfl (fun hk1 => ?_) (fun hk1 => ?_)
   ·
    refine Gsr (Lq rfl (pu_fa fa_148_1 rfl) (Lr rfl (rd_ld na_83 rfl (Rdc.cl1 (by repeat constructor) rfl)) ?_))
    refine Lq rfl (pu_fa fa_26_2 rfl) (Lr rfl (rd_ld na_23 rfl (Rdc.cl1 (by repeat constructor) rfl)) ?_)
    refine La rfl (asC (phraseD_spec hS hA.w hl (by show x.ws.length ≤ 1000; omega))) ?_
    rintro _ _ ⟨_, ⟨rfl, rfl⟩, rfl⟩
    refine Las rfl rfl (Lnt (Gs.ret (Gs.blk_r (Gr ?_))))
    exact Gs.fin1 Tryz.results112 rfl _ (⟨by rw [hv0, holds_1 (of_decide_eq_true hk1)], rfl⟩) (by repeat constructor)
   refine Gsr (Lq rfl (pu_eq rfl rfl) (Las rfl rfl (Lnt (Gs.cond rfl (fun hk2 => ?_) (fun hk2 => ?_)))))
   ·
    have hwl : x.ws.length = 1 := by
      have h2 := of_decide_eq_true hk2
      rcases hkd with h | h | h | h | h
      · exact h.2.2
      · omega
      · omega
      · omega
      · omega
    obtain ⟨p, hp⟩ := List.length_eq_one_iff.1 hwl
    have hp0 : x.w.xs[0]? = some p := by show x.ws[0]? = _; rw [hp]; rfl
    refine Gsr (Lq rfl (pu_fa fa_148_1 rfl) (Lr rfl (rd_ld na_83 rfl (Rdc.cl1 (by repeat constructor) rfl)) ?_))
    refine Lq rfl (pu_func (by repeat constructor) (by repeat constructor)) ?_
    refine La rfl (asC (containsW_spec (q := fun w => preB w.1 p) hS (by omega) (fun w _ => holds1_spec hA hp0 w))) ?_
    rintro _ _ ⟨_, ⟨rfl, rfl⟩, rfl⟩
    refine Las rfl rfl (Lnt (Gs.ret (Gs.blk_r (Gr ?_))))
    exact Gs.fin1 Tryz.results112 rfl _ (⟨by rw [hv0, holds_2 (of_decide_eq_true hk2), toks_any, show x.ws = [p] from hp]; rfl, rfl⟩) (by repeat constructor)
   refine Gsr (Lq rfl (pu_eq rfl rfl) (Las rfl rfl (Lnt (Gs.cond rfl (fun hk4 => ?_) (fun hk4 => ?_)))))
   ·
    refine Gsr (Lq rfl (pu_fa fa_148_0 rfl) (Lq rfl (pu_fa fa_32_0 rfl) (Lq rfl (pu_fa fa_28_0 rfl) (Lr rfl (rd_ld na_3 rfl (Rdc.cl1 (by repeat constructor) rfl)) ?_))))
    refine Lq rfl (pu_fa fa_26_1 rfl) (Lr rfl (rd_ld na_3 rfl (Rdc.cl1 (by repeat constructor) rfl)) ?_)
    refine Lq rfl (pu_eq rfl rfl) (Las rfl rfl (Lnt (Gs.ret (Gs.blk_r (Gr ?_)))))
    exact Gs.fin1 Tryz.results112 rfl _ (⟨by rw [hv0, holds_4 (of_decide_eq_true hk4)], rfl⟩) (by repeat constructor)
   refine Gsr (Lq rfl (pu_eq rfl rfl) (Las rfl rfl (Lnt (Gs.cond rfl (fun hk5 => ?_) (fun hk5 => ?_)))))
   ·
    refine Gsr (Lq rfl (pu_fa fa_148_0 rfl) (Lq rfl (pu_fa fa_32_1 rfl) (Lq rfl (pu_fa fa_30_0 rfl) (Lr rfl (rd_ld na_3 rfl (Rdc.cl1 (by repeat constructor) rfl)) ?_))))
    refine Lq rfl (pu_fa fa_26_1 rfl) (Lr rfl (rd_ld na_3 rfl (Rdc.cl1 (by repeat constructor) rfl)) ?_)
    refine Lq rfl (pu_ge rfl rfl) (Las rfl rfl (Lnt (Gs.ret (Gs.blk_r (Gr ?_)))))
    exact Gs.fin1 Tryz.results112 rfl _ (⟨by rw [hv0, holds_5 (of_decide_eq_true hk5)], rfl⟩) (by repeat constructor)
   refine Gsr (Lq rfl (pu_eq rfl rfl) (Las rfl rfl (Lnt (Gs.cond rfl (fun hk6 => ?_) (fun hk6 => ?_)))))
   ·
    refine Gsr (Lq rfl (pu_fa fa_148_0 rfl) (Lq rfl (pu_fa fa_32_1 rfl) (Lq rfl (pu_fa fa_30_0 rfl) (Lr rfl (rd_ld na_3 rfl (Rdc.cl1 (by repeat constructor) rfl)) ?_))))
    refine Lq rfl (pu_fa fa_26_1 rfl) (Lr rfl (rd_ld na_3 rfl (Rdc.cl1 (by repeat constructor) rfl)) ?_)
    refine Lq rfl (pu_le rfl rfl) (Las rfl rfl (Lnt (Gs.ret (Gs.blk_r (Gr ?_)))))
    exact Gs.fin1 Tryz.results112 rfl _ (⟨by rw [hv0, holds_6 (of_decide_eq_true hk6)], rfl⟩) (by repeat constructor)
   refine Gsr (Lq rfl (pu_eq rfl rfl) (Las rfl rfl (Lnt (Gs.cond rfl (fun hk8 => ?_) (fun hk8 => ?_)))))
   ·
    refine Gsr (Lq rfl (pu_fa fa_26_3 rfl) (Lr rfl (rd_ld na_24 rfl (Rdc.cl1 (by repeat constructor) rfl)) ?_))
    refine Lr rfl (rd_lda ag_148 rfl (Rdc.cl 6 (by repeat constructor) rfl) rfl) ?_
    refine Lq rfl (pu_func (by repeat constructor) (by repeat constructor)) ?_
    refine La rfl (asC (containsAv_spec (F := cl xb 26 (askC x)) (us := [lookV r wa (toksOf l 0).length wc]) (cs := []) (q := holdsA preB r l d) hA.s (fun y hy => Ct.fr (ih (hA.sub y hy) (hf4 y hy) (hgs y hy))) (by omega))) ?_
    rintro _ _ ⟨_, ⟨rfl, rfl⟩, rfl⟩
    refine Las rfl rfl (Lnt (Gs.ret (Gs.blk_r (Gr ?_))))
    exact Gs.fin1 Tryz.results112 rfl _ (⟨by rw [hv0, holds_8 (of_decide_eq_true hk8)], rfl⟩) (by repeat constructor)
   refine Gs.skip (Gs.blk_n (Gn (Gsr (Lq rfl (pu_func (by repeat constructor) (by repeat constructor)) ?_))))
   refine Las rfl rfl (Lnt (Gs.seq (Gsr (Lq rfl (pu_fa fa_26_0 rfl) (Lr rfl (rd_ld na_3 rfl (Rdc.cl1 (by repeat constructor) rfl)) ?_)))))
   refine Lq rfl (pu_eq rfl rfl) (Lnt (Gs.cond rfl (fun hk9 => ?_) (fun hk9 => ?_)))
   ·
    have hsl : x.ss.length = 1 := by
      have h9 := of_decide_eq_true hk9
      rcases hkd with h | h | h | h | h
      · omega
      · omega
      · omega
      · exact h.2
      · omega
    obtain ⟨y, hy⟩ := List.length_eq_one_iff.1 hsl
    have hy0 : x.ss[0]? = some y := by rw [hy]; rfl
    have hym : y ∈ x.ss := by rw [hy]; simp
    have hsa := ha (fun e => by rw [e] at hsl; cases hsl)
    have hs := hA.s
    rw [hsa] at hs
    refine Gsr (Lmv rfl rfl (Lq rfl (pu_fa fa_26_3 rfl) (Lr rfl (rd_ld na_24 rfl (Rdc.cl1 (by repeat constructor) rfl)) ?_)))
    rw [hsa]
    refine Lq rfl (pu_ia se_24 rfl rfl (by omega) (by omega)) (Lr rfl (rd_lda ag_26 rfl (Rdc.el0 (hs.h (by repeat constructor)) hy0 rfl rfl) rfl) ?_)
    refine La rfl (as_callV rfl (holds2_spec (ih (hA.sub y hym) (hf4 y hym) (hgs y hym))) (by repeat constructor) (by repeat constructor)) ?_
    rintro _ _ ⟨_, ⟨rfl, rfl⟩, rfl⟩
    refine Las rfl rfl (Lnt (Gs.ret (Gr ?_)))
    exact Gs.fin1 Tryz.results112 rfl _ (⟨by rw [hv0, holdsNot (of_decide_eq_true hk9) hy], rfl⟩) (by repeat constructor)
   have hk7 : x.kind = 7 := by
     have e1 := of_decide_eq_false hk1
     have e2 := of_decide_eq_false hk2
     have e4 := of_decide_eq_false hk4
     have e5 := of_decide_eq_false hk5
     have e6 := of_decide_eq_false hk6
     have e8 := of_decide_eq_false hk8
     have e9 := of_decide_eq_false hk9
     omega
   refine Gs.skip (Gn (Gsr (Lq rfl (pu_fa fa_26_3 rfl) (Lr rfl (rd_ld na_24 rfl (Rdc.cl1 (by repeat constructor) rfl)) ?_))))
   refine Lmv rfl rfl (La rfl (asC (containsAv_spec (F := cl lb 148 (lookC r wa (toksOf l 0).length wc)) (us := []) (cs := [ptr lb]) (q := fun y => !holdsA preB r l d y) hA.s (fun y hy => holds2_spec (ih (hA.sub y hy) (hf4 y hy) (hgs y hy))) (by omega))) ?_)
   rintro _ _ ⟨_, ⟨rfl, rfl⟩, rfl⟩
   refine Lq rfl (pu_not rfl) (Las rfl rfl (Lnt (Gs.ret ?_)))
   exact Gs.fin1 Tryz.results112 rfl _ (⟨by rw [hv0, holds_7 hk7, List.not_any_eq_all_not]; congr 2; funext y; rw [Bool.not_not], rfl⟩) (by repeat constructor)
def HoldsB (d : Nat) (x : AskV) (r : Rec) : Bool := mayA d x && (recB r && holdsQ d x r)
theorem may_good {d : Nat} {x : AskV} (h : mayA d x = true) : goodA oddB d x = true := by
 unfold mayA at h; rw [Bool.and_eq_true, Bool.and_eq_true] at h; exact h.2.2
theorem HoldsD_spec {S : HProp} (hT : TabU S) {d : Nat} {x : AskV} (hA : ARd S x) (hF : FewA d x) (hz : sizeA d x ≤ 1000) (hd : d ≤ 1000) (r : Rec) :
   Ct Tryz.prog 65 [askV x, recV r] [S] (fun v hs => v = .bool (HoldsB d x r) ∧ hs = [S]) := by
 obtain ⟨v0, hv0⟩ : ∃ z, z = HoldsB d x r := ⟨_, rfl⟩
 have hv := hv0
 unfold HoldsB at hv
 rw [← hv0]
 have hTT := hT
 obtain ⟨h0, T, hi⟩ := hTT
 refine Cti Tryz.func65 (by kernel_rfl) 20 Tryz.ntmps65 rfl rfl fun w0 R => ?_
 refine Gsr (La rfl (ac_box rfl rfl) ?_)
 rintro _ _ ⟨xb, rfl, rfl⟩
 refine La rfl (ac_box rfl rfl) ?_
 rintro _ _ ⟨rb, rfl, rfl⟩
 refine Las rfl rfl (Lnt (Gs.seq (Gs.regD mixed (by kernel_rfl) (Rr 0 rfl (by kernel_rfl) (rd_lda ag_26 rfl (Rdc.cl 4 (by repeat constructor) rfl) rfl) ?_))))
 refine Rg.one (by kernel_rfl) (Stp.ac 1 rfl rfl (by kernel_rfl) trivial (asC (mayA_spec hT hA hF hz hd))  ?_)
 rintro _ _ ⟨_, ⟨rfl, rfl⟩, rfl⟩
 refine Rg.puB 2 rfl rfl (by kernel_rfl) trivial (pu_move rfl) (fun hg2 => ?_) (fun hg2 => ?_)
 ·
  refine Rg.rd 3 rfl rfl (by kernel_rfl) ⟨_, rfl, rfl⟩ (rd_lda ag_32 rfl (Rdc.cl 5 (by repeat constructor) rfl) rfl) ?_
  refine Rg.one (by kernel_rfl) (Stp.ac 4 rfl rfl (by kernel_rfl) ⟨_, rfl, rfl⟩ (asC (hT.ct (fun h0 T => recMay_spec T.1 r)))  ?_)
  rintro _ _ ⟨_, ⟨rfl, rfl⟩, rfl⟩
  refine Rpk 5 rfl (by kernel_rfl) rfl rfl (Rg.puB 6 rfl rfl (by kernel_rfl) trivial (pu_move rfl) (fun hg6 => ?_) (fun hg6 => ?_))
  ·
   refine Rg.rd 7 rfl rfl (by kernel_rfl) ⟨_, rfl, rfl⟩ (rd_lda ag_32 rfl (Rdc.cl 5 (by repeat constructor) rfl) rfl) ?_
   refine Rg.pu 8 rfl rfl (by kernel_rfl) ⟨_, rfl, rfl⟩ (pu_fa fa_32_2 rfl) (Rg.rd 9 rfl rfl (by kernel_rfl) ⟨_, rfl, rfl⟩ (rd_ld na_9 rfl (Rdc.cl1 (by repeat constructor) rfl)) ?_)
   refine Rg.rd 12 rfl rfl (by kernel_rfl) ⟨_, rfl, rfl⟩ (rd_lda ag_26 rfl (Rdc.cl 4 (by repeat constructor) rfl) rfl) ?_
   refine Rg.one (by kernel_rfl) (Stp.acR 10 [7, 12] rfl rfl (by kernel_rfl) ⟨_, rfl, rfl⟩ (asC ((of_spec T r.t).inn hi (fun v hs ⟨a, c, _, h⟩ => ⟨_, h⟩))) (by rintro _ _ ⟨_, ⟨_, ⟨ta, tc, rfl, ⟨⟩⟩, rfl⟩, rfl⟩; exact (Reads.cons rfl rfl rfl ⟨_, rfl, rfl⟩ rfl (rd_lda ag_32 rfl (Rdc.cl 5 (by repeat constructor) rfl) rfl) (Reads.cons rfl rfl rfl ⟨_, rfl, rfl⟩ rfl (rd_lda ag_26 rfl (Rdc.cl 4 (by repeat constructor) rfl) rfl) Reads.nil))) ?_)
   rintro _ _ ⟨_, ⟨_, ⟨ta, tc, rfl, ⟨⟩⟩, rfl⟩, rfl⟩
   refine Rg.pu 11 rfl rfl (by kernel_rfl) ⟨_, rfl, rfl⟩ (pu_build bd_148 (by repeat constructor) rfl) ?_
   refine Rg.one (by kernel_rfl) (Stp.ac 13 rfl rfl (by kernel_rfl) ⟨_, rfl, rfl⟩ (asC (Ct.two0 (holdsD_spec (S := two S (sl 98 2 wordC ta tc (toksV r.t))) r (l := wordsB r.t) (wa := ta) (wc := tc) (Srd.two2 Srd.own) (by have := words_len r.t; omega) d hA.two1 hF (may_good hg2))))  ?_)
   rintro _ _ ⟨_, ⟨rfl, rfl⟩, rfl⟩
   refine Rpk 14 rfl (by kernel_rfl) rfl rfl (Rq 15 rfl (by kernel_rfl) (pu_assign rfl) (Rg.end (by kernel_rfl) (Gn (Gs.ret ?_))))
   exact Gs.fin1 Tryz.results65 rfl _ (⟨by
     first
       | rw [hv, hg2, hg6, Bool.true_and, Bool.true_and]; rfl
       | rw [hv, hg2, hg6, Bool.true_and, Bool.false_and]
       | rw [hv, hg2, Bool.false_and], rfl⟩) (by repeat constructor)
  refine Rof 7 rfl (by kernel_rfl) rfl (Rof 8 rfl (by kernel_rfl) rfl (Rof 9 rfl (by kernel_rfl) rfl (Rof 10 rfl (by kernel_rfl) rfl (Rof 11 rfl (by kernel_rfl) rfl (Rof 12 rfl (by kernel_rfl) rfl (Rof 13 rfl (by kernel_rfl) rfl (Rpk 14 rfl (by kernel_rfl) rfl rfl (Rq 15 rfl (by kernel_rfl) (pu_assign rfl) (Rg.end (by kernel_rfl) (Gn (Gs.ret ?_)))))))))))
  exact Gs.fin1 Tryz.results65 rfl _ (⟨by
    first
      | rw [hv, hg2, hg6, Bool.true_and, Bool.true_and]; rfl
      | rw [hv, hg2, hg6, Bool.true_and, Bool.false_and]
      | rw [hv, hg2, Bool.false_and], rfl⟩) (by repeat constructor)
 refine Rof 3 rfl (by kernel_rfl) rfl (Rof 4 rfl (by kernel_rfl) rfl (Rpk 5 rfl (by kernel_rfl) rfl rfl (Rmv 6 rfl (by kernel_rfl) rfl (Rof 7 rfl (by kernel_rfl) rfl (Rof 8 rfl (by kernel_rfl) rfl (Rof 9 rfl (by kernel_rfl) rfl (Rof 10 rfl (by kernel_rfl) rfl (Rof 11 rfl (by kernel_rfl) rfl (Rof 12 rfl (by kernel_rfl) rfl (Rof 13 rfl (by kernel_rfl) rfl (Rpk 14 rfl (by kernel_rfl) rfl rfl ?_)))))))))))
 refine Rq 15 rfl (by kernel_rfl) (pu_assign rfl) (Rg.end (by kernel_rfl) (Gn (Gs.ret ?_)))
 exact Gs.fin1 Tryz.results65 rfl _ (⟨by
   first
     | rw [hv, hg2, hg6, Bool.true_and, Bool.true_and]; rfl
     | rw [hv, hg2, hg6, Bool.true_and, Bool.false_and]
     | rw [hv, hg2, Bool.false_and], rfl⟩) (by repeat constructor)
end Go.Proofs.YtklgiidfompdpaaGreatDoor
namespace Go.Proofs.YtklgiidfompdpaaGreatDoor
open Go Go.Sl Go.Gv Go.Po
set_option maxRecDepth 100000
theorem del_keepK {α : Type} {ys : List α} {m : Nat} {x : α} (h : m < ys.length) : (ys.set m x).take (m + 1) = ys.take m ++ [x] := by
 rw [List.take_add_one, List.getElem?_set_self h, List.take_set_of_le (Nat.le_refl _)]; rfl
theorem indexKf_spec {F : HProp} {g : FuncId} {cs : List Value} {q : Key → Bool} {a : Option Addr} {c : Nat} {xs : List Key} (hg : ∀ p, Ct Tryz.prog g ([] ++ [keyV p] ++ cs) [F] (fun v hs => v = .bool (q p) ∧ hs = [F])) (hl : xs.length ≤ 100000) :
   Ct Tryz.prog 176 [.slice a xs.length c, .func (.func g) #[] cs.toArray] [sl 28 2 keyC a c xs, F] (fun v hs => (∃ z : Int, v = int z ∧ ((z = -1 ∧ ∀ x ∈ xs, q x = false) ∨ (∃ i : Nat, z = i ∧ (∃ x, xs[i]? = some x ∧ q x = true) ∧ ∀ x ∈ xs.take i, q x = false))) ∧ hs = [sl 28 2 keyC a c xs, F]) := by
 refine Cti Tryz.func176 (by kernel_rfl) 19 Tryz.ntmps176 rfl rfl fun w0 R => ?_
 refine Gs.slAddr (SlH.own (by repeat constructor)) fun ab ao ha => ?_
 refine Gsr (Las rfl rfl (Lnt (Gs.seq (Gsr (Lmv rfl rfl (Lq rfl (pu_len Tryz.underlying48 rfl) (Lmv rfl rfl (Lnt (Gs.block (Gs.loop1 (fun i : Nat => i ≤ xs.length ∧ ∀ x ∈ xs.take i, q x = false) (fun i => [(0, .slice a xs.length c), (1, .func (.func g) #[] cs.toArray), (7, int xs.length), (8, int i)]) (fun i => [sl 28 2 keyC a c xs, F] ++ R) (fun i => xs.length - i) 0 (⟨Nat.zero_le _, fun x hx => by simp at hx⟩) (by repeat constructor) (by repeat constructor) (fun i ⟨hi, hq⟩ => ?_)))))))))))
 refine Gsr (Lq rfl (pu_lt rfl rfl) (Lnt (Gs.seq (Gs.cond rfl (fun hc0 => ?_) (fun hc0 => ?_)))))
 ·
  have hlt : i < xs.length := by have := of_decide_eq_true hc0; omega
  obtain ⟨x, hx⟩ : ∃ x, xs[i]? = some x := ⟨xs[i], by simp [hlt]⟩
  obtain rfl := ha (by rintro rfl; simp at hlt)
  refine Gs.skip (Gn (Gs.seq (Gs.block (Gsr (Lmv rfl rfl (Las rfl rfl (Lnt (Gsr (Lmv rfl rfl (Lmv rfl rfl (Lmv rfl rfl ?_)))))))))))
  refine Lq rfl (pu_ia se_48 rfl rfl (by omega) (by omega)) (Lr rfl (rd_lda ag_28 rfl (Rdc.el0 (SlH.own (by repeat constructor)) hx rfl rfl) rfl) ?_)
  refine La rfl (as_callV rfl (hg x) (by repeat constructor) (by repeat constructor)) ?_
  rintro _ _ ⟨_, ⟨rfl, rfl⟩, rfl⟩
  refine Lnt (Gs.cond rfl (fun hc1 => ?_) (fun hc1 => ?_))
  ·
   refine Gsr (Lmv rfl rfl (Las rfl rfl (Lnt (Gs.ret (Gs.blk_r (Gr (Gr (Gs.blk_r (Gr ?_)))))))))
   exact Gs.fin1 Tryz.results176 rfl _ (⟨⟨_, rfl, .inr ⟨i, rfl, ⟨x, hx, hc1⟩, hq⟩⟩, rfl⟩) (by repeat constructor)
  refine Gs.skip (Gs.blk_n (Gn (Gs.reg (Lq rfl (by first | exact pu_addI rfl rfl rfl (by omega) (by omega) | exact pu_add rfl rfl) ?_))))
  refine Lmv rfl rfl (Lnt ?_)
  exact Ag (i + 1) ⟨hlt, fun y hy => by rw [List.take_add_one, hx] at hy; rcases List.mem_append.1 hy with hy | hy; exact hq y hy; simp at hy; subst hy; exact hc1⟩ (by show xs.length - (i + 1) < xs.length - i; omega)
 have hge : i = xs.length := by have := of_decide_eq_false hc0; omega
 rw [hge, List.take_length] at hq
 refine Gs.exit (Gx (Gx (Gs.blk_hit (Gn (Gsr (Las rfl rfl (Lnt (Gs.ret ?_))))))))
 exact Gs.fin1 Tryz.results176 rfl _ (⟨⟨_, rfl, .inl ⟨rfl, hq⟩⟩, rfl⟩) (by repeat constructor)
theorem deleteK_spec {F : HProp} {g : FuncId} {cs : List Value} {q : Key → Bool} {a : Option Addr} {c : Nat} {xs : List Key} (hg : ∀ p, Ct Tryz.prog g ([] ++ [keyV p] ++ cs) [F] (fun v hs => v = .bool (q p) ∧ hs = [F])) (hl : xs.length ≤ 100000) :
   Ct Tryz.prog 130 [.slice a xs.length c, .func (.func g) #[] cs.toArray] [sl 28 2 keyC a c xs, F]
     (fun v hs => v = .slice a (xs.filter fun x => !q x).length c ∧ hs = [sl 28 2 keyC a c (xs.filter fun x => !q x), F]) := by
 refine Cti Tryz.func130 (by kernel_rfl) 42 Tryz.ntmps130 rfl rfl fun w0 R => ?_
 refine Gs.slAddr (SlH.own (by repeat constructor)) fun ab ao ha => Gs.slLen (by repeat constructor) fun hlc => ?_
 refine Gsr (Las rfl rfl (Lnt (Gsr (Lmv rfl rfl (Lmv rfl rfl (La rfl (asC (indexKf_spec (q := q) hg hl)) ?_))))))
 rintro _ _ ⟨_, ⟨⟨z, rfl, hz⟩, rfl⟩, rfl⟩
 refine Las rfl rfl (Lnt (Gs.seq (Gsr (Lmv rfl rfl (Lq rfl (pu_eq rfl rfl) (Lnt (Gs.cond rfl (fun hc0 => ?_) (fun hc0 => ?_))))))))
 ·
  have hall : xs.filter (fun x => !q x) = xs := List.filter_eq_self.2 fun x hx => by rcases hz with ⟨-, h⟩ | ⟨i, rfl, -⟩ <;> first | (rw [h x hx]; rfl) | (have := of_decide_eq_true hc0; omega)
  refine Gsr (Lmv rfl rfl (Las rfl rfl (Lnt (Gs.ret (Gr ?_)))))
  exact Gs.fin1 Tryz.results130 rfl _ (⟨by rw [hall], by rw [hall]⟩) (by repeat constructor)
 obtain ⟨i0, rfl, ⟨x0, hx0, hq0⟩, hz2⟩ : ∃ i : Nat, z = i ∧ (∃ x, xs[i]? = some x ∧ q x = true) ∧ ∀ x ∈ xs.take i, q x = false := by rcases hz with ⟨h, -⟩ | h <;> first | exact h | (exact absurd h (of_decide_eq_false hc0))
 have hi0 : i0 < xs.length := (List.getElem?_eq_some_iff.1 hx0).1
 obtain rfl := ha (by rintro rfl; simp at hi0)
 have hst : xs.take i0 = (xs.take (i0 + 1)).filter (fun x => !q x) := by rw [List.take_add_one, hx0, List.filter_append, List.filter_eq_self.2 (fun x hx => by rw [hz2 x hx]; rfl)]; simp [hq0]
 refine Gs.skip (Gn (Gs.seq (Gsr (Lmv rfl rfl (Lq rfl (by first | exact pu_addI rfl rfl rfl (by omega) (by omega) | exact pu_add rfl rfl) ?_)))))
 refine Las rfl rfl (Lnt (Gs.block (Gs.loop1 (fun s : Nat × Nat × List Key => s.1 ≤ xs.length ∧ s.2.1 ≤ s.1 ∧ s.2.2.length = xs.length ∧ s.2.2.take s.2.1 = (xs.take s.1).filter (fun x => !q x) ∧ s.2.2.drop s.1 = xs.drop s.1) (fun s => [(0, .slice (some ⟨ab, ao, none⟩) xs.length c), (1, .func (.func g) #[] cs.toArray), (5, int s.2.1), (6, int s.1)]) (fun s => [sl 28 2 keyC (some ⟨ab, ao, none⟩) c s.2.2, F] ++ R) (fun s => xs.length - s.1) (i0 + 1, i0, xs) (⟨hi0, Nat.le_succ _, rfl, hst, rfl⟩) (by repeat constructor) (by repeat constructor) (fun s hs => ?_))))
 obtain ⟨j, m, ys⟩ := s
 obtain ⟨hj, hm, hyl, hyt, hyd⟩ := hs
 dsimp only at hj hm hyl hyt hyd ⊢
 refine Gs.seq (Gsr (Lmv rfl rfl (Lmv rfl rfl (Lq rfl (pu_len Tryz.underlying48 rfl) (Lq rfl (pu_lt rfl rfl) (Lnt (Gs.cond rfl (fun hc1 => ?_) (fun hc1 => ?_))))))))
 ·
  have hlt : j < xs.length := by have := of_decide_eq_true hc1; omega
  obtain ⟨x, hx⟩ : ∃ x, xs[j]? = some x := ⟨xs[j], by simp [hlt]⟩
  have hxy : ys[j]? = some x := by have := congrArg (·[0]?) hyd; simp only [List.getElem?_drop, Nat.add_zero] at this; rw [this]; exact hx
  refine Gs.skip (Gn (Gs.seq (Gs.block (Gsr (Lmv rfl rfl (Lmv rfl rfl (Lq rfl (pu_ia se_48 rfl rfl (by omega) (by omega)) (Lr rfl (rd_lda ag_28 rfl (Rdc.el0 (SlH.own (by repeat constructor)) hxy rfl rfl) rfl) ?_))))))))
  refine La rfl (ac_alloc zv_28 rfl) ?_
  rintro _ _ ⟨xb, rfl, rfl⟩
  refine Lac0 rfl trivial (ac_st sz_28 rfl rfl (by repeat constructor) rfl rfl rfl rfl) ?_
  rintro _ _ rfl
  refine Lnt (Gsr (Lmv rfl rfl (Lr rfl (rd_lda ag_28 rfl (Rdc.cl 2 (by repeat constructor) rfl) rfl) ?_)))
  refine La rfl (as_callV rfl (hg x) (by repeat constructor) (by repeat constructor)) ?_
  rintro _ _ ⟨_, ⟨rfl, rfl⟩, rfl⟩
  refine Lq rfl (pu_not rfl) (Lnt (Gs.cond rfl (fun hc2 => ?_) (fun hc2 => ?_)))
  ·
   have hX : q x = false := by simpa using hc2
   have k1 : (ys.set m x).length = xs.length := by rw [List.length_set]; exact hyl
   have k2 : (ys.set m x).take (m + 1) = (xs.take (j + 1)).filter (fun x => !q x) := by rw [del_keepK (by omega), hyt, List.take_add_one, hx, List.filter_append]; simp [hX]
   have k3 : (ys.set m x).drop (j + 1) = xs.drop (j + 1) := by rw [List.drop_set_of_lt (by omega), ← List.drop_drop, hyd, List.drop_drop]
   refine Gsr (Lmv rfl rfl (Lmv rfl rfl (Lr rfl (rd_lda ag_28 rfl (Rdc.cl 2 (by repeat constructor) rfl) rfl) ?_)))
   refine Lq rfl (pu_ia se_48 rfl rfl (by omega) (by omega)) (Lac0 rfl trivial (ac_stE (enc := keyC) (xs := ys) (i := m) (x0 := ys[m]'(by omega)) (y0 := x) (vs := keyC x) (fo := 0) sz_28 ek_28 rfl rfl (by repeat constructor) rfl rfl rfl (by simp) rfl rfl) ?_)
   rintro _ _ rfl
   refine Lnt (Gs.reg (Lmv rfl rfl (Lq rfl (by first | exact pu_addI rfl rfl rfl (by omega) (by omega) | exact pu_add rfl rfl) ?_)))
   refine Las rfl rfl (Lnil (Gs.blk_n (Gn (Gs.reg (Lmv rfl rfl (Lq rfl (by first | exact pu_addI rfl rfl rfl (by omega) (by omega) | exact pu_add rfl rfl) ?_))))))
   refine Las rfl rfl (Lnt ?_)
   first | exact Ag (j + 1, m + 1, ys.set m x) ⟨by show j + 1 ≤ xs.length; omega, by show m + 1 ≤ j + 1; omega, k1, k2, k3⟩ (by show xs.length - (j + 1) < xs.length - j; omega) | exact Ag (j + 1, m, ys) ⟨by show j + 1 ≤ xs.length; omega, by show m ≤ j + 1; omega, hyl, k2, k3⟩ (by show xs.length - (j + 1) < xs.length - j; omega)
  have hX : q x = true := by simpa using hc2
  have k2 : ys.take m = (xs.take (j + 1)).filter (fun x => !q x) := by rw [hyt, List.take_add_one, hx, List.filter_append]; simp [hX]
  have k3 : ys.drop (j + 1) = xs.drop (j + 1) := by rw [← List.drop_drop, hyd, List.drop_drop]
  refine Gs.skip (Gs.blk_n (Gn (Gs.reg (Lmv rfl rfl (Lq rfl (by first | exact pu_addI rfl rfl rfl (by omega) (by omega) | exact pu_add rfl rfl) ?_)))))
  refine Las rfl rfl (Lnt ?_)
  first | exact Ag (j + 1, m + 1, ys.set m x) ⟨by show j + 1 ≤ xs.length; omega, by show m + 1 ≤ j + 1; omega, k1, k2, k3⟩ (by show xs.length - (j + 1) < xs.length - j; omega) | exact Ag (j + 1, m, ys) ⟨by show j + 1 ≤ xs.length; omega, by show m ≤ j + 1; omega, hyl, k2, k3⟩ (by show xs.length - (j + 1) < xs.length - j; omega)
 have hge : j = xs.length := by have := of_decide_eq_false hc1; omega
 rw [hge, List.take_length] at hyt
 have hml : (ys.take m).length = m := by rw [List.length_take]; omega
 have hdl : (ys.drop m).length = xs.length - m := by rw [List.length_drop]; omega
 refine Gs.exit (Gx (Gx (Gs.blk_hit (Gn (Gsr (Lmv rfl rfl (Lmv rfl rfl (Lq rfl (pu_sliceL et_48 rfl rfl (by omega) (by omega)) (Lac0 rfl trivial (ac_clear (enc := keyC) (xs := ys.take m) (zs := ys.drop m) Tryz.underlying48 zv_28 rfl rfl rfl (by decide) (by rw [hml]; rfl) hdl.symm ek_28 (by rw [List.take_append_drop]; repeat constructor)) ?_)))))))))
 rintro _ _ rfl
 refine Lnt (Gsr (Lmv rfl rfl (Lmv rfl rfl (Lq rfl (pu_sliceH et_48 rfl rfl (by omega) (by omega)) (Las rfl rfl (Lnil ?_))))))
 rw [show suba (some ⟨ab, ao, none⟩) 0 c 2 = some ⟨ab, ao, none⟩ from suba_0, hyt]
 refine Gn (Gs.ret ?_)
 exact Gs.fin1 Tryz.results130 rfl _ (⟨by rw [← hyt, hml]; rfl, rfl⟩) (by repeat constructor)
end Go.Proofs.YtklgiidfompdpaaGreatDoor
