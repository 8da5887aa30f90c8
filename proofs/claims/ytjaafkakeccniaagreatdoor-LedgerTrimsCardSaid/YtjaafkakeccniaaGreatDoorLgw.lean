/- The ledger: what a write does to its segments; what an opening leaves. Plain. -/
import Derived.Test.YtjaafkakeccniaaGreatDoorLgi
namespace Go.Proofs.YtjaafkakeccniaaGreatDoor
open Go Go.Sl Go.Gv Go.Dv Go.Bst
set_option maxRecDepth 100000
def syn (x : Seg) : Seg := ⟨x.k, x.es, (layS x.es).length⟩
def usedS (xs : List Seg) : Nat := (xs.map fun x => (layS x.es).length).sum
theorem used_seg (xs : List Seg) : used (xs.map segF) = usedS xs := by
  unfold used usedS; rw [List.map_map]; rfl
/-- What a write of an entry that may be written answers and leaves. -/
structure SOut where
  e : Int
  made : Nat
  xs : List Seg
def wrS (most : Int) (made : Nat) (X : List Seg) (x : Seg) (e : EntP) (v w : List Int) : SOut :=
  if (layS x.es).length < 400 then
    if most < usedS (X ++ [x]) + (layE e).length then ⟨8, made, X ++ [x]⟩ else ⟨0, made, X ++ [⟨x.k, x.es ++ [e], x.s⟩]⟩
  else if most < usedS (X ++ [x]) + ((layE (baseE v w)).length + (layE e).length) then ⟨8, made + 1, X ++ [syn x]⟩ else ⟨0, made + 1, X ++ [syn x] ++ [⟨made + 1, [baseE v w, e], 0⟩]⟩
def plainE (es : List EntP) : List EntP := es.filter fun e => decide (e.kind ≠ 1)
def flatS (xs : List Seg) : List EntP := xs.flatMap Seg.es
theorem mayW_iff {n : Int} {e : EntP} {v w : List Int} (h : mayW n e v w = true) : e.kind ≠ 1 ∧ mayE e n = true ∧ mayE (baseE v w) n = true := by
  simp only [mayW, Bool.and_eq_true, Bool.not_eq_true', decide_eq_false_iff_not] at h
  obtain ⟨h1, h2, h3, h4, h5⟩ := h
  refine ⟨h1, h2, ?_⟩
  unfold mayE baseE
  simp [h3, h4, h5]
theorem look_init {n : Int} {made : Nat} {X : List Seg} {x : Seg} (h : Inv n made (X ++ [x])) (hm : made < 100) : nameK x.k ∉ names (X.map segF) := by
  rw [names_map (k := Seg.k) (fun _ => rfl), List.map_map]
  intro hx
  obtain ⟨y, hy, e⟩ := List.mem_map.1 hx
  have h1 := (List.pairwise_append.1 h.asc).2.2 y hy x (by simp)
  have h2 := h.num y (by simp [hy])
  have h3 := h.num x (by simp)
  have h4 : y.k = x.k := name_inj (by omega) (by omega) e
  omega
theorem look_new {n : Int} {made : Nat} {xs : List Seg} (h : Inv n made xs) (hm : made < 99) : nameK (made + 1) ∉ names (xs.map segF) := by
  rw [names_map (k := Seg.k) (fun _ => rfl), List.map_map]
  intro hx
  obtain ⟨y, hy, e⟩ := List.mem_map.1 hx
  have h2 := h.num y hy
  have h4 : y.k = made + 1 := name_inj (by omega) (by omega) e
  omega
theorem layS_snoc (es : List EntP) (e : EntP) : layS (es ++ [e]) = layS es ++ layE e := by rw [layS_app]; simp [layS]
theorem layS_two (a b : EntP) : layS [a, b] = layE a ++ layE b := by simp [layS]
theorem used_snoc (X : List Seg) (x : Seg) : usedS (X ++ [x]) = usedS X + (layS x.es).length := by simp [usedS]
theorem zeros_note (n : Int) (v w : List Int) (e : EntP) : topsOf n [baseE v w, e] = noteT (zeros n) e := by
  show noteT (noteT (zeros n) (baseE v w)) e = _
  rfl
theorem writeL_eq {most n : Int} {made : Nat} {X : List Seg} {x : Seg} {e : EntP} {v w : List Int} (h : Inv n made (X ++ [x])) (hm : made < 99) (hw : mayW n e v w = true) :
    writeL most n ((X ++ [x]).map segF) made (X.map (segP n)) (segP n x) e v w = ⟨(wrS most made X x e v w).e, (wrS most made X x e v w).xs.map segF, ⟨(wrS most made X x e v w).made, (wrS most made X x e v w).xs.map (segP n)⟩⟩ := by
  have hk := h.num x (by simp)
  have hno := lookF_none.2 (look_init h (by omega))
  have hok := (name_ok (k := x.k) (by omega)).2
  have hok1 := (name_ok (k := made + 1) (by omega)).2
  have hnew := look_new h hm
  have hD : (X ++ [x]).map segF = X.map segF ++ [⟨nameK x.k, layS x.es, x.s⟩] := by simp [segF]
  have hu : used ((X ++ [x]).map segF) = usedS (X ++ [x]) := used_seg _
  have hu2 : usedS (X ++ [x]) = used (X.map segF) + (layS x.es).length := by rw [used_snoc, used_seg]
  unfold writeL wrS
  rw [if_neg (by rw [hw]; exact fun e => by cases e)]
  rw [show (segP n x).n = nameK x.k from rfl]
  by_cases hz : (layS x.es).length < 400
  · rw [if_pos (show (segP n x).z < 400 from hz), if_pos hz]
    by_cases hr : most < usedS (X ++ [x]) + (layE e).length
    · rw [if_pos hr]
      have hE : appE most ((X ++ [x]).map segF) (nameK x.k) (layE e) = 8 := by unfold appE; rw [if_pos hok, hu, if_pos hr]
      rw [if_neg (by rw [hE]; decide), hE]
      simp [segP]
    · rw [if_neg hr]
      have hl := last_more (s := x.s) hno (b := layS x.es) (bs := layE e) (most := most) hok (by rw [hu2] at hr; omega)
      rw [if_pos (show appE most ((X ++ [x]).map segF) (nameK x.k) (layE e) = 0 by rw [hD]; exact hl.1)]
      rw [show appL most ((X ++ [x]).map segF) (nameK x.k) (layE e) = X.map segF ++ [⟨nameK x.k, layS x.es ++ layE e, x.s⟩] by rw [hD]; exact hl.2]
      simp only [List.map_append, List.map_cons, List.map_nil, segF, segP, noteP, layS_snoc, List.length_append, tops_snoc]
  · rw [if_neg (show ¬ (segP n x).z < 400 from hz), if_neg hz]
    have hs : syncL ((X ++ [x]).map segF) [nameK x.k] = (X ++ [syn x]).map segF := by
      rw [hD]
      have := (last_sync (s := x.s) (b := layS x.es) hno).2
      rw [this]; simp [segF, syn]
    rw [hs]
    have hu3 : used ((X ++ [syn x]).map segF) = usedS (X ++ [x]) := by rw [used_seg, used_snoc, used_snoc]; rfl
    have hnew2 : lookF ((X ++ [syn x]).map segF) (nameK (made + 1)) = none := lookF_none.2 (by
      rw [names_map (k := Seg.k) (fun _ => rfl)] at hnew ⊢
      simpa [syn] using hnew)
    by_cases hr : most < usedS (X ++ [x]) + ((layE (baseE v w)).length + (layE e).length)
    · have hE : appE most ((X ++ [syn x]).map segF) (nameK (made + 1)) (layE (baseE v w) ++ layE e) = 8 := by unfold appE; rw [if_pos hok1, hu3, if_pos (by rw [List.length_append]; omega)]
      rw [if_pos hr, if_neg (by rw [hE]; decide), hE]
      simp [segP, syn]
    · have hl := last_new hnew2 (most := most) (bs := layE (baseE v w) ++ layE e) hok1 (by rw [hu3, List.length_append]; omega)
      rw [if_neg hr, if_pos hl.1, hl.2]
      simp only [List.map_append, List.map_cons, List.map_nil, segF, segP, noteP, layS_two, zeros_note, List.length_append, syn]
theorem wrS_code {most : Int} {made : Nat} {X : List Seg} {x : Seg} {e : EntP} {v w : List Int} : ((wrS most made X x e v w).e = 0 ∨ (wrS most made X x e v w).e = 8) ∧ made ≤ (wrS most made X x e v w).made ∧ (wrS most made X x e v w).made ≤ made + 1 := by
  unfold wrS
  split <;> split <;> simp
theorem GoodS.snoc {n : Int} {es : List EntP} (h : GoodS n es) {e : EntP} (hk : e.kind ≠ 1) (he : mayE e n = true) : GoodS n (es ++ [e]) := by
  refine ⟨fun x hx => ?_, fun i x hx => ?_, by simp⟩
  · rcases List.mem_append.1 hx with hx | hx
    · exact h.may x hx
    · simp at hx; subst hx; exact he
  · by_cases hi : i < es.length
    · rw [List.getElem?_append_left hi] at hx; exact h.base i x hx
    · rw [List.getElem?_append_right (by omega)] at hx
      have hlen : es.length ≠ 0 := fun e => h.ne (List.length_eq_zero_iff.1 e)
      have hx1 : i - es.length = 0 := by
        have := (List.getElem?_eq_some_iff.1 hx).1
        simp at this; omega
      rw [hx1] at hx
      simp at hx; subst hx
      rw [decide_eq_false hk, decide_eq_false (by omega)]
theorem GoodS.two {n : Int} {v w : List Int} {e : EntP} (hb : mayE (baseE v w) n = true) (hk : e.kind ≠ 1) (he : mayE e n = true) : GoodS n [baseE v w, e] :=
  GoodS.snoc (es := [baseE v w]) ⟨fun x hx => by simp at hx; subst hx; exact hb, fun i x hx => by
    cases i with
    | zero => simp at hx; subst hx; rfl
    | succ i => simp at hx, by simp⟩ hk he
theorem Inv.init {n : Int} {made : Nat} {X : List Seg} {x y : Seg} (h : Inv n made (X ++ [x])) (hk : y.k = x.k) (hg : GoodS n y.es) (hs : y.s ≤ (layS y.es).length) : Inv n made (X ++ [y]) := by
  have ha := List.pairwise_append.1 h.asc
  refine ⟨List.pairwise_append.2 ⟨ha.1, by simp, fun a h1 b h2 => by simp at h2; subst h2; rw [hk]; exact ha.2.2 a h1 x (by simp)⟩, fun z hz => ?_, fun z hz => ?_, fun z hz => ?_⟩ <;> rcases List.mem_append.1 hz with hz | hz
  · exact h.num z (by simp [hz])
  · simp at hz; subst hz; rw [hk]; exact h.num x (by simp)
  · exact h.good z (by simp [hz])
  · simp at hz; subst hz; exact hg
  · exact h.safe z (by simp [hz])
  · simp at hz; subst hz; exact hs
theorem Inv.more {n : Int} {made : Nat} {xs : List Seg} (h : Inv n made xs) {es : List EntP} {s : Nat} (hg : GoodS n es) (hs : s ≤ (layS es).length) : Inv n (made + 1) (xs ++ [⟨made + 1, es, s⟩]) := by
  refine ⟨List.pairwise_append.2 ⟨h.asc, by simp, fun a h1 b h2 => by simp at h2; subst h2; have := h.num a h1; show a.k < made + 1; omega⟩, fun z hz => ?_, fun z hz => ?_, fun z hz => ?_⟩ <;> rcases List.mem_append.1 hz with hz | hz
  · have := h.num z hz; omega
  · simp at hz; subst hz; simp
  · exact h.good z hz
  · simp at hz; subst hz; exact hg
  · exact h.safe z hz
  · simp at hz; subst hz; exact hs
theorem Inv.mono {n : Int} {made made' : Nat} {xs : List Seg} (h : Inv n made xs) (hm : made ≤ made') : Inv n made' xs := ⟨h.asc, fun x hx => by have := h.num x hx; omega, h.good, h.safe⟩
theorem wrS_inv {most n : Int} {made : Nat} {X : List Seg} {x : Seg} {e : EntP} {v w : List Int} (h : Inv n made (X ++ [x])) (hw : mayW n e v w = true) : Inv n (wrS most made X x e v w).made (wrS most made X x e v w).xs := by
  obtain ⟨hk, he, hb⟩ := mayW_iff hw
  have hg := h.good x (by simp)
  have hs := h.safe x (by simp)
  unfold wrS
  split
  · split
    · exact h
    · exact h.init rfl (hg.snoc hk he) (by show x.s ≤ (layS (x.es ++ [e])).length; rw [layS_snoc, List.length_append]; omega)
  · have h1 : Inv n made (X ++ [syn x]) := h.init rfl hg (Nat.le_refl _)
    split
    · exact h1.mono (Nat.le_succ made)
    · exact h1.more (GoodS.two hb hk he) (Nat.zero_le _)
theorem wrS_flat {most n : Int} {made : Nat} {X : List Seg} {x : Seg} {e : EntP} {v w : List Int} (hw : mayW n e v w = true) :
    plainE (flatS (wrS most made X x e v w).xs) = if (wrS most made X x e v w).e = 0 then plainE (flatS (X ++ [x])) ++ [e] else plainE (flatS (X ++ [x])) := by
  obtain ⟨hk, -, -⟩ := mayW_iff hw
  have e1 : plainE [e] = [e] := by simp [plainE, hk]
  have e2 : plainE [baseE v w, e] = [e] := by simp [plainE, hk, baseE]
  have ea : ∀ a b, plainE (a ++ b) = plainE a ++ plainE b := fun a b => List.filter_append ..
  unfold wrS
  split <;> split <;> simp [flatS, List.flatMap_append, ea, e1, e2, syn]
theorem wrS_used {most : Int} {made : Nat} {X : List Seg} {x : Seg} {e : EntP} {v w : List Int} : usedS (wrS most made X x e v w).xs ≤ usedS (X ++ [x]) + ((layE (baseE v w)).length + (layE e).length) := by
  unfold wrS
  split <;> split <;> dsimp only <;> simp only [used_snoc, syn, layS_snoc, layS_two, List.length_append] <;> omega
theorem wrS_room {most : Int} {made : Nat} {X : List Seg} {x : Seg} {e : EntP} {v w : List Int} (hr : (usedS (X ++ [x]) : Int) + ((layE (baseE v w)).length + (layE e).length) ≤ most) : (wrS most made X x e v w).e = 0 := by
  unfold wrS
  split
  · rw [if_neg (by omega)]
  · rw [if_neg (by omega)]
theorem layE_len {e : EntP} {n : Int} (h : mayE e n = true) : (layE e).length ≤ 144 := by unfold layE; rw [frB_len]; have := body_len h; omega
theorem base_len {v w : List Int} {n : Int} (h : mayE (baseE v w) n = true) : (layE (baseE v w)).length ≤ 46 := by
  unfold mayE baseE at h
  simp only [if_true, Bool.and_eq_true] at h
  have h1 := vec_len h.1.1.2
  have h2 := vec_len h.1.2
  unfold layE bodyE baseE; rw [frB_len]
  simp only [if_true, List.length_append, nums_len]; omega
/-! ### An opening -/
structure CsOk (n : Int) (xs : List Cs) : Prop where
  asc : xs.Pairwise fun x y => x.k < y.k
  num : ∀ x ∈ xs, 1 ≤ x.k ∧ x.k < 99
  good : ∀ x ∈ xs, GoodS n x.es
  safe : ∀ x ∈ xs, x.s ≤ ((layS x.es).take x.m).length
def topK (ks : List Nat) : Nat := ks.foldl max 0
theorem fold_max (ks : List Nat) (m : Nat) : (∀ k ∈ ks, k ≤ ks.foldl max m) ∧ m ≤ ks.foldl max m ∧ ∀ t, m ≤ t → (∀ k ∈ ks, k ≤ t) → ks.foldl max m ≤ t := by
  induction ks generalizing m with
  | nil => exact ⟨by simp, Nat.le_refl _, fun t h _ => h⟩
  | cons k ks ih =>
    obtain ⟨h1, h2, h3⟩ := ih (max m k)
    rw [List.foldl_cons]
    refine ⟨fun j hj => ?_, by omega, fun t ht hk => h3 t (by have := hk k (by simp); omega) fun j hj => hk j (by simp [hj])⟩
    rcases List.mem_cons.1 hj with rfl | hj
    · omega
    · exact h1 j hj
theorem GoodS.take {n : Int} {es : List EntP} (h : GoodS n es) {j : Nat} (hj : j ≠ 0) : GoodS n (es.take j) :=
  ⟨fun e he => h.may e (List.mem_of_mem_take he), (fun i e hi => by
    rw [List.getElem?_take] at hi
    split at hi
    · exact h.base i e hi
    · cases hi), (fun e => by
    have h1 := congrArg List.length e
    rw [List.length_take, List.length_nil] at h1
    have h2 : es.length ≠ 0 := fun e => h.ne (List.length_eq_zero_iff.1 e)
    omega)⟩
theorem after_some {x : Cs} {y : Seg} (h : after x = some y) : wholeN x.es x.m ≠ 0 ∧ y.k = x.k ∧ y.es = x.es.take (wholeN x.es x.m) ∧ (x.s ≤ ((layS x.es).take x.m).length → y.s ≤ (layS y.es).length) := by
  unfold after at h
  split at h
  · cases h
  · rename_i h0
    cases h
    refine ⟨h0, rfl, rfl, fun hs => ?_⟩
    show (if _ then _ else _) ≤ (layS (x.es.take (wholeN x.es x.m))).length
    split
    · exact Nat.le_refl _
    · omega
theorem CsOk.inv {n : Int} {xs : List Cs} (h : CsOk n xs) : Inv n (topK (xs.map Cs.k)) (xs.filterMap after) := by
  refine ⟨?_, fun y hy => ?_, fun y hy => ?_, fun y hy => ?_⟩
  · rw [List.pairwise_filterMap]
    exact h.asc.imp fun {a b} hab a' ha b' hb => by
      rw [(after_some ha).2.1, (after_some hb).2.1]; exact hab
  all_goals
    obtain ⟨x, hx, e⟩ := List.mem_filterMap.1 hy
    obtain ⟨h0, h1, h2, h3⟩ := after_some e
  · rw [h1]
    exact ⟨(h.num x hx).1, (fold_max (xs.map Cs.k) 0).1 _ (List.mem_map_of_mem hx)⟩
  · rw [h2]; exact (h.good x hx).take h0
  · exact h3 (h.safe x hx)
theorem CsOk.top {n : Int} {xs : List Cs} (h : CsOk n xs) {t : Nat} (ht : ∀ x ∈ xs, x.k ≤ t) : topK (xs.map Cs.k) ≤ t :=
  (fold_max (xs.map Cs.k) 0).2.2 t (Nat.zero_le _) fun k hk => by
    obtain ⟨x, hx, rfl⟩ := List.mem_map.1 hk
    exact ht x hx
/-- A segment, whole. -/
def ofSeg (x : Seg) : Cs := ⟨x.k, x.es, (layS x.es).length, x.s⟩
theorem of_csF (x : Seg) : csF (ofSeg x) = segF x := by simp [csF, ofSeg, segF]
theorem of_after {n : Int} {x : Seg} (hg : GoodS n x.es) : after (ofSeg x) = some x := by
  have hw : wholeN x.es (layS x.es).length = x.es.length := whole_all _ _ (Nat.le_refl _)
  have h2 : x.es.length ≠ 0 := fun e => hg.ne (List.length_eq_zero_iff.1 e)
  unfold after ofSeg
  simp only [hw, List.take_length]
  rw [if_neg h2, if_neg (Nat.lt_irrefl _)]
theorem of_afters {n : Int} : ∀ {xs : List Seg}, (∀ x ∈ xs, GoodS n x.es) → (xs.map ofSeg).filterMap after = xs
  | [], _ => rfl
  | x :: xs, h => by
    rw [List.map_cons, List.filterMap_cons, of_after (h x (by simp)), of_afters fun y hy => h y (by simp [hy])]
theorem Inv.cs {n : Int} {made : Nat} {xs : List Seg} (h : Inv n made xs) (hm : made < 99) : CsOk n (xs.map ofSeg) := by
  refine ⟨?_, fun x hx => ?_, fun x hx => ?_, fun x hx => ?_⟩
  · rw [List.pairwise_map]; exact h.asc
  all_goals
    obtain ⟨y, hy, rfl⟩ := List.mem_map.1 hx
  · have := h.num y hy; exact ⟨this.1, by show y.k < 99; omega⟩
  · exact h.good y hy
  · show y.s ≤ ((layS y.es).take (layS y.es).length).length
    rw [List.take_length]; exact h.safe y hy
end Go.Proofs.YtjaafkakeccniaaGreatDoor
