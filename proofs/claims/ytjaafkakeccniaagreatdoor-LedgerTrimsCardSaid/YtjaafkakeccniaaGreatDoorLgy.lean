/- The ledger by its segments: writing, syncing, opening. Plain. -/
import Derived.Test.YtjaafkakeccniaaGreatDoorLgm
namespace Go.Proofs.YtjaafkakeccniaaGreatDoor
open Go Go.Sl Go.Gv Go.Dv Go.Bst
set_option maxRecDepth 100000
structure St (n : Int) (made : Nat) (xs : List Seg) : Prop where
  inv : Inv n made xs
  ne : xs ≠ []
theorem last_of {xs : List Seg} (h : xs ≠ []) : ∃ X x, xs = X ++ [x] := ⟨xs.dropLast, xs.getLast h, (List.dropLast_concat_getLast h).symm⟩
def wS (most n : Int) (made : Nat) (xs : List Seg) (e : EntP) (v w : List Int) : SOut :=
  if mayW n e v w = true then (match xs.getLast? with
    | none => ⟨0, made, xs⟩
    | some x => wrS most made xs.dropLast x e v w) else ⟨2, made, xs⟩
theorem wS_yes {most n : Int} {made : Nat} {X : List Seg} {x : Seg} {e : EntP} {v w : List Int} (h : mayW n e v w = true) : wS most n made (X ++ [x]) e v w = wrS most made X x e v w := by
  unfold wS; rw [if_pos h]; simp
theorem wS_no {most n : Int} {made : Nat} {xs : List Seg} {e : EntP} {v w : List Int} (h : mayW n e v w = false) : wS most n made xs e v w = ⟨2, made, xs⟩ := by
  unfold wS; rw [if_neg (by rw [h]; decide)]
theorem wS_write {most n : Int} {made : Nat} {X : List Seg} {x : Seg} {e : EntP} {v w : List Int} (h : Inv n made (X ++ [x])) (hm : made < 99) :
    writeL most n ((X ++ [x]).map segF) made (X.map (segP n)) (segP n x) e v w = ⟨(wS most n made (X ++ [x]) e v w).e, (wS most n made (X ++ [x]) e v w).xs.map segF, ⟨(wS most n made (X ++ [x]) e v w).made, (wS most n made (X ++ [x]) e v w).xs.map (segP n)⟩⟩ := by
  cases hw : mayW n e v w with
  | true => rw [wS_yes hw]; exact writeL_eq h hm hw
  | false => rw [wS_no hw, writeL_no hw]; simp
section
variable {most n : Int} {made : Nat} {xs : List Seg} {e : EntP} {v w : List Int}
theorem wrS_ne (X : List Seg) (x : Seg) : (wrS most made X x e v w).xs ≠ [] ∧ X.length + 1 ≤ (wrS most made X x e v w).xs.length ∧ (wrS most made X x e v w).xs.length ≤ X.length + 2 := by
  unfold wrS
  split <;> split <;> simp
theorem wS_st (h : St n made xs) : St n (wS most n made xs e v w).made (wS most n made xs e v w).xs := by
  obtain ⟨X, x, rfl⟩ := last_of h.ne
  cases hw : mayW n e v w with
  | true => rw [wS_yes hw]; exact ⟨wrS_inv h.inv hw, (wrS_ne X x).1⟩
  | false => rw [wS_no hw]; exact h
theorem wS_made (h : St n made xs) : made ≤ (wS most n made xs e v w).made ∧ (wS most n made xs e v w).made ≤ made + 1 := by
  obtain ⟨X, x, rfl⟩ := last_of h.ne
  cases hw : mayW n e v w with
  | true => rw [wS_yes hw]; exact wrS_code.2
  | false => rw [wS_no hw]; exact ⟨Nat.le_refl _, Nat.le_succ _⟩
theorem wS_len (h : St n made xs) : xs.length ≤ (wS most n made xs e v w).xs.length ∧ (wS most n made xs e v w).xs.length ≤ xs.length + 1 := by
  obtain ⟨X, x, rfl⟩ := last_of h.ne
  cases hw : mayW n e v w with
  | true => rw [wS_yes hw]; have := wrS_ne (most := most) (made := made) (e := e) (v := v) (w := w) X x; rw [List.length_append]; exact this.2
  | false => rw [wS_no hw]; exact ⟨Nat.le_refl _, Nat.le_succ _⟩
theorem wS_used (h : St n made xs) : usedS (wS most n made xs e v w).xs ≤ usedS xs + 190 := by
  obtain ⟨X, x, rfl⟩ := last_of h.ne
  cases hw : mayW n e v w with
  | true =>
    rw [wS_yes hw]
    obtain ⟨-, h1, h2⟩ := mayW_iff hw
    have h3 := layE_len h1
    have h4 := base_len h2
    have := wrS_used (most := most) (made := made) (X := X) (x := x) (e := e) (v := v) (w := w)
    omega
  | false => rw [wS_no hw]; dsimp only; omega
theorem wS_ok (h : St n made xs) (hw : mayW n e v w = true) (hr : (usedS xs : Int) + 190 ≤ most) : (wS most n made xs e v w).e = 0 := by
  obtain ⟨X, x, rfl⟩ := last_of h.ne
  rw [wS_yes hw]
  obtain ⟨-, h1, h2⟩ := mayW_iff hw
  have h3 := layE_len h1
  have h4 := base_len h2
  exact wrS_room (by omega)
theorem wS_flat (h : St n made xs) : plainE (flatS (wS most n made xs e v w).xs) = if (wS most n made xs e v w).e = 0 then plainE (flatS xs) ++ [e] else plainE (flatS xs) := by
  obtain ⟨X, x, rfl⟩ := last_of h.ne
  cases hw : mayW n e v w with
  | true => rw [wS_yes hw]; exact wrS_flat hw
  | false => rw [wS_no hw]; rfl
theorem wS_code (h : St n made xs) : (wS most n made xs e v w).e = 0 ∨ (wS most n made xs e v w).e = 8 ∨ ((wS most n made xs e v w).e = 2 ∧ mayW n e v w = false) := by
  obtain ⟨X, x, rfl⟩ := last_of h.ne
  cases hw : mayW n e v w with
  | true => rw [wS_yes hw]; rcases (wrS_code (most := most) (made := made) (X := X) (x := x) (e := e) (v := v) (w := w)).1 with h | h <;> simp [h]
  | false => rw [wS_no hw]; simp
end
/-! ### Syncing -/
theorem names_seg (n : Int) (xs : List Seg) : (xs.map (segP n)).map Pa.n = (xs.map Seg.k).map nameK := by simp only [List.map_map]; rfl
theorem names_segF (xs : List Seg) : names (xs.map segF) = (xs.map Seg.k).map nameK := names_map (k := Seg.k) (fun _ => rfl) xs
theorem sync_all (xs : List Seg) : syncE (xs.map segF) ((xs.map Seg.k).map nameK) = 0 ∧ syncL (xs.map segF) ((xs.map Seg.k).map nameK) = (xs.map syn).map segF := by
  constructor
  · unfold syncE
    rw [if_pos]
    unfold allB
    rw [List.all_eq_true]
    intro nm hnm
    rw [← names_segF] at hnm
    obtain ⟨f, hf⟩ := lookF_some hnm
    rw [hf]; rfl
  · obtain ⟨N, hN⟩ : ∃ N, N = (xs.map Seg.k).map nameK := ⟨_, rfl⟩
    rw [← hN]
    unfold syncL
    rw [List.map_map, List.map_map]
    refine List.map_congr_left fun x hx => ?_
    simp only [Function.comp]
    have : N.any (fun n => decide (n = (segF x).n)) = true := by
      rw [hN, List.any_eq_true]
      exact ⟨nameK x.k, List.mem_map_of_mem (List.mem_map_of_mem hx), decide_eq_true rfl⟩
    rw [if_pos this]; rfl
theorem syn_st {n : Int} {made : Nat} {xs : List Seg} (h : St n made xs) : St n made (xs.map syn) := by
  refine ⟨⟨?_, fun x hx => ?_, fun x hx => ?_, fun x hx => ?_⟩, by simpa using h.ne⟩
  · rw [List.pairwise_map]; exact h.inv.asc
  all_goals
    obtain ⟨y, hy, rfl⟩ := List.mem_map.1 hx
  · exact h.inv.num y hy
  · exact h.inv.good y hy
  · exact Nat.le_refl _
theorem syn_segP (n : Int) (xs : List Seg) : (xs.map syn).map (segP n) = xs.map (segP n) := by rw [List.map_map]; rfl
theorem syn_flat (xs : List Seg) : flatS (xs.map syn) = flatS xs := by unfold flatS; rw [List.flatMap_map]; rfl
theorem syn_used (xs : List Seg) : usedS (xs.map syn) = usedS xs := by unfold usedS; rw [List.map_map]; rfl
def looseS (xs : List Seg) : Nat := (xs.map fun x => (layS x.es).length - x.s).sum
theorem loose_seg (xs : List Seg) : looseAll (xs.map segF) = looseS xs := by unfold looseAll looseS; rw [List.map_map]; rfl
theorem loose_syn (xs : List Seg) : looseS (xs.map syn) = 0 := by
  unfold looseS
  rw [List.map_map]
  induction xs with
  | nil => rfl
  | cons x xs ih => rw [List.map_cons, List.sum_cons, ih]; show (layS x.es).length - (layS x.es).length + 0 = 0; omega
/-! ### Opening -/
theorem sort_seg {n : Int} {made : Nat} {xs : List Seg} (h : Inv n made xs) (hm : made < 100) : sortB (names (xs.map segF)) = (xs.map Seg.k).map nameK :=
  sort_names (k := Seg.k) (fun _ => rfl) h.asc fun x hx => by have := h.num x hx; omega
theorem openA_cs {most n : Int} {xs : List Cs} (h : CsOk n xs) (hne : xs.filterMap after ≠ []) : openA most n (xs.map Cs.k) (xs.map csF) = ⟨0, (xs.filterMap after).map segF, ⟨topK (xs.map Cs.k), (xs.filterMap after).map (segP n)⟩, flatS (xs.filterMap after)⟩ := by
  have h1 := openL_cs (n := n) xs [] ⟨0, []⟩ [] h.good (fun x hx => by have := h.num x hx; omega) h.asc (fun x _ hx => by cases hx)
  rw [List.nil_append, List.nil_append, List.nil_append, List.nil_append] at h1
  unfold openA
  rw [h1]
  dsimp only
  rw [if_pos (by simpa using hne)]; rfl
theorem openA_none {most n : Int} {xs : List Cs} (h : CsOk n xs) (hne : xs.filterMap after = []) : openA most n (xs.map Cs.k) (xs.map csF) =
    if appE most [] (nameK (topK (xs.map Cs.k) + 1)) (layE (zeroB n)) = 0 then ⟨0, appL most [] (nameK (topK (xs.map Cs.k) + 1)) (layE (zeroB n)), ⟨topK (xs.map Cs.k) + 1, [⟨nameK (topK (xs.map Cs.k) + 1), (layE (zeroB n)).length, zeros n⟩]⟩, [zeroB n]⟩
    else ⟨appE most [] (nameK (topK (xs.map Cs.k) + 1)) (layE (zeroB n)), [], ⟨0, []⟩, []⟩ := by
  have h1 := openL_cs (n := n) xs [] ⟨0, []⟩ [] h.good (fun x hx => by have := h.num x hx; omega) h.asc (fun x _ hx => by cases hx)
  rw [List.nil_append, List.nil_append, List.nil_append, List.nil_append, hne] at h1
  unfold openA
  rw [h1]
  dsimp only [List.map_nil]
  rw [if_neg (fun h => h rfl)]; rfl
/-- The first segment of a ledger. -/
def newSeg (n : Int) (k : Nat) : Seg := ⟨k, [zeroB n], 0⟩
theorem zeroB_len {n : Int} (h1 : 1 ≤ n) (h8 : n ≤ 8) : (layE (zeroB n)).length ≤ 46 := base_len (zeroB_may h1 h8)
theorem newSeg_st {n : Int} (h1 : 1 ≤ n) (h8 : n ≤ 8) {k : Nat} (hk : 1 ≤ k) : St n k [newSeg n k] := by
  have hz := zeroB_may h1 h8
  refine ⟨⟨by simp, fun x hx => ?_, fun x hx => ?_, fun x hx => ?_⟩, by simp⟩ <;> (simp only [List.mem_cons, List.not_mem_nil, or_false] at hx; subst hx)
  · exact ⟨hk, Nat.le_refl _⟩
  · refine ⟨fun x hx => ?_, fun i e hi => ?_, by simp [newSeg]⟩
    · simp [newSeg] at hx; subst hx; exact hz
    · cases i with
      | zero => simp [newSeg] at hi; subst hi; rfl
      | succ i => simp [newSeg] at hi
  · exact Nat.zero_le _
theorem new_maps (n : Int) (k : Nat) : [newSeg n k].map segF = [⟨nameK k, layE (zeroB n), 0⟩] ∧ [newSeg n k].map (segP n) = [⟨nameK k, (layE (zeroB n)).length, zeros n⟩] := by
  have e : layS [zeroB n] = layE (zeroB n) := by simp [layS]
  have t : topsOf n [zeroB n] = zeros n := rfl
  refine ⟨?_, ?_⟩
  · simp only [List.map_cons, List.map_nil, segF, newSeg, e]
  · simp only [List.map_cons, List.map_nil, segP, newSeg, e, t]
theorem app_new {most n : Int} {k : Nat} (hk : k < 100) : appE most [] (nameK k) (layE (zeroB n)) = if most < (layE (zeroB n)).length then 8 else 0 := by
  unfold appE
  rw [if_pos (name_ok hk).2]
  simp [used]
theorem app_newL {most n : Int} {k : Nat} (hk : k < 100) (hr : ¬ most < (layE (zeroB n)).length) : appL most [] (nameK k) (layE (zeroB n)) = [newSeg n k].map segF := by
  unfold appL
  rw [app_new hk, if_neg hr, if_pos rfl, (new_maps n k).1]
  rfl
/-- How many bases and others there are. -/
theorem base_one {n : Int} : ∀ {es : List EntP}, GoodS n es → (plainE es).length + 1 = es.length
  | [], h => (h.ne rfl).elim
  | e :: es, h => by
    have h0 : e.kind = 1 := by have := h.base 0 e rfl; simpa using this
    have hr : ∀ x ∈ es, x.kind ≠ 1 := fun x hx => by
      obtain ⟨i, hi⟩ := List.mem_iff_getElem?.1 hx
      have := h.base (i + 1) x (by simpa using hi)
      simpa using this
    have e1 : plainE (e :: es) = es := by
      unfold plainE
      rw [List.filter_cons, if_neg (by simp [h0])]
      exact List.filter_eq_self.2 fun x hx => by simpa using hr x hx
    rw [e1, List.length_cons]
theorem plain_app (a b : List EntP) : plainE (a ++ b) = plainE a ++ plainE b := List.filter_append ..
theorem count_all {n : Int} : ∀ {xs : List Seg}, (∀ x ∈ xs, GoodS n x.es) → (flatS xs).length = (plainE (flatS xs)).length + xs.length
  | [], _ => rfl
  | x :: xs, h => by
    have ih := count_all (xs := xs) fun y hy => h y (by simp [hy])
    have h1 := base_one (h x (by simp))
    have e : flatS (x :: xs) = x.es ++ flatS xs := by simp [flatS]
    rw [e, plain_app, List.length_append, List.length_append, List.length_cons]
    omega
theorem first_base {n : Int} {made : Nat} {xs : List Seg} (h : St n made xs) : ∃ e, (flatS xs)[0]? = some e ∧ e.kind = 1 := by
  obtain ⟨h1, h2⟩ := h
  cases xs with
  | nil => exact (h2 rfl).elim
  | cons x xs =>
    have hg := h1.good x (by simp)
    cases hx : x.es with
    | nil => exact (hg.ne hx).elim
    | cons e es =>
      refine ⟨e, by simp [flatS, hx], ?_⟩
      have := hg.base 0 e (by rw [hx]; rfl)
      simpa using this
end Go.Proofs.YtjaafkakeccniaaGreatDoor
