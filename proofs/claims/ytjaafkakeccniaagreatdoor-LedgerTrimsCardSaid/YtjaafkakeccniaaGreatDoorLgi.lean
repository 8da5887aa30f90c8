/- The ledger: its segments on a drive; what an opening finds of them. Plain. -/
import Derived.Test.YtjaafkakeccniaaGreatDoorLgp
import Derived.Test.YtjaafkakeccniaaGreatDoorLst
namespace Go.Proofs.YtjaafkakeccniaaGreatDoor
open Go Go.Sl Go.Gv Go.Dv Go.Bst
set_option maxRecDepth 100000
structure Seg where
  k : Nat
  es : List EntP
  s : Nat
def segF (x : Seg) : Fl := ⟨nameK x.k, layS x.es, x.s⟩
def segP (n : Int) (x : Seg) : Pa := ⟨nameK x.k, (layS x.es).length, topsOf n x.es⟩
/-- A segment's entries: a base, and others behind it. -/
structure GoodS (n : Int) (es : List EntP) : Prop where
  may : ∀ e ∈ es, mayE e n = true
  base : ∀ (i : Nat) (e : EntP), es[i]? = some e → decide (e.kind = 1) = decide (i = 0)
  ne : es ≠ []
structure Inv (n : Int) (made : Nat) (xs : List Seg) : Prop where
  asc : xs.Pairwise fun x y => x.k < y.k
  num : ∀ x ∈ xs, 1 ≤ x.k ∧ x.k ≤ made
  good : ∀ x ∈ xs, GoodS n x.es
  safe : ∀ x ∈ xs, x.s ≤ (layS x.es).length
/-- A file of which so many bytes are left. -/
structure Cs where
  k : Nat
  es : List EntP
  m : Nat
  s : Nat
def csF (x : Cs) : Fl := ⟨nameK x.k, (layS x.es).take x.m, x.s⟩
/-- What an opening finds of it. -/
def after (x : Cs) : Option Seg := if wholeN x.es x.m = 0 then none else
  some ⟨x.k, x.es.take (wholeN x.es x.m), if (layS (x.es.take (wholeN x.es x.m))).length < ((layS x.es).take x.m).length then (layS (x.es.take (wholeN x.es x.m))).length else x.s⟩
section names
variable {α : Type} {f : α → Fl} {k : α → Nat}
theorem names_map (hf : ∀ x, (f x).n = nameK (k x)) (xs : List α) : names (xs.map f) = (xs.map k).map nameK := by
  simp only [names, List.map_map]
  exact List.map_congr_left fun x _ => hf x
theorem names_nd (hf : ∀ x, (f x).n = nameK (k x)) {xs : List α} (ha : xs.Pairwise fun x y => k x < k y) (hl : ∀ x ∈ xs, k x < 100) : (names (xs.map f)).Nodup := by
  rw [names_map hf, List.map_map]
  unfold List.Nodup
  rw [List.pairwise_map]
  exact (List.pairwise_iff_forall_sublist.2 fun {a b} h => by
    have h1 := List.pairwise_iff_forall_sublist.1 ha h
    have h2 := hl a (h.subset (by simp))
    have h3 := hl b (h.subset (by simp))
    exact fun e => by have := name_inj h2 h3 e; omega)
theorem sort_names (hf : ∀ x, (f x).n = nameK (k x)) {xs : List α} (ha : xs.Pairwise fun x y => k x < k y) (hl : ∀ x ∈ xs, k x < 100) : sortB (names (xs.map f)) = (xs.map k).map nameK := by
  rw [← names_map hf]
  refine sortB_eq (List.Perm.refl _) ?_
  rw [names_map hf, List.map_map, List.pairwise_map]
  exact List.pairwise_iff_forall_sublist.2 fun {a b} h => by
    have h1 := List.pairwise_iff_forall_sublist.1 ha h
    have h3 := hl b (h.subset (by simp))
    exact name_le (by omega) h3
end names
section at_
variable {A B : List Fl} {f : Fl}
theorem not_name {A : List Fl} {n : ByteArray} (h : n ∉ names A) : ∀ x ∈ A, x.n ≠ n := fun x hx e => h (e ▸ List.mem_map_of_mem hx)
theorem at_look (hA : f.n ∉ names A) : lookF (A ++ f :: B) f.n = some f := by
  have h := lookF_none.2 hA
  unfold lookF at h ⊢
  rw [List.find?_append, h]; simp
theorem at_del (hA : f.n ∉ names A) (hB : f.n ∉ names B) : del (A ++ f :: B) f.n = A ++ B := by
  unfold del
  rw [List.filter_append, List.filter_cons]
  simp only [ne_eq, not_true_eq_false, decide_false, Bool.false_eq_true, if_false]
  rw [List.filter_eq_self.2 fun x hx => by simpa using not_name hA x hx, List.filter_eq_self.2 fun x hx => by simpa using not_name hB x hx]
theorem at_upd (hA : f.n ∉ names A) (hB : f.n ∉ names B) (g : Fl → Fl) : upd (A ++ f :: B) f.n g = A ++ g f :: B := by
  unfold upd
  rw [List.map_append, List.map_cons, if_pos rfl]
  have e : ∀ C : List Fl, f.n ∉ names C → C.map (fun x => if x.n = f.n then g x else x) = C := fun C h => by
    conv => rhs; rw [← List.map_id C]
    exact List.map_congr_left fun x hx => by simp [not_name h x hx]
  rw [e A hA, e B hB]
end at_
/-! ### Opening -/
theorem whole_len (es : List EntP) (m : Nat) : (layS (es.take (wholeN es m))).length ≤ ((layS es).take m).length := by
  induction es generalizing m with
  | nil => simp [layS]
  | cons e es ih =>
    unfold wholeN
    split
    · rename_i h
      rw [List.take_succ_cons, layS_cons, layS_cons, List.length_append, List.take_append, List.length_append, List.take_of_length_le h]
      have := ih (m - (layE e).length); omega
    · simp [layS]
theorem layS_len (es : List EntP) : es.length ≤ (layS es).length := by
  induction es with
  | nil => exact Nat.zero_le _
  | cons e es ih => rw [layS_cons, List.length_append, List.length_cons]; have := layE_pos e; omega
theorem readS_fuel {n : Int} {es : List EntP} (hm : ∀ e ∈ es, mayE e n = true) (hb : ∀ (i : Nat) (e : EntP), es[i]? = some e → decide (e.kind = 1) = decide (i = 0)) (m : Nat) :
    readS n ((layS es).take m).length true ((layS es).take m) = (es.take (wholeN es m), (layS (es.take (wholeN es m))).length) := by
  obtain ⟨junk, h1, h2⟩ := take_whole es m hm
  have hl : (es.take (wholeN es m)).length ≤ ((layS es).take m).length := Nat.le_trans (layS_len _) (whole_len es m)
  rw [h1] at hl ⊢
  exact readS_lay _ _ true junk hl (fun e he => hm e (List.mem_of_mem_take he)) (base_take (first := true) (fun i e hi => by rw [hb i e hi]; simp) _) h2
theorem readF_cs {n : Int} {A B : List Fl} {x : Cs} (hg : GoodS n x.es) (hA : nameK x.k ∉ names A) (hB : nameK x.k ∉ names B) :
    readF n (A ++ csF x :: B) (nameK x.k) = ⟨((after x).toList.flatMap Seg.es), A ++ ((after x).toList.map segF ++ B), (after x).toList.map (segP n)⟩ := by
  have hl : lookF (A ++ csF x :: B) (nameK x.k) = some (csF x) := at_look (f := csF x) hA
  have hb : bytesF (A ++ csF x :: B) (nameK x.k) = (layS x.es).take x.m := by unfold bytesF; rw [hl]; rfl
  unfold readF
  simp only [hb, readS_fuel hg.may hg.base x.m]
  unfold after
  by_cases h0 : wholeN x.es x.m = 0
  · rw [if_pos h0, if_pos (by rw [h0]; rfl)]
    simp only [Option.toList_none, List.flatMap_nil, List.map_nil, List.nil_append]
    rw [show del (A ++ csF x :: B) (nameK x.k) = A ++ B from at_del (f := csF x) hA hB]
  · have hne : x.es.take (wholeN x.es x.m) ≠ [] := fun e => by
      have h1 := congrArg List.length e
      rw [List.length_take, List.length_nil] at h1
      have h2 : x.es.length ≠ 0 := fun h => hg.ne (List.length_eq_zero_iff.1 h)
      omega
    rw [if_neg h0, if_neg hne]
    simp only [Option.toList_some, List.flatMap_cons, List.flatMap_nil, List.append_nil, List.map_cons, List.map_nil, List.cons_append, List.nil_append]
    have hw := whole_len x.es x.m
    have hpre : (layS x.es).take x.m = layS (x.es.take (wholeN x.es x.m)) ++ ((layS x.es).take x.m).drop (layS (x.es.take (wholeN x.es x.m))).length := by
      obtain ⟨junk, h1, -⟩ := take_whole (n := n) x.es x.m hg.may
      rw [h1, List.drop_left]
    by_cases hlt : (layS (x.es.take (wholeN x.es x.m))).length < ((layS x.es).take x.m).length
    · rw [if_pos hlt, if_pos hlt]
      have hE : cutE (A ++ csF x :: B) (nameK x.k) ((layS (x.es.take (wholeN x.es x.m))).length : Nat) = 0 := by
        unfold cutE; rw [hl]
        exact if_pos ⟨Int.natCast_nonneg _, by show ((layS (x.es.take (wholeN x.es x.m))).length : Int) ≤ ((layS x.es).take x.m).length; omega⟩
      have hL : cutL (A ++ csF x :: B) (nameK x.k) ((layS (x.es.take (wholeN x.es x.m))).length : Nat) = A ++ segF ⟨x.k, x.es.take (wholeN x.es x.m), (layS (x.es.take (wholeN x.es x.m))).length⟩ :: B := by
        unfold cutL; rw [if_pos hE, show upd (A ++ csF x :: B) (nameK x.k) _ = _ from at_upd (f := csF x) hA hB _]
        refine congrArg (fun z => A ++ z :: B) ?_
        show Fl.mk (nameK x.k) (((layS x.es).take x.m).take (Int.toNat ((layS (x.es.take (wholeN x.es x.m))).length : Nat))) _ = Fl.mk _ _ _
        rw [Int.toNat_natCast]
        congr 1
        conv => lhs; rw [hpre]
        rw [List.take_left]
      rw [hL]
      refine congrArg (fun z => ROut.mk _ _ [z]) ?_
      rw [noteAll_eq]; rfl
    · rw [if_neg hlt, if_neg hlt]
      have heq : (layS x.es).take x.m = layS (x.es.take (wholeN x.es x.m)) := by
        have := hpre
        rw [List.drop_eq_nil_of_le (by omega), List.append_nil] at this
        exact this
      have hf : csF x = segF ⟨x.k, x.es.take (wholeN x.es x.m), x.s⟩ := by unfold csF segF; rw [heq]
      rw [hf]
      refine congrArg (fun z => ROut.mk _ _ [z]) ?_
      rw [noteAll_eq]; rfl
theorem openL_cs {n : Int} : ∀ (xs : List Cs) (A : List Fl) (L : Lg) (out : List EntP), (∀ x ∈ xs, GoodS n x.es) → (∀ x ∈ xs, x.k < 100) → xs.Pairwise (fun x y => x.k < y.k) → (∀ x ∈ xs, nameK x.k ∉ names A) →
    openL n (xs.map Cs.k) ⟨A ++ xs.map csF, L, out⟩ = ⟨A ++ (xs.filterMap after).map segF, ⟨(xs.map Cs.k).foldl max L.made, L.ps ++ (xs.filterMap after).map (segP n)⟩, out ++ (xs.filterMap after).flatMap Seg.es⟩
  | [], A, L, out, _, _, _, _ => by simp [openL]
  | x :: xs, A, L, out, hg, hl, ha, hA => by
    have hx := hg x (by simp)
    rw [List.pairwise_cons] at ha
    have hB : nameK x.k ∉ names (xs.map csF) := by
      rw [names_map (k := Cs.k) (fun _ => rfl), List.map_map]
      intro h
      obtain ⟨y, hy, e⟩ := List.mem_map.1 h
      have h1 := ha.1 y hy
      have h2 := hl y (by simp [hy])
      have h3 : x.k = y.k := name_inj (by omega) h2 e.symm
      omega
    have hr := readF_cs (n := n) (A := A) (B := xs.map csF) hx (hA x (by simp)) hB
    rw [List.map_cons, List.map_cons, openL]
    simp only [hr]
    rw [← List.append_assoc, openL_cs xs (A ++ (after x).toList.map segF) _ _ (fun y hy => hg y (by simp [hy])) (fun y hy => hl y (by simp [hy])) ha.2 (fun y hy => by
      unfold names
      rw [List.map_append, List.mem_append]
      rintro (h | h)
      · exact hA y (by simp [hy]) h
      · rw [List.map_map] at h
        obtain ⟨z, hz, e⟩ := List.mem_map.1 h
        have hzk : z.k = x.k := by
          unfold after at hz
          split at hz
          · simp at hz
          · simp at hz; rw [hz]
        have h1 := ha.1 y hy
        have h2 := hl y (by simp [hy])
        have h3 : z.k = y.k := name_inj (by omega) h2 e
        omega)]
    rw [List.foldl_cons]
    cases h : after x with
    | none => simp [List.filterMap_cons, h]
    | some z => simp [List.filterMap_cons, h]
end Go.Proofs.YtjaafkakeccniaaGreatDoor
