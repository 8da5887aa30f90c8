/- Trees of records: plain. -/
import Derived.Test.YthlnjkfahmebjaaDoorLayR
import Derived.Test.YthlnjkfahmebjaaDoorKv
import Derived.Test.YthlnjkfahmebjaaDoorMent
namespace Go.Proofs.YthlnjkfahmebjaaDoor
open Go Go.Gv Go.Kv
structure Part where
  o : Int
  l : Int
  i : Int
  deriving DecidableEq
def inR (o : Int) (k : Nat) (i : Int) (r : Rec) : Bool := decide (r.o = o) && decide (r.q / 4 ^ k = i)
def cnt (L : List Rec) (o : Int) (k : Nat) (i : Int) : Nat := (L.filter (inR o k i)).length
def lookR (L : List Rec) (k : Key) : Option Rec := L.find? fun r => r.key = k
def hashR (r : Rec) : Int := hashB (layB r)
def tsum (L : List Rec) (o : Int) : Nat → Int → Int
  | 0, i => match lookR L ⟨o, i⟩ with
    | some r => hashR r
    | none => 0
  | k + 1, i => if cnt L o (k + 1) i = 0 then 0 else allH [tsum L o k (4 * i), tsum L o k (4 * i + 1), tsum L o k (4 * i + 2), tsum L o k (4 * i + 3)]
def thereB (o l i : Int) : Bool := decide (0 ≤ o) && decide (o < 8) && decide (0 ≤ l) && decide (l ≤ 5) && decide (0 ≤ i) && decide (i < 4 ^ l.toNat)
/-- A range's sum, 0 of none. -/
def sumT (L : List Rec) (o l i : Int) : Int := if thereB o l i then tsum L o (5 - l.toNat) i else 0
def putOk (L : List Rec) (r : Rec) : Bool := recB r && (lookR L r.key).isNone
def putOne (L : List Rec) (r : Rec) : List Rec := if putOk L r then L ++ [r] else L
def putAll (L : List Rec) (rs : List Rec) : List Rec := rs.foldl putOne L
def delR (L : List Rec) (k : Key) : List Rec := L.filter fun r => r.key ≠ k
theorem putAll_snoc (L rs : List Rec) (r : Rec) : putAll L (rs ++ [r]) = putOne (putAll L rs) r := by simp [putAll]
theorem putAll_take {L rs : List Rec} {i : Nat} {r : Rec} (h : rs[i]? = some r) : putAll L (rs.take (i + 1)) = putOne (putAll L (rs.take i)) r := by
  rw [List.take_add_one, h]; exact putAll_snoc ..
/-- What a tree's records keep to. -/
structure TOk (L : List Rec) : Prop where
  nd : (L.map Rec.key).Nodup
  may : ∀ r ∈ L, recB r = true
theorem TOk.nil : TOk [] := ⟨List.nodup_nil, fun _ h => by cases h⟩
theorem lookR_none {L : List Rec} {k : Key} : lookR L k = none ↔ k ∉ L.map Rec.key := by
  simp only [lookR, List.find?_eq_none, List.mem_map, decide_eq_true_eq]
  constructor
  · rintro h ⟨f, hf, e⟩; exact h f hf e
  · intro h f hf e; exact h ⟨f, hf, e⟩
theorem lookR_key {L : List Rec} {k : Key} {r : Rec} (h : lookR L k = some r) : r.key = k ∧ r ∈ L := by
  refine ⟨by have := List.find?_some h; simpa using this, List.mem_of_find?_eq_some h⟩
theorem lookR_mem {L : List Rec} (hn : (L.map Rec.key).Nodup) {r : Rec} (h : r ∈ L) : lookR L r.key = some r := by
  induction L with
  | nil => cases h
  | cons x L ih =>
    simp only [List.map_cons, List.nodup_cons] at hn
    simp only [lookR, List.find?_cons]
    rcases List.mem_cons.1 h with rfl | h
    · simp
    · have : x.key ≠ r.key := fun e => hn.1 (e ▸ List.mem_map_of_mem h)
      simp only [this, decide_false]; exact ih hn.2 h
theorem TOk.put {L : List Rec} (h : TOk L) (r : Rec) : TOk (putOne L r) := by
  unfold putOne; split
  · rename_i hp
    simp only [putOk, Bool.and_eq_true, Option.isNone_iff_eq_none] at hp
    refine ⟨?_, fun x hx => ?_⟩
    · simp only [List.map_append, List.map_cons, List.map_nil, List.nodup_append]
      exact ⟨h.nd, by simp, fun a ha b hb e => by simp at hb; subst hb; subst e; exact lookR_none.1 hp.2 ha⟩
    · rcases List.mem_append.1 hx with hx | hx
      · exact h.may x hx
      · simp at hx; subst hx; exact hp.1
  · exact h
theorem TOk.putAll {L : List Rec} (h : TOk L) (rs : List Rec) : TOk (putAll L rs) := by
  induction rs generalizing L with
  | nil => exact h
  | cons r rs ih => exact ih (h.put r)
theorem TOk.del {L : List Rec} (h : TOk L) (k : Key) : TOk (delR L k) :=
  ⟨List.Nodup.sublist (List.Sublist.map _ List.filter_sublist) h.nd, fun r hr => h.may r (List.mem_filter.1 hr).1⟩
theorem putOne_length (L : List Rec) (r : Rec) : (putOne L r).length = L.length + if putOk L r then 1 else 0 := by
  unfold putOne; split <;> simp
theorem putAll_length (L rs : List Rec) : L.length ≤ (putAll L rs).length ∧ (putAll L rs).length ≤ L.length + rs.length := by
  induction rs generalizing L with
  | nil => simp [putAll]
  | cons r rs ih =>
    have h1 := ih (L := putOne L r)
    have h2 := putOne_length L r
    have e : Go.Proofs.YthlnjkfahmebjaaDoor.putAll L (r :: rs) = Go.Proofs.YthlnjkfahmebjaaDoor.putAll (putOne L r) rs := rfl
    rw [e]; simp only [List.length_cons]; split at h2 <;> omega
theorem rec_q {r : Rec} (h : recB r = true) : 0 ≤ r.o ∧ r.o < 8 ∧ 1 ≤ r.q ∧ r.q ≤ 1023 := by
  simp only [recB, Bool.and_eq_true] at h
  have h1 := h.1.1
  simp only [keyB, Bool.and_eq_true, decide_eq_true_eq] at h1
  exact ⟨h1.1.1.1, h1.1.1.2, h1.1.2, h1.2⟩
/-- Which parts count a record. -/
def onP (k : Key) (p : Part) : Bool := decide (p.o = k.o) && decide (0 ≤ p.l) && decide (p.l ≤ 5) && decide (p.i = k.q / 4 ^ (5 - p.l).toNat)
theorem onP_in {r : Rec} {o i : Int} {k : Nat} (hk : k ≤ 5) : onP r.key ⟨o, 5 - (k : Int), i⟩ = inR o k i r := by
  have h1 : (5 - (5 - (k : Int))).toNat = k := by omega
  have h2 : decide (0 ≤ 5 - (k : Int)) = true := decide_eq_true (by omega)
  have h3 : decide (5 - (k : Int) ≤ 5) = true := decide_eq_true (by omega)
  simp only [onP, inR, Rec.key, h1, h2, h3, Bool.and_true]
  congr 1
  · exact decide_eq_decide.2 ⟨fun h => h.symm, fun h => h.symm⟩
  · exact decide_eq_decide.2 ⟨fun h => h.symm, fun h => h.symm⟩
def cv (C : List (Part × Int)) (p : Part) : Int := (mget C p).getD 0
/-- The counts are those of the records. -/
def COk (C : List (Part × Int)) (L : List Rec) : Prop := ∀ (o i : Int) (k : Nat), k ≤ 5 → cv C ⟨o, 5 - (k : Int), i⟩ = cnt L o k i
theorem COk.nil : COk [] [] := fun _ _ _ _ => rfl
theorem COk.put {C C' : List (Part × Int)} {L : List Rec} {r : Rec} (h : COk C L) (h' : ∀ p, cv C' p = cv C p + if onP r.key p then 1 else 0) : COk C' (L ++ [r]) := fun o i k hk => by
  rw [h', h o i k hk, onP_in hk]
  unfold cnt
  rw [List.filter_append, List.length_append]
  by_cases hr : inR o k i r = true <;> simp [hr]
theorem cnt_le (L : List Rec) (o : Int) (k : Nat) (i : Int) : cnt L o k i ≤ L.length := List.length_filter_le ..
theorem delR_split {L : List Rec} {k : Key} {r : Rec} (hn : (L.map Rec.key).Nodup) (h : lookR L k = some r) : ∃ X Y, L = X ++ r :: Y ∧ delR L k = X ++ Y := by
  induction L with
  | nil => cases h
  | cons x L ih =>
    simp only [List.map_cons, List.nodup_cons] at hn
    by_cases hx : x.key = k
    · have : x = r := by simpa [lookR, hx] using h
      subst this
      refine ⟨[], L, rfl, ?_⟩
      simp only [delR, List.filter_cons, hx, ne_eq, not_true_eq_false, decide_false, Bool.false_eq_true, if_false, List.nil_append]
      exact List.filter_eq_self.2 fun y hy => by
        have : y.key ≠ k := fun e => hn.1 (by rw [hx, ← e]; exact List.mem_map_of_mem hy)
        simpa using this
    · obtain ⟨X, Y, e1, e2⟩ := ih hn.2 (by simpa [lookR, hx] using h)
      refine ⟨x :: X, Y, by rw [e1]; rfl, ?_⟩
      simp only [delR, List.filter_cons, ne_eq, hx, not_false_eq_true, decide_true, if_true, List.cons_append] at e2 ⊢
      rw [e2]
theorem COk.del {C C' : List (Part × Int)} {L : List Rec} {k : Key} {r : Rec} (h : COk C L) (hn : (L.map Rec.key).Nodup) (hl : lookR L k = some r) (h' : ∀ p, cv C' p = cv C p + if onP k p then -1 else 0) : COk C' (delR L k) := fun o i j hj => by
  obtain ⟨X, Y, e1, e2⟩ := delR_split hn hl
  have hk := (lookR_key hl).1
  rw [h', h o i j hj, ← hk, onP_in hj, hk, e2, e1]
  unfold cnt
  simp only [List.filter_append, List.filter_cons, List.length_append]
  by_cases hr : inR o j i r = true
  · simp [hr]; omega
  · simp [hr]
/-- A tree's leaves, as its map has them. -/
def lents (L : List Rec) : List (Key × (Rec × Int)) := L.map fun r => (r.key, (r, hashR r))
theorem mget_lents (L : List Rec) (k : Key) : mget (lents L) k = (lookR L k).map fun r => (r, hashR r) := by
  induction L with
  | nil => rfl
  | cons r L ih =>
    simp only [lents, List.map_cons, mget, lookR, List.find?_cons]
    by_cases h : k = r.key
    · simp [h]
    · have h' : ¬ r.key = k := fun e => h e.symm
      simp only [h, h', if_false, decide_false]; exact ih
theorem mput_lents (L : List Rec) (r : Rec) (h : lookR L r.key = none) : mput (lents L) r.key (r, hashR r) = lents (L ++ [r]) := by
  have : mget (lents L) r.key = none := by rw [mget_lents, h]; rfl
  rw [Go.Sl.mput_none _ this]; simp [lents]
theorem mkeys_lents (L : List Rec) : mkeys (lents L) = L.map Rec.key := by simp [mkeys, lents, Function.comp_def]
theorem mdel_lents (L : List Rec) (k : Key) (hn : (L.map Rec.key).Nodup) : mdel (lents L) k = lents (delR L k) := by
  induction L with
  | nil => rfl
  | cons x L ih =>
    simp only [List.map_cons, List.nodup_cons] at hn
    simp only [lents, List.map_cons, mdel, delR, List.filter_cons]
    by_cases hx : k = x.key
    · subst hx
      have : L.filter (fun r => !decide (r.key = x.key)) = L := List.filter_eq_self.2 fun r hr => by
        have : r.key ≠ x.key := fun e => hn.1 (e ▸ List.mem_map_of_mem hr)
        simpa using this
      simp [this]
    · have hx' : ¬ x.key = k := fun e => hx e.symm
      have := ih hn.2
      simp only [lents, delR] at this
      simp [hx, hx', this]
theorem length_lents (L : List Rec) : (lents L).length = L.length := by simp [lents]
end Go.Proofs.YthlnjkfahmebjaaDoor
