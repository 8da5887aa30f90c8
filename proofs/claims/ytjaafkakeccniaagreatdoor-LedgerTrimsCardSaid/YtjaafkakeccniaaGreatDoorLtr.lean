/- A ledger of records in a row: how its segments stand, and what a trimming leaves of them. Plain. -/
import Derived.Test.YtjaafkakeccniaaGreatDoorLcr
namespace Go.Proofs.YtjaafkakeccniaaGreatDoor
open Go Go.Sl Go.Gv Go.Dv Go.Bst
set_option maxRecDepth 100000
abbrev recP (q : Nat) (t : ByteArray) : EntP := (recV (q : Int) (q : Int) t).p
def recsR (t : ByteArray) (c m : Nat) : List EntP := (List.range' (c + 1) m).map fun q => recP q t
def segE (t : ByteArray) (c m : Nat) : List EntP := baseE [(c : Int)] [0] :: recsR t c m
/-- From so many records on, to so many. -/
def Chain (t : ByteArray) : Nat → List Seg → Nat → Prop
  | c, [], c' => c = c'
  | c, x :: xs, c' => ∃ m, x.es = segE t c m ∧ Chain t (c + m) xs c'
variable {t : ByteArray}
theorem chain_app : ∀ {X : List Seg} {c c' : Nat} {Y : List Seg}, Chain t c (X ++ Y) c' ↔ ∃ d, Chain t c X d ∧ Chain t d Y c'
  | [], c, c', Y => ⟨fun h => ⟨c, rfl, h⟩, fun ⟨d, h1, h2⟩ => by cases h1; exact h2⟩
  | x :: X, c, c', Y => ⟨fun ⟨m, h1, h2⟩ => by
      obtain ⟨d, h3, h4⟩ := chain_app.1 h2
      exact ⟨d, ⟨m, h1, h3⟩, h4⟩, fun ⟨d, ⟨m, h1, h2⟩, h3⟩ => ⟨m, h1, chain_app.2 ⟨d, h2, h3⟩⟩⟩
theorem chain_le : ∀ {X : List Seg} {c c' : Nat}, Chain t c X c' → c ≤ c'
  | [], _, _, h => Nat.le_of_eq h
  | _ :: _, _, _, ⟨_, _, h⟩ => by have := chain_le h; omega
theorem chain_syn : ∀ {X : List Seg} {c c' : Nat}, Chain t c X c' → Chain t c (X.map syn) c'
  | [], _, _, h => h
  | _ :: _, _, _, ⟨m, h1, h2⟩ => ⟨m, h1, chain_syn h2⟩
theorem recs_app (c a b : Nat) : recsR t c (a + b) = recsR t c a ++ recsR t (c + a) b := by
  unfold recsR
  rw [← List.map_append]
  congr 1
  have := List.range'_append_1 (s := c + 1) (m := a) (n := b)
  rw [← this]
  congr 2
  omega
theorem plain_recs (c m : Nat) : plainE (recsR t c m) = recsR t c m := by
  unfold plainE
  refine List.filter_eq_self.2 fun e he => ?_
  obtain ⟨q, -, rfl⟩ := List.mem_map.1 he
  rfl
theorem recs_len (c m : Nat) : (recsR t c m).length = m := by simp [recsR]
theorem flat_cons (x : Seg) (X : List Seg) : flatS (x :: X) = x.es ++ flatS X := by simp [flatS]
theorem plain_seg (c m : Nat) : plainE (segE t c m) = recsR t c m := by
  show plainE (baseE [(c : Int)] [0] :: recsR t c m) = _
  have : plainE (baseE [(c : Int)] [0] :: recsR t c m) = plainE (recsR t c m) := by
    unfold plainE
    rw [List.filter_cons]
    rfl
  rw [this, plain_recs]
theorem chain_flat : ∀ {X : List Seg} {c c' : Nat}, Chain t c X c' → plainE (flatS X) = recsR t c (c' - c)
  | [], c, c', h => by cases h; rw [Nat.sub_self]; rfl
  | x :: X, c, c', ⟨m, h1, h2⟩ => by
    have hl := chain_le h2
    rw [flat_cons, plain_app, h1, plain_seg, chain_flat h2, ← recs_app]
    congr 1; omega
theorem chain_first : ∀ {X : List Seg} {c c' : Nat}, Chain t c X c' → X ≠ [] → (flatS X)[0]? = some (baseE [(c : Int)] [0])
  | [], _, _, _, h => absurd rfl h
  | x :: X, c, c', ⟨m, h1, _⟩, _ => by rw [flat_cons, h1]; rfl
theorem chain_wS {most : Int} {made j : Nat} {xs : List Seg} (hne : xs ≠ []) (h : Chain t 0 xs j) (hw : mayW 1 (recP (j + 1) t) [(j : Int)] [0] = true) (h0 : (wS most 1 made xs (recP (j + 1) t) [(j : Int)] [0]).e = 0) :
    Chain t 0 (wS most 1 made xs (recP (j + 1) t) [(j : Int)] [0]).xs (j + 1) := by
  obtain ⟨X, x, rfl⟩ := last_of hne
  obtain ⟨d, h1, m, h2, h3⟩ := chain_app.1 h
  have h3 : d + m = j := h3
  rw [wS_yes hw] at h0 ⊢
  unfold wrS at h0 ⊢
  by_cases h4 : (layS x.es).length < 400
  · rw [if_pos h4] at h0 ⊢
    by_cases h8 : most < usedS (X ++ [x]) + (layE (recP (j + 1) t)).length
    · rw [if_pos h8] at h0; exact absurd h0 (by simp)
    · rw [if_neg h8]
      refine chain_app.2 ⟨d, h1, m + 1, ?_, by show d + (m + 1) = j + 1; omega⟩
      show x.es ++ [recP (j + 1) t] = segE t d (m + 1)
      rw [h2]
      unfold segE
      rw [recs_app, h3]; rfl
  · rw [if_neg h4] at h0 ⊢
    by_cases h8 : most < usedS (X ++ [x]) + ((layE (baseE [(j : Int)] [0])).length + (layE (recP (j + 1) t)).length)
    · rw [if_pos h8] at h0; exact absurd h0 (by simp)
    · rw [if_neg h8]
      refine chain_app.2 ⟨j, chain_app.2 ⟨d, h1, m, h2, h3⟩, 1, ?_, rfl⟩
      rfl
theorem chain_new (k : Nat) : Chain t 0 [newSeg 1 k] 0 := ⟨0, rfl, rfl⟩
theorem tops_gone {c m u : Nat} (h : goneB (topsOf 1 (segE t c m)) [(u : Int)] = true) : m = 0 ∨ c + m ≤ u := by
  cases m with
  | zero => exact .inl rfl
  | succ m =>
    right
    by_cases hu : c + (m + 1) ≤ u
    · exact hu
    · exfalso
      have e : segE t c (m + 1) = segE t c m ++ [recP (c + m + 1) t] := by unfold segE; rw [recs_app]; rfl
      have hl := tops_len 1 (segE t c m)
      rw [e, tops_snoc] at h
      obtain ⟨T, hT⟩ : ∃ T, T = topsOf 1 (segE t c m) := ⟨_, rfl⟩
      rw [← hT] at h hl
      have hT1 : T.length = 1 := hl
      obtain ⟨a, rfl⟩ : ∃ a, T = [a] := by
        match T, hT1 with
        | [a], _ => exact ⟨a, rfl⟩
      have hn : noteT [a] (recP (c + m + 1) t) = [max a ((c + m + 1 : Nat) : Int)] := rfl
      rw [hn] at h
      have ho : overAt [max a ((c + m + 1 : Nat) : Int)] [(u : Int)] 0 = true := by
        show (decide (0 < max a ((c + m + 1 : Nat) : Int)) && (decide (([(u : Int)] : List Int).length ≤ 0) || decide ((u : Int) < max a ((c + m + 1 : Nat) : Int)))) = true
        have h1 : ((c + m + 1 : Nat) : Int) ≤ max a ((c + m + 1 : Nat) : Int) := Int.le_max_right ..
        rw [decide_eq_true (by omega : 0 < max a ((c + m + 1 : Nat) : Int)), decide_eq_true (by omega : (u : Int) < max a ((c + m + 1 : Nat) : Int))]; rfl
      rw [gone_not (by simp) ho] at h; cases h
theorem chain_drop {u : Nat} : ∀ {X : List Seg} {c c' : Nat} (K : Nat), Chain t c X c' → c ≤ u → (∀ x ∈ X.take K, goneB (topsOf 1 x.es) [(u : Int)] = true) → K ≤ X.length → ∃ d, c ≤ d ∧ d ≤ u ∧ Chain t d (X.drop K) c'
  | X, c, c', 0, h, hc, _, _ => ⟨c, Nat.le_refl _, hc, h⟩
  | [], _, _, K + 1, _, _, _, hK => by simp at hK
  | x :: X, c, c', K + 1, ⟨m, h1, h2⟩, hc, hg, hK => by
    have hx := hg x (by simp)
    rw [h1] at hx
    have hcm : c + m ≤ u := by rcases tops_gone hx with rfl | h <;> omega
    obtain ⟨d, e1, e2, e3⟩ := chain_drop K h2 hcm (fun y hy => hg y (by rw [List.take_succ_cons]; exact List.mem_cons_of_mem _ hy)) (by simpa using hK)
    exact ⟨d, by omega, e2, e3⟩
theorem lasts_seg {x : Seg} {xs : List Seg} (hn : (names ((x :: xs).map segF)).Nodup) (hs : SyncS (x :: xs)) : lastsB ((x :: xs).map segF) ((x :: xs).map (segP 1)) = true := by
  unfold lastsB
  rw [Bool.not_eq_true', List.any_eq_false]
  intro p hp
  rw [List.map_cons, List.drop_succ_cons, List.drop_zero] at hp
  obtain ⟨y, hy, rfl⟩ := List.mem_map.1 hp
  have hl : lookF ((x :: xs).map segF) (segF y).n = some (segF y) := lookF_mem hn (List.mem_map_of_mem (List.mem_cons_of_mem _ hy))
  have : looseD ((x :: xs).map segF) (segP 1 y).n = 0 := by
    unfold looseD
    rw [show lookF ((x :: xs).map segF) (segP 1 y).n = some (segF y) from hl]
    show (((layS y.es).length : Nat) : Int) - (y.s : Int) = 0
    have := hs y (List.mem_cons_of_mem _ hy)
    omega
  rw [this]; simp
theorem del_seg {x : Seg} {xs : List Seg} (hn : (names ((x :: xs).map segF)).Nodup) : del ((x :: xs).map segF) (segP 1 x).n = xs.map segF := by
  have hB : (segF x).n ∉ names (xs.map segF) := fun h => by
    simp only [names, List.map_cons] at hn
    rw [List.nodup_cons] at hn
    exact hn.1 h
  exact at_del (A := []) (f := segF x) (by simp [names]) hB
theorem trim_seg (w : List Int) : ∀ (xs : List Seg) (k : Nat), (names (xs.map segF)).Nodup → SyncS xs → ∃ K, trimL w (xs.map (segP 1)) (xs.map segF) k = ⟨k + K, (xs.drop K).map (segP 1), (xs.drop K).map segF⟩ ∧ (xs ≠ [] → K < xs.length) ∧
    (∀ x ∈ xs.take K, goneB (topsOf 1 x.es) w = true) ∧ ∀ k', trimL w ((xs.drop K).map (segP 1)) ((xs.drop K).map segF) k' = ⟨k', (xs.drop K).map (segP 1), (xs.drop K).map segF⟩
  | [], k, _, _ => ⟨0, trimL_nil .., fun h => absurd rfl h, (fun x hx => by cases hx), fun k' => trimL_nil ..⟩
  | [x], k, _, _ => ⟨0, trimL_one .., fun _ => Nat.zero_lt_one, (fun x hx => by simp at hx), fun k' => trimL_one ..⟩
  | x :: y :: xs, k, hn, hs => by
    have hl := lasts_seg hn hs
    by_cases hg : goneB (topsOf 1 x.es) w = true
    · have hn' : (names ((y :: xs).map segF)).Nodup := by
        have := hn
        simp only [names] at this ⊢
        rw [List.map_cons, List.map_cons, List.nodup_cons] at this
        exact this.2
      obtain ⟨K, h1, h2, h3, h4⟩ := trim_seg w (y :: xs) (k + 1) hn' (fun z hz => hs z (by simp [hz]))
      refine ⟨K + 1, ?_, fun _ => by have := h2 (by simp); simp only [List.length_cons] at this ⊢; omega, fun z hz => ?_, fun k' => ?_⟩
      · have e := trimL_go (w := w) (p := segP 1 x) (ps := (y :: xs).map (segP 1)) ((x :: y :: xs).map segF) k (by simp) (by
          rw [show (segP 1 x).t = topsOf 1 x.es from rfl, hg]; exact hl)
        rw [del_seg hn, h1] at e
        rw [show (x :: y :: xs).map (segP 1) = segP 1 x :: (y :: xs).map (segP 1) from rfl, e]
        rw [List.drop_succ_cons, show k + 1 + K = k + (K + 1) by omega]
      · rw [List.take_succ_cons] at hz
        rcases List.mem_cons.1 hz with rfl | hz
        · exact hg
        · exact h3 z hz
      · rw [List.drop_succ_cons]; exact h4 k'
    · have hst : ∀ k', trimL w ((x :: y :: xs).map (segP 1)) ((x :: y :: xs).map segF) k' = ⟨k', (x :: y :: xs).map (segP 1), (x :: y :: xs).map segF⟩ := fun k' =>
        trimL_stop (w := w) (p := segP 1 x) (ps := (y :: xs).map (segP 1)) ((x :: y :: xs).map segF) k' (by
          rw [show (segP 1 x).t = topsOf 1 x.es from rfl, Bool.eq_false_iff.2 hg]; rfl)
      exact ⟨0, hst k, fun _ => by simp, (fun z hz => by simp at hz), hst⟩
theorem used_drop {xs : List Seg} (hne : ∀ x ∈ xs, x.es ≠ []) (K : Nat) (hK : K ≤ xs.length) : usedS (xs.drop K) + K ≤ usedS xs := by
  have e : usedS xs = usedS (xs.take K) + usedS (xs.drop K) := by rw [← used_app, List.take_append_drop]
  have h : ∀ ys : List Seg, (∀ x ∈ ys, x.es ≠ []) → ys.length ≤ usedS ys := fun ys => by
    induction ys with
    | nil => exact fun _ => Nat.le_refl _
    | cons y ys ih =>
      intro h
      have h1 := ih fun z hz => h z (by simp [hz])
      have h2 : 0 < y.es.length := List.length_pos_iff.2 (h y (by simp))
      have h3 := layS_len y.es
      have : usedS (y :: ys) = (layS y.es).length + usedS ys := by simp [usedS]
      rw [this, List.length_cons]; omega
  have := h (xs.take K) fun x hx => hne x (List.mem_of_mem_take hx)
  rw [List.length_take] at this
  omega
theorem st_drop {n : Int} {made : Nat} {xs : List Seg} (h : St n made xs) (K : Nat) (hK : K < xs.length) : St n made (xs.drop K) := by
  refine ⟨⟨h.inv.asc.sublist (List.drop_sublist K xs), fun x hx => h.inv.num x (List.mem_of_mem_drop hx), fun x hx => h.inv.good x (List.mem_of_mem_drop hx), fun x hx => h.inv.safe x (List.mem_of_mem_drop hx)⟩, fun e => ?_⟩
  have := congrArg List.length e
  rw [List.length_drop, List.length_nil] at this; omega
theorem want_nil {want : List EntV} {c m : Nat} (h : plainV want = recsR t c m) : ∀ e ∈ want, e.v.xs = [] ∧ e.w.xs = [] := fun e he => by
  have h1 : e.p ∈ recsR t c m := h ▸ List.mem_map_of_mem he
  obtain ⟨q, -, h2⟩ := List.mem_map.1 h1
  exact ⟨(congrArg EntP.v h2).symm, (congrArg EntP.w h2).symm⟩
theorem evd_nil {S : HProp} {e : EntV} (h : e.v.xs = [] ∧ e.w.xs = []) : EVd S e := by
  unfold EVd; rw [h.1, h.2]; exact ⟨Srd.nil, Srd.nil⟩
theorem recs_drop (c m d : Nat) (hd : d ≤ m) : (recsR t c m).drop d = recsR t (c + d) (m - d) := by
  have e : recsR t c m = recsR t c d ++ recsR t (c + d) (m - d) := by rw [← recs_app]; congr 1; omega
  rw [e]
  exact List.drop_left' (recs_len c d)
end Go.Proofs.YtjaafkakeccniaaGreatDoor
