/- Walk: IndexCounts (grapevinelaw11); how many places an index holds. -/
import Derived.Test.YtmbikfojljnnkaaGreatDoorIx1
namespace Go.Ix
open Go Go.Sl Go.Gv Go.Kv Go.Po Go.Bst
/-- How many places a list has; an index. -/
def placesL (l : List PostP) : Nat := (l.map fun p => p.2.length).sum
def placesP (P : PL) : Nat := (P.map fun e => placesL e.2).sum
def sumL (m : List (ByteArray × List Int)) : Nat := (m.map fun e => e.2.length).sum
section
variable {κ α : Type} [DecidableEq κ]
theorem sum_put (g : α → Nat) (z : α) (hz : g z = 0) (m : List (κ × α)) (k : κ) (v : α) : ((mput m k v).map fun e => g e.2).sum + g ((mget m k).getD z) = (m.map fun e => g e.2).sum + g v := by
  induction m with
  | nil => simp [mput, mget, hz]
  | cons p m ih =>
    obtain ⟨j, u⟩ := p
    unfold mput mget
    by_cases e : k = j
    · rw [if_pos e, if_pos e]; simp; omega
    · rw [if_neg e, if_neg e]; simp only [List.map_cons, List.sum_cons]; omega
end
theorem sum_perm {α : Type} {f : α → Nat} {l m : List α} (p : List.Perm l m) : (l.map f).sum = (m.map f).sum := by
  induction p with
  | nil => rfl
  | cons x p ih => simp [ih]
  | swap x y l => simp; omega
  | trans p q h1 h2 => exact h1.trans h2
theorem posL_sum (T : List WordP) : sumL (posL T) = T.length := by
  refine snoc_ind (P := fun T => sumL (posL T) = T.length) rfl (fun T p ih => ?_) T
  have := sum_put (fun l : List Int => l.length) [] rfl (posL T) p.1 ((mget (posL T) p.1).getD [] ++ [p.2])
  unfold sumL at ih ⊢
  rw [posL_snoc, posStep, List.length_append]
  simp only [List.length_append, List.length_cons, List.length_nil] at this ⊢
  omega
end Go.Ix
namespace Go.Proofs.YtmbikfojljnnkaaGreatDoor
open Go Go.Sl Go.Gv Go.Kv Go.Po Go.Ix Go.Bst
set_option maxRecDepth 100000
theorem placesL_put {l : List PostP} {x : PostP} (hm : mayB l = true) (hx : risesB x.2 = true) (hf : ∀ p ∈ l, p.1 ≠ x.1) : placesL (putP l x) = placesL l + x.2.length := by
  have h1 := filt_ne (k := x.1) (ascP_of hm)
  rw [List.filter_eq_self.2 (fun y hy => decide_eq_true (hf y hy))] at h1
  rw [put_is hm hx]
  have h2 : placesL l = placesL (l.filter (fun y => before y.1 x.1) ++ l.filter (fun y => before x.1 y.1)) := congrArg placesL h1
  rw [h2]
  unfold placesL
  simp only [List.map_append, List.sum_append, List.map_cons, List.map_nil, List.sum_cons, List.sum_nil]
  omega
theorem fold_places (k : Key) : ∀ (es : List (ByteArray × List Int)) (P : PL), (mkeys es).Nodup → (∀ e ∈ es, mayB ((mget P e.1).getD []) = true ∧ risesB e.2 = true ∧ ∀ p ∈ (mget P e.1).getD [], p.1 ≠ k) → placesP (es.foldl (putW k) P) = placesP P + sumL es
  | [], _, _, _ => rfl
  | e :: es, P, hn, h => by
    have hn' := List.nodup_cons.1 hn
    have hne : ∀ e' ∈ es, e'.1 ≠ e.1 := fun e' he' x => hn'.1 (List.mem_map.2 ⟨e', he', x⟩)
    have hg : ∀ e' ∈ es, mget (putW k P e) e'.1 = mget P e'.1 := fun e' he' => by
      show mget (mput P e.1 _) e'.1 = _
      rw [mget_put, if_neg (hne e' he')]
    rw [List.foldl_cons, fold_places k es _ hn'.2 (fun e' he' => by rw [hg e' he']; exact h e' (List.mem_cons_of_mem _ he'))]
    obtain ⟨h1, h2, h3⟩ := h e List.mem_cons_self
    have hp := placesL_put (x := (k, e.2)) h1 h2 h3
    have hs := sum_put placesL [] rfl P e.1 (putP ((mget P e.1).getD []) (k, e.2))
    have e1 : placesP (putW k P e) + placesL ((mget P e.1).getD []) = placesP P + placesL (putP ((mget P e.1).getD []) (k, e.2)) := hs
    have e2 : sumL (e :: es) = e.2.length + sumL es := by simp [sumL]
    rw [hp] at e1
    simp only at e1
    omega
theorem IxIs.places {rs : List Rec} {s : PL × PW} (h : IxIs rs s) {r : Rec} (hn : r.key ∉ rs.map Rec.key) {es : List (ByteArray × List Int)} (hp : List.Perm es (tok r)) : placesP (es.foldl (putW r.key) s.1) = placesP s.1 + (toksV r.t).length := by
  have hes : (mkeys es).Nodup := (hp.map _).nodup_iff.2 (posL_nodup _)
  rw [fold_places r.key es s.1 hes fun e he => ?_]
  · have : sumL es = sumL (tok r) := sum_perm hp
    rw [this, posL_sum]
  · obtain ⟨h1, h2⟩ := h.getD e.1
    refine ⟨h1, posL_rises (up_toks r.t) (mget_of_mem (posL_nodup _) (hp.subset he)), fun p hp' e' => ?_⟩
    obtain ⟨r', hr', h4, -⟩ := (h2 p).1 hp'
    exact hn (List.mem_map.2 ⟨r', hr', by rw [← h4]; exact e'⟩)
theorem IxIs.putI0 {rs : List Rec} {s s' : PL × PW} (h : IxIs rs s) {r : Rec} (hp : PutI r (toksV r.t) s s') (h0 : YtmbikfojljnnkaaGreatDoor.putN s.2 r = 0) : putR rs r = rs ++ [r] ∧ placesP s'.1 = placesP s.1 + (toksV r.t).length := by
  have hn := h.putN r
  rw [h0] at hn
  by_cases hr : recB r = true
  · by_cases hk : r.key ∈ rs.map Rec.key
    · rw [if_pos hr, if_pos hk] at hn; cases hn
    · refine ⟨by unfold putR; rw [if_pos (by simp [hr, hk])], ?_⟩
      unfold PutI at hp
      rw [if_pos h0] at hp
      obtain ⟨es, hes, rfl⟩ := hp
      exact h.places hk hes
  · rw [if_neg hr] at hn; cases hn
theorem IxIs.putIn {rs : List Rec} {s s' : PL × PW} (h : IxIs rs s) {r : Rec} (hp : PutI r (toksV r.t) s s') (h0 : YtmbikfojljnnkaaGreatDoor.putN s.2 r ≠ 0) : putR rs r = rs ∧ s' = s := by
  unfold PutI at hp
  rw [if_neg h0] at hp
  refine ⟨?_, hp⟩
  rw [h.putN] at h0
  unfold putR
  by_cases hr : recB r = true
  · by_cases hk : r.key ∈ rs.map Rec.key
    · rw [if_neg (by simp [hk])]
    · rw [if_pos hr, if_neg hk] at h0; exact (h0 rfl).elim
  · rw [if_neg (by simp [hr])]
/-- The lists of all words, one after another. -/
theorem places_words {P : PL} (hn : (mkeys P).Nodup) : ((sortB (mkeys P)).map fun w => placesL ((mget P w).getD [])).sum = placesP P := by
  rw [sum_perm (sortB_perm _), List.map_map]
  unfold placesP
  congr 1
  refine List.map_congr_left fun e he => ?_
  show placesL ((mget P e.1).getD []) = placesL e.2
  rw [mget_of_mem hn (show (e.1, e.2) ∈ P from he)]; rfl
theorem sum_take {α : Type} {f : α → Nat} {l : List α} {i : Nat} {x : α} (h : l[i]? = some x) : ((l.take (i + 1)).map f).sum = ((l.take i).map f).sum + f x := by
  rw [List.take_add_one, h, List.map_append, List.sum_append]; simp
theorem sum_take_le {α : Type} {f : α → Nat} (l : List α) (i : Nat) : ((l.take i).map f).sum ≤ (l.map f).sum := by
  have : (l.map f).sum = ((l.take i).map f).sum + ((l.drop i).map f).sum := by
    rw [← List.sum_append, ← List.map_append, List.take_append_drop]
  omega
theorem dropKs_count : ∀ {ks : List Key} {rs : List Rec} {s : PL × PW} {n : Nat}, IxIs rs s → ks.Nodup → (∀ k ∈ ks, k ∈ rs.map Rec.key) → ∃ s' : PL × PW, ks.foldl Ix.dropK (s.1, s.2, n) = (s'.1, s'.2, n + ks.length) ∧ IxIs (ks.foldl dropR rs) s'
  | [], rs, s, n, h, _, _ => ⟨s, rfl, h⟩
  | k :: ks, rs, s, n, h, hn, hk => by
    have hn' := List.nodup_cons.1 hn
    obtain ⟨s1, e1, h1⟩ := h.dropK k n
    rw [if_pos (hk k List.mem_cons_self)] at e1
    have hk2 : ∀ k' ∈ ks, k' ∈ (dropR rs k).map Rec.key := fun k' hk' => by
      obtain ⟨r, hr, rfl⟩ := List.mem_map.1 (hk k' (List.mem_cons_of_mem _ hk'))
      exact List.mem_map.2 ⟨r, List.mem_filter.2 ⟨hr, decide_eq_true fun e => hn'.1 (e ▸ hk')⟩, rfl⟩
    obtain ⟨s2, e2, h2⟩ := dropKs_count (n := n + 1) h1 hn'.2 hk2
    refine ⟨s2, ?_, h2⟩
    rw [List.foldl_cons, e1, e2, List.length_cons, Nat.add_assoc, Nat.add_comm 1]
theorem dropKs_mem {r : Rec} : ∀ {ks : List Key} {rs : List Rec}, r ∈ ks.foldl dropR rs → r ∈ rs ∧ r.key ∉ ks
  | [], _, h => ⟨h, by simp⟩
  | k :: ks, rs, h => by
    obtain ⟨h1, h2⟩ := dropKs_mem (ks := ks) (rs := dropR rs k) h
    obtain ⟨h3, h4⟩ := List.mem_filter.1 h1
    have h5 : r.key ≠ k := by simpa using h4
    exact ⟨h3, fun hc => (List.mem_cons.1 hc).elim h5 h2⟩
theorem toks_le121 (r : Rec) : (toksV r.t).length ≤ 121 := by rw [toksV, toks_length]; exact words_len _
theorem counts_spec {h0 : Hp} (T : TabX h0) {a : Option Addr} {c : Nat} {xs : List Rec} (hx : slR h0 5 recC a xs) (hxl : xs.length ≤ 9223372036854775807) :
    Ct Tryz.prog 7 [.slice a xs.length c] [ro h0] (fun v hs => v = .bool true ∧ hs = [ro h0]) := by
  refine Ct.intro Tryz.func7 rfl (by kernel_rfl) 119 Tryz.ntmps7 (Nat.le_of_ble_eq_true rfl) fun w0 R => ?_
  refine Gs.slAddr ((Srd.ro hx).h (by repeat constructor)) fun ab ao ha => ?_
  refine Gs.seq ?_
  refine Gs.reg ?_
  refine Go.Sl.L.pu rfl rfl trivial (pu_assign rfl) ?_
  refine Go.Sl.L.nil ?_
  refine Gs.then_n ?_
  refine Gs.seq ?_
  refine Gs.seq ?_
  refine Gs.reg ?_
  refine Go.Sl.L.pu rfl rfl trivial (pu_move rfl) ?_
  refine Go.Sl.L.ac rfl rfl trivial (as_call (greatRecords_spec (Srd.ro hx) hxl 25) (by repeat constructor) (by repeat constructor)) ?_
  rintro _ _ ⟨_, ⟨⟨g, rfl, hg⟩, rfl⟩, rfl⟩
  refine Go.Sl.L.nil ?_
  refine Gs.then_n ?_
  refine Gs.cond rfl (fun hc0 => ?_) (fun hc0 => ?_)
  · skip
    refine Gs.seq ?_
    refine Gs.reg ?_
    refine Go.Sl.L.ac rfl rfl trivial (as_call (awake_spec T) (by repeat constructor) (by repeat constructor)) ?_
    rintro _ _ ⟨_, ⟨rfl, rfl⟩, rfl⟩
    refine Go.Sl.L.pu rfl rfl trivial (pu_assign rfl) ?_
    refine Go.Sl.L.nil ?_
    refine Gs.then_n ?_
    refine Gs.ret ?_
    refine Gs.then_r ?_
    exact Gs.fin1 Tryz.results7 rfl _ (⟨rfl, rfl⟩) (by repeat constructor)
  · skip
    have hxs : xs.length ≤ 25 := by have := hg hc0; omega
    refine Gs.skip ?_
    refine Gs.then_n ?_
    refine Gs.seq ?_
    refine Gs.reg ?_
    refine Go.Sl.L.ac rfl rfl trivial (as_call (new_spec) (by repeat constructor) (by repeat constructor)) ?_
    rintro _ _ ⟨_, ⟨x, rfl, rfl⟩, rfl⟩
    refine Go.Sl.L.pu rfl rfl trivial (pu_assign rfl) ?_
    refine Go.Sl.L.nil ?_
    refine Gs.then_n ?_
    refine Gs.seq ?_
    refine Gs.seq ?_
    refine Gs.reg ?_
    refine Go.Sl.L.pu rfl rfl trivial (pu_move rfl) ?_
    refine Go.Sl.L.pu rfl rfl trivial (pu_eqN Tryz.underlying25 rfl rfl) ?_
    refine Go.Sl.L.nil ?_
    refine Gs.then_n ?_
    refine Gs.cond_ff rfl rfl ?_
    refine Gs.skip ?_
    refine Gs.then_n ?_
    refine Gs.seq ?_
    refine Gs.reg ?_
    refine Go.Sl.L.pu rfl rfl trivial (pu_assign rfl) ?_
    refine Go.Sl.L.pu rfl rfl trivial (pu_assign rfl) ?_
    refine Go.Sl.L.pu rfl rfl trivial (pu_assign rfl) ?_
    refine Go.Sl.L.nil ?_
    refine Gs.then_n ?_
    refine Gs.seq ?_
    refine Gs.seq ?_
    refine Gs.reg ?_
    refine Go.Sl.L.pu rfl rfl trivial (pu_assign rfl) ?_
    refine Go.Sl.L.nil ?_
    refine Gs.then_n ?_
    refine Gs.block ?_
    refine Gs.loop1 (fun s : Nat × List Rec × List (ByteArray × SlV PostV) × List (Key × SlV ByteArray) => s.1 ≤ xs.length ∧ IxIs s.2.1 (plL s.2.2.1, plW s.2.2.2) ∧ s.2.1.length ≤ s.1 ∧ placesP (plL s.2.2.1) ≤ 121 * s.1) (fun s => [(0, .slice a xs.length c), (3, ptr x), (4, int (placesP (plL s.2.2.1) : Nat)), (5, int 0), (6, int (s.2.1.length : Nat)), (7, int s.1)]) (fun s => [ixA x s.2.2.1 s.2.2.2, ro h0] ++ R) (fun s => xs.length - s.1) (0, [], [], []) (⟨Nat.zero_le _, IxIs.nil, Nat.zero_le _, Nat.zero_le _⟩) (by repeat constructor) (by repeat constructor) (fun s hs => ?_)
    obtain ⟨i, rs, L, W⟩ := s
    obtain ⟨hi, hL, hrl, hpl⟩ := hs
    dsimp only at hi hL hrl hpl ⊢
    have hsh := hL.short
    have hll := hL.llen
    have hwl := hL.rlen
    refine Gs.seq ?_
    refine Gs.seq ?_
    refine Gs.reg ?_
    refine Go.Sl.L.pu rfl rfl trivial (pu_move rfl) ?_
    refine Go.Sl.L.pu rfl rfl trivial (pu_move rfl) ?_
    refine Go.Sl.L.pu rfl rfl trivial (pu_len Tryz.underlying27 rfl) ?_
    refine Go.Sl.L.pu rfl rfl trivial (pu_lt rfl rfl) ?_
    refine Go.Sl.L.nil ?_
    refine Gs.then_n ?_
    refine Gs.cond rfl (fun hc2 => ?_) (fun hc2 => ?_)
    · skip
      have hlt : i < xs.length := by have := of_decide_eq_true hc2; omega
      obtain ⟨r, hr⟩ : ∃ z, xs[i]? = some z := ⟨xs[i], by simp [hlt]⟩
      obtain rfl := ha (by rintro rfl; simp at hlt)
      have ht := toks_le121 r
      refine Gs.skip ?_
      refine Gs.then_n ?_
      refine Gs.seq ?_
      refine Gs.block ?_
      refine Gs.seq ?_
      refine Gs.reg ?_
      refine Go.Sl.L.pu rfl rfl trivial (pu_move rfl) ?_
      refine Go.Sl.L.pu rfl rfl trivial (pu_move rfl) ?_
      refine Go.Sl.L.pu rfl rfl trivial (pu_move rfl) ?_
      refine Go.Sl.L.pu rfl rfl trivial (pu_ia se_27 rfl rfl (by omega) (by omega)) ?_
      refine Go.Sl.L.rd rfl rfl trivial (rd_lda ag_35 rfl (Rdc.el0 ((Srd.ro hx).h (by repeat constructor)) hr rfl rfl) rfl) ?_
      refine Go.Sl.L.ac rfl rfl trivial (as_call (put_spec T x L W r (fun p hp => by have := hsh p hp; omega)) (by repeat constructor) (by repeat constructor)) ?_
      rintro _ _ ⟨_, ⟨L2, W2, rfl, hp, rfl⟩, rfl⟩
      refine Go.Sl.L.pu rfl rfl trivial (pu_eq rfl rfl) ?_
      refine Go.Sl.L.nil ?_
      have hL2 := hL.putI hp
      refine Gs.then_n ?_
      refine Gs.cond rfl (fun hc3 => ?_) (fun hc3 => ?_)
      · skip
        have hn0 : putN (plW W) r = 0 := of_decide_eq_true hc3
        obtain ⟨hpr, hpp⟩ := hL.putI0 hp hn0
        rw [hpr] at hL2
        have hpp' : placesP (plL L2) = placesP (plL L) + (toksV r.t).length := hpp
        have hlen : (rs ++ [r]).length = rs.length + 1 := by simp
        refine Gs.seq ?_
        refine Gs.reg ?_
        refine Go.Sl.L.pu rfl rfl trivial (pu_move rfl) ?_
        refine Go.Sl.L.pu rfl rfl trivial (pu_move rfl) ?_
        refine Go.Sl.L.pu rfl rfl trivial (pu_move rfl) ?_
        refine Go.Sl.L.pu rfl rfl trivial (pu_ia se_27 rfl rfl (by omega) (by omega)) ?_
        refine Go.Sl.L.pu rfl rfl trivial (pu_fa fa_35_2 rfl) ?_
        refine Go.Sl.L.rd rfl rfl trivial (rd_ld na_9 rfl (Rdc.elp (f := 4) 1 ((Srd.ro hx).h (by repeat constructor)) hr rfl rfl)) ?_
        refine Go.Sl.L.ac rfl rfl trivial (as_call (of_spec T r.t) (by repeat constructor) (by repeat constructor)) ?_
        rintro _ _ ⟨_, ⟨ta, tc, rfl, rfl⟩, rfl⟩
        refine Go.Sl.L.pu rfl rfl trivial (pu_len Tryz.underlying49 rfl) ?_
        refine Go.Sl.L.pu rfl rfl trivial (pu_addI (z := ((placesP (plL L2) : Nat) : Int)) rfl rfl (by omega) (by omega) (by omega)) ?_
        refine Go.Sl.L.pu rfl rfl trivial (pu_assign rfl) ?_
        refine Go.Sl.L.nil ?_
        refine Gs.then_n ?_
        refine Gs.reg ?_
        refine Go.Sl.L.pu rfl rfl trivial (pu_move rfl) ?_
        refine Go.Sl.L.pu rfl rfl trivial (pu_addI (z := (((rs ++ [r]).length : Nat) : Int)) rfl rfl (by omega) (by omega) (by omega)) ?_
        refine Go.Sl.L.pu rfl rfl trivial (pu_assign rfl) ?_
        refine Go.Sl.L.nil ?_
        refine Gs.blk_n ?_
        refine Gs.then_n ?_
        refine Gs.reg ?_
        refine Go.Sl.L.pu rfl rfl trivial (pu_move rfl) ?_
        refine Go.Sl.L.pu rfl rfl trivial (by first | exact pu_addI rfl rfl rfl (by omega) (by omega) | exact pu_add rfl rfl) ?_
        refine Go.Sl.L.pu rfl rfl trivial (pu_assign rfl) ?_
        refine Go.Sl.L.nil ?_
        refine Gs.then_n ?_
        first | exact Gs.again1 (i + 1, rs ++ [r], L2, W2) ⟨hlt, hL2, by show (rs ++ [r]).length ≤ i + 1; omega, by show placesP (plL L2) ≤ 121 * (i + 1); omega⟩ (by show xs.length - (i + 1) < xs.length - i; omega) (by repeat constructor) (by repeat constructor) | (rw [← hpp']; exact Gs.again1 (i + 1, rs, L2, W2) ⟨hlt, hL2, by show rs.length ≤ i + 1; omega, by show placesP (plL L2) ≤ 121 * (i + 1); omega⟩ (by show xs.length - (i + 1) < xs.length - i; omega) (by repeat constructor) (by repeat constructor))
      · skip
        have hn0 : putN (plW W) r ≠ 0 := of_decide_eq_false hc3
        obtain ⟨hpr, hpp⟩ := hL.putIn hp hn0
        rw [hpr] at hL2
        have hpp' : placesP (plL L2) = placesP (plL L) := congrArg (fun s : PL × PW => placesP s.1) hpp
        refine Gs.skip ?_
        refine Gs.blk_n ?_
        refine Gs.then_n ?_
        refine Gs.reg ?_
        refine Go.Sl.L.pu rfl rfl trivial (pu_move rfl) ?_
        refine Go.Sl.L.pu rfl rfl trivial (by first | exact pu_addI rfl rfl rfl (by omega) (by omega) | exact pu_add rfl rfl) ?_
        refine Go.Sl.L.pu rfl rfl trivial (pu_assign rfl) ?_
        refine Go.Sl.L.nil ?_
        refine Gs.then_n ?_
        first | exact Gs.again1 (i + 1, rs ++ [r], L2, W2) ⟨hlt, hL2, by show (rs ++ [r]).length ≤ i + 1; omega, by show placesP (plL L2) ≤ 121 * (i + 1); omega⟩ (by show xs.length - (i + 1) < xs.length - i; omega) (by repeat constructor) (by repeat constructor) | (rw [← hpp']; exact Gs.again1 (i + 1, rs, L2, W2) ⟨hlt, hL2, by show rs.length ≤ i + 1; omega, by show placesP (plL L2) ≤ 121 * (i + 1); omega⟩ (by show xs.length - (i + 1) < xs.length - i; omega) (by repeat constructor) (by repeat constructor))
    · skip
      have hge : i = xs.length := by have := of_decide_eq_false hc2; omega
      refine Gs.exit ?_
      refine Gs.then_x ?_
      refine Gs.then_x ?_
      refine Gs.blk_hit ?_
      refine Gs.then_n ?_
      refine Gs.seq ?_
      refine Gs.reg ?_
      refine Go.Sl.L.pu rfl rfl trivial (pu_move rfl) ?_
      refine Go.Sl.L.ac rfl rfl trivial (as_call (words_spec x L W (by omega)) (by repeat constructor) (by repeat constructor)) ?_
      rintro _ _ ⟨_, ⟨wa, wc, rfl, rfl⟩, rfl⟩
      refine Go.Sl.L.pu rfl rfl trivial (pu_assign rfl) ?_
      refine Go.Sl.L.nil ?_
      obtain ⟨ws, hws⟩ : ∃ ws, ws = sortB (mkeys L) := ⟨_, rfl⟩
      have hwsl : ws.length ≤ 100000 := by rw [hws, sortB_length, List.length_map]; omega
      have hsum : (ws.map fun w => placesL ((mget (plL L) w).getD [])).sum = placesP (plL L) := by rw [hws, ← mkeys_plL]; exact places_words hL.ln
      rw [← hws]
      refine Gs.slAddr (xs := ws) (SlH.own (E := 9) (enc := strC) (a := wa) (c := wc) (by repeat constructor)) fun wb wo hwa => ?_
      refine Gs.then_n ?_
      refine Gs.seq ?_
      refine Gs.seq ?_
      refine Gs.reg ?_
      refine Go.Sl.L.pu rfl rfl trivial (pu_assign rfl) ?_
      refine Go.Sl.L.nil ?_
      refine Gs.then_n ?_
      refine Gs.block ?_
      refine Gs.loop1 (fun j : Nat => j ≤ ws.length) (fun j => [(0, .slice a xs.length c), (3, ptr x), (4, int (placesP (plL L) : Nat)), (5, int (((ws.take j).map fun w => placesL ((mget (plL L) w).getD [])).sum : Nat)), (6, int (rs.length : Nat)), (8, .slice wa ws.length wc), (9, int j)]) (fun j => [ixA x L W, sl 9 1 strC wa wc ws, ro h0] ++ R) (fun j => ws.length - j) 0 (Nat.zero_le _) (by repeat constructor) (by repeat constructor) (fun j hj => ?_)
      refine Gs.seq ?_
      refine Gs.seq ?_
      refine Gs.reg ?_
      refine Go.Sl.L.pu rfl rfl trivial (pu_move rfl) ?_
      refine Go.Sl.L.pu rfl rfl trivial (pu_move rfl) ?_
      refine Go.Sl.L.pu rfl rfl trivial (pu_len Tryz.underlying58 rfl) ?_
      refine Go.Sl.L.pu rfl rfl trivial (pu_lt rfl rfl) ?_
      refine Go.Sl.L.nil ?_
      refine Gs.then_n ?_
      refine Gs.cond rfl (fun hc4 => ?_) (fun hc4 => ?_)
      · skip
        have hlt4 : j < ws.length := by have := of_decide_eq_true hc4; omega
        obtain ⟨w, hw⟩ : ∃ z, ws[j]? = some z := ⟨ws[j], by simp [hlt4]⟩
        obtain rfl := hwa (by rintro h; rw [h] at hlt4; simp at hlt4)
        have hsj := sum_take (f := fun w => placesL ((mget (plL L) w).getD [])) hw
        have hsl := sum_take_le (f := fun w => placesL ((mget (plL L) w).getD [])) ws (j + 1)
        rw [hsum] at hsl
        refine Gs.skip ?_
        refine Gs.then_n ?_
        refine Gs.seq ?_
        refine Gs.block ?_
        refine Gs.seq ?_
        refine Gs.reg ?_
        refine Go.Sl.L.pu rfl rfl trivial (pu_move rfl) ?_
        refine Go.Sl.L.pu rfl rfl trivial (pu_move rfl) ?_
        refine Go.Sl.L.pu rfl rfl trivial (pu_move rfl) ?_
        refine Go.Sl.L.pu rfl rfl trivial (pu_ia se_58 rfl rfl (by omega) (by omega)) ?_
        refine Go.Sl.L.rd rfl rfl trivial (rd_ld na_9 rfl (Rdc.el0 (SlH.own (xs := ws) (E := 9) (enc := strC) (sz := 1) (by repeat constructor)) hw rfl rfl)) ?_
        refine Go.Sl.L.ac rfl rfl trivial (as_call (word_spec x L W w) (by repeat constructor) (by repeat constructor)) ?_
        rintro _ _ ⟨_, ⟨qa, qc, qs, rfl, hq, rfl⟩, rfl⟩
        obtain ⟨hq1, hq2, hq3, hq4⟩ := hL.at (by rw [← hws]; exact hw) hq
        have hqp : plain1 qs = (mget (plL L) w).getD [] := by rw [hq, ← plL_get]
        obtain ⟨S0, hS0⟩ : ∃ n, n = ((ws.take j).map fun w => placesL ((mget (plL L) w).getD [])).sum := ⟨_, rfl⟩
        rw [← hS0]
        rw [← hS0] at hsj
        have hasc := may_asc hq2
        refine Go.Sl.L.pu rfl rfl trivial (pu_assign rfl) ?_
        refine Go.Sl.L.nil ?_
        refine Gs.then_n ?_
        refine Gs.seq ?_
        refine Gs.takes (As := [plO qa qc qs]) (by repeat constructor) (Gs.two ?_)
        refine Gs.slAddr (xs := qs) (SlH.own (E := 66) (enc := postC) (a := qa) (c := qc) (by repeat constructor)) fun qb qo hqa => ?_
        refine Gs.reg ?_
        refine Go.Sl.L.pu rfl rfl trivial (pu_assign rfl) ?_
        refine Go.Sl.L.nil ?_
        refine Gs.then_n ?_
        refine Gs.block ?_
        refine Gs.loop1 (fun k : Nat => k ≤ qs.length) (fun k => [(0, .slice a xs.length c), (3, ptr x), (4, int (placesP (plL L) : Nat)), (5, int ((S0 + placesL ((plain1 qs).take k) : Nat) : Int)), (6, int (rs.length : Nat)), (8, .slice (some ⟨wb, wo, none⟩) ws.length wc), (9, int j), (10, .slice qa qs.length qc), (11, int k)]) (fun k => [sl 66 3 postC qa qc qs, ixA x L W, sl 9 1 strC (some ⟨wb, wo, none⟩) wc ws, ro h0] ++ R) (fun k => qs.length - k) 0 (Nat.zero_le _) (by repeat constructor) (by repeat constructor) (fun k hk => ?_)
        refine Gs.seq ?_
        refine Gs.seq ?_
        refine Gs.reg ?_
        refine Go.Sl.L.pu rfl rfl trivial (pu_move rfl) ?_
        refine Go.Sl.L.pu rfl rfl trivial (pu_move rfl) ?_
        refine Go.Sl.L.pu rfl rfl trivial (pu_len Tryz.underlying42 rfl) ?_
        refine Go.Sl.L.pu rfl rfl trivial (pu_lt rfl rfl) ?_
        refine Go.Sl.L.nil ?_
        refine Gs.then_n ?_
        refine Gs.cond rfl (fun hc5 => ?_) (fun hc5 => ?_)
        · skip
          have hlt5 : k < qs.length := by have := of_decide_eq_true hc5; omega
          obtain ⟨y, hy⟩ : ∃ z, qs[k]? = some z := ⟨qs[k], by simp [hlt5]⟩
          obtain rfl := hqa (by rintro h; rw [h] at hlt5; simp at hlt5)
          have hsk := sum_take (f := fun p : PostP => p.2.length) (plain_at hy)
          have hskl := sum_take_le (f := fun p : PostP => p.2.length) (plain1 qs) (k + 1)
          have e1 : placesL ((plain1 qs).take (k + 1)) = placesL ((plain1 qs).take k) + y.t.xs.length := hsk
          have e2 : placesL ((plain1 qs).take (k + 1)) ≤ placesL ((mget (plL L) w).getD []) := by rw [← hqp]; exact hskl
          refine Gs.skip ?_
          refine Gs.then_n ?_
          refine Gs.seq ?_
          refine Gs.block ?_
          refine Gs.seq ?_
          refine Gs.reg ?_
          refine Go.Sl.L.pu rfl rfl trivial (pu_move rfl) ?_
          refine Go.Sl.L.pu rfl rfl trivial (pu_move rfl) ?_
          refine Go.Sl.L.pu rfl rfl trivial (pu_move rfl) ?_
          refine Go.Sl.L.pu rfl rfl trivial (pu_ia se_42 rfl rfl (by omega) (by omega)) ?_
          refine Go.Sl.L.pu rfl rfl trivial (pu_fa fa_66_1 rfl) ?_
          refine Go.Sl.L.rd rfl rfl trivial (rd_ld na_64 rfl (Rdc.elp 1 (SlH.own (xs := qs) (E := 66) (enc := postC) (sz := 3) (by repeat constructor)) hy rfl rfl)) ?_
          refine Go.Sl.L.pu rfl rfl trivial (pu_len Tryz.underlying64 rfl) ?_
          refine Go.Sl.L.pu rfl rfl trivial (pu_addI (z := ((S0 + placesL ((plain1 qs).take (k + 1)) : Nat) : Int)) rfl rfl (by omega) (by omega) (by omega)) ?_
          refine Go.Sl.L.pu rfl rfl trivial (pu_assign rfl) ?_
          refine Go.Sl.L.nil ?_
          refine Gs.then_n ?_
          refine Gs.seq ?_
          refine Gs.regD mixed (by kernel_rfl) ?_
          refine Rg.pu 0 rfl rfl (by kernel_rfl) trivial (pu_move rfl) ?_
          refine Rg.pu 1 rfl rfl (by kernel_rfl) trivial (pu_gt rfl rfl) ?_
          refine Rg.puB 2 rfl rfl (by kernel_rfl) trivial (pu_move rfl) (fun hg2 => ?_) (fun hg2 => ?_)
          · skip
            have hk0 : 0 < k := by have := of_decide_eq_true hg2; omega
            obtain ⟨u, hu⟩ : ∃ z, qs[k - 1]? = some z := ⟨qs[k - 1]'(by omega), by first | (simp; omega) | simp⟩
            have hne : y.k ≠ u.k := fun e => by
              have := asc_lt hasc (i := k - 1) (j := k) (by omega) hu hy
              rw [e, before_irr] at this; cases this
            refine Rg.pu 3 rfl rfl (by kernel_rfl) ⟨_, rfl, rfl⟩ (pu_move rfl) ?_
            refine Rg.pu 4 rfl rfl (by kernel_rfl) ⟨_, rfl, rfl⟩ (pu_move rfl) ?_
            refine Rg.pu 5 rfl rfl (by kernel_rfl) ⟨_, rfl, rfl⟩ (pu_ia se_42 rfl rfl (by omega) (by omega)) ?_
            refine Rg.pu 6 rfl rfl (by kernel_rfl) ⟨_, rfl, rfl⟩ (pu_fa fa_66_0 rfl) ?_
            refine Rg.rd 7 rfl rfl (by kernel_rfl) ⟨_, rfl, rfl⟩ (rd_lda ag_31 rfl (Rdc.elp 2 (SlH.own (xs := qs) (E := 66) (enc := postC) (sz := 3) (by repeat constructor)) hy rfl rfl) rfl) ?_
            refine Rg.pu 8 rfl rfl (by kernel_rfl) ⟨_, rfl, rfl⟩ (pu_move rfl) ?_
            refine Rg.pu 9 rfl rfl (by kernel_rfl) ⟨_, rfl, rfl⟩ (pu_move rfl) ?_
            refine Rg.pu 10 rfl rfl (by kernel_rfl) ⟨_, rfl, rfl⟩ (pu_subI (z := ((k - 1 : Nat) : Int)) rfl rfl (by omega) (by omega) (by omega)) ?_
            refine Rg.pu 11 rfl rfl (by kernel_rfl) ⟨_, rfl, rfl⟩ (pu_ia se_42 rfl rfl (by omega) (by omega)) ?_
            refine Rg.pu 12 rfl rfl (by kernel_rfl) ⟨_, rfl, rfl⟩ (pu_fa fa_66_0 rfl) ?_
            refine Rg.rd 13 rfl rfl (by kernel_rfl) ⟨_, rfl, rfl⟩ (rd_lda ag_31 rfl (Rdc.elp 2 (SlH.own (xs := qs) (E := 66) (enc := postC) (sz := 3) (by repeat constructor)) hu rfl rfl) rfl) ?_
            refine Rg.pu 14 rfl rfl (by kernel_rfl) ⟨_, rfl, rfl⟩ (pu_eqT (a := y.k) (b := u.k) cmp_31 (by decide) Tryz.eqGuardType31 rfl rfl) ?_
            refine Rg.pu 15 rfl rfl (by kernel_rfl) trivial (by first | exact pu_pick_t rfl rfl | exact pu_pick_f rfl rfl) ?_
            refine Rg.end (by kernel_rfl) ?_
            refine Gs.then_n ?_
            refine Gs.cond_ff rfl (decide_eq_false hne) ?_
            refine Gs.skip ?_
            refine Gs.blk_n ?_
            refine Gs.then_n ?_
            refine Gs.reg ?_
            refine Go.Sl.L.pu rfl rfl trivial (pu_move rfl) ?_
            refine Go.Sl.L.pu rfl rfl trivial (by first | exact pu_addI rfl rfl rfl (by omega) (by omega) | exact pu_add rfl rfl) ?_
            refine Go.Sl.L.pu rfl rfl trivial (pu_assign rfl) ?_
            refine Go.Sl.L.nil ?_
            refine Gs.then_n ?_
            exact Gs.again1 (k + 1) hlt5 (by omega) (by repeat constructor) (by repeat constructor)
          · skip
            refine Rg.off 3 rfl rfl (by kernel_rfl) rfl rfl rfl rfl ?_
            refine Rg.off 4 rfl rfl (by kernel_rfl) rfl rfl rfl rfl ?_
            refine Rg.off 5 rfl rfl (by kernel_rfl) rfl rfl rfl rfl ?_
            refine Rg.off 6 rfl rfl (by kernel_rfl) rfl rfl rfl rfl ?_
            refine Rg.off 7 rfl rfl (by kernel_rfl) rfl rfl rfl rfl ?_
            refine Rg.off 8 rfl rfl (by kernel_rfl) rfl rfl rfl rfl ?_
            refine Rg.off 9 rfl rfl (by kernel_rfl) rfl rfl rfl rfl ?_
            refine Rg.off 10 rfl rfl (by kernel_rfl) rfl rfl rfl rfl ?_
            refine Rg.off 11 rfl rfl (by kernel_rfl) rfl rfl rfl rfl ?_
            refine Rg.off 12 rfl rfl (by kernel_rfl) rfl rfl rfl rfl ?_
            refine Rg.off 13 rfl rfl (by kernel_rfl) rfl rfl rfl rfl ?_
            refine Rg.off 14 rfl rfl (by kernel_rfl) rfl rfl rfl rfl ?_
            refine Rg.pu 15 rfl rfl (by kernel_rfl) trivial (by first | exact pu_pick_t rfl rfl | exact pu_pick_f rfl rfl) ?_
            refine Rg.end (by kernel_rfl) ?_
            refine Gs.then_n ?_
            refine Gs.cond_f rfl ?_
            refine Gs.skip ?_
            refine Gs.blk_n ?_
            refine Gs.then_n ?_
            refine Gs.reg ?_
            refine Go.Sl.L.pu rfl rfl trivial (pu_move rfl) ?_
            refine Go.Sl.L.pu rfl rfl trivial (by first | exact pu_addI rfl rfl rfl (by omega) (by omega) | exact pu_add rfl rfl) ?_
            refine Go.Sl.L.pu rfl rfl trivial (pu_assign rfl) ?_
            refine Go.Sl.L.nil ?_
            refine Gs.then_n ?_
            exact Gs.again1 (k + 1) hlt5 (by omega) (by repeat constructor) (by repeat constructor)
        · skip
          have hge5 : k = qs.length := by have := of_decide_eq_false hc5; omega
          have hfin : S0 + placesL ((plain1 qs).take k) = ((ws.take (j + 1)).map fun w => placesL ((mget (plL L) w).getD [])).sum := by
            rw [hsj, List.take_of_length_le (by rw [List.length_map]; omega), hqp]
          rw [hfin]
          refine Gs.exit ?_
          refine Gs.then_x ?_
          refine Gs.then_x ?_
          refine Gs.blk_hit ?_
          refine Gs.blk_n ?_
          refine Gs.then_n ?_
          refine Gs.reg ?_
          refine Go.Sl.L.pu rfl rfl trivial (pu_move rfl) ?_
          refine Go.Sl.L.pu rfl rfl trivial (by first | exact pu_addI rfl rfl rfl (by omega) (by omega) | exact pu_add rfl rfl) ?_
          refine Go.Sl.L.pu rfl rfl trivial (pu_assign rfl) ?_
          refine Go.Sl.L.nil ?_
          refine Gs.then_n ?_
          exact Gs.again1 (j + 1) hlt4 (by omega) (by repeat constructor) (by repeat constructor)
      · skip
        have hge4 : j = ws.length := by have := of_decide_eq_false hc4; omega
        rw [hge4, List.take_length, hsum]
        refine Gs.exit ?_
        refine Gs.then_x ?_
        refine Gs.then_x ?_
        refine Gs.blk_hit ?_
        refine Gs.then_n ?_
        refine Gs.seq ?_
        refine Gs.reg ?_
        refine Go.Sl.L.pu rfl rfl trivial (pu_move rfl) ?_
        refine Go.Sl.L.ac rfl rfl trivial (as_call (keys_spec x L W (by omega)) (by repeat constructor) (by repeat constructor)) ?_
        rintro _ _ ⟨_, ⟨ka, kc, rfl, rfl⟩, rfl⟩
        refine Go.Sl.L.pu rfl rfl trivial (pu_assign rfl) ?_
        refine Go.Sl.L.nil ?_
        obtain ⟨ks, hks⟩ : ∃ ks, ks = sortK (mkeys W) := ⟨_, rfl⟩
        have hkl : ks.length = rs.length := by rw [hks, sortK_length, List.length_map, hwl]
        have hkp : List.Perm ks (rs.map Rec.key) := by rw [hks, ← mkeys_plW]; exact (sortK_perm _).trans hL.wkeys
        have hkn : ks.Nodup := hkp.nodup_iff.2 hL.keys
        rw [← hks]
        refine Gs.then_n ?_
        refine Gs.seq ?_
        refine Gs.reg ?_
        refine Go.Sl.L.pu rfl rfl trivial (pu_move rfl) ?_
        refine Go.Sl.L.pu rfl rfl trivial (pu_move rfl) ?_
        refine Go.Sl.L.pu rfl rfl trivial (pu_eq rfl rfl) ?_
        refine Go.Sl.L.puBt rfl rfl trivial (pu_move rfl) (decide_eq_true rfl) ?_
        refine Go.Sl.L.pu rfl rfl ⟨_, rfl, rfl⟩ (pu_move rfl) ?_
        refine Go.Sl.L.pu rfl rfl ⟨_, rfl, rfl⟩ (pu_len Tryz.underlying47 rfl) ?_
        refine Go.Sl.L.pu rfl rfl ⟨_, rfl, rfl⟩ (pu_move rfl) ?_
        refine Go.Sl.L.pu rfl rfl ⟨_, rfl, rfl⟩ (pu_eq rfl rfl) ?_
        refine Go.Sl.L.pu rfl rfl trivial (by first | exact pu_pick_t rfl rfl | exact pu_pick_f rfl rfl) ?_
        refine Go.Sl.L.puBt rfl rfl trivial (pu_move rfl) (decide_eq_true (by rw [hkl])) ?_
        refine Go.Sl.L.pu rfl rfl ⟨_, rfl, rfl⟩ (pu_move rfl) ?_
        refine Go.Sl.L.pu rfl rfl ⟨_, rfl, rfl⟩ (pu_move rfl) ?_
        refine Go.Sl.L.ac rfl rfl ⟨_, rfl, rfl⟩ (as_call (drop_spec x L W (ks := ks) Srd.own (by omega)) (by repeat constructor) (by repeat constructor)) ?_
        rintro _ _ ⟨_, ⟨n, L3, W3, rfl, hd, rfl⟩, rfl⟩
        obtain ⟨s3, hd3, h3⟩ := dropKs_count (n := 0) hL hkn fun k hk => hkp.subset hk
        have e := hd.trans hd3
        have e1 : plL L3 = s3.1 := congrArg (fun z => z.1) e
        have e2 : plW W3 = s3.2 := congrArg (fun z => z.2.1) e
        have e3 : n = 0 + ks.length := congrArg (fun z => z.2.2) e
        have hnil : ks.foldl dropR rs = [] := List.eq_nil_iff_forall_not_mem.2 fun r hr => by
          obtain ⟨h4, h5⟩ := dropKs_mem hr
          exact h5 (hkp.symm.subset (List.mem_map.2 ⟨r, h4, rfl⟩))
        have hL3 : IxIs [] (plL L3, plW W3) := by rw [e1, e2, ← hnil]; exact h3
        have hl3 := hL3.llen
        have hw3 := hL3.rlen
        simp only [List.length_nil, Nat.mul_zero] at hl3 hw3
        refine Go.Sl.L.pu rfl rfl ⟨_, rfl, rfl⟩ (pu_move rfl) ?_
        refine Go.Sl.L.pu rfl rfl ⟨_, rfl, rfl⟩ (pu_eq rfl rfl) ?_
        refine Go.Sl.L.pu rfl rfl trivial (by first | exact pu_pick_t rfl rfl | exact pu_pick_f rfl rfl) ?_
        refine Go.Sl.L.puBt rfl rfl trivial (pu_move rfl) (decide_eq_true (by omega)) ?_
        refine Go.Sl.L.pu rfl rfl ⟨_, rfl, rfl⟩ (pu_move rfl) ?_
        refine Go.Sl.L.ac rfl rfl ⟨_, rfl, rfl⟩ (as_call (words_spec x L3 W3 (by omega)) (by repeat constructor) (by repeat constructor)) ?_
        rintro _ _ ⟨_, ⟨ua, uc, rfl, rfl⟩, rfl⟩
        rw [show (sortB (mkeys L3)).length = 0 by rw [sortB_length, List.length_map]; exact Nat.le_zero.1 hl3]
        refine Go.Sl.L.pu rfl rfl ⟨_, rfl, rfl⟩ (pu_len Tryz.underlying58 rfl) ?_
        refine Go.Sl.L.pu rfl rfl ⟨_, rfl, rfl⟩ (pu_eq rfl rfl) ?_
        refine Go.Sl.L.pu rfl rfl trivial (by first | exact pu_pick_t rfl rfl | exact pu_pick_f rfl rfl) ?_
        refine Go.Sl.L.puBt rfl rfl trivial (pu_move rfl) rfl ?_
        refine Go.Sl.L.pu rfl rfl ⟨_, rfl, rfl⟩ (pu_move rfl) ?_
        refine Go.Sl.L.ac rfl rfl ⟨_, rfl, rfl⟩ (as_call (new_spec) (by repeat constructor) (by repeat constructor)) ?_
        rintro _ _ ⟨_, ⟨y, rfl, rfl⟩, rfl⟩
        refine Go.Sl.L.ac rfl rfl ⟨_, rfl, rfl⟩ (as_call (same_spec x y L3 [] W3 [] (by omega) (by simp) (by omega)) (by repeat constructor) (by repeat constructor)) ?_
        rintro _ _ ⟨_, ⟨rfl, rfl⟩, rfl⟩
        rw [show sameB (plL L3, plW W3) (plL [], plW []) = true from hL3.sameB IxIs.nil fun _ => Iff.rfl]
        refine Go.Sl.L.pu rfl rfl trivial (by first | exact pu_pick_t rfl rfl | exact pu_pick_f rfl rfl) ?_
        refine Go.Sl.L.puBt rfl rfl trivial (pu_move rfl) rfl ?_
        refine Go.Sl.L.ac rfl rfl ⟨_, rfl, rfl⟩ (as_call (awake_spec T) (by repeat constructor) (by repeat constructor)) ?_
        rintro _ _ ⟨_, ⟨rfl, rfl⟩, rfl⟩
        refine Go.Sl.L.pu rfl rfl trivial (by first | exact pu_pick_t rfl rfl | exact pu_pick_f rfl rfl) ?_
        refine Go.Sl.L.pu rfl rfl trivial (pu_assign rfl) ?_
        refine Go.Sl.L.nil ?_
        refine Gs.then_n ?_
        refine Gs.ret ?_
        exact Gs.fin1 Tryz.results7 rfl _ (⟨rfl, rfl⟩) (by repeat constructor)
end Go.Proofs.YtmbikfojljnnkaaGreatDoor
