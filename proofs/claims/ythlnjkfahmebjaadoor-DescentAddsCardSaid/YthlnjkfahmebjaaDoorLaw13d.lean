/- Walks: grapevinelaw13.DescentAdds. -/
import Derived.Test.YthlnjkfahmebjaaDoorLaw13c
namespace Go.Proofs.YthlnjkfahmebjaaDoor
open Go Go.Sl Go.Gv Go.Kv
set_option maxRecDepth 100000
theorem putAll_app (A ys : List Rec) : ∃ N, putAll A ys = A ++ N := by
  induction ys generalizing A with
  | nil => exact ⟨[], by simp [putAll]⟩
  | cons r ys ih =>
    obtain ⟨N, hN⟩ := ih (putOne A r)
    have e : putAll A (r :: ys) = putAll (putOne A r) ys := rfl
    rw [e, hN]; unfold putOne
    split
    · exact ⟨[r] ++ N, by simp⟩
    · exact ⟨N, rfl⟩
theorem look_app (A N : List Rec) (x : Key) : lookR (A ++ N) x = (lookR A x).or (lookR N x) := by
  unfold lookR; exact List.find?_append ..
theorem look_mem_iff {L : List Rec} {x : Key} : lookR L x ≠ none ↔ x ∈ L.map Rec.key := by
  rw [ne_eq, lookR_none, Decidable.not_not]
theorem adds_new {A N : List Rec} (hB : TOk (A ++ N)) {x : Key} : (x.o < 8 ∧ lookR (A ++ N) x ≠ lookR A x) ↔ x ∈ N.map Rec.key := by
  have hnd := hB.nd
  rw [List.map_append, List.nodup_append] at hnd
  constructor
  · rintro ⟨-, h⟩
    rw [look_app] at h
    cases ha : lookR A x with
    | some r => rw [ha] at h; simp at h
    | none => rw [ha] at h; exact look_mem_iff.1 (by simpa using h)
  · intro h
    have hna : lookR A x = none := lookR_none.2 fun hm => hnd.2.2 x hm x h rfl
    obtain ⟨r, hr, hk⟩ := List.mem_map.1 h
    refine ⟨?_, ?_⟩
    · have := rec_q (hB.may r (List.mem_append_right _ hr)); rw [← hk]; exact this.2.1
    · rw [look_app, hna]; exact look_mem_iff.2 h
theorem look_fm {B : List Rec} (ks : List Key) (x : Key) : lookR (ks.filterMap (lookR B)) x = if x ∈ ks then lookR B x else none := by
  induction ks with
  | nil => rfl
  | cons k ks ih =>
    cases hk : lookR B k with
    | none =>
      rw [List.filterMap_cons_none hk, ih]
      by_cases hx : x = k
      · subst hx; simp [hk]
      · simp [hx]
    | some r =>
      rw [List.filterMap_cons_some hk]
      have hrk := (lookR_key hk).1
      by_cases hx : x = k
      · subst hx; simp [lookR, hrk]; exact hk.symm
      · have hne : ¬ r.key = x := fun e => hx (e.symm.trans hrk)
        have e1 : lookR (r :: ks.filterMap (lookR B)) x = lookR (ks.filterMap (lookR B)) x := by simp [lookR, hne]
        rw [e1, ih]; simp [hx]
theorem length_fm {B : List Rec} {ks : List Key} (h : ∀ k ∈ ks, lookR B k ≠ none) : (ks.filterMap (lookR B)).length = ks.length := by
  induction ks with
  | nil => rfl
  | cons k ks ih =>
    cases hk : lookR B k with
    | none => exact (h k (by simp) hk).elim
    | some r => rw [List.filterMap_cons_some hk, List.length_cons, List.length_cons, ih fun k hk => h k (by simp [hk])]
theorem adds_spec {h0 : Hp} (T : Tabs h0) {a b : Option Addr} {c d : Nat} {xs ys : List Rec} (hx : slR h0 5 recC a xs) (hy : slR h0 5 recC b ys) (hxl : xs.length ≤ 9223372036854775807) (hyl : ys.length ≤ 9223372036854775807) :
    Ct Tryd.prog 7 [.slice a xs.length c, .slice b ys.length d] [ro h0] (fun v hs => v = .bool true ∧ hs = [ro h0]) := by
  refine Ct.intro Tryd.func7 rfl (by kernel_rfl) 127 Tryd.ntmps7 (Nat.le_of_ble_eq_true rfl) fun w0 R => ?_
  refine Gs.seq ?_
  refine Gs.reg ?_
  refine Go.Sl.L.pu rfl rfl trivial (pu_assign rfl) ?_
  refine Go.Sl.L.nil ?_
  refine Gs.then_n ?_
  refine Gs.seq ?_
  refine Gs.seq ?_
  refine Gs.reg ?_
  refine Go.Sl.L.pu rfl rfl trivial (pu_move rfl) ?_
  refine Go.Sl.L.ac rfl rfl trivial (as_call (greatRecords_spec (Srd.ro hx) hxl 20) (by repeat constructor) (by repeat constructor)) ?_
  rintro _ _ ⟨_, ⟨⟨g1, rfl, hg1⟩, rfl⟩, rfl⟩
  refine Go.Sl.L.puB rfl rfl trivial (pu_move rfl) (fun hg2 => ?_) (fun hg2 => ?_)
  · skip
    refine Go.Sl.L.off rfl rfl rfl rfl rfl rfl ?_
    refine Go.Sl.L.off rfl rfl rfl rfl rfl rfl ?_
    refine Go.Sl.L.pu rfl rfl trivial (by first | exact pu_pick_t rfl rfl | exact pu_pick_f rfl rfl) ?_
    refine Go.Sl.L.nil ?_
    refine Gs.then_n ?_
    refine Gs.cond_t rfl ?_
    refine Gs.seq ?_
    refine Gs.reg ?_
    refine Go.Sl.L.ac rfl rfl trivial (as_call (awake_spec T) (by repeat constructor) (by repeat constructor)) ?_
    rintro _ _ ⟨_, ⟨rfl, rfl⟩, rfl⟩
    refine Go.Sl.L.pu rfl rfl trivial (pu_assign rfl) ?_
    refine Go.Sl.L.nil ?_
    refine Gs.then_n ?_
    refine Gs.ret ?_
    refine Gs.then_r ?_
    exact Gs.fin1 Tryd.results7 rfl _ (⟨rfl, rfl⟩) (by repeat constructor)
  · skip
    refine Go.Sl.L.pu rfl rfl ⟨_, rfl, rfl⟩ (pu_move rfl) ?_
    refine Go.Sl.L.ac rfl rfl ⟨_, rfl, rfl⟩ (as_call (greatRecords_spec (Srd.ro hy) hyl 10) (by repeat constructor) (by repeat constructor)) ?_
    rintro _ _ ⟨_, ⟨⟨g2, rfl, hg2'⟩, rfl⟩, rfl⟩
    refine Go.Sl.L.pu rfl rfl trivial (by first | exact pu_pick_t rfl rfl | exact pu_pick_f rfl rfl) ?_
    refine Go.Sl.L.nil ?_
    refine Gs.then_n ?_
    refine Gs.cond rfl (fun hc0 => ?_) (fun hc0 => ?_)
    · skip
      refine Gs.seq ?_
      refine Gs.reg ?_
      refine Go.Sl.L.ac rfl rfl trivial (as_call (awake_spec T) (by repeat constructor) (by repeat constructor)) ?_
      rintro _ _ ⟨_, ⟨rfl, rfl⟩, rfl⟩
      refine Go.Sl.L.pu rfl rfl trivial (pu_assign rfl) ?_
      refine Go.Sl.L.nil ?_
      refine Gs.then_n ?_
      refine Gs.ret ?_
      refine Gs.then_r ?_
      exact Gs.fin1 Tryd.results7 rfl _ (⟨rfl, rfl⟩) (by repeat constructor)
    · skip
      have hxs : xs.length ≤ 25 := by have := hg1 hg2; omega
      have hys : ys.length ≤ 25 := by have := hg2' hc0; omega
      obtain ⟨A, hAe⟩ : ∃ A, A = putAll [] xs := ⟨_, rfl⟩
      have hA : TOk A := hAe ▸ TOk.nil.putAll xs
      have hAl : A.length ≤ 25 := by rw [hAe]; have := (putAll_length [] xs).2; simp at this; omega
      obtain ⟨N, hN⟩ := putAll_app A ys
      have hB : TOk (A ++ N) := hN ▸ hA.putAll ys
      have hNl : N.length ≤ 25 := by have := (putAll_length A ys).2; rw [hN, List.length_append] at this; omega
      have hM : (((A ++ N).length : Nat) : Int) - (A.length : Int) = (N.length : Nat) := by rw [List.length_append]; omega
      have hBl : (A ++ N).length ≤ 50 := by rw [List.length_append]; omega
      refine Gs.skip ?_
      refine Gs.then_n ?_
      refine Gs.seq ?_
      refine Gs.reg ?_
      refine Go.Sl.L.ac rfl rfl trivial (as_call (treNew_spec) (by repeat constructor) (by repeat constructor)) ?_
      rintro _ _ ⟨_, ⟨p1, rfl, rfl⟩, rfl⟩
      refine Go.Sl.L.ac rfl rfl trivial (as_call (treNew_spec) (by repeat constructor) (by repeat constructor)) ?_
      rintro _ _ ⟨_, ⟨p2, rfl, rfl⟩, rfl⟩
      refine Go.Sl.L.pu rfl rfl trivial (pu_assign rfl) ?_
      refine Go.Sl.L.pu rfl rfl trivial (pu_assign rfl) ?_
      refine Go.Sl.L.nil ?_
      refine Gs.then_n ?_
      refine Gs.seq ?_
      refine Gs.seq ?_
      refine Gs.reg ?_
      refine Go.Sl.L.pu rfl rfl trivial (pu_move rfl) ?_
      refine Go.Sl.L.pu rfl rfl trivial (pu_eqN Tryd.underlying25 rfl rfl) ?_
      refine Go.Sl.L.puBf rfl rfl trivial (pu_move rfl) rfl ?_
      refine Go.Sl.L.pu rfl rfl ⟨_, rfl, rfl⟩ (pu_move rfl) ?_
      refine Go.Sl.L.pu rfl rfl ⟨_, rfl, rfl⟩ (pu_eqN Tryd.underlying25 rfl rfl) ?_
      refine Go.Sl.L.pu rfl rfl trivial (by first | exact pu_pick_t rfl rfl | exact pu_pick_f rfl rfl) ?_
      refine Go.Sl.L.nil ?_
      refine Gs.then_n ?_
      refine Gs.cond_f rfl ?_
      refine Gs.skip ?_
      refine Gs.then_n ?_
      refine Gs.seq ?_
      refine Gs.reg ?_
      refine Go.Sl.L.pu rfl rfl trivial (pu_move rfl) ?_
      refine Go.Sl.L.pu rfl rfl trivial (pu_move rfl) ?_
      refine Go.Sl.L.ac rfl rfl trivial (as_call (treePut_ro T p1 [] hx (by omega) (by simp; omega)) (by repeat constructor) (by repeat constructor)) ?_
      rintro _ _ ⟨_, ⟨rfl, rfl⟩, rfl⟩
      rw [← hAe]
      refine Go.Sl.L.nil ?_
      refine Gs.then_n ?_
      refine Gs.seq ?_
      refine Gs.reg ?_
      refine Go.Sl.L.pu rfl rfl trivial (pu_move rfl) ?_
      refine Go.Sl.L.pu rfl rfl trivial (pu_move rfl) ?_
      refine Go.Sl.L.ac rfl rfl trivial (as_call (treePut_ro T p2 [] hx (by omega) (by simp; omega)) (by repeat constructor) (by repeat constructor)) ?_
      rintro _ _ ⟨_, ⟨rfl, rfl⟩, rfl⟩
      rw [← hAe]
      refine Go.Sl.L.nil ?_
      refine Gs.then_n ?_
      refine Gs.seq ?_
      refine Gs.reg ?_
      refine Go.Sl.L.pu rfl rfl trivial (pu_move rfl) ?_
      refine Go.Sl.L.ac rfl rfl trivial (as_call (treeLen_spec p1 A) (by repeat constructor) (by repeat constructor)) ?_
      rintro _ _ ⟨_, ⟨rfl, rfl⟩, rfl⟩
      refine Go.Sl.L.pu rfl rfl trivial (pu_assign rfl) ?_
      refine Go.Sl.L.nil ?_
      refine Gs.then_n ?_
      refine Gs.seq ?_
      refine Gs.reg ?_
      refine Go.Sl.L.pu rfl rfl trivial (pu_move rfl) ?_
      refine Go.Sl.L.pu rfl rfl trivial (pu_move rfl) ?_
      refine Go.Sl.L.ac rfl rfl trivial (as_call (treePut_ro T p1 A hy (by omega) (by omega)) (by repeat constructor) (by repeat constructor)) ?_
      rintro _ _ ⟨_, ⟨rfl, rfl⟩, rfl⟩
      rw [hN, hM]
      refine Go.Sl.L.pu rfl rfl trivial (pu_assign rfl) ?_
      refine Go.Sl.L.nil ?_
      refine Gs.then_n ?_
      refine Gs.seq ?_
      refine Gs.takes (As := [tre p1 (A ++ N), tre p2 A]) (by repeat constructor) (Gs.toTwo ?_)
      refine Gs.reg ?_
      refine Go.Sl.L.pu rfl rfl trivial (pu_move rfl) ?_
      refine Go.Sl.L.pu rfl rfl trivial (pu_move rfl) ?_
      refine Go.Sl.L.ac rfl rfl trivial (as_call (find_spec (TrR.own p1 (A ++ N)).left (TrR.own p2 A).right 8 (by decide)) (by repeat constructor) (by repeat constructor)) ?_
      rintro _ _ ⟨_, ⟨ka, kc, rfl, rfl⟩, rfl⟩
      refine Go.Sl.L.pu rfl rfl trivial (pu_move rfl) ?_
      refine Go.Sl.L.pu rfl rfl trivial (pu_extract rfl rfl) ?_
      refine Go.Sl.L.pu rfl rfl trivial (pu_extract rfl rfl) ?_
      refine Go.Sl.L.pu rfl rfl trivial (pu_assign rfl) ?_
      refine Go.Sl.L.pu rfl rfl trivial (pu_assign rfl) ?_
      refine Go.Sl.L.nil ?_
      refine Gs.then_n ?_
      refine Gs.seq ?_
      refine Gs.seq ?_
      refine Gs.reg ?_
      refine Go.Sl.L.pu rfl rfl trivial (pu_move rfl) ?_
      refine Go.Sl.L.pu rfl rfl trivial (pu_move rfl) ?_
      refine Go.Sl.L.ac rfl rfl trivial (as_call (clashN_spec (S := two (tre p1 (A ++ N)) (tre p2 A)) (TrR.own p1 (A ++ N)).left (TrR.own p2 A).right 8 (by decide)) (by repeat constructor) (by repeat constructor)) ?_
      rintro _ _ ⟨_, ⟨rfl, rfl⟩, rfl⟩
      refine Go.Sl.L.nil ?_
      refine Gs.then_n ?_
      refine Gs.cond rfl (fun hc2 => ?_) (fun hc2 => ?_)
      · skip
        refine Gs.seq ?_
        refine Gs.reg ?_
        refine Go.Sl.L.ac rfl rfl trivial (as_call (awake_spec T) (by repeat constructor) (by repeat constructor)) ?_
        rintro _ _ ⟨_, ⟨rfl, rfl⟩, rfl⟩
        refine Go.Sl.L.pu rfl rfl trivial (pu_assign rfl) ?_
        refine Go.Sl.L.nil ?_
        refine Gs.then_n ?_
        refine Gs.ret ?_
        refine Gs.then_r ?_
        exact Gs.fin1 Tryd.results7 rfl _ (⟨rfl, rfl⟩) (by repeat constructor)
      · skip
        have hmem : ∀ x, x ∈ findK (A ++ N) A 8 ↔ x ∈ N.map Rec.key := fun x => (findK_mem hB hA (by decide) hc2 x).trans (adds_new hB)
        have hnd2 : (N.map Rec.key).Nodup := by have := hB.nd; rw [List.map_append, List.nodup_append] at this; exact this.2.1
        have hperm : (findK (A ++ N) A 8).Perm (N.map Rec.key) := (List.perm_ext_iff_of_nodup (findK_nodup ..) hnd2).2 hmem
        have hask := askN_le_keys (A := A ++ N) (B := A) (n := 8) (by decide)
        have hfl : (findK (A ++ N) A 8).length = N.length := by rw [hperm.length_eq, List.length_map]
        have hsl : (sortK (findK (A ++ N) A 8)).length = N.length := by rw [sortK_length, hfl]
        have hsm : ∀ x, x ∈ sortK (findK (A ++ N) A 8) ↔ x ∈ N.map Rec.key := fun x => sortK_mem.trans (hmem x)
        have hsn : (sortK (findK (A ++ N) A 8)).Nodup := (sortK_perm _).nodup_iff.2 (findK_nodup ..)
        obtain ⟨ks, hks⟩ : ∃ ks, ks = sortK (findK (A ++ N) A 8) := ⟨_, rfl⟩
        rw [← hks] at hsl hsm hsn ⊢
        refine Gs.take (A := two (tre p1 (A ++ N)) (tre p2 A)) (by repeat constructor) (Gs.two ?_)
        refine Gs.skip ?_
        refine Gs.then_n ?_
        refine Gs.seq ?_
        refine Gs.seq ?_
        refine Gs.reg ?_
        refine Go.Sl.L.pu rfl rfl trivial (pu_move rfl) ?_
        refine Go.Sl.L.pu rfl rfl trivial (pu_len Tryd.underlying30 rfl) ?_
        refine Go.Sl.L.pu rfl rfl trivial (pu_move rfl) ?_
        refine Go.Sl.L.pu rfl rfl trivial (pu_ne rfl rfl) ?_
        refine Go.Sl.L.puBf rfl rfl trivial (pu_move rfl) (by rw [hsl]; simp) ?_
        refine Go.Sl.L.pu rfl rfl ⟨_, rfl, rfl⟩ (pu_move rfl) ?_
        refine Go.Sl.L.ac rfl rfl ⟨_, rfl, rfl⟩ (as_call (treeLen_spec p1 (A ++ N)) (by repeat constructor) (by repeat constructor)) ?_
        rintro _ _ ⟨_, ⟨rfl, rfl⟩, rfl⟩
        refine Go.Sl.L.pu rfl rfl ⟨_, rfl, rfl⟩ (pu_move rfl) ?_
        refine Go.Sl.L.pu rfl rfl ⟨_, rfl, rfl⟩ (pu_move rfl) ?_
        refine Go.Sl.L.pu rfl rfl ⟨_, rfl, rfl⟩ (pu_addI (z := (((A ++ N).length : Nat) : Int)) rfl rfl (by rw [List.length_append]; omega) (by omega) (by omega)) ?_
        refine Go.Sl.L.pu rfl rfl ⟨_, rfl, rfl⟩ (pu_ne rfl rfl) ?_
        refine Go.Sl.L.pu rfl rfl trivial (by first | exact pu_pick_t rfl rfl | exact pu_pick_f rfl rfl) ?_
        refine Go.Sl.L.puBf rfl rfl trivial (pu_move rfl) (by simp) ?_
        refine Go.Sl.L.pu rfl rfl ⟨_, rfl, rfl⟩ (pu_move rfl) ?_
        refine Go.Sl.L.pu rfl rfl ⟨_, rfl, rfl⟩ (pu_move rfl) ?_
        refine Go.Sl.L.ac rfl rfl ⟨_, rfl, rfl⟩ (as_call (bound_spec N.length (by omega)) (by repeat constructor) (by repeat constructor)) ?_
        rintro _ _ ⟨_, ⟨rfl, rfl⟩, rfl⟩
        refine Go.Sl.L.pu rfl rfl ⟨_, rfl, rfl⟩ (pu_gt rfl rfl) ?_
        refine Go.Sl.L.pu rfl rfl trivial (by first | exact pu_pick_t rfl rfl | exact pu_pick_f rfl rfl) ?_
        refine Go.Sl.L.nil ?_
        refine Gs.then_n ?_
        refine Gs.cond_ff rfl (decide_eq_false (by omega)) ?_
        refine Gs.skip ?_
        refine Gs.then_n ?_
        refine Gs.seq ?_
        refine Gs.seq ?_
        refine Gs.reg ?_
        refine Go.Sl.L.pu rfl rfl trivial (pu_assign rfl) ?_
        refine Go.Sl.L.nil ?_
        refine Gs.slAddr (SlH.own (by repeat constructor) : SlH _ _ 2 keyC ka ks) fun ab ao ha => ?_
        refine Gs.then_n ?_
        refine Gs.block ?_
        refine Gs.loop1 (fun s : Nat × List Rec => s.1 ≤ ks.length ∧ s.2 = A ++ (ks.take s.1).filterMap (lookR (A ++ N))) (fun s => [(5, ptr p1), (6, ptr p2), (9, .slice ka ks.length kc), (11, int s.1)]) (fun s => [ro h0, sl 38 2 keyC ka kc ks, tre p1 (A ++ N), tre p2 s.2] ++ R) (fun s => ks.length - s.1) (0, A) (⟨Nat.zero_le _, by simp⟩) (by repeat constructor) (by repeat constructor) (fun s hs => ?_)
        obtain ⟨i, C⟩ := s
        obtain ⟨hi, hC⟩ := hs
        dsimp only at hi hC ⊢
        have hbn : ∀ k ∈ ks, lookR (A ++ N) k ≠ none := fun k hk => by have := (adds_new hB).2 ((hsm k).1 hk); exact look_mem_iff.2 (by rw [List.map_append]; exact List.mem_append_right _ ((hsm k).1 hk))
        refine Gs.seq ?_
        refine Gs.seq ?_
        refine Gs.reg ?_
        refine Go.Sl.L.pu rfl rfl trivial (pu_move rfl) ?_
        refine Go.Sl.L.pu rfl rfl trivial (pu_move rfl) ?_
        refine Go.Sl.L.pu rfl rfl trivial (pu_len Tryd.underlying30 rfl) ?_
        refine Go.Sl.L.pu rfl rfl trivial (pu_lt rfl rfl) ?_
        refine Go.Sl.L.nil ?_
        refine Gs.then_n ?_
        refine Gs.cond rfl (fun hc4 => ?_) (fun hc4 => ?_)
        · skip
          have hlt : i < ks.length := by have := of_decide_eq_true hc4; omega
          obtain ⟨k, hk⟩ : ∃ x, ks[i]? = some x := ⟨ks[i], by simp [hlt]⟩
          obtain rfl := ha (by rintro rfl; simp at hlt)
          have hkm := List.mem_of_getElem? hk
          obtain ⟨x, hkB⟩ : ∃ x, lookR (A ++ N) k = some x := Option.ne_none_iff_exists'.1 (hbn k hkm)
          have hxk := lookR_key hkB
          have hkA : lookR A k = none := by
            have h1 := ((adds_new hB).2 ((hsm k).1 hkm)).2
            cases h2 : lookR A k with
            | none => rfl
            | some r => rw [look_app, h2] at h1; simp at h1
          have hkt : k ∉ ks.take i := fun hm => by
            obtain ⟨j, hj⟩ := List.mem_iff_getElem?.1 hm
            rw [List.getElem?_take] at hj
            split at hj
            · rename_i hlt2
              have := (List.getElem?_inj (List.getElem?_eq_some_iff.1 hj).1 hsn).1 (hj.trans hk.symm)
              omega
            · cases hj
          have hkC : lookR C k = none := by rw [hC, look_app, hkA, look_fm, if_neg hkt]; rfl
          have hrb : recB x = true := hB.may x hxk.2
          have hput : putAll C [x] = C ++ [x] := by simp [putAll, putOne, putOk, hrb, hxk.1, hkC]
          have hCl : C.length ≤ 25 + ks.length := by rw [hC, List.length_append]; have := List.length_filterMap_le (lookR (A ++ N)) (ks.take i); rw [List.length_take] at this; omega
          refine Gs.skip ?_
          refine Gs.then_n ?_
          refine Gs.seq ?_
          refine Gs.block ?_
          refine Gs.seq ?_
          refine Gs.reg ?_
          refine Go.Sl.L.pu rfl rfl trivial (pu_move rfl) ?_
          refine Go.Sl.L.pu rfl rfl trivial (pu_move rfl) ?_
          refine Go.Sl.L.pu rfl rfl trivial (pu_move rfl) ?_
          refine Go.Sl.L.pu rfl rfl trivial (pu_ia se_30 rfl rfl (by omega) (by omega)) ?_
          refine Go.Sl.L.rd rfl rfl trivial (rd_lda ag_38 rfl (Rdc.el0 (SlH.own (by repeat constructor)) hk rfl rfl) rfl) ?_
          refine Go.Sl.L.ac rfl rfl trivial (as_call (treeGet_spec p1 (A ++ N) k) (by repeat constructor) (by repeat constructor)) ?_
          rintro _ _ ⟨_, ⟨rfl, rfl⟩, rfl⟩
          rw [hkB]
          refine Go.Sl.L.pu rfl rfl trivial (pu_move rfl) ?_
          refine Go.Sl.L.pu rfl rfl trivial (pu_extract rfl rfl) ?_
          refine Go.Sl.L.pu rfl rfl trivial (pu_extract rfl rfl) ?_
          refine Go.Sl.L.ac rfl rfl trivial (ac_alloc zv_42 rfl) ?_
          rintro _ _ ⟨xb, rfl, rfl⟩
          refine Go.Sl.L.ac0 rfl trivial (ac_st sz_42 rfl rfl (by repeat constructor) rfl rfl rfl rfl) ?_
          rintro _ _ rfl
          refine Go.Sl.L.pu rfl rfl trivial (pu_assign rfl) ?_
          refine Go.Sl.L.nil ?_
          refine Gs.then_n ?_
          refine Gs.seq ?_
          refine Gs.reg ?_
          refine Go.Sl.L.pu rfl rfl trivial (pu_move rfl) ?_
          refine Go.Sl.L.pu rfl rfl trivial (pu_move rfl) ?_
          refine Go.Sl.L.pu rfl rfl trivial (pu_move rfl) ?_
          refine Go.Sl.L.pu rfl rfl trivial (pu_ia se_30 rfl rfl (by omega) (by omega)) ?_
          refine Go.Sl.L.rd rfl rfl trivial (rd_lda ag_38 rfl (Rdc.el0 (SlH.own (by repeat constructor)) hk rfl rfl) rfl) ?_
          refine Go.Sl.L.ac rfl rfl trivial (as_call (treeGet_spec p2 C k) (by repeat constructor) (by repeat constructor)) ?_
          rintro _ _ ⟨_, ⟨rfl, rfl⟩, rfl⟩
          rw [hkC]
          refine Go.Sl.L.pu rfl rfl trivial (pu_move rfl) ?_
          refine Go.Sl.L.pu rfl rfl trivial (pu_extract rfl rfl) ?_
          refine Go.Sl.L.pu rfl rfl trivial (pu_extract rfl rfl) ?_
          refine Go.Sl.L.ac rfl rfl trivial (ac_alloc zv_42 rfl) ?_
          rintro _ _ ⟨yb, rfl, rfl⟩
          refine Go.Sl.L.ac0 rfl trivial (ac_st sz_42 rfl rfl (by repeat constructor) rfl rfl rfl rfl) ?_
          rintro _ _ rfl
          refine Go.Sl.L.pu rfl rfl trivial (pu_assign rfl) ?_
          refine Go.Sl.L.nil ?_
          refine Gs.then_n ?_
          refine Gs.seq ?_
          refine Gs.reg ?_
          refine Go.Sl.L.pu rfl rfl trivial (pu_move rfl) ?_
          refine Go.Sl.L.pu rfl rfl trivial (pu_not rfl) ?_
          refine Go.Sl.L.puBf rfl rfl trivial (pu_move rfl) rfl ?_
          refine Go.Sl.L.pu rfl rfl ⟨_, rfl, rfl⟩ (pu_move rfl) ?_
          refine Go.Sl.L.pu rfl rfl trivial (by first | exact pu_pick_t rfl rfl | exact pu_pick_f rfl rfl) ?_
          refine Go.Sl.L.puBf rfl rfl trivial (pu_move rfl) rfl ?_
          refine Go.Sl.L.pu rfl rfl ⟨_, rfl, rfl⟩ (pu_move rfl) ?_
          refine Go.Sl.L.rd rfl rfl ⟨_, rfl, rfl⟩ (rd_lda ag_42 rfl (Rdc.cl 5 (by repeat constructor) rfl) rfl) ?_
          refine Go.Sl.L.ac rfl rfl ⟨_, rfl, rfl⟩ (ac_lit encC_42 ([x]) et_22 ek_42 rfl (by repeat constructor) rfl rfl (by decide)) ?_
          rintro _ _ ⟨a102, rfl, rfl⟩
          refine Go.Sl.L.ac rfl rfl ⟨_, rfl, rfl⟩ (as_call (treePut_spec (S := sl 42 5 recC (some ⟨a102, 0, none⟩) 1 [x]) (rs := [x]) T p2 C Srd.own (by simp) (by simp; omega)) (by repeat constructor) (by repeat constructor)) ?_
          rintro _ _ ⟨_, ⟨rfl, rfl⟩, rfl⟩
          rw [hput]
          refine Go.Sl.L.pu rfl rfl ⟨_, rfl, rfl⟩ (pu_ne rfl rfl) ?_
          refine Go.Sl.L.pu rfl rfl trivial (by first | exact pu_pick_t rfl rfl | exact pu_pick_f rfl rfl) ?_
          refine Go.Sl.L.nil ?_
          refine Gs.then_n ?_
          refine Gs.cond_ff rfl (decide_eq_false (by simp; omega)) ?_
          refine Gs.skip ?_
          refine Gs.blk_n ?_
          refine Gs.then_n ?_
          refine Gs.reg ?_
          refine Go.Sl.L.pu rfl rfl trivial (pu_move rfl) ?_
          refine Go.Sl.L.pu rfl rfl trivial (by first | exact pu_addI rfl rfl rfl (by omega) (by omega) | exact pu_add rfl rfl) ?_
          refine Go.Sl.L.pu rfl rfl trivial (pu_assign rfl) ?_
          refine Go.Sl.L.nil ?_
          refine Gs.then_n ?_
          exact Gs.again1 (i + 1, C ++ [x]) ⟨by show i + 1 ≤ ks.length; omega, by show C ++ [x] = _; rw [hC, List.take_add_one, hk, List.filterMap_append, List.append_assoc]; simp [hkB]⟩ (by show ks.length - (i + 1) < ks.length - i; omega) (by repeat constructor) (by repeat constructor)
        · skip
          have hge : i = ks.length := by have := of_decide_eq_false hc4; omega
          rw [hge, List.take_length] at hC
          have hext : ∀ x, lookR (A ++ N) x = lookR C x := fun x => by
            rw [hC, look_app A (List.filterMap _ _), look_fm]
            cases h2 : lookR A x with
            | some r => rw [look_app, h2]; rfl
            | none =>
              simp only [Option.none_or]
              split
              · rfl
              · rename_i hno
                rw [hsm] at hno
                rw [look_app, h2, lookR_none.2 hno]; rfl
          have hCl : (A ++ N).length = C.length := by rw [hC, List.length_append, List.length_append, length_fm hbn, hsl]
          refine Gs.exit ?_
          refine Gs.then_x ?_
          refine Gs.then_x ?_
          refine Gs.blk_hit ?_
          refine Gs.then_n ?_
          refine Gs.seq ?_
          refine Gs.takes (As := [tre p1 (A ++ N), tre p2 C]) (by repeat constructor) (Gs.toTwo ?_)
          refine Gs.reg ?_
          refine Go.Sl.L.pu rfl rfl trivial (pu_move rfl) ?_
          refine Go.Sl.L.pu rfl rfl trivial (pu_move rfl) ?_
          refine Go.Sl.L.ac rfl rfl trivial (as_call (find_spec (TrR.own p1 (A ++ N)).left (TrR.own p2 C).right 8 (by decide)) (by repeat constructor) (by repeat constructor)) ?_
          rintro _ _ ⟨_, ⟨ka2, kc2, rfl, rfl⟩, rfl⟩
          rw [findK_ext hext, askN_ext hext]
          refine Gs.take (A := two (tre p1 (A ++ N)) (tre p2 C)) (by repeat constructor) (Gs.two ?_)
          refine Go.Sl.L.pu rfl rfl trivial (pu_move rfl) ?_
          refine Go.Sl.L.pu rfl rfl trivial (pu_extract rfl rfl) ?_
          refine Go.Sl.L.pu rfl rfl trivial (pu_extract rfl rfl) ?_
          refine Go.Sl.L.pu rfl rfl trivial (pu_assign rfl) ?_
          refine Go.Sl.L.pu rfl rfl trivial (pu_assign rfl) ?_
          refine Go.Sl.L.nil ?_
          refine Gs.then_n ?_
          refine Gs.seq ?_
          refine Gs.reg ?_
          refine Go.Sl.L.pu rfl rfl trivial (pu_move rfl) ?_
          refine Go.Sl.L.pu rfl rfl trivial (pu_len Tryd.underlying30 rfl) ?_
          refine Go.Sl.L.pu rfl rfl trivial (pu_eq rfl rfl) ?_
          refine Go.Sl.L.puBt rfl rfl trivial (pu_move rfl) rfl ?_
          refine Go.Sl.L.pu rfl rfl ⟨_, rfl, rfl⟩ (pu_move rfl) ?_
          refine Go.Sl.L.pu rfl rfl ⟨_, rfl, rfl⟩ (pu_eq rfl rfl) ?_
          refine Go.Sl.L.pu rfl rfl trivial (by first | exact pu_pick_t rfl rfl | exact pu_pick_f rfl rfl) ?_
          refine Go.Sl.L.puBt rfl rfl trivial (pu_move rfl) rfl ?_
          refine Go.Sl.L.pu rfl rfl ⟨_, rfl, rfl⟩ (pu_move rfl) ?_
          refine Go.Sl.L.pu rfl rfl ⟨_, rfl, rfl⟩ (pu_move rfl) ?_
          refine Go.Sl.L.ac rfl rfl ⟨_, rfl, rfl⟩ (as_call (treeSame_yes p1 p2 (A ++ N) C (fun r hr => by rw [← hext]; exact lookR_mem hB.nd hr) hCl) (by repeat constructor) (by repeat constructor)) ?_
          rintro _ _ ⟨_, ⟨rfl, rfl⟩, rfl⟩
          refine Go.Sl.L.pu rfl rfl trivial (by first | exact pu_pick_t rfl rfl | exact pu_pick_f rfl rfl) ?_
          refine Go.Sl.L.puBt rfl rfl trivial (pu_move rfl) rfl ?_
          refine Go.Sl.L.ac rfl rfl ⟨_, rfl, rfl⟩ (as_call (awake_spec T) (by repeat constructor) (by repeat constructor)) ?_
          rintro _ _ ⟨_, ⟨rfl, rfl⟩, rfl⟩
          refine Go.Sl.L.pu rfl rfl trivial (by first | exact pu_pick_t rfl rfl | exact pu_pick_f rfl rfl) ?_
          refine Go.Sl.L.pu rfl rfl trivial (pu_assign rfl) ?_
          refine Go.Sl.L.nil ?_
          refine Gs.then_n ?_
          refine Gs.ret ?_
          exact Gs.fin1 Tryd.results7 rfl _ (⟨rfl, rfl⟩) (by repeat constructor)
end Go.Proofs.YthlnjkfahmebjaaDoor
