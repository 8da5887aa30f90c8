/- Walks: grapevinelaw13.DescentTurns, DescentOne, DescentSteps. -/
import Derived.Test.YthlnjkfahmebjaaDoorLaw13
namespace Go.Proofs.YthlnjkfahmebjaaDoor
open Go Go.Sl Go.Gv Go.Kv
set_option maxRecDepth 100000
theorem turns_spec {h0 : Hp} (T : Tabs h0) {a b : Option Addr} {c d : Nat} {xs ys : List Rec} (hx : slR h0 5 recC a xs) (hy : slR h0 5 recC b ys) (hxl : xs.length ≤ 9223372036854775807) (hyl : ys.length ≤ 9223372036854775807) (n0 : Int) :
    Ct Tryd.prog 5 [.slice a xs.length c, .slice b ys.length d, int n0] [ro h0] (fun v hs => v = .bool true ∧ hs = [ro h0]) := by
  have hN := lowZ_in (a := n0) (b := 9) (by decide) (by decide)
  obtain ⟨N, hNe⟩ : ∃ N : Nat, lowZ n0 9 = N := ⟨(lowZ n0 9).toNat, by omega⟩
  rw [hNe] at hN
  have hN8 : N ≤ 8 := by omega
  refine Ct.intro Tryd.func5 rfl (by kernel_rfl) 102 Tryd.ntmps5 (Nat.le_of_ble_eq_true rfl) fun w0 R => ?_
  refine Gs.seq ?_
  refine Gs.reg ?_
  refine Go.Sl.L.pu rfl rfl trivial (pu_assign rfl) ?_
  refine Go.Sl.L.nil ?_
  refine Gs.then_n ?_
  refine Gs.seq ?_
  refine Gs.seq ?_
  refine Gs.reg ?_
  refine Go.Sl.L.pu rfl rfl trivial (pu_move rfl) ?_
  refine Go.Sl.L.ac rfl rfl trivial (as_call (greatRecords_spec (Srd.ro hx) hxl 25) (by repeat constructor) (by repeat constructor)) ?_
  rintro _ _ ⟨_, ⟨⟨g1, rfl, hg1⟩, rfl⟩, rfl⟩
  refine Go.Sl.L.puB rfl rfl trivial (pu_move rfl) (fun hg2 => ?_) (fun hg2 => ?_)
  · skip
    refine Go.Sl.L.off rfl rfl rfl rfl rfl rfl ?_
    refine Go.Sl.L.off rfl rfl rfl rfl rfl rfl ?_
    refine Go.Sl.L.pu rfl rfl trivial (by first | exact pu_pick_t rfl rfl | exact pu_pick_f rfl rfl) ?_
    refine Go.Sl.L.nil ?_
    refine Gs.then_n ?_
    refine Gs.cond_t rfl ?_
    refine Gs.seq ?_
    refine Gs.reg ?_
    refine Go.Sl.L.ac rfl rfl trivial (as_call (awake_spec T) (by repeat constructor) (by repeat constructor)) ?_
    rintro _ _ ⟨_, ⟨rfl, rfl⟩, rfl⟩
    refine Go.Sl.L.pu rfl rfl trivial (pu_assign rfl) ?_
    refine Go.Sl.L.nil ?_
    refine Gs.then_n ?_
    refine Gs.ret ?_
    refine Gs.then_r ?_
    exact Gs.fin1 Tryd.results5 rfl _ (⟨rfl, rfl⟩) (by repeat constructor)
  · skip
    refine Go.Sl.L.pu rfl rfl ⟨_, rfl, rfl⟩ (pu_move rfl) ?_
    refine Go.Sl.L.ac rfl rfl ⟨_, rfl, rfl⟩ (as_call (greatRecords_spec (Srd.ro hy) hyl 25) (by repeat constructor) (by repeat constructor)) ?_
    rintro _ _ ⟨_, ⟨⟨g2, rfl, hg2'⟩, rfl⟩, rfl⟩
    refine Go.Sl.L.pu rfl rfl trivial (by first | exact pu_pick_t rfl rfl | exact pu_pick_f rfl rfl) ?_
    refine Go.Sl.L.nil ?_
    refine Gs.then_n ?_
    refine Gs.cond rfl (fun hc0 => ?_) (fun hc0 => ?_)
    · skip
      refine Gs.seq ?_
      refine Gs.reg ?_
      refine Go.Sl.L.ac rfl rfl trivial (as_call (awake_spec T) (by repeat constructor) (by repeat constructor)) ?_
      rintro _ _ ⟨_, ⟨rfl, rfl⟩, rfl⟩
      refine Go.Sl.L.pu rfl rfl trivial (pu_assign rfl) ?_
      refine Go.Sl.L.nil ?_
      refine Gs.then_n ?_
      refine Gs.ret ?_
      refine Gs.then_r ?_
      exact Gs.fin1 Tryd.results5 rfl _ (⟨rfl, rfl⟩) (by repeat constructor)
    · skip
      have hxs : xs.length ≤ 25 := by have := hg1 hg2; omega
      have hys : ys.length ≤ 25 := by have := hg2' hc0; omega
      obtain ⟨A, hAe⟩ : ∃ A, A = putAll [] xs := ⟨_, rfl⟩
      obtain ⟨B, hBe⟩ : ∃ B, B = putAll [] ys := ⟨_, rfl⟩
      have hfl := findK_le A B N
      refine Gs.skip ?_
      refine Gs.then_n ?_
      refine Gs.seq ?_
      refine Gs.reg ?_
      refine Go.Sl.L.pu rfl rfl trivial (pu_move rfl) ?_
      refine Go.Sl.L.ac rfl rfl trivial (as_call (both_spec T hx hxs) (by repeat constructor) (by repeat constructor)) ?_
      rintro _ _ ⟨_, ⟨p1, q1, rfl, rfl⟩, rfl⟩
      refine Go.Sl.L.pu rfl rfl trivial (pu_move rfl) ?_
      refine Go.Sl.L.pu rfl rfl trivial (pu_extract rfl rfl) ?_
      refine Go.Sl.L.pu rfl rfl trivial (pu_extract rfl rfl) ?_
      refine Go.Sl.L.pu rfl rfl trivial (pu_assign rfl) ?_
      refine Go.Sl.L.pu rfl rfl trivial (pu_assign rfl) ?_
      refine Go.Sl.L.nil ?_
      refine Gs.then_n ?_
      refine Gs.seq ?_
      refine Gs.reg ?_
      refine Go.Sl.L.pu rfl rfl trivial (pu_move rfl) ?_
      refine Go.Sl.L.ac rfl rfl trivial (as_call (both_spec T hy hys) (by repeat constructor) (by repeat constructor)) ?_
      rintro _ _ ⟨_, ⟨p2, q2, rfl, rfl⟩, rfl⟩
      refine Go.Sl.L.pu rfl rfl trivial (pu_move rfl) ?_
      refine Go.Sl.L.pu rfl rfl trivial (pu_extract rfl rfl) ?_
      refine Go.Sl.L.pu rfl rfl trivial (pu_extract rfl rfl) ?_
      refine Go.Sl.L.pu rfl rfl trivial (pu_assign rfl) ?_
      refine Go.Sl.L.pu rfl rfl trivial (pu_assign rfl) ?_
      refine Go.Sl.L.nil ?_
      rw [← hAe, ← hBe]
      refine Gs.then_n ?_
      refine Gs.seq ?_
      refine Gs.seq ?_
      refine Gs.reg ?_
      refine Go.Sl.L.pu rfl rfl trivial (pu_move rfl) ?_
      refine Go.Sl.L.pu rfl rfl trivial (pu_eqN Tryd.underlying25 rfl rfl) ?_
      refine Go.Sl.L.puBf rfl rfl trivial (pu_move rfl) rfl ?_
      refine Go.Sl.L.pu rfl rfl ⟨_, rfl, rfl⟩ (pu_move rfl) ?_
      refine Go.Sl.L.pu rfl rfl ⟨_, rfl, rfl⟩ (pu_eqN Tryd.underlying25 rfl rfl) ?_
      refine Go.Sl.L.pu rfl rfl trivial (by first | exact pu_pick_t rfl rfl | exact pu_pick_f rfl rfl) ?_
      refine Go.Sl.L.nil ?_
      refine Gs.then_n ?_
      refine Gs.cond_f rfl ?_
      refine Gs.skip ?_
      refine Gs.then_n ?_
      refine Gs.seq ?_
      refine Gs.reg ?_
      refine Go.Sl.L.pu rfl rfl trivial (pu_move rfl) ?_
      refine Go.Sl.L.ac rfl rfl trivial (as_call (low_spec n0 9 (by decide) (by decide)) (by repeat constructor) (by repeat constructor)) ?_
      rintro _ _ ⟨_, ⟨rfl, rfl⟩, rfl⟩
      rw [hNe]
      refine Go.Sl.L.pu rfl rfl trivial (pu_assign rfl) ?_
      refine Go.Sl.L.nil ?_
      refine Gs.then_n ?_
      refine Gs.seq ?_
      refine Gs.takes (As := [tre p1 A, tre p2 B]) (by repeat constructor) (Gs.toTwo ?_)
      refine Gs.reg ?_
      refine Go.Sl.L.pu rfl rfl trivial (pu_move rfl) ?_
      refine Go.Sl.L.pu rfl rfl trivial (pu_move rfl) ?_
      refine Go.Sl.L.pu rfl rfl trivial (pu_move rfl) ?_
      refine Go.Sl.L.ac rfl rfl trivial (as_call (find_spec (TrR.own p1 A).left (TrR.own p2 B).right N hN8) (by repeat constructor) (by repeat constructor)) ?_
      rintro _ _ ⟨_, ⟨fa, fc, rfl, rfl⟩, rfl⟩
      refine Go.Sl.L.pu rfl rfl trivial (pu_move rfl) ?_
      refine Go.Sl.L.pu rfl rfl trivial (pu_extract rfl rfl) ?_
      refine Go.Sl.L.pu rfl rfl trivial (pu_extract rfl rfl) ?_
      refine Go.Sl.L.pu rfl rfl trivial (pu_assign rfl) ?_
      refine Go.Sl.L.pu rfl rfl trivial (pu_assign rfl) ?_
      refine Go.Sl.L.nil ?_
      refine Gs.then_n ?_
      refine Gs.seq ?_
      refine Gs.reg ?_
      refine Go.Sl.L.pu rfl rfl trivial (pu_move rfl) ?_
      refine Go.Sl.L.pu rfl rfl trivial (pu_move rfl) ?_
      refine Go.Sl.L.pu rfl rfl trivial (pu_move rfl) ?_
      refine Go.Sl.L.ac rfl rfl trivial (as_call (find_spec (S := two (tre p1 A) (tre p2 B)) (TrR.own p2 B).right (TrR.own p1 A).left N hN8) (by repeat constructor) (by repeat constructor)) ?_
      rintro _ _ ⟨_, ⟨fa2, fc2, rfl, rfl⟩, rfl⟩
      rw [findK_symm B A, askN_symm B A]
      refine Go.Sl.L.pu rfl rfl trivial (pu_move rfl) ?_
      refine Go.Sl.L.pu rfl rfl trivial (pu_extract rfl rfl) ?_
      refine Go.Sl.L.pu rfl rfl trivial (pu_extract rfl rfl) ?_
      refine Go.Sl.L.pu rfl rfl trivial (pu_assign rfl) ?_
      refine Go.Sl.L.pu rfl rfl trivial (pu_assign rfl) ?_
      refine Go.Sl.L.nil ?_
      refine Gs.then_n ?_
      refine Gs.seq ?_
      refine Gs.reg ?_
      refine Go.Sl.L.pu rfl rfl trivial (pu_move rfl) ?_
      refine Go.Sl.L.pu rfl rfl trivial (pu_move rfl) ?_
      refine Go.Sl.L.pu rfl rfl trivial (pu_move rfl) ?_
      refine Go.Sl.L.ac rfl rfl trivial (as_call (find_spec (S := two (tre p1 A) (tre p2 B)) (TrR.own p1 A).left (TrR.own p1 A).left N hN8) (by repeat constructor) (by repeat constructor)) ?_
      rintro _ _ ⟨_, ⟨fa3, fc3, rfl, rfl⟩, rfl⟩
      rw [findK_ext (fun _ => rfl), askN_ext (fun _ => rfl)]
      refine Go.Sl.L.pu rfl rfl trivial (pu_move rfl) ?_
      refine Go.Sl.L.pu rfl rfl trivial (pu_extract rfl rfl) ?_
      refine Go.Sl.L.pu rfl rfl trivial (pu_extract rfl rfl) ?_
      refine Go.Sl.L.pu rfl rfl trivial (pu_assign rfl) ?_
      refine Go.Sl.L.pu rfl rfl trivial (pu_assign rfl) ?_
      refine Go.Sl.L.nil ?_
      refine Gs.then_n ?_
      refine Gs.seq ?_
      refine Gs.reg ?_
      refine Go.Sl.L.pu rfl rfl trivial (pu_move rfl) ?_
      refine Go.Sl.L.pu rfl rfl trivial (pu_move rfl) ?_
      refine Go.Sl.L.ac rfl rfl trivial (as_call (sameKeys_spec (S := sl 38 2 keyC fa fc (sortK (findK A B N))) (U := sl 38 2 keyC fa2 fc2 (sortK (findK A B N))) Srd.own Srd.own (by rw [sortK_length]; omega)) (by repeat constructor) (by repeat constructor)) ?_
      rintro _ _ ⟨_, ⟨rfl, rfl⟩, rfl⟩
      refine Go.Sl.L.puBt rfl rfl trivial (pu_move rfl) (decide_eq_true rfl) ?_
      refine Go.Sl.L.pu rfl rfl ⟨_, rfl, rfl⟩ (pu_move rfl) ?_
      refine Go.Sl.L.pu rfl rfl ⟨_, rfl, rfl⟩ (pu_move rfl) ?_
      refine Go.Sl.L.pu rfl rfl ⟨_, rfl, rfl⟩ (pu_eq rfl rfl) ?_
      refine Go.Sl.L.pu rfl rfl trivial (by first | exact pu_pick_t rfl rfl | exact pu_pick_f rfl rfl) ?_
      refine Go.Sl.L.puBt rfl rfl trivial (pu_move rfl) (decide_eq_true rfl) ?_
      refine Go.Sl.L.pu rfl rfl ⟨_, rfl, rfl⟩ (pu_move rfl) ?_
      refine Go.Sl.L.pu rfl rfl ⟨_, rfl, rfl⟩ (pu_len Tryd.underlying30 rfl) ?_
      refine Go.Sl.L.pu rfl rfl ⟨_, rfl, rfl⟩ (pu_eq rfl rfl) ?_
      refine Go.Sl.L.pu rfl rfl trivial (by first | exact pu_pick_t rfl rfl | exact pu_pick_f rfl rfl) ?_
      refine Go.Sl.L.puBt rfl rfl trivial (pu_move rfl) rfl ?_
      refine Go.Sl.L.pu rfl rfl ⟨_, rfl, rfl⟩ (pu_move rfl) ?_
      refine Go.Sl.L.pu rfl rfl ⟨_, rfl, rfl⟩ (pu_move rfl) ?_
      refine Go.Sl.L.pu rfl rfl ⟨_, rfl, rfl⟩ (pu_eq rfl rfl) ?_
      refine Go.Sl.L.pu rfl rfl trivial (by first | exact pu_pick_t rfl rfl | exact pu_pick_f rfl rfl) ?_
      refine Go.Sl.L.puBt rfl rfl trivial (pu_move rfl) (decide_eq_true rfl) ?_
      refine Go.Sl.L.pu rfl rfl ⟨_, rfl, rfl⟩ (pu_move rfl) ?_
      refine Go.Sl.L.pu rfl rfl ⟨_, rfl, rfl⟩ (pu_move rfl) ?_
      refine Go.Sl.L.pu rfl rfl ⟨_, rfl, rfl⟩ (pu_move rfl) ?_
      refine Go.Sl.L.ac rfl rfl ⟨_, rfl, rfl⟩ (as_call (clashN_spec (S := two (tre p1 A) (tre p2 B)) (TrR.own p1 A).left (TrR.own p2 B).right N hN8) (by repeat constructor) (by repeat constructor)) ?_
      rintro _ _ ⟨_, ⟨rfl, rfl⟩, rfl⟩
      refine Go.Sl.L.pu rfl rfl ⟨_, rfl, rfl⟩ (pu_move rfl) ?_
      refine Go.Sl.L.pu rfl rfl ⟨_, rfl, rfl⟩ (pu_move rfl) ?_
      refine Go.Sl.L.pu rfl rfl ⟨_, rfl, rfl⟩ (pu_move rfl) ?_
      refine Go.Sl.L.ac rfl rfl ⟨_, rfl, rfl⟩ (as_call (clashN_spec (S := two (tre p1 A) (tre p2 B)) (TrR.own p2 B).right (TrR.own p1 A).left N hN8) (by repeat constructor) (by repeat constructor)) ?_
      rintro _ _ ⟨_, ⟨rfl, rfl⟩, rfl⟩
      rw [clashN_symm B A]
      refine Go.Sl.L.pu rfl rfl ⟨_, rfl, rfl⟩ (pu_eqB Tryd.underlying4 rfl rfl) ?_
      refine Go.Sl.L.pu rfl rfl trivial (by first | exact pu_pick_t rfl rfl | exact pu_pick_f rfl rfl) ?_
      refine Go.Sl.L.puBt rfl rfl trivial (pu_move rfl) (by simp) ?_
      refine Go.Sl.L.pu rfl rfl ⟨_, rfl, rfl⟩ (pu_move rfl) ?_
      refine Go.Sl.L.pu rfl rfl ⟨_, rfl, rfl⟩ (pu_move rfl) ?_
      refine Go.Sl.L.pu rfl rfl ⟨_, rfl, rfl⟩ (pu_move rfl) ?_
      refine Go.Sl.L.ac rfl rfl ⟨_, rfl, rfl⟩ (as_call (clashN_spec (S := two (tre p1 A) (tre p2 B)) (TrR.own p1 A).left (TrR.own p1 A).left N hN8) (by repeat constructor) (by repeat constructor)) ?_
      rintro _ _ ⟨_, ⟨rfl, rfl⟩, rfl⟩
      rw [clashN_ext (fun _ => rfl)]
      refine Go.Sl.L.pu rfl rfl ⟨_, rfl, rfl⟩ (pu_not rfl) ?_
      refine Go.Sl.L.pu rfl rfl trivial (by first | exact pu_pick_t rfl rfl | exact pu_pick_f rfl rfl) ?_
      refine Go.Sl.L.puBt rfl rfl trivial (pu_move rfl) rfl ?_
      refine Go.Sl.L.ac rfl rfl ⟨_, rfl, rfl⟩ (as_call (awake_spec T) (by repeat constructor) (by repeat constructor)) ?_
      rintro _ _ ⟨_, ⟨rfl, rfl⟩, rfl⟩
      refine Go.Sl.L.pu rfl rfl trivial (by first | exact pu_pick_t rfl rfl | exact pu_pick_f rfl rfl) ?_
      refine Go.Sl.L.pu rfl rfl trivial (pu_assign rfl) ?_
      refine Go.Sl.L.nil ?_
      refine Gs.then_n ?_
      refine Gs.ret ?_
      exact Gs.fin1 Tryd.results5 rfl _ (⟨rfl, rfl⟩) (by repeat constructor)
theorem look_del (L : List Rec) (k x : Key) : lookR (delR L k) x = if x = k then none else lookR L x := by
  unfold lookR delR
  rw [List.find?_filter]
  split
  · rename_i h; subst h
    rw [List.find?_eq_none]; intro r _; simp
  · rename_i h
    congr 1; funext r
    by_cases hr : r.key = x
    · have : r.key ≠ k := fun e => h (hr ▸ e)
      simp [hr, h]
    · simp [hr]
theorem one_found {A : List Rec} (hA : TOk A) {k : Key} {r : Rec} (hk : lookR A k = some r) {n : Nat} (hn : n ≤ 8) (hc : clashN A (delR A k) n = false) : (n ≤ k.o → findK A (delR A k) n = []) ∧ (k.o < n → sortK (findK A (delR A k) n) = [k] ∧ askN A (delR A k) n = n + 20) := by
  have hm := findK_mem hA (hA.del k) hn hc
  have hd : ∀ x, lookR A x ≠ lookR (delR A k) x ↔ x = k := fun x => by
    rw [look_del]
    by_cases h : x = k
    · subst h; simp [hk]
    · simp [h]
  constructor
  · intro hle
    refine List.eq_nil_iff_forall_not_mem.2 fun x hx => ?_
    obtain ⟨h1, h2⟩ := (hm x).1 hx
    rw [hd] at h2; subst h2; omega
  · intro hlt
    have hp : (findK A (delR A k) n).Perm [k] := (List.perm_ext_iff_of_nodup (findK_nodup ..) (by simp)).2 fun x => by
      rw [hm, hd, List.mem_singleton]
      exact ⟨fun h => h.2, fun h => by subst h; exact ⟨hlt, rfl⟩⟩
    have h1 : findK A (delR A k) n = [k] := List.perm_singleton.1 hp
    refine ⟨by rw [h1]; rfl, ?_⟩
    have h2 := askN_le_keys (A := A) (B := delR A k) hn
    have h3 := askN_ge20 (A := A) (B := delR A k) hn (by rw [h1]; simp)
    rw [h1] at h2; simp at h2; omega
theorem oneL_spec {h0 : Hp} (T : Tabs h0) {a : Option Addr} {c : Nat} {xs : List Rec} (hx : slR h0 5 recC a xs) (hxl : xs.length ≤ 9223372036854775807) (n1 n0 : Int) :
    Ct Tryd.prog 6 [.slice a xs.length c, int n1, int n0] [ro h0] (fun v hs => v = .bool true ∧ hs = [ro h0]) := by
  have hN := lowZ_in (a := n0) (b := 9) (by decide) (by decide)
  obtain ⟨N, hNe⟩ : ∃ N : Nat, lowZ n0 9 = N := ⟨(lowZ n0 9).toNat, by omega⟩
  rw [hNe] at hN
  have hN8 : N ≤ 8 := by omega
  refine Ct.intro Tryd.func6 rfl (by kernel_rfl) 101 Tryd.ntmps6 (Nat.le_of_ble_eq_true rfl) fun w0 R => ?_
  refine Gs.seq ?_
  refine Gs.reg ?_
  refine Go.Sl.L.pu rfl rfl trivial (pu_assign rfl) ?_
  refine Go.Sl.L.nil ?_
  refine Gs.then_n ?_
  refine Gs.seq ?_
  refine Gs.seq ?_
  refine Gs.reg ?_
  refine Go.Sl.L.pu rfl rfl trivial (pu_move rfl) ?_
  refine Go.Sl.L.ac rfl rfl trivial (as_call (greatRecords_spec (Srd.ro hx) hxl 20) (by repeat constructor) (by repeat constructor)) ?_
  rintro _ _ ⟨_, ⟨⟨g1, rfl, hg1⟩, rfl⟩, rfl⟩
  refine Go.Sl.L.nil ?_
  refine Gs.then_n ?_
  refine Gs.cond rfl (fun hc0 => ?_) (fun hc0 => ?_)
  · skip
    refine Gs.seq ?_
    refine Gs.reg ?_
    refine Go.Sl.L.ac rfl rfl trivial (as_call (awake_spec T) (by repeat constructor) (by repeat constructor)) ?_
    rintro _ _ ⟨_, ⟨rfl, rfl⟩, rfl⟩
    refine Go.Sl.L.pu rfl rfl trivial (pu_assign rfl) ?_
    refine Go.Sl.L.nil ?_
    refine Gs.then_n ?_
    refine Gs.ret ?_
    refine Gs.then_r ?_
    exact Gs.fin1 Tryd.results6 rfl _ (⟨rfl, rfl⟩) (by repeat constructor)
  · skip
    have hxs : xs.length ≤ 25 := by have := hg1 hc0; omega
    obtain ⟨A, hAe⟩ : ∃ A, A = putAll [] xs := ⟨_, rfl⟩
    have hA : TOk A := hAe ▸ TOk.nil.putAll xs
    have hAl : A.length ≤ 25 := by rw [hAe]; have := (putAll_length [] xs).2; simp at this; omega
    refine Gs.skip ?_
    refine Gs.then_n ?_
    refine Gs.seq ?_
    refine Gs.reg ?_
    refine Go.Sl.L.pu rfl rfl trivial (pu_move rfl) ?_
    refine Go.Sl.L.ac rfl rfl trivial (as_call (both_spec T hx hxs) (by repeat constructor) (by repeat constructor)) ?_
    rintro _ _ ⟨_, ⟨p1, q1, rfl, rfl⟩, rfl⟩
    refine Go.Sl.L.pu rfl rfl trivial (pu_move rfl) ?_
    refine Go.Sl.L.pu rfl rfl trivial (pu_extract rfl rfl) ?_
    refine Go.Sl.L.pu rfl rfl trivial (pu_extract rfl rfl) ?_
    refine Go.Sl.L.pu rfl rfl trivial (pu_assign rfl) ?_
    refine Go.Sl.L.pu rfl rfl trivial (pu_assign rfl) ?_
    refine Go.Sl.L.nil ?_
    refine Gs.then_n ?_
    refine Gs.seq ?_
    refine Gs.reg ?_
    refine Go.Sl.L.pu rfl rfl trivial (pu_move rfl) ?_
    refine Go.Sl.L.ac rfl rfl trivial (as_call (both_spec T hx hxs) (by repeat constructor) (by repeat constructor)) ?_
    rintro _ _ ⟨_, ⟨p2, q2, rfl, rfl⟩, rfl⟩
    refine Go.Sl.L.pu rfl rfl trivial (pu_move rfl) ?_
    refine Go.Sl.L.pu rfl rfl trivial (pu_extract rfl rfl) ?_
    refine Go.Sl.L.pu rfl rfl trivial (pu_extract rfl rfl) ?_
    refine Go.Sl.L.pu rfl rfl trivial (pu_assign rfl) ?_
    refine Go.Sl.L.pu rfl rfl trivial (pu_assign rfl) ?_
    refine Go.Sl.L.nil ?_
    rw [← hAe]
    refine Gs.then_n ?_
    refine Gs.seq ?_
    refine Gs.seq ?_
    refine Gs.reg ?_
    refine Go.Sl.L.pu rfl rfl trivial (pu_move rfl) ?_
    refine Go.Sl.L.pu rfl rfl trivial (pu_eqN Tryd.underlying25 rfl rfl) ?_
    refine Go.Sl.L.puBf rfl rfl trivial (pu_move rfl) rfl ?_
    refine Go.Sl.L.pu rfl rfl ⟨_, rfl, rfl⟩ (pu_move rfl) ?_
    refine Go.Sl.L.pu rfl rfl ⟨_, rfl, rfl⟩ (pu_eqN Tryd.underlying25 rfl rfl) ?_
    refine Go.Sl.L.pu rfl rfl trivial (by first | exact pu_pick_t rfl rfl | exact pu_pick_f rfl rfl) ?_
    refine Go.Sl.L.nil ?_
    refine Gs.then_n ?_
    refine Gs.cond_f rfl ?_
    refine Gs.skip ?_
    refine Gs.then_n ?_
    refine Gs.seq ?_
    refine Gs.reg ?_
    refine Go.Sl.L.pu rfl rfl trivial (pu_move rfl) ?_
    refine Go.Sl.L.ac rfl rfl trivial (as_call (low_spec n0 9 (by decide) (by decide)) (by repeat constructor) (by repeat constructor)) ?_
    rintro _ _ ⟨_, ⟨rfl, rfl⟩, rfl⟩
    rw [hNe]
    refine Go.Sl.L.pu rfl rfl trivial (pu_assign rfl) ?_
    refine Go.Sl.L.nil ?_
    refine Gs.then_n ?_
    refine Gs.seq ?_
    refine Gs.seq ?_
    refine Gs.rtOpen (b := q1) (L := A) (by repeat constructor) fun a1 c1 => ?_
    refine Gs.slAddr (SlH.own (by repeat constructor) : SlH _ _ 5 recC a1 A) fun ab1 ao1 ha1 => ?_
    refine Gs.reg ?_
    refine Go.Sl.L.pu rfl rfl trivial (pu_move rfl) ?_
    refine Go.Sl.L.pu rfl rfl trivial (by first | exact pu_nil rfl | exact pu_nilF rfl) ?_
    refine Go.Sl.L.pu rfl rfl trivial (pu_fa fa_35_0 rfl) ?_
    refine Go.Sl.L.rd rfl rfl trivial (rd_ld na_22 rfl (Rdc.cl1 (by repeat constructor) rfl)) ?_
    refine Go.Sl.L.pu rfl rfl trivial (pu_len Tryd.underlying22 rfl) ?_
    refine Go.Sl.L.pu rfl rfl trivial (pu_eq rfl rfl) ?_
    refine Go.Sl.L.nil ?_
    refine Gs.then_n ?_
    refine Gs.cond rfl (fun hc2 => ?_) (fun hc2 => ?_)
    · skip
      refine Gs.seq ?_
      refine Gs.reg ?_
      refine Go.Sl.L.ac rfl rfl trivial (as_call (awake_spec T) (by repeat constructor) (by repeat constructor)) ?_
      rintro _ _ ⟨_, ⟨rfl, rfl⟩, rfl⟩
      refine Go.Sl.L.pu rfl rfl trivial (pu_assign rfl) ?_
      refine Go.Sl.L.nil ?_
      refine Gs.then_n ?_
      refine Gs.ret ?_
      refine Gs.then_r ?_
      exact Gs.fin1 Tryd.results6 rfl _ (⟨rfl, rfl⟩) (by repeat constructor)
    · skip
      have hne : A.length ≠ 0 := by have := of_decide_eq_false hc2; omega
      obtain rfl := ha1 (by rintro e; rw [e] at hne; exact hne rfl)
      have hM := lowZ_in (a := n1) (b := (A.length : Int)) (by omega) (by omega)
      obtain ⟨M, hMe⟩ : ∃ M : Nat, lowZ n1 A.length = M := ⟨(lowZ n1 A.length).toNat, by omega⟩
      rw [hMe] at hM
      obtain ⟨r, hr⟩ : ∃ x, A[M]? = some x := ⟨A[M]'(by omega), by simp⟩
      have hlk : lookR A r.key = some r := lookR_mem hA.nd (List.mem_of_getElem? hr)
      have hdl := delR_some hA.nd hlk
      refine Gs.skip ?_
      refine Gs.then_n ?_
      refine Gs.seq ?_
      refine Gs.regD mixed (by kernel_rfl) ?_
      refine Rg.pu 0 rfl rfl (by kernel_rfl) trivial (pu_move rfl) ?_
      refine Rg.pu 1 rfl rfl (by kernel_rfl) trivial (by first | exact pu_nil rfl | exact pu_nilF rfl) ?_
      refine Rg.pu 2 rfl rfl (by kernel_rfl) trivial (pu_fa fa_35_0 rfl) ?_
      refine Rg.rd 3 rfl rfl (by kernel_rfl) trivial (rd_ld na_22 rfl (Rdc.cl1 (by repeat constructor) rfl)) ?_
      refine Rg.pu 4 rfl rfl (by kernel_rfl) trivial (pu_move rfl) ?_
      refine Rg.pu 5 rfl rfl (by kernel_rfl) trivial (pu_move rfl) ?_
      refine Rg.pu 6 rfl rfl (by kernel_rfl) trivial (by first | exact pu_nil rfl | exact pu_nilF rfl) ?_
      refine Rg.pu 7 rfl rfl (by kernel_rfl) trivial (pu_fa fa_35_0 rfl) ?_
      refine Rg.rd 8 rfl rfl (by kernel_rfl) trivial (rd_ld na_22 rfl (Rdc.cl1 (by repeat constructor) rfl)) ?_
      refine Rg.pu 9 rfl rfl (by kernel_rfl) trivial (pu_len Tryd.underlying22 rfl) ?_
      refine Rg.two (by kernel_rfl) (Stp.acR 10 [3] rfl rfl (by kernel_rfl) trivial (as_call (low_spec n1 A.length (by omega) (by omega)) (by repeat constructor) (by repeat constructor)) (by rintro _ _ ⟨_, ⟨rfl, rfl⟩, rfl⟩; exact (Reads.cons rfl rfl rfl trivial rfl (rd_ld na_22 rfl (Rdc.cl1 (by repeat constructor) rfl)) Reads.nil)) ?_) (Stp.acK 14 rfl rfl (by kernel_rfl) trivial (ac_alloc zv_38 rfl) (by rintro _ _ ⟨kb, rfl, rfl⟩ w s; first | exact s.drop | exact s | exact Ent.sat (by repeat constructor) s) ?_)
      · skip
        rintro _ _ ⟨_, ⟨rfl, rfl⟩, rfl⟩
        rw [hMe]
        refine Rg.pu 11 rfl rfl (by kernel_rfl) trivial (pu_ia se_22 rfl rfl (by omega) (by omega)) ?_
        refine Rg.pu 12 rfl rfl (by kernel_rfl) trivial (pu_fa fa_42_0 rfl) ?_
        refine Rg.rd 13 rfl rfl (by kernel_rfl) trivial (rd_lda ag_38 rfl (Rdc.elp 2 (SlH.own (by repeat constructor)) hr rfl rfl) rfl) ?_
        refine Rg.one (by kernel_rfl) (Stp.acK 14 rfl rfl (by kernel_rfl) trivial (ac_alloc zv_38 rfl) (by rintro _ _ ⟨kb, rfl, rfl⟩ w s; first | exact s.drop | exact s | exact Ent.sat (by repeat constructor) s) ?_)
        rintro _ _ ⟨kb, rfl, rfl⟩
        refine Rg.one (by kernel_rfl) (Stp.ac0 15 rfl rfl (by kernel_rfl) trivial (ac_st sz_38 rfl rfl (by repeat constructor) rfl rfl rfl rfl)  ?_)
        rintro _ _ rfl
        refine Rg.end (by kernel_rfl) ?_
        refine Gs.then_n ?_
        refine Gs.seq ?_
        refine Gs.seq ?_
        refine Gs.reg ?_
        refine Go.Sl.L.pu rfl rfl trivial (pu_move rfl) ?_
        refine Go.Sl.L.rd rfl rfl trivial (rd_lda ag_38 rfl (Rdc.cl 2 (by repeat constructor) rfl) rfl) ?_
        refine Go.Sl.L.ac rfl rfl trivial (ac_lit encC_38 ([r.key]) et_30 ek_38 rfl (by repeat constructor) rfl rfl (by decide)) ?_
        rintro _ _ ⟨a58, rfl, rfl⟩
        refine Go.Sl.L.ac rfl rfl trivial (as_call (treeDrop_spec (S := sl 38 2 keyC (some ⟨a58, 0, none⟩) 1 [r.key]) (ks := [r.key]) p2 A Srd.own (by simp) (by omega)) (by repeat constructor) (by repeat constructor)) ?_
        rintro _ _ ⟨_, ⟨rfl, rfl⟩, rfl⟩
        rw [show delAll A [r.key] = delR A r.key from rfl]
        refine Go.Sl.L.pu rfl rfl trivial (pu_ne rfl rfl) ?_
        refine Go.Sl.L.nil ?_
        refine Gs.then_n ?_
        refine Gs.cond_ff rfl (decide_eq_false (by omega)) ?_
        refine Gs.skip ?_
        refine Gs.then_n ?_
        refine Gs.seq ?_
        refine Gs.takes (As := [tre p1 A, tre p2 (delR A r.key)]) (by repeat constructor) (Gs.toTwo ?_)
        refine Gs.reg ?_
        refine Go.Sl.L.pu rfl rfl trivial (pu_move rfl) ?_
        refine Go.Sl.L.pu rfl rfl trivial (pu_move rfl) ?_
        refine Go.Sl.L.pu rfl rfl trivial (pu_move rfl) ?_
        refine Go.Sl.L.ac rfl rfl trivial (as_call (find_spec (TrR.own p1 A).left (TrR.own p2 (delR A r.key)).right N hN8) (by repeat constructor) (by repeat constructor)) ?_
        rintro _ _ ⟨_, ⟨fa, fc, rfl, rfl⟩, rfl⟩
        refine Go.Sl.L.pu rfl rfl trivial (pu_move rfl) ?_
        refine Go.Sl.L.pu rfl rfl trivial (pu_extract rfl rfl) ?_
        refine Go.Sl.L.pu rfl rfl trivial (pu_extract rfl rfl) ?_
        refine Go.Sl.L.pu rfl rfl trivial (pu_assign rfl) ?_
        refine Go.Sl.L.pu rfl rfl trivial (pu_assign rfl) ?_
        refine Go.Sl.L.nil ?_
        refine Gs.then_n ?_
        refine Gs.seq ?_
        refine Gs.seq ?_
        refine Gs.reg ?_
        refine Go.Sl.L.pu rfl rfl trivial (pu_move rfl) ?_
        refine Go.Sl.L.pu rfl rfl trivial (pu_move rfl) ?_
        refine Go.Sl.L.pu rfl rfl trivial (pu_move rfl) ?_
        refine Go.Sl.L.ac rfl rfl trivial (as_call (clashN_spec (S := two (tre p1 A) (tre p2 (delR A r.key))) (TrR.own p1 A).left (TrR.own p2 (delR A r.key)).right N hN8) (by repeat constructor) (by repeat constructor)) ?_
        rintro _ _ ⟨_, ⟨rfl, rfl⟩, rfl⟩
        refine Go.Sl.L.nil ?_
        refine Gs.then_n ?_
        refine Gs.cond rfl (fun hc4 => ?_) (fun hc4 => ?_)
        · skip
          refine Gs.seq ?_
          refine Gs.reg ?_
          refine Go.Sl.L.ac rfl rfl trivial (as_call (awake_spec T) (by repeat constructor) (by repeat constructor)) ?_
          rintro _ _ ⟨_, ⟨rfl, rfl⟩, rfl⟩
          refine Go.Sl.L.pu rfl rfl trivial (pu_assign rfl) ?_
          refine Go.Sl.L.nil ?_
          refine Gs.then_n ?_
          refine Gs.ret ?_
          refine Gs.then_r ?_
          exact Gs.fin1 Tryd.results6 rfl _ (⟨rfl, rfl⟩) (by repeat constructor)
        · skip
          obtain ⟨hf1, hf2⟩ := one_found hA hlk hN8 hc4
          refine Gs.skip ?_
          refine Gs.then_n ?_
          refine Gs.seq ?_
          refine Gs.seq ?_
          refine Gs.reg ?_
          refine Go.Sl.L.pu rfl rfl trivial (pu_fa fa_38_0 rfl) ?_
          refine Go.Sl.L.rd rfl rfl trivial (rd_ld na_3 rfl (Rdc.cl1 (by repeat constructor) rfl)) ?_
          refine Go.Sl.L.pu rfl rfl trivial (pu_move rfl) ?_
          refine Go.Sl.L.pu rfl rfl trivial (pu_ge rfl rfl) ?_
          refine Go.Sl.L.nil ?_
          refine Gs.then_n ?_
          refine Gs.cond rfl (fun hc5 => ?_) (fun hc5 => ?_)
          · skip
            have hno := hf1 (of_decide_eq_true hc5)
            rw [askN_none hN8 hno, hno]
            refine Gs.seq ?_
            refine Gs.reg ?_
            refine Go.Sl.L.pu rfl rfl trivial (pu_move rfl) ?_
            refine Go.Sl.L.pu rfl rfl trivial (pu_len Tryd.underlying30 rfl) ?_
            refine Go.Sl.L.pu rfl rfl trivial (pu_eq rfl rfl) ?_
            refine Go.Sl.L.puBt rfl rfl trivial (pu_move rfl) rfl ?_
            refine Go.Sl.L.pu rfl rfl ⟨_, rfl, rfl⟩ (pu_move rfl) ?_
            refine Go.Sl.L.pu rfl rfl ⟨_, rfl, rfl⟩ (pu_move rfl) ?_
            refine Go.Sl.L.pu rfl rfl ⟨_, rfl, rfl⟩ (pu_eq rfl rfl) ?_
            refine Go.Sl.L.pu rfl rfl trivial (by first | exact pu_pick_t rfl rfl | exact pu_pick_f rfl rfl) ?_
            refine Go.Sl.L.puBt rfl rfl trivial (pu_move rfl) (decide_eq_true rfl) ?_
            refine Go.Sl.L.ac rfl rfl ⟨_, rfl, rfl⟩ (as_call (awake_spec T) (by repeat constructor) (by repeat constructor)) ?_
            rintro _ _ ⟨_, ⟨rfl, rfl⟩, rfl⟩
            refine Go.Sl.L.pu rfl rfl trivial (by first | exact pu_pick_t rfl rfl | exact pu_pick_f rfl rfl) ?_
            refine Go.Sl.L.pu rfl rfl trivial (pu_assign rfl) ?_
            refine Go.Sl.L.nil ?_
            refine Gs.then_n ?_
            refine Gs.ret ?_
            refine Gs.then_r ?_
            exact Gs.fin1 Tryd.results6 rfl _ (⟨rfl, rfl⟩) (by repeat constructor)
          · skip
            obtain ⟨hy1, hy2⟩ := hf2 (by have := of_decide_eq_false hc5; show r.o < (N : Int); omega)
            rw [hy1, hy2]
            refine Gs.skip ?_
            refine Gs.then_n ?_
            refine Gs.seq ?_
            refine Gs.reg ?_
            refine Go.Sl.L.pu rfl rfl trivial (pu_move rfl) ?_
            refine Go.Sl.L.rd rfl rfl trivial (rd_lda ag_38 rfl (Rdc.cl 2 (by repeat constructor) rfl) rfl) ?_
            refine Go.Sl.L.ac rfl rfl trivial (ac_lit encC_38 ([r.key]) et_30 ek_38 rfl (by repeat constructor) rfl rfl (by decide)) ?_
            rintro _ _ ⟨a90, rfl, rfl⟩
            refine Go.Sl.L.ac rfl rfl trivial (as_call (sameKeys_spec (S := sl 38 2 keyC fa fc [r.key]) (U := sl 38 2 keyC (some ⟨a90, 0, none⟩) 1 [r.key]) (xs := [r.key]) (ys := [r.key]) Srd.own Srd.own (by simp)) (by repeat constructor) (by repeat constructor)) ?_
            rintro _ _ ⟨_, ⟨rfl, rfl⟩, rfl⟩
            refine Go.Sl.L.puBt rfl rfl trivial (pu_move rfl) (decide_eq_true rfl) ?_
            refine Go.Sl.L.pu rfl rfl ⟨_, rfl, rfl⟩ (pu_move rfl) ?_
            refine Go.Sl.L.pu rfl rfl ⟨_, rfl, rfl⟩ (pu_move rfl) ?_
            refine Go.Sl.L.pu rfl rfl ⟨_, rfl, rfl⟩ (pu_addI (z := ((N + 20 : Nat) : Int)) rfl rfl (by omega) (by omega) (by omega)) ?_
            refine Go.Sl.L.pu rfl rfl ⟨_, rfl, rfl⟩ (pu_eq rfl rfl) ?_
            refine Go.Sl.L.pu rfl rfl trivial (by first | exact pu_pick_t rfl rfl | exact pu_pick_f rfl rfl) ?_
            refine Go.Sl.L.puBt rfl rfl trivial (pu_move rfl) (decide_eq_true rfl) ?_
            refine Go.Sl.L.ac rfl rfl ⟨_, rfl, rfl⟩ (as_call (awake_spec T) (by repeat constructor) (by repeat constructor)) ?_
            rintro _ _ ⟨_, ⟨rfl, rfl⟩, rfl⟩
            refine Go.Sl.L.pu rfl rfl trivial (by first | exact pu_pick_t rfl rfl | exact pu_pick_f rfl rfl) ?_
            refine Go.Sl.L.pu rfl rfl trivial (pu_assign rfl) ?_
            refine Go.Sl.L.nil ?_
            refine Gs.then_n ?_
            refine Gs.ret ?_
            exact Gs.fin1 Tryd.results6 rfl _ (⟨rfl, rfl⟩) (by repeat constructor)
      · skip
        rintro _ _ ⟨kb, rfl, rfl⟩
        refine Rg.one (by kernel_rfl) (Stp.acR 10 [3] rfl rfl (by kernel_rfl) trivial (as_call (low_spec n1 A.length (by omega) (by omega)) (by repeat constructor) (by repeat constructor)) (by rintro _ _ ⟨_, ⟨rfl, rfl⟩, rfl⟩; exact (Reads.cons rfl rfl rfl trivial rfl (rd_ld na_22 rfl (Rdc.cl1 (by repeat constructor) rfl)) Reads.nil)) ?_)
        rintro _ _ ⟨_, ⟨rfl, rfl⟩, rfl⟩
        rw [hMe]
        refine Rg.pu 11 rfl rfl (by kernel_rfl) trivial (pu_ia se_22 rfl rfl (by omega) (by omega)) ?_
        refine Rg.pu 12 rfl rfl (by kernel_rfl) trivial (pu_fa fa_42_0 rfl) ?_
        refine Rg.rd 13 rfl rfl (by kernel_rfl) trivial (rd_lda ag_38 rfl (Rdc.elp 2 (SlH.own (by repeat constructor)) hr rfl rfl) rfl) ?_
        refine Rg.one (by kernel_rfl) (Stp.ac0 15 rfl rfl (by kernel_rfl) trivial (ac_st sz_38 rfl rfl (by repeat constructor) rfl rfl rfl rfl)  ?_)
        rintro _ _ rfl
        refine Rg.end (by kernel_rfl) ?_
        refine Gs.then_n ?_
        refine Gs.seq ?_
        refine Gs.seq ?_
        refine Gs.reg ?_
        refine Go.Sl.L.pu rfl rfl trivial (pu_move rfl) ?_
        refine Go.Sl.L.rd rfl rfl trivial (rd_lda ag_38 rfl (Rdc.cl 2 (by repeat constructor) rfl) rfl) ?_
        refine Go.Sl.L.ac rfl rfl trivial (ac_lit encC_38 ([r.key]) et_30 ek_38 rfl (by repeat constructor) rfl rfl (by decide)) ?_
        rintro _ _ ⟨a58, rfl, rfl⟩
        refine Go.Sl.L.ac rfl rfl trivial (as_call (treeDrop_spec (S := sl 38 2 keyC (some ⟨a58, 0, none⟩) 1 [r.key]) (ks := [r.key]) p2 A Srd.own (by simp) (by omega)) (by repeat constructor) (by repeat constructor)) ?_
        rintro _ _ ⟨_, ⟨rfl, rfl⟩, rfl⟩
        rw [show delAll A [r.key] = delR A r.key from rfl]
        refine Go.Sl.L.pu rfl rfl trivial (pu_ne rfl rfl) ?_
        refine Go.Sl.L.nil ?_
        refine Gs.then_n ?_
        refine Gs.cond_ff rfl (decide_eq_false (by omega)) ?_
        refine Gs.skip ?_
        refine Gs.then_n ?_
        refine Gs.seq ?_
        refine Gs.takes (As := [tre p1 A, tre p2 (delR A r.key)]) (by repeat constructor) (Gs.toTwo ?_)
        refine Gs.reg ?_
        refine Go.Sl.L.pu rfl rfl trivial (pu_move rfl) ?_
        refine Go.Sl.L.pu rfl rfl trivial (pu_move rfl) ?_
        refine Go.Sl.L.pu rfl rfl trivial (pu_move rfl) ?_
        refine Go.Sl.L.ac rfl rfl trivial (as_call (find_spec (TrR.own p1 A).left (TrR.own p2 (delR A r.key)).right N hN8) (by repeat constructor) (by repeat constructor)) ?_
        rintro _ _ ⟨_, ⟨fa, fc, rfl, rfl⟩, rfl⟩
        refine Go.Sl.L.pu rfl rfl trivial (pu_move rfl) ?_
        refine Go.Sl.L.pu rfl rfl trivial (pu_extract rfl rfl) ?_
        refine Go.Sl.L.pu rfl rfl trivial (pu_extract rfl rfl) ?_
        refine Go.Sl.L.pu rfl rfl trivial (pu_assign rfl) ?_
        refine Go.Sl.L.pu rfl rfl trivial (pu_assign rfl) ?_
        refine Go.Sl.L.nil ?_
        refine Gs.then_n ?_
        refine Gs.seq ?_
        refine Gs.seq ?_
        refine Gs.reg ?_
        refine Go.Sl.L.pu rfl rfl trivial (pu_move rfl) ?_
        refine Go.Sl.L.pu rfl rfl trivial (pu_move rfl) ?_
        refine Go.Sl.L.pu rfl rfl trivial (pu_move rfl) ?_
        refine Go.Sl.L.ac rfl rfl trivial (as_call (clashN_spec (S := two (tre p1 A) (tre p2 (delR A r.key))) (TrR.own p1 A).left (TrR.own p2 (delR A r.key)).right N hN8) (by repeat constructor) (by repeat constructor)) ?_
        rintro _ _ ⟨_, ⟨rfl, rfl⟩, rfl⟩
        refine Go.Sl.L.nil ?_
        refine Gs.then_n ?_
        refine Gs.cond rfl (fun hc4 => ?_) (fun hc4 => ?_)
        · skip
          refine Gs.seq ?_
          refine Gs.reg ?_
          refine Go.Sl.L.ac rfl rfl trivial (as_call (awake_spec T) (by repeat constructor) (by repeat constructor)) ?_
          rintro _ _ ⟨_, ⟨rfl, rfl⟩, rfl⟩
          refine Go.Sl.L.pu rfl rfl trivial (pu_assign rfl) ?_
          refine Go.Sl.L.nil ?_
          refine Gs.then_n ?_
          refine Gs.ret ?_
          refine Gs.then_r ?_
          exact Gs.fin1 Tryd.results6 rfl _ (⟨rfl, rfl⟩) (by repeat constructor)
        · skip
          obtain ⟨hf1, hf2⟩ := one_found hA hlk hN8 hc4
          refine Gs.skip ?_
          refine Gs.then_n ?_
          refine Gs.seq ?_
          refine Gs.seq ?_
          refine Gs.reg ?_
          refine Go.Sl.L.pu rfl rfl trivial (pu_fa fa_38_0 rfl) ?_
          refine Go.Sl.L.rd rfl rfl trivial (rd_ld na_3 rfl (Rdc.cl1 (by repeat constructor) rfl)) ?_
          refine Go.Sl.L.pu rfl rfl trivial (pu_move rfl) ?_
          refine Go.Sl.L.pu rfl rfl trivial (pu_ge rfl rfl) ?_
          refine Go.Sl.L.nil ?_
          refine Gs.then_n ?_
          refine Gs.cond rfl (fun hc5 => ?_) (fun hc5 => ?_)
          · skip
            have hno := hf1 (of_decide_eq_true hc5)
            rw [askN_none hN8 hno, hno]
            refine Gs.seq ?_
            refine Gs.reg ?_
            refine Go.Sl.L.pu rfl rfl trivial (pu_move rfl) ?_
            refine Go.Sl.L.pu rfl rfl trivial (pu_len Tryd.underlying30 rfl) ?_
            refine Go.Sl.L.pu rfl rfl trivial (pu_eq rfl rfl) ?_
            refine Go.Sl.L.puBt rfl rfl trivial (pu_move rfl) rfl ?_
            refine Go.Sl.L.pu rfl rfl ⟨_, rfl, rfl⟩ (pu_move rfl) ?_
            refine Go.Sl.L.pu rfl rfl ⟨_, rfl, rfl⟩ (pu_move rfl) ?_
            refine Go.Sl.L.pu rfl rfl ⟨_, rfl, rfl⟩ (pu_eq rfl rfl) ?_
            refine Go.Sl.L.pu rfl rfl trivial (by first | exact pu_pick_t rfl rfl | exact pu_pick_f rfl rfl) ?_
            refine Go.Sl.L.puBt rfl rfl trivial (pu_move rfl) (decide_eq_true rfl) ?_
            refine Go.Sl.L.ac rfl rfl ⟨_, rfl, rfl⟩ (as_call (awake_spec T) (by repeat constructor) (by repeat constructor)) ?_
            rintro _ _ ⟨_, ⟨rfl, rfl⟩, rfl⟩
            refine Go.Sl.L.pu rfl rfl trivial (by first | exact pu_pick_t rfl rfl | exact pu_pick_f rfl rfl) ?_
            refine Go.Sl.L.pu rfl rfl trivial (pu_assign rfl) ?_
            refine Go.Sl.L.nil ?_
            refine Gs.then_n ?_
            refine Gs.ret ?_
            refine Gs.then_r ?_
            exact Gs.fin1 Tryd.results6 rfl _ (⟨rfl, rfl⟩) (by repeat constructor)
          · skip
            obtain ⟨hy1, hy2⟩ := hf2 (by have := of_decide_eq_false hc5; show r.o < (N : Int); omega)
            rw [hy1, hy2]
            refine Gs.skip ?_
            refine Gs.then_n ?_
            refine Gs.seq ?_
            refine Gs.reg ?_
            refine Go.Sl.L.pu rfl rfl trivial (pu_move rfl) ?_
            refine Go.Sl.L.rd rfl rfl trivial (rd_lda ag_38 rfl (Rdc.cl 2 (by repeat constructor) rfl) rfl) ?_
            refine Go.Sl.L.ac rfl rfl trivial (ac_lit encC_38 ([r.key]) et_30 ek_38 rfl (by repeat constructor) rfl rfl (by decide)) ?_
            rintro _ _ ⟨a90, rfl, rfl⟩
            refine Go.Sl.L.ac rfl rfl trivial (as_call (sameKeys_spec (S := sl 38 2 keyC fa fc [r.key]) (U := sl 38 2 keyC (some ⟨a90, 0, none⟩) 1 [r.key]) (xs := [r.key]) (ys := [r.key]) Srd.own Srd.own (by simp)) (by repeat constructor) (by repeat constructor)) ?_
            rintro _ _ ⟨_, ⟨rfl, rfl⟩, rfl⟩
            refine Go.Sl.L.puBt rfl rfl trivial (pu_move rfl) (decide_eq_true rfl) ?_
            refine Go.Sl.L.pu rfl rfl ⟨_, rfl, rfl⟩ (pu_move rfl) ?_
            refine Go.Sl.L.pu rfl rfl ⟨_, rfl, rfl⟩ (pu_move rfl) ?_
            refine Go.Sl.L.pu rfl rfl ⟨_, rfl, rfl⟩ (pu_addI (z := ((N + 20 : Nat) : Int)) rfl rfl (by omega) (by omega) (by omega)) ?_
            refine Go.Sl.L.pu rfl rfl ⟨_, rfl, rfl⟩ (pu_eq rfl rfl) ?_
            refine Go.Sl.L.pu rfl rfl trivial (by first | exact pu_pick_t rfl rfl | exact pu_pick_f rfl rfl) ?_
            refine Go.Sl.L.puBt rfl rfl trivial (pu_move rfl) (decide_eq_true rfl) ?_
            refine Go.Sl.L.ac rfl rfl ⟨_, rfl, rfl⟩ (as_call (awake_spec T) (by repeat constructor) (by repeat constructor)) ?_
            rintro _ _ ⟨_, ⟨rfl, rfl⟩, rfl⟩
            refine Go.Sl.L.pu rfl rfl trivial (by first | exact pu_pick_t rfl rfl | exact pu_pick_f rfl rfl) ?_
            refine Go.Sl.L.pu rfl rfl trivial (pu_assign rfl) ?_
            refine Go.Sl.L.nil ?_
            refine Gs.then_n ?_
            refine Gs.ret ?_
            exact Gs.fin1 Tryd.results6 rfl _ (⟨rfl, rfl⟩) (by repeat constructor)
end Go.Proofs.YthlnjkfahmebjaaDoor
