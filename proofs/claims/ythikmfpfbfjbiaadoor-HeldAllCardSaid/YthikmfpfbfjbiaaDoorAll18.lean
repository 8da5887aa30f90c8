/- Walk: grapevinelaw18.HeldAll. -/
import Derived.Test.YthikmfpfbfjbiaaDoorLaw18
namespace Go.Proofs.YthikmfpfbfjbiaaDoor
open Go Go.Sl Go.Gv Go.Kv
set_option maxRecDepth 100000

/-- The records of the numbers a + 1 up to b. -/
def recs (a b : Nat) : List Rec := (List.range' (a + 1) (b - a)).map fun i : Nat => recN i
theorem recs_length (a b : Nat) : (recs a b).length = b - a := by simp [recs]
theorem recs_snoc (a b : Nat) (h : a ≤ b) : recs a (b + 1) = recs a b ++ [recN (b + 1 : Nat)] := by
  unfold recs
  rw [show b + 1 - a = (b - a) + 1 by omega, List.range'_concat, show a + 1 + 1 * (b - a) = b + 1 by omega, List.map_append]; rfl
theorem recs_cons (a b : Nat) (h : a < b) : recs a b = recN (a + 1 : Nat) :: recs (a + 1) b := by
  unfold recs
  rw [show b - a = (b - (a + 1)) + 1 by omega, List.range'_succ]; rfl
theorem recN_key {i j : Int} : (recN i).key = (recN j).key ↔ i = j := by simp [recN, Rec.key]
theorem look_recs {a b : Nat} {n : Nat} (h : n ≤ a ∨ b < n) : look (recs a b) (recN n).key = none := by
  unfold look; rw [List.find?_eq_none]
  intro r hr
  unfold recs at hr
  obtain ⟨j, hj, rfl⟩ := List.mem_map.1 hr
  rw [List.mem_range'_1] at hj
  simp only [decide_eq_true_eq, recN_key]
  omega
theorem del_recs {a b : Nat} {n : Nat} (h : n ≤ a ∨ b < n) : delL (recs a b) (recN n).key = recs a b := del_none (by rw [look_recs h]; rfl)
theorem look_hit {a b : Nat} (h : a < b) : look (recs a b) (recN (a + 1 : Nat)).key = some (recN (a + 1 : Nat)) := by
  rw [recs_cons a b h]; simp [look]
theorem del_hit {a b : Nat} (h : a < b) : delL (recs a b) (recN (a + 1 : Nat)).key = recs (a + 1) b := by
  have := del_recs (a := a + 1) (b := b) (n := a + 1) (.inl (Nat.le_refl _))
  rw [recs_cons a b h]
  unfold delL at *
  simp only [List.filter_cons]
  simpa using this
theorem recs_nil {a b : Nat} (h : b ≤ a) : recs a b = [] := by unfold recs; rw [show b - a = 0 by omega]; rfl
theorem heldAll_spec {h0 : Hp} (T : Tabs h0) (most0 many0 : Int) : Ct Tryd.prog 4 [int most0, int many0] [ro h0] (fun v hs => v = .bool true ∧ hs = [ro h0]) := by
  have hm1 := lowZ_in (a := most0) (b := 13) (by decide) (by decide)
  have hn1 := lowZ_in (a := many0) (b := 30) (by decide) (by decide)
  obtain ⟨M, hM⟩ : ∃ M : Nat, lowZ most0 13 = M := ⟨(lowZ most0 13).toNat, by omega⟩
  obtain ⟨N, hN⟩ : ∃ N : Nat, lowZ many0 30 = N := ⟨(lowZ many0 30).toNat, by omega⟩
  rw [hM] at hm1; rw [hN] at hn1
  refine Ct.intro Tryd.func4 rfl (by kernel_rfl) 121 Tryd.ntmps4 (Nat.le_of_ble_eq_true rfl) fun w0 R => ?_
  refine Gs.seq ?_
  refine Gs.reg ?_
  refine Go.Sl.L.pu rfl rfl trivial (pu_assign rfl) ?_
  refine Go.Sl.L.nil ?_
  refine Gs.then_n ?_
  refine Gs.seq ?_
  refine Gs.reg ?_
  refine Go.Sl.L.pu rfl rfl trivial (pu_move rfl) ?_
  refine Go.Sl.L.ac rfl rfl trivial (as_call (low_spec most0 13 (by decide) (by decide)) (by repeat constructor) (by repeat constructor)) ?_
  rintro _ _ ⟨_, ⟨rfl, rfl⟩, rfl⟩
  rw [hM]
  refine Go.Sl.L.pu rfl rfl trivial (pu_move rfl) ?_
  refine Go.Sl.L.ac rfl rfl trivial (as_call (low_spec many0 30 (by decide) (by decide)) (by repeat constructor) (by repeat constructor)) ?_
  rintro _ _ ⟨_, ⟨rfl, rfl⟩, rfl⟩
  rw [hN]
  refine Go.Sl.L.pu rfl rfl trivial (pu_assign rfl) ?_
  refine Go.Sl.L.pu rfl rfl trivial (pu_assign rfl) ?_
  refine Go.Sl.L.nil ?_
  refine Gs.then_n ?_
  refine Gs.seq ?_
  refine Gs.reg ?_
  refine Go.Sl.L.pu rfl rfl trivial (pu_move rfl) ?_
  refine Go.Sl.L.ac rfl rfl trivial (as_call (new_ok M (by omega) (by omega)) (by repeat constructor) (by repeat constructor)) ?_
  rintro _ _ ⟨_, ⟨b, m, rfl, rfl⟩, rfl⟩
  rw [show ([] : List Rec) = recs 0 (min 0 M) by rw [recs_nil (by omega)]]
  refine Go.Sl.L.pu rfl rfl trivial (pu_assign rfl) ?_
  refine Go.Sl.L.nil ?_
  refine Gs.then_n ?_
  refine Gs.seq ?_
  refine Gs.seq ?_
  refine Gs.reg ?_
  refine Go.Sl.L.pu rfl rfl trivial (pu_move rfl) ?_
  refine Go.Sl.L.pu rfl rfl trivial (pu_eqN Tryd.underlying33 rfl rfl) ?_
  refine Go.Sl.L.nil ?_
  refine Gs.then_n ?_
  refine Gs.cond_f rfl ?_
  refine Gs.skip ?_
  refine Gs.then_n ?_
  refine Gs.seq ?_
  refine Gs.seq ?_
  refine Gs.reg ?_
  refine Go.Sl.L.pu rfl rfl trivial (pu_assign rfl) ?_
  refine Go.Sl.L.nil ?_
  refine Gs.then_n ?_
  refine Gs.block ?_
  refine Gs.loop1 (fun i : Nat => i ≤ N) (fun i => [(0, int M), (1, int N), (5, ptr b), (6, int (i + 1 : Nat))]) (fun i => [ro h0, cl b 61 (heldC M m), mp keyV recV m (ents (recs 0 (min i M)))] ++ R) (fun i => N - i) 0 (Nat.zero_le _) (by repeat constructor) (by repeat constructor) (fun i hi => ?_)
  refine Gs.seq ?_
  refine Gs.seq ?_
  refine Gs.reg ?_
  refine Go.Sl.L.pu rfl rfl trivial (pu_move rfl) ?_
  refine Go.Sl.L.pu rfl rfl trivial (pu_move rfl) ?_
  refine Go.Sl.L.pu rfl rfl trivial (pu_le rfl rfl) ?_
  refine Go.Sl.L.nil ?_
  refine Gs.then_n ?_
  refine Gs.cond rfl (fun hc1 => ?_) (fun hc1 => ?_)
  · skip
    have hlt : i < N := by have := of_decide_eq_true hc1; omega
    have hlen := recs_length 0 (min i M)
    refine Gs.skip ?_
    refine Gs.then_n ?_
    refine Gs.seq ?_
    refine Gs.block ?_
    refine Gs.seq ?_
    refine Gs.reg ?_
    refine Go.Sl.L.pu rfl rfl trivial (pu_assign rfl) ?_
    refine Go.Sl.L.nil ?_
    refine Gs.then_n ?_
    refine Gs.seq ?_
    refine Gs.seq ?_
    refine Gs.reg ?_
    refine Go.Sl.L.pu rfl rfl trivial (pu_move rfl) ?_
    refine Go.Sl.L.pu rfl rfl trivial (pu_move rfl) ?_
    refine Go.Sl.L.pu rfl rfl trivial (pu_gt rfl rfl) ?_
    refine Go.Sl.L.nil ?_
    refine Gs.then_n ?_
    refine Gs.cond rfl (fun hc2 => ?_) (fun hc2 => ?_)
    · skip
      have hgt : M < i + 1 := by have := of_decide_eq_true hc2; omega
      have e0 : look (recs 0 (min i M)) (recN (i + 1 : Nat)).key = none := look_recs (by omega)
      have e1 : putE M (recs 0 (min i M)) (recN (i + 1 : Nat)) = 9 := putE_full (recN_ok (by omega) (by omega)) e0 (by omega)
      have e2 : putL M (recs 0 (min i M)) (recN (i + 1 : Nat)) = recs 0 (min (i + 1) M) := by
        unfold putL; rw [e1, if_neg (by decide)]; congr 1; omega
      refine Gs.reg ?_
      refine Go.Sl.L.pu rfl rfl trivial (pu_assign rfl) ?_
      refine Go.Sl.L.nil ?_
      refine Gs.then_n ?_
      refine Gs.seq ?_
      refine Gs.reg ?_
      refine Go.Sl.L.pu rfl rfl trivial (pu_move rfl) ?_
      refine Go.Sl.L.pu rfl rfl trivial (pu_move rfl) ?_
      refine Go.Sl.L.ac rfl rfl trivial (as_call (rec_spec _) (by repeat constructor) (by repeat constructor)) ?_
      rintro _ _ ⟨_, ⟨rfl, rfl⟩, rfl⟩
      refine Go.Sl.L.ac rfl rfl trivial (as_call (put_spec T b m M (recs 0 (min i M)) (recN (i + 1 : Nat))) (by repeat constructor) (by repeat constructor)) ?_
      rintro _ _ ⟨_, ⟨rfl, rfl⟩, rfl⟩
      rw [e1, e2]
      refine Go.Sl.L.pu rfl rfl trivial (pu_move rfl) ?_
      refine Go.Sl.L.pu rfl rfl trivial (pu_ne rfl rfl) ?_
      refine Go.Sl.L.puBf rfl rfl trivial (pu_move rfl) rfl ?_
      refine Go.Sl.L.pu rfl rfl ⟨_, rfl, rfl⟩ (pu_move rfl) ?_
      refine Go.Sl.L.ac rfl rfl ⟨_, rfl, rfl⟩ (as_call (len_spec b m M (recs 0 (min (i + 1) M))) (by repeat constructor) (by repeat constructor)) ?_
      rintro _ _ ⟨_, ⟨rfl, rfl⟩, rfl⟩
      refine Go.Sl.L.pu rfl rfl ⟨_, rfl, rfl⟩ (pu_move rfl) ?_
      refine Go.Sl.L.pu rfl rfl ⟨_, rfl, rfl⟩ (pu_gt rfl rfl) ?_
      refine Go.Sl.L.pu rfl rfl trivial (by first | exact pu_pick_t rfl rfl | exact pu_pick_f rfl rfl) ?_
      refine Go.Sl.L.nil ?_
      refine Gs.then_n ?_
      refine Gs.cond_ff rfl (decide_eq_false (by have := recs_length 0 (min (i + 1) M); omega)) ?_
      refine Gs.skip ?_
      refine Gs.blk_n ?_
      refine Gs.then_n ?_
      refine Gs.reg ?_
      refine Go.Sl.L.pu rfl rfl trivial (pu_move rfl) ?_
      refine Go.Sl.L.pu rfl rfl trivial (by first | exact pu_addI rfl rfl rfl (by omega) (by omega) | exact pu_add rfl rfl) ?_
      refine Go.Sl.L.pu rfl rfl trivial (pu_assign rfl) ?_
      refine Go.Sl.L.nil ?_
      refine Gs.then_n ?_
      exact Gs.again1 (i + 1) (by omega) (by omega) (by repeat constructor) (by repeat constructor)
    · skip
      have hgt : ¬ M < i + 1 := by have := of_decide_eq_false hc2; omega
      have e0 : look (recs 0 (min i M)) (recN (i + 1 : Nat)).key = none := look_recs (by omega)
      have e1 : putE M (recs 0 (min i M)) (recN (i + 1 : Nat)) = 0 := putE_ok (recN_ok (by omega) (by omega)) e0 (by omega)
      have e2 : putL M (recs 0 (min i M)) (recN (i + 1 : Nat)) = recs 0 (min (i + 1) M) := by
        unfold putL; rw [e1, if_pos rfl, show min (i + 1) M = i + 1 by omega, show min i M = i by omega, recs_snoc 0 i (by omega)]
      refine Gs.skip ?_
      refine Gs.then_n ?_
      refine Gs.seq ?_
      refine Gs.reg ?_
      refine Go.Sl.L.pu rfl rfl trivial (pu_move rfl) ?_
      refine Go.Sl.L.pu rfl rfl trivial (pu_move rfl) ?_
      refine Go.Sl.L.ac rfl rfl trivial (as_call (rec_spec _) (by repeat constructor) (by repeat constructor)) ?_
      rintro _ _ ⟨_, ⟨rfl, rfl⟩, rfl⟩
      refine Go.Sl.L.ac rfl rfl trivial (as_call (put_spec T b m M (recs 0 (min i M)) (recN (i + 1 : Nat))) (by repeat constructor) (by repeat constructor)) ?_
      rintro _ _ ⟨_, ⟨rfl, rfl⟩, rfl⟩
      rw [e1, e2]
      refine Go.Sl.L.pu rfl rfl trivial (pu_move rfl) ?_
      refine Go.Sl.L.pu rfl rfl trivial (pu_ne rfl rfl) ?_
      refine Go.Sl.L.puBf rfl rfl trivial (pu_move rfl) rfl ?_
      refine Go.Sl.L.pu rfl rfl ⟨_, rfl, rfl⟩ (pu_move rfl) ?_
      refine Go.Sl.L.ac rfl rfl ⟨_, rfl, rfl⟩ (as_call (len_spec b m M (recs 0 (min (i + 1) M))) (by repeat constructor) (by repeat constructor)) ?_
      rintro _ _ ⟨_, ⟨rfl, rfl⟩, rfl⟩
      refine Go.Sl.L.pu rfl rfl ⟨_, rfl, rfl⟩ (pu_move rfl) ?_
      refine Go.Sl.L.pu rfl rfl ⟨_, rfl, rfl⟩ (pu_gt rfl rfl) ?_
      refine Go.Sl.L.pu rfl rfl trivial (by first | exact pu_pick_t rfl rfl | exact pu_pick_f rfl rfl) ?_
      refine Go.Sl.L.nil ?_
      refine Gs.then_n ?_
      refine Gs.cond_ff rfl (decide_eq_false (by have := recs_length 0 (min (i + 1) M); omega)) ?_
      refine Gs.skip ?_
      refine Gs.blk_n ?_
      refine Gs.then_n ?_
      refine Gs.reg ?_
      refine Go.Sl.L.pu rfl rfl trivial (pu_move rfl) ?_
      refine Go.Sl.L.pu rfl rfl trivial (by first | exact pu_addI rfl rfl rfl (by omega) (by omega) | exact pu_add rfl rfl) ?_
      refine Go.Sl.L.pu rfl rfl trivial (pu_assign rfl) ?_
      refine Go.Sl.L.nil ?_
      refine Gs.then_n ?_
      exact Gs.again1 (i + 1) (by omega) (by omega) (by repeat constructor) (by repeat constructor)
  · skip
    have hge : i = N := by have := of_decide_eq_false hc1; omega
    subst hge
    refine Gs.exit ?_
    refine Gs.then_x ?_
    refine Gs.then_x ?_
    refine Gs.blk_hit ?_
    refine Gs.then_n ?_
    refine Gs.seq ?_
    refine Gs.seq ?_
    refine Gs.reg ?_
    refine Go.Sl.L.pu rfl rfl trivial (pu_assign rfl) ?_
    refine Go.Sl.L.nil ?_
    refine Gs.then_n ?_
    refine Gs.block ?_
    refine Gs.loop1 (fun j : Nat => j ≤ i) (fun j => [(0, int M), (1, int i), (5, ptr b), (8, int (j + 1 : Nat))]) (fun j => [ro h0, cl b 61 (heldC M m), mp keyV recV m (ents (recs j (min i M)))] ++ R) (fun j => i - j) 0 (Nat.zero_le _) (by repeat constructor) (by repeat constructor) (fun j hj => ?_)
    refine Gs.seq ?_
    refine Gs.seq ?_
    refine Gs.reg ?_
    refine Go.Sl.L.pu rfl rfl trivial (pu_move rfl) ?_
    refine Go.Sl.L.pu rfl rfl trivial (pu_move rfl) ?_
    refine Go.Sl.L.pu rfl rfl trivial (pu_le rfl rfl) ?_
    refine Go.Sl.L.nil ?_
    refine Gs.then_n ?_
    refine Gs.cond rfl (fun hc4 => ?_) (fun hc4 => ?_)
    · skip
      have hlt : j < i := by have := of_decide_eq_true hc4; omega
      obtain ⟨x, hx, hxs⟩ : ∃ x, look (recs j (min i M)) (recN (j + 1 : Nat)).key = x ∧ ((x = some (recN (j + 1 : Nat)) ∧ j + 1 ≤ M) ∨ (x = none ∧ M < j + 1)) := by
        by_cases h : j < min i M
        · exact ⟨_, look_hit h, .inl ⟨rfl, by omega⟩⟩
        · exact ⟨_, look_recs (by omega), .inr ⟨rfl, by omega⟩⟩
      have hd : delL (recs j (min i M)) (recN (j + 1 : Nat)).key = recs (j + 1) (min i M) := by
        by_cases h : j < min i M
        · exact del_hit h
        · rw [del_recs (by omega), recs_nil (by omega), recs_nil (by omega)]
      have hd2 : delL (recs (j + 1) (min i M)) (recN (j + 1 : Nat)).key = recs (j + 1) (min i M) := del_recs (.inl (Nat.le_refl _))
      have hl2 : look (recs (j + 1) (min i M)) (recN (j + 1 : Nat)).key = none := look_recs (.inl (Nat.le_refl _))
      refine Gs.skip ?_
      refine Gs.then_n ?_
      refine Gs.seq ?_
      refine Gs.block ?_
      refine Gs.seq ?_
      refine Gs.reg ?_
      refine Go.Sl.L.pu rfl rfl trivial (pu_move rfl) ?_
      refine Go.Sl.L.pu rfl rfl trivial (pu_move rfl) ?_
      refine Go.Sl.L.ac rfl rfl trivial (as_call (rec_spec _) (by repeat constructor) (by repeat constructor)) ?_
      rintro _ _ ⟨_, ⟨rfl, rfl⟩, rfl⟩
      refine Go.Sl.L.pu rfl rfl trivial (pu_fg fg_29_0 rfl rfl) ?_
      refine Go.Sl.L.ac rfl rfl trivial (as_call (next_spec b m M (recs j (min i M)) (recN (j + 1 : Nat)).key) (by repeat constructor) (by repeat constructor)) ?_
      rintro _ _ ⟨_, ⟨rfl, rfl⟩, rfl⟩
      rw [hx, hd]
      refine Go.Sl.L.pu rfl rfl trivial (pu_move rfl) ?_
      refine Go.Sl.L.pu rfl rfl trivial (pu_extract rfl rfl) ?_
      refine Go.Sl.L.pu rfl rfl trivial (pu_extract rfl rfl) ?_
      refine Go.Sl.L.ac rfl rfl trivial (ac_alloc zv_29 rfl) ?_
      rintro _ _ ⟨b9, rfl, rfl⟩
      refine Go.Sl.L.ac0 rfl trivial (ac_st sz_29 rfl rfl (by repeat constructor) rfl rfl rfl rfl) ?_
      rintro _ _ rfl
      refine Go.Sl.L.pu rfl rfl trivial (pu_assign rfl) ?_
      refine Go.Sl.L.nil ?_
      refine Gs.then_n ?_
      refine Gs.seq ?_
      refine Gs.reg ?_
      refine Go.Sl.L.pu rfl rfl trivial (pu_move rfl) ?_
      refine Go.Sl.L.pu rfl rfl trivial (pu_move rfl) ?_
      refine Go.Sl.L.ac rfl rfl trivial (as_call (rec_spec _) (by repeat constructor) (by repeat constructor)) ?_
      rintro _ _ ⟨_, ⟨rfl, rfl⟩, rfl⟩
      refine Go.Sl.L.pu rfl rfl trivial (pu_fg fg_29_0 rfl rfl) ?_
      refine Go.Sl.L.ac rfl rfl trivial (as_call (next_spec b m M (recs (j + 1) (min i M)) (recN (j + 1 : Nat)).key) (by repeat constructor) (by repeat constructor)) ?_
      rintro _ _ ⟨_, ⟨rfl, rfl⟩, rfl⟩
      rw [hl2, hd2]
      refine Go.Sl.L.pu rfl rfl trivial (pu_move rfl) ?_
      refine Go.Sl.L.pu rfl rfl trivial (pu_extract rfl rfl) ?_
      refine Go.Sl.L.pu rfl rfl trivial (pu_extract rfl rfl) ?_
      refine Go.Sl.L.ac rfl rfl trivial (ac_alloc zv_29 rfl) ?_
      rintro _ _ ⟨b11, rfl, rfl⟩
      refine Go.Sl.L.ac0 rfl trivial (ac_st sz_29 rfl rfl (by repeat constructor) rfl rfl rfl rfl) ?_
      rintro _ _ rfl
      refine Go.Sl.L.pu rfl rfl trivial (pu_assign rfl) ?_
      refine Go.Sl.L.nil ?_
      refine Gs.then_n ?_
      refine Gs.seq ?_
      refine Gs.regD mixed (by kernel_rfl) ?_
      refine Rg.pu 0 rfl rfl (by kernel_rfl) trivial (pu_move rfl) ?_
      refine Rg.pu 1 rfl rfl (by kernel_rfl) trivial (pu_move rfl) ?_
      refine Rg.pu 2 rfl rfl (by kernel_rfl) trivial (pu_move rfl) ?_
      refine Rg.pu 3 rfl rfl (by kernel_rfl) trivial (pu_le rfl rfl) ?_
      refine Rg.pu 4 rfl rfl (by kernel_rfl) trivial (pu_neB Tryd.underlying4 rfl rfl) ?_
      refine Rg.puBf 5 rfl rfl (by kernel_rfl) trivial (pu_move rfl) (by rcases hxs with ⟨rfl, h⟩ | ⟨rfl, h⟩ <;> simp <;> omega) ?_
      refine Rg.pu 6 rfl rfl (by kernel_rfl) ⟨_, rfl, rfl⟩ (pu_move rfl) ?_
      refine Rg.puB 7 rfl rfl (by kernel_rfl) ⟨_, rfl, rfl⟩ (pu_move rfl) (fun hg7 => ?_) (fun hg7 => ?_)
      · skip
        obtain rfl : x = some (recN (j + 1 : Nat)) := by
          rcases hxs with ⟨h, -⟩ | ⟨h, -⟩
          · exact h
          · rw [h] at hg7; cases hg7
        refine Rg.rd 8 rfl rfl (by kernel_rfl) ⟨_, rfl, rfl⟩ (rd_lda ag_29 rfl (Rdc.cl 5 (by repeat constructor) rfl) rfl) ?_
        refine Rg.pu 9 rfl rfl (by kernel_rfl) ⟨_, rfl, rfl⟩ (pu_move rfl) ?_
        refine Rg.one (by kernel_rfl) (Stp.acR 10 [8] rfl rfl (by kernel_rfl) ⟨_, rfl, rfl⟩ (as_call (rec_spec _) (by repeat constructor) (by repeat constructor)) (by rintro _ _ ⟨_, ⟨rfl, rfl⟩, rfl⟩; exact (Reads.cons rfl rfl rfl ⟨_, rfl, rfl⟩ rfl (rd_lda ag_29 rfl (Rdc.cl 5 (by repeat constructor) rfl) rfl) Reads.nil)) ?_)
        rintro _ _ ⟨_, ⟨rfl, rfl⟩, rfl⟩
        refine Rg.pu 11 rfl rfl (by kernel_rfl) ⟨_, rfl, rfl⟩ (pu_neT (a := recN (j + 1 : Nat)) (b := recN (j + 1 : Nat)) cmp_29 (by decide) Tryd.eqGuardType29 rfl rfl) ?_
        refine Rg.pu 12 rfl rfl (by kernel_rfl) ⟨_, rfl, rfl⟩ (by first | exact pu_pick_t rfl rfl | exact pu_pick_f rfl rfl) ?_
        refine Rg.pu 13 rfl rfl (by kernel_rfl) trivial (by first | exact pu_pick_t rfl rfl | exact pu_pick_f rfl rfl) ?_
        refine Rg.puBf 14 rfl rfl (by kernel_rfl) trivial (pu_move rfl) (by simp) ?_
        refine Rg.pu 15 rfl rfl (by kernel_rfl) ⟨_, rfl, rfl⟩ (pu_move rfl) ?_
        refine Rg.pu 16 rfl rfl (by kernel_rfl) trivial (by first | exact pu_pick_t rfl rfl | exact pu_pick_f rfl rfl) ?_
        refine Rg.end (by kernel_rfl) ?_
        refine Gs.then_n ?_
        refine Gs.cond_ff rfl rfl ?_
        refine Gs.skip ?_
        refine Gs.blk_n ?_
        refine Gs.then_n ?_
        refine Gs.reg ?_
        refine Go.Sl.L.pu rfl rfl trivial (pu_move rfl) ?_
        refine Go.Sl.L.pu rfl rfl trivial (by first | exact pu_addI rfl rfl rfl (by omega) (by omega) | exact pu_add rfl rfl) ?_
        refine Go.Sl.L.pu rfl rfl trivial (pu_assign rfl) ?_
        refine Go.Sl.L.nil ?_
        refine Gs.then_n ?_
        exact Gs.again1 (j + 1) (by omega) (by omega) (by repeat constructor) (by repeat constructor)
      · skip
        refine Rg.off 8 rfl rfl (by kernel_rfl) rfl rfl rfl rfl ?_
        refine Rg.off 9 rfl rfl (by kernel_rfl) rfl rfl rfl rfl ?_
        refine Rg.off 10 rfl rfl (by kernel_rfl) rfl rfl rfl rfl ?_
        refine Rg.off 11 rfl rfl (by kernel_rfl) rfl rfl rfl rfl ?_
        refine Rg.pu 12 rfl rfl (by kernel_rfl) ⟨_, rfl, rfl⟩ (by first | exact pu_pick_t rfl rfl | exact pu_pick_f rfl rfl) ?_
        refine Rg.pu 13 rfl rfl (by kernel_rfl) trivial (by first | exact pu_pick_t rfl rfl | exact pu_pick_f rfl rfl) ?_
        refine Rg.puBf 14 rfl rfl (by kernel_rfl) trivial (pu_move rfl) (by simp) ?_
        refine Rg.pu 15 rfl rfl (by kernel_rfl) ⟨_, rfl, rfl⟩ (pu_move rfl) ?_
        refine Rg.pu 16 rfl rfl (by kernel_rfl) trivial (by first | exact pu_pick_t rfl rfl | exact pu_pick_f rfl rfl) ?_
        refine Rg.end (by kernel_rfl) ?_
        refine Gs.then_n ?_
        refine Gs.cond_ff rfl rfl ?_
        refine Gs.skip ?_
        refine Gs.blk_n ?_
        refine Gs.then_n ?_
        refine Gs.reg ?_
        refine Go.Sl.L.pu rfl rfl trivial (pu_move rfl) ?_
        refine Go.Sl.L.pu rfl rfl trivial (by first | exact pu_addI rfl rfl rfl (by omega) (by omega) | exact pu_add rfl rfl) ?_
        refine Go.Sl.L.pu rfl rfl trivial (pu_assign rfl) ?_
        refine Go.Sl.L.nil ?_
        refine Gs.then_n ?_
        exact Gs.again1 (j + 1) (by omega) (by omega) (by repeat constructor) (by repeat constructor)
    · skip
      have hge : j = i := by have := of_decide_eq_false hc4; omega
      have hnil : recs j (min i M) = [] := recs_nil (by omega)
      rw [hnil]
      refine Gs.exit ?_
      refine Gs.then_x ?_
      refine Gs.then_x ?_
      refine Gs.blk_hit ?_
      refine Gs.then_n ?_
      refine Gs.seq ?_
      refine Gs.reg ?_
      refine Go.Sl.L.pu rfl rfl trivial (pu_assign rfl) ?_
      refine Go.Sl.L.nil ?_
      refine Gs.then_n ?_
      refine Gs.seq ?_
      refine Gs.reg ?_
      refine Go.Sl.L.pu rfl rfl trivial (pu_move rfl) ?_
      refine Go.Sl.L.ac rfl rfl trivial (as_call (rec_spec _) (by repeat constructor) (by repeat constructor)) ?_
      rintro _ _ ⟨_, ⟨rfl, rfl⟩, rfl⟩
      refine Go.Sl.L.pu rfl rfl trivial (pu_fg fg_29_0 rfl rfl) ?_
      refine Go.Sl.L.ac rfl rfl trivial (as_call (nextNil_spec (recN 1).key) (by repeat constructor) (by repeat constructor)) ?_
      rintro _ _ ⟨_, ⟨rfl, rfl⟩, rfl⟩
      refine Go.Sl.L.pu rfl rfl trivial (pu_move rfl) ?_
      refine Go.Sl.L.pu rfl rfl trivial (pu_extract rfl rfl) ?_
      refine Go.Sl.L.pu rfl rfl trivial (pu_extract rfl rfl) ?_
      refine Go.Sl.L.ac rfl rfl trivial (ac_alloc zv_29 rfl) ?_
      rintro _ _ ⟨b14, rfl, rfl⟩
      refine Go.Sl.L.ac0 rfl trivial (ac_st sz_29 rfl rfl (by repeat constructor) rfl rfl rfl rfl) ?_
      rintro _ _ rfl
      refine Go.Sl.L.pu rfl rfl trivial (pu_assign rfl) ?_
      refine Go.Sl.L.nil ?_
      refine Gs.then_n ?_
      refine Gs.seq ?_
      refine Gs.reg ?_
      refine Go.Sl.L.pu rfl rfl trivial (pu_move rfl) ?_
      refine Go.Sl.L.ac rfl rfl trivial (as_call (len_spec b m M []) (by repeat constructor) (by repeat constructor)) ?_
      rintro _ _ ⟨_, ⟨rfl, rfl⟩, rfl⟩
      refine Go.Sl.L.pu rfl rfl trivial (pu_eq rfl rfl) ?_
      refine Go.Sl.L.puBt rfl rfl trivial (pu_move rfl) rfl ?_
      refine Go.Sl.L.pu rfl rfl ⟨_, rfl, rfl⟩ (pu_move rfl) ?_
      refine Go.Sl.L.ac rfl rfl ⟨_, rfl, rfl⟩ (as_call (rec_spec _) (by repeat constructor) (by repeat constructor)) ?_
      rintro _ _ ⟨_, ⟨rfl, rfl⟩, rfl⟩
      refine Go.Sl.L.ac rfl rfl ⟨_, rfl, rfl⟩ (as_call (putNil_spec (recN 1)) (by repeat constructor) (by repeat constructor)) ?_
      rintro _ _ ⟨_, ⟨rfl, rfl⟩, rfl⟩
      refine Go.Sl.L.pu rfl rfl ⟨_, rfl, rfl⟩ (pu_eq rfl rfl) ?_
      refine Go.Sl.L.pu rfl rfl trivial (by first | exact pu_pick_t rfl rfl | exact pu_pick_f rfl rfl) ?_
      refine Go.Sl.L.puBt rfl rfl trivial (pu_move rfl) rfl ?_
      refine Go.Sl.L.pu rfl rfl ⟨_, rfl, rfl⟩ (pu_move rfl) ?_
      refine Go.Sl.L.pu rfl rfl ⟨_, rfl, rfl⟩ (pu_not rfl) ?_
      refine Go.Sl.L.pu rfl rfl trivial (by first | exact pu_pick_t rfl rfl | exact pu_pick_f rfl rfl) ?_
      refine Go.Sl.L.puBt rfl rfl trivial (pu_move rfl) rfl ?_
      refine Go.Sl.L.pu rfl rfl ⟨_, rfl, rfl⟩ (pu_move rfl) ?_
      refine Go.Sl.L.ac rfl rfl ⟨_, rfl, rfl⟩ (as_call (dropNil_spec) (by repeat constructor) (by repeat constructor)) ?_
      rintro _ _ ⟨_, ⟨rfl, rfl⟩, rfl⟩
      refine Go.Sl.L.pu rfl rfl ⟨_, rfl, rfl⟩ (pu_eq rfl rfl) ?_
      refine Go.Sl.L.pu rfl rfl trivial (by first | exact pu_pick_t rfl rfl | exact pu_pick_f rfl rfl) ?_
      refine Go.Sl.L.puBt rfl rfl trivial (pu_move rfl) rfl ?_
      refine Go.Sl.L.pu rfl rfl ⟨_, rfl, rfl⟩ (pu_move rfl) ?_
      refine Go.Sl.L.ac rfl rfl ⟨_, rfl, rfl⟩ (as_call (lenNil_spec) (by repeat constructor) (by repeat constructor)) ?_
      rintro _ _ ⟨_, ⟨rfl, rfl⟩, rfl⟩
      refine Go.Sl.L.pu rfl rfl ⟨_, rfl, rfl⟩ (pu_eq rfl rfl) ?_
      refine Go.Sl.L.pu rfl rfl trivial (by first | exact pu_pick_t rfl rfl | exact pu_pick_f rfl rfl) ?_
      refine Go.Sl.L.puBt rfl rfl trivial (pu_move rfl) rfl ?_
      refine Go.Sl.L.pu rfl rfl ⟨_, rfl, rfl⟩ (pu_move rfl) ?_
      refine Go.Sl.L.ac rfl rfl ⟨_, rfl, rfl⟩ (as_call (keysNil_spec) (by repeat constructor) (by repeat constructor)) ?_
      rintro _ _ ⟨_, ⟨rfl, rfl⟩, rfl⟩
      refine Go.Sl.L.pu rfl rfl ⟨_, rfl, rfl⟩ (pu_len Tryd.underlying48 rfl) ?_
      refine Go.Sl.L.pu rfl rfl ⟨_, rfl, rfl⟩ (pu_eq rfl rfl) ?_
      refine Go.Sl.L.pu rfl rfl trivial (by first | exact pu_pick_t rfl rfl | exact pu_pick_f rfl rfl) ?_
      refine Go.Sl.L.puBt rfl rfl trivial (pu_move rfl) rfl ?_
      refine Go.Sl.L.ac rfl rfl ⟨_, rfl, rfl⟩ (as_call (awake_spec T) (by repeat constructor) (by repeat constructor)) ?_
      rintro _ _ ⟨_, ⟨rfl, rfl⟩, rfl⟩
      refine Go.Sl.L.pu rfl rfl trivial (by first | exact pu_pick_t rfl rfl | exact pu_pick_f rfl rfl) ?_
      refine Go.Sl.L.pu rfl rfl trivial (pu_assign rfl) ?_
      refine Go.Sl.L.nil ?_
      refine Gs.then_n ?_
      refine Gs.ret ?_
      exact Gs.fin1 Tryd.results4 rfl _ (⟨rfl, rfl⟩) (by repeat constructor)
end Go.Proofs.YthikmfpfbfjbiaaDoor
