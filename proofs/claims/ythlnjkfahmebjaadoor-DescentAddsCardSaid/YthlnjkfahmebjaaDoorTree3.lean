/- Walks: tree.sum, Sum. -/
import Derived.Test.YthlnjkfahmebjaaDoorTree2
namespace Go.Proofs.YthlnjkfahmebjaaDoor
open Go Go.Sl Go.Gv Go.Kv
set_option maxRecDepth 100000
abbrev sums4 (L : List Rec) (o : Int) (k : Nat) (i : Int) (j : Nat) : List Int := (List.range j).map fun x : Nat => tsum L o k (4 * i + x)
theorem sums4_succ (L : List Rec) (o : Int) (k : Nat) (i : Int) (j : Nat) : sums4 L o k i (j + 1) = sums4 L o k i j ++ [tsum L o k (4 * i + j)] := by simp [sums4, List.range_succ]
theorem sums4_length (L : List Rec) (o : Int) (k : Nat) (i : Int) (j : Nat) : (sums4 L o k i j).length = j := by simp [sums4]
theorem inR_look {L : List Rec} {o i : Int} : cnt L o 0 i = 0 ↔ lookR L ⟨o, i⟩ = none := by
  unfold cnt
  rw [lookR_none, List.length_eq_zero_iff, List.filter_eq_nil_iff]
  simp only [inR, Int.pow_zero, Int.ediv_one, List.mem_map, Bool.and_eq_true, decide_eq_true_eq, Rec.key]
  constructor
  · rintro h ⟨r, hr, e⟩; exact h r hr ⟨congrArg Key.o e, congrArg Key.q e⟩
  · rintro h r hr ⟨e1, e2⟩; exact h ⟨r, hr, by rw [e1, e2]⟩
theorem tsum_zero {L : List Rec} {o i : Int} {k : Nat} (h : cnt L o k i = 0) : tsum L o k i = 0 := by
  cases k with
  | zero => simp only [tsum, inR_look.1 h]
  | succ k => simp only [tsum, h, if_true]
theorem sum_spec (b : Nat) (L : List Rec) (o : Int) : ∀ (k : Nat) (i : Int), k ≤ 5 → 0 ≤ i → (i + 1) * 4 ^ k ≤ 1024 →
    Ct Tryd.prog 54 [ptr b, int o, int (5 - (k : Int)), int i] [tre b L] (fun v hs => v = .int .u64 (tsum L o k i) ∧ hs = [tre b L]) := by
  intro k
  induction k with
  | zero =>
    intro i hk hi0 hi1
    refine Ct.intro Tryd.func54 rfl (by kernel_rfl) 52 Tryd.ntmps54 (Nat.le_of_ble_eq_true rfl) fun w0 R => ?_
    refine Gs.seq ?_
    refine Gs.reg ?_
    refine Go.Sl.L.pu rfl rfl trivial (pu_assign rfl) ?_
    refine Go.Sl.L.nil ?_
    refine Gs.then_n ?_
    refine Gs.seq ?_
    refine Gs.block ?_
    refine Gs.seq ?_
    refine Gs.treOpen (by repeat constructor) fun m1 m2 C hok hC => ?_
    refine Gs.reg ?_
    refine Go.Sl.L.pu rfl rfl trivial (pu_move rfl) ?_
    refine Go.Sl.L.pu rfl rfl trivial (by first | exact pu_nil rfl | exact pu_nilF rfl) ?_
    refine Go.Sl.L.pu rfl rfl trivial (pu_fa fa_80_1 rfl) ?_
    refine Go.Sl.L.rd rfl rfl trivial (rd_ld na_78 rfl (Rdc.cl1 (by repeat constructor) rfl)) ?_
    refine Go.Sl.L.pu rfl rfl trivial (pu_move rfl) ?_
    refine Go.Sl.L.pu rfl rfl trivial (pu_move rfl) ?_
    refine Go.Sl.L.pu rfl rfl trivial (pu_move rfl) ?_
    refine Go.Sl.L.pu rfl rfl trivial (pu_build bd_100 (by repeat constructor) rfl) ?_
    refine Go.Sl.L.rd rfl rfl trivial (rd_look1 (k := (⟨o, 5 - ((0 : Nat) : Int), i⟩ : Part)) Tryd.underlying78 kt_100 zvk_3 rfl rfl (by repeat constructor)) ?_
    rw [show (mget C (⟨o, 5 - ((0 : Nat) : Int), i⟩ : Part)).getD 0 = ((cnt L o 0 i : Nat) : Int) from hC o i 0 (by omega)]
    refine Go.Sl.L.pu rfl rfl trivial (pu_eq rfl rfl) ?_
    refine Go.Sl.L.pu rfl rfl trivial (pu_assign rfl) ?_
    refine Go.Sl.L.nil ?_
    refine Gs.then_n ?_
    refine Gs.cond rfl (fun hc0 => ?_) (fun hc0 => ?_)
    · skip
      have hz : cnt L o 0 i = 0 := by have := of_decide_eq_true hc0; omega
      refine Gs.seq ?_
      refine Gs.reg ?_
      refine Go.Sl.L.pu rfl rfl trivial (pu_assign rfl) ?_
      refine Go.Sl.L.nil ?_
      refine Gs.then_n ?_
      refine Gs.ret ?_
      refine Gs.blk_r ?_
      refine Gs.then_r ?_
      refine Gs.treClose (L := L) (C := C) (by repeat constructor) hok hC ?_
      exact Gs.fin1 Tryd.results54 rfl _ (⟨by rw [tsum_zero hz], rfl⟩) (by repeat constructor)
    · skip
      refine Gs.seq ?_
      refine Gs.reg ?_
      refine Go.Sl.L.pu rfl rfl trivial (pu_move rfl) ?_
      refine Go.Sl.L.pu rfl rfl trivial (pu_eq rfl rfl) ?_
      refine Go.Sl.L.pu rfl rfl trivial (pu_assign rfl) ?_
      refine Go.Sl.L.nil ?_
      refine Gs.then_n ?_
      refine Gs.cond_t rfl ?_
      refine Gs.seq ?_
      refine Gs.reg ?_
      refine Go.Sl.L.pu rfl rfl trivial (pu_move rfl) ?_
      refine Go.Sl.L.pu rfl rfl trivial (by first | exact pu_nil rfl | exact pu_nilF rfl) ?_
      refine Go.Sl.L.pu rfl rfl trivial (pu_fa fa_80_0 rfl) ?_
      refine Go.Sl.L.rd rfl rfl trivial (rd_ld na_77 rfl (Rdc.cl1 (by repeat constructor) rfl)) ?_
      refine Go.Sl.L.pu rfl rfl trivial (pu_move rfl) ?_
      refine Go.Sl.L.pu rfl rfl trivial (pu_move rfl) ?_
      refine Go.Sl.L.pu rfl rfl trivial (pu_build bd_38 (by repeat constructor) rfl) ?_
      refine Go.Sl.L.rd rfl rfl trivial (rd_look1 (k := (⟨o, i⟩ : Key)) Tryd.underlying77 kt_38 zvk_87 rfl rfl (by repeat constructor)) ?_
      rw [mget_lents]
      refine Go.Sl.L.pu rfl rfl trivial (pu_fn fn_87_1 rfl rfl) ?_
      refine Go.Sl.L.pu rfl rfl trivial (pu_assign rfl) ?_
      refine Go.Sl.L.nil ?_
      refine Gs.then_n ?_
      refine Gs.ret ?_
      refine Gs.blk_r ?_
      refine Gs.then_r ?_
      refine Gs.treClose (L := L) (C := C) (by repeat constructor) hok hC ?_
      exact Gs.fin1 Tryd.results54 rfl _ (⟨by simp only [tsum]; cases lookR L ⟨o, i⟩ <;> simp, rfl⟩) (by repeat constructor)
  | succ k ih =>
    intro i hk hi0 hi1
    have hp := pow_in (k := k) (by omega)
    have hib : i + 1 ≤ 256 := by
      have h1 : (4 : Int) ^ (k + 1) = 4 * 4 ^ k := by rw [Int.pow_succ]; exact Int.mul_comm ..
      have h2 : (i + 1) * 4 ≤ (i + 1) * 4 ^ (k + 1) := Int.mul_le_mul_of_nonneg_left (by omega) (by omega)
      omega
    refine Ct.intro Tryd.func54 rfl (by kernel_rfl) 52 Tryd.ntmps54 (Nat.le_of_ble_eq_true rfl) fun w0 R => ?_
    refine Gs.seq ?_
    refine Gs.reg ?_
    refine Go.Sl.L.pu rfl rfl trivial (pu_assign rfl) ?_
    refine Go.Sl.L.nil ?_
    refine Gs.then_n ?_
    refine Gs.seq ?_
    refine Gs.block ?_
    refine Gs.seq ?_
    refine Gs.treOpen (by repeat constructor) fun m1 m2 C hok hC => ?_
    refine Gs.reg ?_
    refine Go.Sl.L.pu rfl rfl trivial (pu_move rfl) ?_
    refine Go.Sl.L.pu rfl rfl trivial (by first | exact pu_nil rfl | exact pu_nilF rfl) ?_
    refine Go.Sl.L.pu rfl rfl trivial (pu_fa fa_80_1 rfl) ?_
    refine Go.Sl.L.rd rfl rfl trivial (rd_ld na_78 rfl (Rdc.cl1 (by repeat constructor) rfl)) ?_
    refine Go.Sl.L.pu rfl rfl trivial (pu_move rfl) ?_
    refine Go.Sl.L.pu rfl rfl trivial (pu_move rfl) ?_
    refine Go.Sl.L.pu rfl rfl trivial (pu_move rfl) ?_
    refine Go.Sl.L.pu rfl rfl trivial (pu_build bd_100 (by repeat constructor) rfl) ?_
    refine Go.Sl.L.rd rfl rfl trivial (rd_look1 (k := (⟨o, 5 - ((k + 1 : Nat) : Int), i⟩ : Part)) Tryd.underlying78 kt_100 zvk_3 rfl rfl (by repeat constructor)) ?_
    rw [show (mget C (⟨o, 5 - ((k + 1 : Nat) : Int), i⟩ : Part)).getD 0 = ((cnt L o (k + 1) i : Nat) : Int) from hC o i (k + 1) hk]
    refine Go.Sl.L.pu rfl rfl trivial (pu_eq rfl rfl) ?_
    refine Go.Sl.L.pu rfl rfl trivial (pu_assign rfl) ?_
    refine Go.Sl.L.nil ?_
    refine Gs.then_n ?_
    refine Gs.cond rfl (fun hc0 => ?_) (fun hc0 => ?_)
    · skip
      have hz : cnt L o (k + 1) i = 0 := by have := of_decide_eq_true hc0; omega
      refine Gs.seq ?_
      refine Gs.reg ?_
      refine Go.Sl.L.pu rfl rfl trivial (pu_assign rfl) ?_
      refine Go.Sl.L.nil ?_
      refine Gs.then_n ?_
      refine Gs.ret ?_
      refine Gs.blk_r ?_
      refine Gs.then_r ?_
      refine Gs.treClose (L := L) (C := C) (by repeat constructor) hok hC ?_
      exact Gs.fin1 Tryd.results54 rfl _ (⟨by rw [tsum_zero hz], rfl⟩) (by repeat constructor)
    · skip
      have hz : ¬ cnt L o (k + 1) i = 0 := by have := of_decide_eq_false hc0; omega
      refine Gs.seq ?_
      refine Gs.reg ?_
      refine Go.Sl.L.pu rfl rfl trivial (pu_move rfl) ?_
      refine Go.Sl.L.pu rfl rfl trivial (pu_eq rfl rfl) ?_
      refine Go.Sl.L.pu rfl rfl trivial (pu_assign rfl) ?_
      refine Go.Sl.L.nil ?_
      refine Gs.then_n ?_
      refine Gs.cond_ff rfl (decide_eq_false (by omega)) ?_
      refine Gs.skip ?_
      refine Gs.blk_n ?_
      refine Gs.then_n ?_
      refine Gs.seq ?_
      refine Gs.reg ?_
      refine Go.Sl.L.pu rfl rfl trivial (pu_assign rfl) ?_
      refine Go.Sl.L.nil ?_
      refine Gs.then_n ?_
      refine Gs.seq ?_
      refine Gs.seq ?_
      refine Gs.treClose (L := L) (C := C) (by repeat constructor) hok hC ?_
      refine Gs.reg ?_
      refine Go.Sl.L.pu rfl rfl trivial (pu_move rfl) ?_
      refine Go.Sl.L.nil ?_
      refine Gs.slNil 51 1 u64C ?_
      refine Gs.then_n ?_
      refine Gs.block ?_
      refine Gs.loop1 (fun s : Nat × Option Addr × Nat => s.1 ≤ 4) (fun s => [(0, ptr b), (1, int o), (2, int (5 - ((k + 1 : Nat) : Int))), (3, int i), (9, .slice s.2.1 (sums4 L o k i s.1).length s.2.2), (34, int s.1)]) (fun s => [sl 51 1 u64C s.2.1 s.2.2 (sums4 L o k i s.1), tre b L] ++ R) (fun s => 4 - s.1) (0, none, 0) (Nat.zero_le _) (by repeat constructor) (by repeat constructor) (fun s hs => ?_)
      obtain ⟨j, ba, bc⟩ := s
      dsimp only at hs ⊢
      have hll := sums4_length L o k i j
      refine Gs.seq ?_
      refine Gs.reg ?_
      refine Go.Sl.L.pu rfl rfl trivial (pu_lt rfl rfl) ?_
      refine Go.Sl.L.nil ?_
      refine Gs.then_n ?_
      refine Gs.seq ?_
      refine Gs.cond rfl (fun hc2 => ?_) (fun hc2 => ?_)
      · skip
        have hlt : j < 4 := by have := of_decide_eq_true hc2; omega
        have hnx : (4 * i + (j : Int) + 1) * 4 ^ k ≤ 1024 := by
          have h1 : (4 : Int) ^ (k + 1) = 4 * 4 ^ k := by rw [Int.pow_succ]; exact Int.mul_comm ..
          have h2 : (4 * i + (j : Int) + 1) * 4 ^ k ≤ (4 * i + 4) * 4 ^ k := Int.mul_le_mul_of_nonneg_right (by omega) (by omega)
          have h3 : (4 * i + 4) * (4 : Int) ^ k = (i + 1) * 4 ^ (k + 1) := by rw [h1, ← Int.mul_assoc]; congr 1; omega
          omega
        refine Gs.skip ?_
        refine Gs.then_n ?_
        refine Gs.seq ?_
        refine Gs.block ?_
        refine Gs.seq ?_
        refine Gs.reg ?_
        refine Go.Sl.L.pu rfl rfl trivial (pu_move rfl) ?_
        refine Go.Sl.L.pu rfl rfl trivial (pu_assign rfl) ?_
        refine Go.Sl.L.nil ?_
        refine Gs.then_n ?_
        refine Gs.reg ?_
        refine Go.Sl.L.pu rfl rfl trivial (pu_move rfl) ?_
        refine Go.Sl.L.pu rfl rfl trivial (pu_move rfl) ?_
        refine Go.Sl.L.pu rfl rfl trivial (pu_move rfl) ?_
        refine Go.Sl.L.pu rfl rfl trivial (pu_move rfl) ?_
        refine Go.Sl.L.pu rfl rfl trivial (pu_addI (z := 5 - (k : Int)) rfl rfl (by omega) (by omega) (by omega)) ?_
        refine Go.Sl.L.pu rfl rfl trivial (pu_move rfl) ?_
        refine Go.Sl.L.pu rfl rfl trivial (pu_mulI (z := 4 * i) rfl rfl rfl (by omega) (by omega)) ?_
        refine Go.Sl.L.pu rfl rfl trivial (pu_move rfl) ?_
        refine Go.Sl.L.pu rfl rfl trivial (pu_addI (z := 4 * i + (j : Int)) rfl rfl rfl (by omega) (by omega)) ?_
        refine Go.Sl.L.ac rfl rfl trivial (as_call (ih (4 * i + (j : Int)) (by omega) (by omega) hnx) (by repeat constructor) (by repeat constructor)) ?_
        rintro _ _ ⟨_, ⟨rfl, rfl⟩, rfl⟩
        refine Go.Sl.L.ac rfl rfl trivial (ac_lit encC_51 ([tsum L o k (4 * i + (j : Int))]) et_96 ek_51 rfl (by repeat constructor) rfl rfl (by decide)) ?_
        rintro _ _ ⟨a47, rfl, rfl⟩
        refine Go.Sl.L.ac rfl rfl trivial (ac_append et_96 ek_51 rfl rfl (by repeat constructor) (SrcH.sl Tryd.underlying96 ek_51 (SlH.own (by repeat constructor))) (by first | omega | (simp; omega)) (by first | omega | (simp; omega))) ?_
        rintro _ _ ⟨a48, c48, rfl, rfl⟩
        refine Go.Sl.L.pu rfl rfl trivial (pu_assign rfl) ?_
        refine Go.Sl.L.nil ?_
        rw [← sums4_succ]
        refine Gs.blk_n ?_
        refine Gs.then_n ?_
        refine Gs.reg ?_
        refine Go.Sl.L.pu rfl rfl trivial (by first | exact pu_addI rfl rfl rfl (by omega) (by omega) | exact pu_add rfl rfl) ?_
        refine Go.Sl.L.pu rfl rfl trivial (pu_move rfl) ?_
        refine Go.Sl.L.nil ?_
        refine Gs.then_n ?_
        exact Gs.again1 (j + 1, a48, c48) (by show j + 1 ≤ 4; omega) (by show 4 - (j + 1) < 4 - j; omega) (by repeat constructor) (by repeat constructor)
      · skip
        have hge : j = 4 := by have := of_decide_eq_false hc2; omega
        subst hge
        refine Gs.exit ?_
        refine Gs.then_x ?_
        refine Gs.then_x ?_
        refine Gs.blk_hit ?_
        refine Gs.then_n ?_
        refine Gs.seq ?_
        refine Gs.reg ?_
        refine Go.Sl.L.pu rfl rfl trivial (pu_move rfl) ?_
        refine Go.Sl.L.ac rfl rfl trivial (as_call (all_spec (ds := sums4 L o k i 4) Srd.own (by omega)) (by repeat constructor) (by repeat constructor)) ?_
        rintro _ _ ⟨_, ⟨rfl, rfl⟩, rfl⟩
        refine Go.Sl.L.pu rfl rfl trivial (pu_assign rfl) ?_
        refine Go.Sl.L.nil ?_
        refine Gs.then_n ?_
        refine Gs.ret ?_
        exact Gs.fin1 Tryd.results54 rfl _ (⟨by simp only [tsum, hz, if_false]; congr 1; simp [sums4, List.range_succ], rfl⟩) (by repeat constructor)
theorem quo_pow {k : Nat} (h : k ≤ 5) : IntKind.i64.wrap (Int.tdiv (4 ^ 5) (4 ^ k)) = 4 ^ (5 - k) := by
  match k, h with
  | 0, _ | 1, _ | 2, _ | 3, _ | 4, _ | 5, _ => decide
theorem there_no {L : List Rec} {o l i : Int} (h : ¬ (0 ≤ o ∧ o < 8 ∧ 0 ≤ l ∧ l ≤ 5 ∧ 0 ≤ i ∧ i < 4 ^ l.toNat)) : Value.tuple #[Value.int .u64 0, .bool false] = .tuple #[.int .u64 (sumT L o l i), .bool (thereB o l i)] := by
  have h1 : thereB o l i = false := Bool.eq_false_iff.2 fun h2 => h (by simpa only [thereB, Bool.and_eq_true, decide_eq_true_eq, and_assoc] using h2)
  simp only [sumT, h1, Bool.false_eq_true, if_false]
theorem there_yes {o l i : Int} (h : 0 ≤ o ∧ o < 8 ∧ 0 ≤ l ∧ l ≤ 5 ∧ 0 ≤ i ∧ i < 4 ^ l.toNat) : thereB o l i = true := by
  simpa only [thereB, Bool.and_eq_true, decide_eq_true_eq, and_assoc] using h
theorem pow_split {k : Nat} (h : k ≤ 5) {i : Int} (hi : i < 4 ^ (5 - k)) : (i + 1) * 4 ^ k ≤ 1024 := by
  have h2 := pow_in h
  have h1 : (i + 1) * 4 ^ k ≤ 4 ^ (5 - k) * 4 ^ k := Int.mul_le_mul_of_nonneg_right (by omega) (by omega)
  rw [← Int.pow_add, show 5 - k + k = 5 by omega] at h1
  exact h1
theorem treeSum_spec (b : Nat) (L : List Rec) (o l i : Int) : Ct Tryd.prog 37 [ptr b, int o, int l, int i] [tre b L] (fun v hs => v = .tuple #[.int .u64 (sumT L o l i), .bool (thereB o l i)] ∧ hs = [tre b L]) := by
  refine Ct.intro Tryd.func37 rfl (by kernel_rfl) 45 Tryd.ntmps37 (Nat.le_of_ble_eq_true rfl) fun w0 R => ?_
  refine Gs.seq ?_
  refine Gs.reg ?_
  refine Go.Sl.L.pu rfl rfl trivial (pu_assign rfl) ?_
  refine Go.Sl.L.pu rfl rfl trivial (pu_assign rfl) ?_
  refine Go.Sl.L.nil ?_
  refine Gs.then_n ?_
  refine Gs.seq ?_
  refine Gs.seq ?_
  refine Gs.reg ?_
  refine Go.Sl.L.pu rfl rfl trivial (pu_move rfl) ?_
  refine Go.Sl.L.pu rfl rfl trivial (pu_eqN Tryd.underlying25 rfl rfl) ?_
  refine Go.Sl.L.puBf rfl rfl trivial (pu_move rfl) rfl ?_
  refine Go.Sl.L.pu rfl rfl ⟨_, rfl, rfl⟩ (pu_move rfl) ?_
  refine Go.Sl.L.pu rfl rfl ⟨_, rfl, rfl⟩ (pu_lt rfl rfl) ?_
  refine Go.Sl.L.pu rfl rfl trivial (by first | exact pu_pick_t rfl rfl | exact pu_pick_f rfl rfl) ?_
  refine Go.Sl.L.puB rfl rfl trivial (pu_move rfl) (fun hg6 => ?_) (fun hg6 => ?_)
  · skip
    refine Go.Sl.L.off rfl rfl rfl rfl rfl rfl ?_
    refine Go.Sl.L.off rfl rfl rfl rfl rfl rfl ?_
    refine Go.Sl.L.pu rfl rfl trivial (by first | exact pu_pick_t rfl rfl | exact pu_pick_f rfl rfl) ?_
    refine Go.Sl.L.pu rfl rfl trivial (pu_move rfl) ?_
    refine Go.Sl.L.off rfl rfl rfl rfl rfl rfl ?_
    refine Go.Sl.L.off rfl rfl rfl rfl rfl rfl ?_
    refine Go.Sl.L.pu rfl rfl trivial (by first | exact pu_pick_t rfl rfl | exact pu_pick_f rfl rfl) ?_
    refine Go.Sl.L.pu rfl rfl trivial (pu_move rfl) ?_
    refine Go.Sl.L.off rfl rfl rfl rfl rfl rfl ?_
    refine Go.Sl.L.off rfl rfl rfl rfl rfl rfl ?_
    refine Go.Sl.L.pu rfl rfl trivial (by first | exact pu_pick_t rfl rfl | exact pu_pick_f rfl rfl) ?_
    refine Go.Sl.L.pu rfl rfl trivial (pu_move rfl) ?_
    refine Go.Sl.L.off rfl rfl rfl rfl rfl rfl ?_
    refine Go.Sl.L.off rfl rfl rfl rfl rfl rfl ?_
    refine Go.Sl.L.pu rfl rfl trivial (by first | exact pu_pick_t rfl rfl | exact pu_pick_f rfl rfl) ?_
    refine Go.Sl.L.pu rfl rfl trivial (pu_move rfl) ?_
    refine Go.Sl.L.off rfl rfl rfl rfl rfl rfl ?_
    refine Go.Sl.L.off rfl rfl rfl rfl rfl rfl ?_
    refine Go.Sl.L.off rfl rfl rfl rfl rfl rfl ?_
    refine Go.Sl.L.off rfl rfl rfl rfl rfl rfl ?_
    refine Go.Sl.L.off rfl rfl rfl rfl rfl rfl ?_
    refine Go.Sl.L.off rfl rfl rfl rfl rfl rfl ?_
    refine Go.Sl.L.pu rfl rfl trivial (by first | exact pu_pick_t rfl rfl | exact pu_pick_f rfl rfl) ?_
    refine Go.Sl.L.nil ?_
    refine Gs.then_n ?_
    refine Gs.cond_t rfl ?_
    refine Gs.seq ?_
    refine Gs.reg ?_
    refine Go.Sl.L.pu rfl rfl trivial (pu_assign rfl) ?_
    refine Go.Sl.L.pu rfl rfl trivial (pu_assign rfl) ?_
    refine Go.Sl.L.nil ?_
    refine Gs.then_n ?_
    refine Gs.ret ?_
    refine Gs.then_r ?_
    exact Gs.fin2 Tryd.results37 rfl rfl _ (⟨there_no (by first | (have := of_decide_eq_true hg6; omega) | (have := of_decide_eq_true hg10; omega) | (have := of_decide_eq_true hg14; omega) | (have := of_decide_eq_true hg18; omega) | (have := of_decide_eq_true hg22; omega) | (have := of_decide_eq_true hc0; rw [hkn]; omega)), rfl⟩) (by repeat constructor)
  · skip
    refine Go.Sl.L.pu rfl rfl ⟨_, rfl, rfl⟩ (pu_move rfl) ?_
    refine Go.Sl.L.pu rfl rfl ⟨_, rfl, rfl⟩ (pu_ge rfl rfl) ?_
    refine Go.Sl.L.pu rfl rfl trivial (by first | exact pu_pick_t rfl rfl | exact pu_pick_f rfl rfl) ?_
    refine Go.Sl.L.puB rfl rfl trivial (pu_move rfl) (fun hg10 => ?_) (fun hg10 => ?_)
    · skip
      refine Go.Sl.L.off rfl rfl rfl rfl rfl rfl ?_
      refine Go.Sl.L.off rfl rfl rfl rfl rfl rfl ?_
      refine Go.Sl.L.pu rfl rfl trivial (by first | exact pu_pick_t rfl rfl | exact pu_pick_f rfl rfl) ?_
      refine Go.Sl.L.pu rfl rfl trivial (pu_move rfl) ?_
      refine Go.Sl.L.off rfl rfl rfl rfl rfl rfl ?_
      refine Go.Sl.L.off rfl rfl rfl rfl rfl rfl ?_
      refine Go.Sl.L.pu rfl rfl trivial (by first | exact pu_pick_t rfl rfl | exact pu_pick_f rfl rfl) ?_
      refine Go.Sl.L.pu rfl rfl trivial (pu_move rfl) ?_
      refine Go.Sl.L.off rfl rfl rfl rfl rfl rfl ?_
      refine Go.Sl.L.off rfl rfl rfl rfl rfl rfl ?_
      refine Go.Sl.L.pu rfl rfl trivial (by first | exact pu_pick_t rfl rfl | exact pu_pick_f rfl rfl) ?_
      refine Go.Sl.L.pu rfl rfl trivial (pu_move rfl) ?_
      refine Go.Sl.L.off rfl rfl rfl rfl rfl rfl ?_
      refine Go.Sl.L.off rfl rfl rfl rfl rfl rfl ?_
      refine Go.Sl.L.off rfl rfl rfl rfl rfl rfl ?_
      refine Go.Sl.L.off rfl rfl rfl rfl rfl rfl ?_
      refine Go.Sl.L.off rfl rfl rfl rfl rfl rfl ?_
      refine Go.Sl.L.off rfl rfl rfl rfl rfl rfl ?_
      refine Go.Sl.L.pu rfl rfl trivial (by first | exact pu_pick_t rfl rfl | exact pu_pick_f rfl rfl) ?_
      refine Go.Sl.L.nil ?_
      refine Gs.then_n ?_
      refine Gs.cond_t rfl ?_
      refine Gs.seq ?_
      refine Gs.reg ?_
      refine Go.Sl.L.pu rfl rfl trivial (pu_assign rfl) ?_
      refine Go.Sl.L.pu rfl rfl trivial (pu_assign rfl) ?_
      refine Go.Sl.L.nil ?_
      refine Gs.then_n ?_
      refine Gs.ret ?_
      refine Gs.then_r ?_
      exact Gs.fin2 Tryd.results37 rfl rfl _ (⟨there_no (by first | (have := of_decide_eq_true hg6; omega) | (have := of_decide_eq_true hg10; omega) | (have := of_decide_eq_true hg14; omega) | (have := of_decide_eq_true hg18; omega) | (have := of_decide_eq_true hg22; omega) | (have := of_decide_eq_true hc0; rw [hkn]; omega)), rfl⟩) (by repeat constructor)
    · skip
      refine Go.Sl.L.pu rfl rfl ⟨_, rfl, rfl⟩ (pu_move rfl) ?_
      refine Go.Sl.L.pu rfl rfl ⟨_, rfl, rfl⟩ (pu_lt rfl rfl) ?_
      refine Go.Sl.L.pu rfl rfl trivial (by first | exact pu_pick_t rfl rfl | exact pu_pick_f rfl rfl) ?_
      refine Go.Sl.L.puB rfl rfl trivial (pu_move rfl) (fun hg14 => ?_) (fun hg14 => ?_)
      · skip
        refine Go.Sl.L.off rfl rfl rfl rfl rfl rfl ?_
        refine Go.Sl.L.off rfl rfl rfl rfl rfl rfl ?_
        refine Go.Sl.L.pu rfl rfl trivial (by first | exact pu_pick_t rfl rfl | exact pu_pick_f rfl rfl) ?_
        refine Go.Sl.L.pu rfl rfl trivial (pu_move rfl) ?_
        refine Go.Sl.L.off rfl rfl rfl rfl rfl rfl ?_
        refine Go.Sl.L.off rfl rfl rfl rfl rfl rfl ?_
        refine Go.Sl.L.pu rfl rfl trivial (by first | exact pu_pick_t rfl rfl | exact pu_pick_f rfl rfl) ?_
        refine Go.Sl.L.pu rfl rfl trivial (pu_move rfl) ?_
        refine Go.Sl.L.off rfl rfl rfl rfl rfl rfl ?_
        refine Go.Sl.L.off rfl rfl rfl rfl rfl rfl ?_
        refine Go.Sl.L.off rfl rfl rfl rfl rfl rfl ?_
        refine Go.Sl.L.off rfl rfl rfl rfl rfl rfl ?_
        refine Go.Sl.L.off rfl rfl rfl rfl rfl rfl ?_
        refine Go.Sl.L.off rfl rfl rfl rfl rfl rfl ?_
        refine Go.Sl.L.pu rfl rfl trivial (by first | exact pu_pick_t rfl rfl | exact pu_pick_f rfl rfl) ?_
        refine Go.Sl.L.nil ?_
        refine Gs.then_n ?_
        refine Gs.cond_t rfl ?_
        refine Gs.seq ?_
        refine Gs.reg ?_
        refine Go.Sl.L.pu rfl rfl trivial (pu_assign rfl) ?_
        refine Go.Sl.L.pu rfl rfl trivial (pu_assign rfl) ?_
        refine Go.Sl.L.nil ?_
        refine Gs.then_n ?_
        refine Gs.ret ?_
        refine Gs.then_r ?_
        exact Gs.fin2 Tryd.results37 rfl rfl _ (⟨there_no (by first | (have := of_decide_eq_true hg6; omega) | (have := of_decide_eq_true hg10; omega) | (have := of_decide_eq_true hg14; omega) | (have := of_decide_eq_true hg18; omega) | (have := of_decide_eq_true hg22; omega) | (have := of_decide_eq_true hc0; rw [hkn]; omega)), rfl⟩) (by repeat constructor)
      · skip
        refine Go.Sl.L.pu rfl rfl ⟨_, rfl, rfl⟩ (pu_move rfl) ?_
        refine Go.Sl.L.pu rfl rfl ⟨_, rfl, rfl⟩ (pu_gt rfl rfl) ?_
        refine Go.Sl.L.pu rfl rfl trivial (by first | exact pu_pick_t rfl rfl | exact pu_pick_f rfl rfl) ?_
        refine Go.Sl.L.puB rfl rfl trivial (pu_move rfl) (fun hg18 => ?_) (fun hg18 => ?_)
        · skip
          refine Go.Sl.L.off rfl rfl rfl rfl rfl rfl ?_
          refine Go.Sl.L.off rfl rfl rfl rfl rfl rfl ?_
          refine Go.Sl.L.pu rfl rfl trivial (by first | exact pu_pick_t rfl rfl | exact pu_pick_f rfl rfl) ?_
          refine Go.Sl.L.pu rfl rfl trivial (pu_move rfl) ?_
          refine Go.Sl.L.off rfl rfl rfl rfl rfl rfl ?_
          refine Go.Sl.L.off rfl rfl rfl rfl rfl rfl ?_
          refine Go.Sl.L.off rfl rfl rfl rfl rfl rfl ?_
          refine Go.Sl.L.off rfl rfl rfl rfl rfl rfl ?_
          refine Go.Sl.L.off rfl rfl rfl rfl rfl rfl ?_
          refine Go.Sl.L.off rfl rfl rfl rfl rfl rfl ?_
          refine Go.Sl.L.pu rfl rfl trivial (by first | exact pu_pick_t rfl rfl | exact pu_pick_f rfl rfl) ?_
          refine Go.Sl.L.nil ?_
          refine Gs.then_n ?_
          refine Gs.cond_t rfl ?_
          refine Gs.seq ?_
          refine Gs.reg ?_
          refine Go.Sl.L.pu rfl rfl trivial (pu_assign rfl) ?_
          refine Go.Sl.L.pu rfl rfl trivial (pu_assign rfl) ?_
          refine Go.Sl.L.nil ?_
          refine Gs.then_n ?_
          refine Gs.ret ?_
          refine Gs.then_r ?_
          exact Gs.fin2 Tryd.results37 rfl rfl _ (⟨there_no (by first | (have := of_decide_eq_true hg6; omega) | (have := of_decide_eq_true hg10; omega) | (have := of_decide_eq_true hg14; omega) | (have := of_decide_eq_true hg18; omega) | (have := of_decide_eq_true hg22; omega) | (have := of_decide_eq_true hc0; rw [hkn]; omega)), rfl⟩) (by repeat constructor)
        · skip
          refine Go.Sl.L.pu rfl rfl ⟨_, rfl, rfl⟩ (pu_move rfl) ?_
          refine Go.Sl.L.pu rfl rfl ⟨_, rfl, rfl⟩ (pu_lt rfl rfl) ?_
          refine Go.Sl.L.pu rfl rfl trivial (by first | exact pu_pick_t rfl rfl | exact pu_pick_f rfl rfl) ?_
          refine Go.Sl.L.puB rfl rfl trivial (pu_move rfl) (fun hg22 => ?_) (fun hg22 => ?_)
          · skip
            refine Go.Sl.L.off rfl rfl rfl rfl rfl rfl ?_
            refine Go.Sl.L.off rfl rfl rfl rfl rfl rfl ?_
            refine Go.Sl.L.off rfl rfl rfl rfl rfl rfl ?_
            refine Go.Sl.L.off rfl rfl rfl rfl rfl rfl ?_
            refine Go.Sl.L.off rfl rfl rfl rfl rfl rfl ?_
            refine Go.Sl.L.off rfl rfl rfl rfl rfl rfl ?_
            refine Go.Sl.L.pu rfl rfl trivial (by first | exact pu_pick_t rfl rfl | exact pu_pick_f rfl rfl) ?_
            refine Go.Sl.L.nil ?_
            refine Gs.then_n ?_
            refine Gs.cond_t rfl ?_
            refine Gs.seq ?_
            refine Gs.reg ?_
            refine Go.Sl.L.pu rfl rfl trivial (pu_assign rfl) ?_
            refine Go.Sl.L.pu rfl rfl trivial (pu_assign rfl) ?_
            refine Go.Sl.L.nil ?_
            refine Gs.then_n ?_
            refine Gs.ret ?_
            refine Gs.then_r ?_
            exact Gs.fin2 Tryd.results37 rfl rfl _ (⟨there_no (by first | (have := of_decide_eq_true hg6; omega) | (have := of_decide_eq_true hg10; omega) | (have := of_decide_eq_true hg14; omega) | (have := of_decide_eq_true hg18; omega) | (have := of_decide_eq_true hg22; omega) | (have := of_decide_eq_true hc0; rw [hkn]; omega)), rfl⟩) (by repeat constructor)
          · skip
            obtain ⟨k, hk, rfl⟩ : ∃ k : Nat, k ≤ 5 ∧ l = 5 - (k : Int) := ⟨(5 - l).toNat, by have := of_decide_eq_false hg14; have := of_decide_eq_false hg18; omega, by have := of_decide_eq_false hg14; have := of_decide_eq_false hg18; omega⟩
            have hpk := pow_in hk
            have hkn : (5 - (k : Int)).toNat = 5 - k := by omega
            refine Go.Sl.L.pu rfl rfl ⟨_, rfl, rfl⟩ (pu_move rfl) ?_
            refine Go.Sl.L.ac rfl rfl ⟨_, rfl, rfl⟩ (as_call (long_spec 5 (by omega) 0 (by omega)) (by repeat constructor) (by repeat constructor)) ?_
            rintro _ _ ⟨_, ⟨rfl, rfl⟩, rfl⟩
            refine Go.Sl.L.pu rfl rfl ⟨_, rfl, rfl⟩ (pu_move rfl) ?_
            refine Go.Sl.L.ac rfl rfl ⟨_, rfl, rfl⟩ (as_call (long_spec k hk _ rfl) (by repeat constructor) (by repeat constructor)) ?_
            rintro _ _ ⟨_, ⟨rfl, rfl⟩, rfl⟩
            refine Go.Sl.L.pu rfl rfl ⟨_, rfl, rfl⟩ (pu_quo rfl rfl (by omega)) ?_
            rw [quo_pow hk]
            refine Go.Sl.L.pu rfl rfl ⟨_, rfl, rfl⟩ (pu_ge rfl rfl) ?_
            refine Go.Sl.L.pu rfl rfl trivial (by first | exact pu_pick_t rfl rfl | exact pu_pick_f rfl rfl) ?_
            refine Go.Sl.L.nil ?_
            refine Gs.then_n ?_
            refine Gs.cond rfl (fun hc0 => ?_) (fun hc0 => ?_)
            · skip
              refine Gs.seq ?_
              refine Gs.reg ?_
              refine Go.Sl.L.pu rfl rfl trivial (pu_assign rfl) ?_
              refine Go.Sl.L.pu rfl rfl trivial (pu_assign rfl) ?_
              refine Go.Sl.L.nil ?_
              refine Gs.then_n ?_
              refine Gs.ret ?_
              refine Gs.then_r ?_
              exact Gs.fin2 Tryd.results37 rfl rfl _ (⟨there_no (by first | (have := of_decide_eq_true hg6; omega) | (have := of_decide_eq_true hg10; omega) | (have := of_decide_eq_true hg14; omega) | (have := of_decide_eq_true hg18; omega) | (have := of_decide_eq_true hg22; omega) | (have := of_decide_eq_true hc0; rw [hkn]; omega)), rfl⟩) (by repeat constructor)
            · skip
              have hi1 : i < 4 ^ (5 - k) := by have := of_decide_eq_false hc0; omega
              have hth : thereB o (5 - (k : Int)) i = true := there_yes (by have := of_decide_eq_false hg6; have := of_decide_eq_false hg10; have := of_decide_eq_false hg22; rw [hkn]; omega)
              refine Gs.skip ?_
              refine Gs.then_n ?_
              refine Gs.seq ?_
              refine Gs.reg ?_
              refine Go.Sl.L.pu rfl rfl trivial (pu_move rfl) ?_
              refine Go.Sl.L.pu rfl rfl trivial (pu_move rfl) ?_
              refine Go.Sl.L.pu rfl rfl trivial (pu_move rfl) ?_
              refine Go.Sl.L.pu rfl rfl trivial (pu_move rfl) ?_
              refine Go.Sl.L.ac rfl rfl trivial (as_call (sum_spec b L o k i hk (by have := of_decide_eq_false hg22; omega) (pow_split hk hi1)) (by repeat constructor) (by repeat constructor)) ?_
              rintro _ _ ⟨_, ⟨rfl, rfl⟩, rfl⟩
              refine Go.Sl.L.pu rfl rfl trivial (pu_assign rfl) ?_
              refine Go.Sl.L.pu rfl rfl trivial (pu_assign rfl) ?_
              refine Go.Sl.L.nil ?_
              refine Gs.then_n ?_
              refine Gs.ret ?_
              exact Gs.fin2 Tryd.results37 rfl rfl _ (⟨by rw [sumT, if_pos hth, hth, hkn, show 5 - (5 - k) = k by omega], rfl⟩) (by repeat constructor)
end Go.Proofs.YthlnjkfahmebjaaDoor
