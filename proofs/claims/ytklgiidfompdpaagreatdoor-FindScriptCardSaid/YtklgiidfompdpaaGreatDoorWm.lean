/- What the closing leans on: part 13. -/
import Derived.Test.YtklgiidfompdpaaGreatDoorWl
import Derived.Test.YtklgiidfompdpaaGreatDoorWi
import Derived.Lib.ItoaLen
import Derived.Test.YtklgiidfompdpaaGreatDoorWa
namespace Go.Proofs.YtklgiidfompdpaaGreatDoor
open Go Go.Sl Go.Gv Go.Kv Go.Po Go.Ix
set_option maxRecDepth 100000
def slB (p q : Int × Int) : Bool := decide (p.1 < q.1) || (decide (p.1 = q.1) && decide (p.2 < q.2))
def lessR (a b : Rec) : Bool := slB (a.w, a.c) (b.w, b.c) || (decide ((a.w, a.c) = (b.w, b.c)) && before a.key b.key)
abbrev stV (p : Int × Int) : Value := .agg #[int p.1, int p.2]
theorem sl_ne {p q : Int × Int} (h : p.1 ≠ q.1) : slB p q = decide (p.1 < q.1) := by unfold slB; rw [decide_eq_false h, Bool.false_and, Bool.or_false]
theorem sl_eq {p q : Int × Int} (h : p.1 = q.1) : slB p q = decide (p.2 < q.2) := by unfold slB; rw [decide_eq_true h, h, decide_eq_false (Int.lt_irrefl _), Bool.false_or, Bool.true_and]
theorem sl_self {p q : Int × Int} (h : p = q) : slB p q = false := by rw [sl_eq (by rw [h]), h]; exact decide_eq_false (Int.lt_irrefl _)
theorem stampLess_spec (p q : Int × Int) : Ct Tryz.prog 157 [stV p, stV q] [] (fun v hs => v = .bool (slB p q) ∧ hs = []) := by
 refine Cti Tryz.func157 (by kernel_rfl) 20 Tryz.ntmps157 rfl rfl fun w0 R => ?_
 refine Gsr (La rfl (ac_box rfl rfl) ?_)
 rintro _ _ ⟨pb, rfl, rfl⟩
 refine La rfl (ac_box rfl rfl) ?_
 rintro _ _ ⟨qb, rfl, rfl⟩
 refine Las rfl rfl (Lnt (Gs.seq (Gsr (Lq rfl (pu_fa fa_30_0 rfl) (Lr rfl (rd_ld na_3 rfl (Rdc.cl1 (by repeat constructor) rfl)) ?_)))))
 refine Lq rfl (pu_fa fa_30_0 rfl) (Lr rfl (rd_ld na_3 rfl (Rdc.cl1 (by repeat constructor) rfl)) ?_)
 refine Lq rfl (pu_ne rfl rfl) (Lnt (Gs.cond rfl (fun hc0 => ?_) (fun hc0 => ?_)))
 ·
  refine Gsr (Lq rfl (pu_fa fa_30_0 rfl) (Lr rfl (rd_ld na_3 rfl (Rdc.cl1 (by repeat constructor) rfl)) ?_))
  refine Lq rfl (pu_fa fa_30_0 rfl) (Lr rfl (rd_ld na_3 rfl (Rdc.cl1 (by repeat constructor) rfl)) ?_)
  refine Lq rfl (pu_lt rfl rfl) (Las rfl rfl (Lnt (Gs.ret (Gr ?_))))
  exact Gs.fin1 Tryz.results157 rfl _ (⟨by rw [sl_ne (of_decide_eq_true hc0)], rfl⟩) (by repeat constructor)
 refine Gs.skip (Gn (Gsr (Lq rfl (pu_fa fa_30_1 rfl) (Lr rfl (rd_ld na_3 rfl (Rdc.cl1 (by repeat constructor) rfl)) ?_))))
 refine Lq rfl (pu_fa fa_30_1 rfl) (Lr rfl (rd_ld na_3 rfl (Rdc.cl1 (by repeat constructor) rfl)) ?_)
 refine Lq rfl (pu_lt rfl rfl) (Las rfl rfl (Lnt (Gs.ret ?_)))
 exact Gs.fin1 Tryz.results157 rfl _ (⟨by rw [sl_eq (Decidable.not_not.1 (of_decide_eq_false hc0))], rfl⟩) (by repeat constructor)
theorem less_cases (a b : Rec) : (¬ (a.w, a.c) = (b.w, b.c) → lessR a b = slB (a.w, a.c) (b.w, b.c)) ∧ ((a.w, a.c) = (b.w, b.c) → lessR a b = before a.key b.key) := by
 refine ⟨fun h => ?_, fun h => ?_⟩
 · unfold lessR; rw [decide_eq_false h, Bool.false_and, Bool.or_false]
 · unfold lessR; rw [sl_self h, decide_eq_true h, Bool.false_or, Bool.true_and]
theorem recLess_spec (a b : Rec) : Ct Tryz.prog 111 [recV a, recV b] [] (fun v hs => v = .bool (lessR a b) ∧ hs = []) := by
 refine Cti Tryz.func111 (by kernel_rfl) 20 Tryz.ntmps111 rfl rfl fun w0 R => ?_
 refine Gsr (La rfl (ac_box rfl rfl) ?_)
 rintro _ _ ⟨pb, rfl, rfl⟩
 refine La rfl (ac_box rfl rfl) ?_
 rintro _ _ ⟨qb, rfl, rfl⟩
 refine Las rfl rfl (Lnt (Gs.seq (Gsr (Lq rfl (pu_fa fa_32_1 rfl) (Lr rfl (rd_lda ag_30 rfl (Rdc.cl 2 (by repeat constructor) rfl) rfl) ?_)))))
 refine Lq rfl (pu_fa fa_32_1 rfl) (Lr rfl (rd_lda ag_30 rfl (Rdc.cl 2 (by repeat constructor) rfl) rfl) ?_)
 refine Lq rfl (pu_neT (a := (a.w, a.c)) (b := (b.w, b.c)) cmp_30 (by decide) Tryz.eqGuardType30 rfl rfl) ?_
 refine Lnt (Gs.cond rfl (fun hc0 => ?_) (fun hc0 => ?_))
 ·
  refine Gsr (Lq rfl (pu_fa fa_32_1 rfl) (Lr rfl (rd_lda ag_30 rfl (Rdc.cl 2 (by repeat constructor) rfl) rfl) ?_))
  refine Lq rfl (pu_fa fa_32_1 rfl) (Lr rfl (rd_lda ag_30 rfl (Rdc.cl 2 (by repeat constructor) rfl) rfl) ?_)
  refine La rfl (asC (stampLess_spec (a.w, a.c) (b.w, b.c))) ?_
  rintro _ _ ⟨_, ⟨rfl, rfl⟩, rfl⟩
  refine Las rfl rfl (Lnt (Gs.ret (Gr ?_)))
  exact Gs.fin1 Tryz.results111 rfl _ (⟨by rw [(less_cases a b).1 (of_decide_eq_true hc0)], rfl⟩) (by repeat constructor)
 refine Gs.skip (Gn (Gsr (Lq rfl (pu_fa fa_32_0 rfl) (Lr rfl (rd_lda ag_28 rfl (Rdc.cl 2 (by repeat constructor) rfl) rfl) ?_))))
 refine Lq rfl (pu_fa fa_32_0 rfl) (Lr rfl (rd_lda ag_28 rfl (Rdc.cl 2 (by repeat constructor) rfl) rfl) ?_)
 refine La rfl (asC (beforeR_spec a.key b.key)) ?_
 rintro _ _ ⟨_, ⟨rfl, rfl⟩, rfl⟩
 refine Las rfl rfl (Lnt (Gs.ret ?_))
 exact Gs.fin1 Tryz.results111 rfl _ (⟨by rw [(less_cases a b).2 (Decidable.not_not.1 (of_decide_eq_false hc0))], rfl⟩) (by repeat constructor)
def ordR (a b : Rec) : Int := if lessR a b then -1 else if lessR b a then 1 else 0
theorem orderR_spec (a b : Rec) : Ct Tryz.prog 115 [recV a, recV b] [] (fun v hs => v = int (ordR a b) ∧ hs = []) := by
 refine Cti Tryz.func115 (by kernel_rfl) 13 Tryz.ntmps115 rfl rfl fun w0 R => ?_
 refine Gsr (La rfl (ac_box rfl rfl) ?_)
 rintro _ _ ⟨pb, rfl, rfl⟩
 refine La rfl (ac_box rfl rfl) ?_
 rintro _ _ ⟨qb, rfl, rfl⟩
 refine Las rfl rfl (Lnt (Gs.seq (Gs.block (Gsr (Lr rfl (rd_lda ag_32 rfl (Rdc.cl 5 (by repeat constructor) rfl) rfl) ?_)))))
 refine Lr rfl (rd_lda ag_32 rfl (Rdc.cl 5 (by repeat constructor) rfl) rfl) ?_
 refine La rfl (asC (recLess_spec a b)) ?_
 rintro _ _ ⟨_, ⟨rfl, rfl⟩, rfl⟩
 refine Las rfl rfl (Lnt (Gs.cond rfl (fun hc0 => ?_) (fun hc0 => ?_)))
 ·
  refine Gsr (Las rfl rfl (Lnt (Gs.ret (Gs.blk_r (Gr ?_)))))
  exact Gs.fin1 Tryz.results115 rfl _ (⟨by unfold ordR; rw [if_pos hc0], rfl⟩) (by repeat constructor)
 refine Gsr (Lr rfl (rd_lda ag_32 rfl (Rdc.cl 5 (by repeat constructor) rfl) rfl) ?_)
 refine Lr rfl (rd_lda ag_32 rfl (Rdc.cl 5 (by repeat constructor) rfl) rfl) ?_
 refine La rfl (asC (recLess_spec b a)) ?_
 rintro _ _ ⟨_, ⟨rfl, rfl⟩, rfl⟩
 refine Las rfl rfl (Lnt (Gs.cond rfl (fun hc1 => ?_) (fun hc1 => ?_)))
 ·
  refine Gsr (Las rfl rfl (Lnt (Gs.ret (Gs.blk_r (Gr ?_)))))
  exact Gs.fin1 Tryz.results115 rfl _ (⟨by unfold ordR; rw [if_neg (by rw [hc0]; decide), if_pos hc1], rfl⟩) (by repeat constructor)
 refine Gs.skip (Gs.blk_n (Gn (Gsr (Las rfl rfl (Lnt (Gs.ret ?_))))))
 exact Gs.fin1 Tryz.results115 rfl _ (⟨by unfold ordR; rw [if_neg (by rw [hc0]; decide), if_neg (by rw [hc1]; decide)], rfl⟩) (by repeat constructor)
theorem less2_spec (p q : Int × Int) : Ct Tryz.prog 138 [stV p, stV q] [] (fun v hs => v = .bool (slB p q) ∧ hs = []) := by
 refine Cti Tryz.func138 (by kernel_rfl) 24 Tryz.ntmps138 rfl rfl fun w0 R => ?_
 refine Gsr (La rfl (ac_box rfl rfl) ?_)
 rintro _ _ ⟨pb, rfl, rfl⟩
 refine La rfl (ac_box rfl rfl) ?_
 rintro _ _ ⟨qb, rfl, rfl⟩
 refine Las rfl rfl (Lnt (Gsr (Lq rfl (pu_fa fa_30_0 rfl) (Lr rfl (rd_ld na_3 rfl (Rdc.cl1 (by repeat constructor) rfl)) ?_))))
 refine Lq rfl (pu_fa fa_30_0 rfl) (Lr rfl (rd_ld na_3 rfl (Rdc.cl1 (by repeat constructor) rfl)) ?_)
 refine Lq rfl (pu_lt rfl rfl) (LpuB rfl rfl trivial (pu_move rfl) (fun hg5 => ?_) (fun hg5 => ?_))
 ·
  refine Lof rfl (Lof rfl (Lof rfl (Lof rfl (Lof rfl (Lof rfl (LoffU rfl rfl rfl rfl rfl (LoffU rfl rfl rfl rfl rfl (LoffU rfl rfl rfl rfl rfl (LoffU rfl rfl rfl rfl rfl (LoffU rfl rfl rfl rfl rfl (Lof rfl ?_)))))))))))
  refine Lpk rfl rfl rfl (Las rfl rfl (Lnt (Gs.ret ?_)))
  exact Gs.fin1 Tryz.results138 rfl _ (⟨by
    unfold slB
    first
      | rw [hg5, hg11]; rfl
      | rw [hg5, hg11, Bool.false_or, Bool.true_and]
      | rw [hg5, hg11, Bool.false_or, Bool.false_and]
      | rw [hg5, Bool.true_or], rfl⟩) (by repeat constructor)
 refine Lpu rfl rfl ⟨_, rfl, rfl⟩ (pu_fa fa_30_0 rfl) (Lrd rfl rfl ⟨_, rfl, rfl⟩ (rd_ld na_3 rfl (Rdc.cl1 (by repeat constructor) rfl)) ?_)
 refine Lpu rfl rfl ⟨_, rfl, rfl⟩ (pu_fa fa_30_0 rfl) (Lrd rfl rfl ⟨_, rfl, rfl⟩ (rd_ld na_3 rfl (Rdc.cl1 (by repeat constructor) rfl)) ?_)
 refine Lpu rfl rfl ⟨_, rfl, rfl⟩ (pu_eq rfl rfl) (LpuB rfl rfl ⟨_, rfl, rfl⟩ (pu_move rfl) (fun hg11 => ?_) (fun hg11 => ?_))
 ·
  refine Lpu rfl rfl ⟨_, rfl, rfl⟩ (pu_fa fa_30_1 rfl) (Lrd rfl rfl ⟨_, rfl, rfl⟩ (rd_ld na_3 rfl (Rdc.cl1 (by repeat constructor) rfl)) ?_)
  refine Lpu rfl rfl ⟨_, rfl, rfl⟩ (pu_fa fa_30_1 rfl) (Lrd rfl rfl ⟨_, rfl, rfl⟩ (rd_ld na_3 rfl (Rdc.cl1 (by repeat constructor) rfl)) ?_)
  refine Lpu rfl rfl ⟨_, rfl, rfl⟩ (pu_lt rfl rfl) (Lpu rfl rfl ⟨_, rfl, rfl⟩ (by first | exact pu_pick_t rfl rfl | exact pu_pick_f rfl rfl) ?_)
  refine Lpk rfl rfl rfl (Las rfl rfl (Lnt (Gs.ret ?_)))
  exact Gs.fin1 Tryz.results138 rfl _ (⟨by
    unfold slB
    first
      | rw [hg5, hg11]; rfl
      | rw [hg5, hg11, Bool.false_or, Bool.true_and]
      | rw [hg5, hg11, Bool.false_or, Bool.false_and]
      | rw [hg5, Bool.true_or], rfl⟩) (by repeat constructor)
 refine Lof rfl (Lof rfl (Lof rfl (Lof rfl (Lof rfl (Lpu rfl rfl ⟨_, rfl, rfl⟩ (by first | exact pu_pick_t rfl rfl | exact pu_pick_f rfl rfl) ?_)))))
 refine Lpk rfl rfl rfl (Las rfl rfl (Lnt (Gs.ret ?_)))
 exact Gs.fin1 Tryz.results138 rfl _ (⟨by
   unfold slB
   first
     | rw [hg5, hg11]; rfl
     | rw [hg5, hg11, Bool.false_or, Bool.true_and]
     | rw [hg5, hg11, Bool.false_or, Bool.false_and]
     | rw [hg5, Bool.true_or], rfl⟩) (by repeat constructor)
theorem less4_spec (a b : Rec) : Ct Tryz.prog 84 [recV a, recV b] [] (fun v hs => v = .bool (lessR a b) ∧ hs = []) := by
 refine Cti Tryz.func84 (by kernel_rfl) 24 Tryz.ntmps84 rfl rfl fun w0 R => ?_
 refine Gsr (La rfl (ac_box rfl rfl) ?_)
 rintro _ _ ⟨pb, rfl, rfl⟩
 refine La rfl (ac_box rfl rfl) ?_
 rintro _ _ ⟨qb, rfl, rfl⟩
 refine Las rfl rfl (Lnt (Gsr (Lq rfl (pu_fa fa_32_1 rfl) (Lr rfl (rd_lda ag_30 rfl (Rdc.cl 2 (by repeat constructor) rfl) rfl) ?_))))
 refine Lq rfl (pu_fa fa_32_1 rfl) (Lr rfl (rd_lda ag_30 rfl (Rdc.cl 2 (by repeat constructor) rfl) rfl) ?_)
 refine La rfl (asC (less2_spec (a.w, a.c) (b.w, b.c))) ?_
 rintro _ _ ⟨_, ⟨rfl, rfl⟩, rfl⟩
 refine LpuB rfl rfl trivial (pu_move rfl) (fun hg5 => ?_) (fun hg5 => ?_)
 ·
  refine Lof rfl (Lof rfl (Lof rfl (Lof rfl (Lof rfl (Lof rfl (LoffU rfl rfl rfl rfl rfl (LoffU rfl rfl rfl rfl rfl (LoffU rfl rfl rfl rfl rfl (LoffU rfl rfl rfl rfl rfl (LoffU rfl rfl rfl rfl rfl (Lof rfl ?_)))))))))))
  refine Lpk rfl rfl rfl (Las rfl rfl (Lnt (Gs.ret ?_)))
  exact Gs.fin1 Tryz.results84 rfl _ (⟨by
    unfold lessR
    first
      | rw [hg5, hg11]; rfl
      | rw [hg5, hg11, Bool.false_or, Bool.true_and]
      | rw [hg5, hg11, Bool.false_or, Bool.false_and]
      | rw [hg5, Bool.true_or], rfl⟩) (by repeat constructor)
 refine Lpu rfl rfl ⟨_, rfl, rfl⟩ (pu_fa fa_32_1 rfl) (Lrd rfl rfl ⟨_, rfl, rfl⟩ (rd_lda ag_30 rfl (Rdc.cl 2 (by repeat constructor) rfl) rfl) ?_)
 refine Lpu rfl rfl ⟨_, rfl, rfl⟩ (pu_fa fa_32_1 rfl) (Lrd rfl rfl ⟨_, rfl, rfl⟩ (rd_lda ag_30 rfl (Rdc.cl 2 (by repeat constructor) rfl) rfl) ?_)
 refine Lpu rfl rfl ⟨_, rfl, rfl⟩ (pu_eqT (a := (a.w, a.c)) (b := (b.w, b.c)) cmp_30 (by decide) Tryz.eqGuardType30 rfl rfl) ?_
 refine LpuB rfl rfl ⟨_, rfl, rfl⟩ (pu_move rfl) (fun hg11 => ?_) (fun hg11 => ?_)
 ·
  refine Lpu rfl rfl ⟨_, rfl, rfl⟩ (pu_fa fa_32_0 rfl) (Lrd rfl rfl ⟨_, rfl, rfl⟩ (rd_lda ag_28 rfl (Rdc.cl 2 (by repeat constructor) rfl) rfl) ?_)
  refine Lpu rfl rfl ⟨_, rfl, rfl⟩ (pu_fa fa_32_0 rfl) (Lrd rfl rfl ⟨_, rfl, rfl⟩ (rd_lda ag_28 rfl (Rdc.cl 2 (by repeat constructor) rfl) rfl) ?_)
  refine Lac rfl rfl ⟨_, rfl, rfl⟩ (asC (before4_spec a.key b.key)) ?_
  rintro _ _ ⟨_, ⟨rfl, rfl⟩, rfl⟩
  refine Lpu rfl rfl ⟨_, rfl, rfl⟩ (by first | exact pu_pick_t rfl rfl | exact pu_pick_f rfl rfl) ?_
  refine Lpk rfl rfl rfl (Las rfl rfl (Lnt (Gs.ret ?_)))
  exact Gs.fin1 Tryz.results84 rfl _ (⟨by
    unfold lessR
    first
      | rw [hg5, hg11]; rfl
      | rw [hg5, hg11, Bool.false_or, Bool.true_and]
      | rw [hg5, hg11, Bool.false_or, Bool.false_and]
      | rw [hg5, Bool.true_or], rfl⟩) (by repeat constructor)
 refine Lof rfl (Lof rfl (Lof rfl (Lof rfl (Lof rfl (Lpu rfl rfl ⟨_, rfl, rfl⟩ (by first | exact pu_pick_t rfl rfl | exact pu_pick_f rfl rfl) ?_)))))
 refine Lpk rfl rfl rfl (Las rfl rfl (Lnt (Gs.ret ?_)))
 exact Gs.fin1 Tryz.results84 rfl _ (⟨by
   unfold lessR
   first
     | rw [hg5, hg11]; rfl
     | rw [hg5, hg11, Bool.false_or, Bool.true_and]
     | rw [hg5, hg11, Bool.false_or, Bool.false_and]
     | rw [hg5, Bool.true_or], rfl⟩) (by repeat constructor)
def earlyB (r z : Rec) : Bool := decide (0 < z.q) && (lessR r z || (decide (r.key = z.key) && decide ((r.w, r.c) = (z.w, z.c))))
theorem early_spec (r z : Rec) : Ct Tryz.prog 64 [recV r, recV z] [] (fun v hs => v = .bool (earlyB r z) ∧ hs = []) := by
 refine Cti Tryz.func64 (by kernel_rfl) 28 Tryz.ntmps64 rfl rfl fun w0 R => ?_
 refine Gsr (La rfl (ac_box rfl rfl) ?_)
 rintro _ _ ⟨pb, rfl, rfl⟩
 refine La rfl (ac_box rfl rfl) ?_
 rintro _ _ ⟨qb, rfl, rfl⟩
 refine Las rfl rfl (Lnt (Gsr (Lq rfl (pu_fa fa_32_0 rfl) (Lq rfl (pu_fa fa_28_1 rfl) (Lr rfl (rd_ld na_3 rfl (Rdc.cl1 (by repeat constructor) rfl)) ?_)))))
 refine Lq rfl (pu_gt rfl rfl) (LpuB rfl rfl trivial (pu_move rfl) (fun hg4 => ?_) (fun hg4 => ?_))
 ·
  refine Lrd rfl rfl ⟨_, rfl, rfl⟩ (rd_lda ag_32 rfl (Rdc.cl 5 (by repeat constructor) rfl) rfl) ?_
  refine Lrd rfl rfl ⟨_, rfl, rfl⟩ (rd_lda ag_32 rfl (Rdc.cl 5 (by repeat constructor) rfl) rfl) ?_
  refine Lac rfl rfl ⟨_, rfl, rfl⟩ (asC (recLess_spec r z)) ?_
  rintro _ _ ⟨_, ⟨rfl, rfl⟩, rfl⟩
  refine LpuB rfl rfl ⟨_, rfl, rfl⟩ (pu_move rfl) (fun hg8 => ?_) (fun hg8 => ?_)
  ·
   refine Lof rfl (Lof rfl (Lof rfl (Lof rfl (Lof rfl (Lof rfl (LoffU rfl rfl rfl rfl rfl (LoffU rfl rfl rfl rfl rfl (LoffU rfl rfl rfl rfl rfl (LoffU rfl rfl rfl rfl rfl (LoffU rfl rfl rfl rfl rfl (Lof rfl ?_)))))))))))
   refine Lpu rfl rfl ⟨_, rfl, rfl⟩ (by first | exact pu_pick_t rfl rfl | exact pu_pick_f rfl rfl) ?_
   refine Lpk rfl rfl rfl (Las rfl rfl (Lnt (Gs.ret ?_)))
   exact Gs.fin1 Tryz.results64 rfl _ (⟨by
     unfold earlyB
     first
       | rw [hg4, hg8, hg14, Bool.true_and, Bool.false_or, Bool.true_and]
       | rw [hg4, hg8, hg14, Bool.true_and, Bool.false_or, Bool.false_and]
       | rw [hg4, hg8, Bool.true_and, Bool.true_or]
       | rw [hg4, Bool.false_and], rfl⟩) (by repeat constructor)
  refine Lpu rfl rfl ⟨_, rfl, rfl⟩ (pu_fa fa_32_0 rfl) (Lrd rfl rfl ⟨_, rfl, rfl⟩ (rd_lda ag_28 rfl (Rdc.cl 2 (by repeat constructor) rfl) rfl) ?_)
  refine Lpu rfl rfl ⟨_, rfl, rfl⟩ (pu_fa fa_32_0 rfl) (Lrd rfl rfl ⟨_, rfl, rfl⟩ (rd_lda ag_28 rfl (Rdc.cl 2 (by repeat constructor) rfl) rfl) ?_)
  refine Lpu rfl rfl ⟨_, rfl, rfl⟩ (pu_eqT (a := r.key) (b := z.key) cmp_28 (by decide) Tryz.eqGuardType28 rfl rfl) ?_
  refine LpuB rfl rfl ⟨_, rfl, rfl⟩ (pu_move rfl) (fun hg14 => ?_) (fun hg14 => ?_)
  ·
   refine Lpu rfl rfl ⟨_, rfl, rfl⟩ (pu_fa fa_32_1 rfl) (Lrd rfl rfl ⟨_, rfl, rfl⟩ (rd_lda ag_30 rfl (Rdc.cl 2 (by repeat constructor) rfl) rfl) ?_)
   refine Lpu rfl rfl ⟨_, rfl, rfl⟩ (pu_fa fa_32_1 rfl) (Lrd rfl rfl ⟨_, rfl, rfl⟩ (rd_lda ag_30 rfl (Rdc.cl 2 (by repeat constructor) rfl) rfl) ?_)
   refine Lpu rfl rfl ⟨_, rfl, rfl⟩ (pu_eqT (a := (r.w, r.c)) (b := (z.w, z.c)) cmp_30 (by decide) Tryz.eqGuardType30 rfl rfl) ?_
   refine Lpu rfl rfl ⟨_, rfl, rfl⟩ (by first | exact pu_pick_t rfl rfl | exact pu_pick_f rfl rfl) ?_
   refine Lpu rfl rfl ⟨_, rfl, rfl⟩ (by first | exact pu_pick_t rfl rfl | exact pu_pick_f rfl rfl) ?_
   refine Lpk rfl rfl rfl (Las rfl rfl (Lnt (Gs.ret ?_)))
   exact Gs.fin1 Tryz.results64 rfl _ (⟨by
     unfold earlyB
     first
       | rw [hg4, hg8, hg14, Bool.true_and, Bool.false_or, Bool.true_and]
       | rw [hg4, hg8, hg14, Bool.true_and, Bool.false_or, Bool.false_and]
       | rw [hg4, hg8, Bool.true_and, Bool.true_or]
       | rw [hg4, Bool.false_and], rfl⟩) (by repeat constructor)
  refine Lof rfl (Lof rfl (Lof rfl (Lof rfl (Lof rfl (Lpu rfl rfl ⟨_, rfl, rfl⟩ (by first | exact pu_pick_t rfl rfl | exact pu_pick_f rfl rfl) ?_)))))
  refine Lpu rfl rfl ⟨_, rfl, rfl⟩ (by first | exact pu_pick_t rfl rfl | exact pu_pick_f rfl rfl) ?_
  refine Lpk rfl rfl rfl (Las rfl rfl (Lnt (Gs.ret ?_)))
  exact Gs.fin1 Tryz.results64 rfl _ (⟨by
    unfold earlyB
    first
      | rw [hg4, hg8, hg14, Bool.true_and, Bool.false_or, Bool.true_and]
      | rw [hg4, hg8, hg14, Bool.true_and, Bool.false_or, Bool.false_and]
      | rw [hg4, hg8, Bool.true_and, Bool.true_or]
      | rw [hg4, Bool.false_and], rfl⟩) (by repeat constructor)
 refine Lof rfl (Lof rfl (Lof rfl (Lof rfl (LoffU rfl rfl rfl rfl rfl (LoffU rfl rfl rfl rfl rfl (LoffU rfl rfl rfl rfl rfl (LoffU rfl rfl rfl rfl rfl (LoffU rfl rfl rfl rfl rfl (LoffU rfl rfl rfl rfl rfl (LoffU rfl rfl rfl rfl rfl (LoffU rfl rfl rfl rfl rfl ?_)))))))))))
 refine LoffU rfl rfl rfl rfl rfl (LoffU rfl rfl rfl rfl rfl (LoffU rfl rfl rfl rfl rfl (LoffU rfl rfl rfl rfl rfl (Lof rfl (Lpk rfl rfl rfl (Las rfl rfl (Lnt (Gs.ret ?_))))))))
 exact Gs.fin1 Tryz.results64 rfl _ (⟨by
   unfold earlyB
   first
     | rw [hg4, hg8, hg14, Bool.true_and, Bool.false_or, Bool.true_and]
     | rw [hg4, hg8, hg14, Bool.true_and, Bool.false_or, Bool.false_and]
     | rw [hg4, hg8, Bool.true_and, Bool.true_or]
     | rw [hg4, Bool.false_and], rfl⟩) (by repeat constructor)
end Go.Proofs.YtklgiidfompdpaaGreatDoor
namespace Go.Proofs
open Go.Shelf
namespace YtklgiidfompdpaaGreatDoor
open Go Go.Sl Go.Gv Go.Kv Go.Po Go.Ix Go.Qu Go.RowKit
set_option maxRecDepth 100000
def TabY (h0 : Hp) : Prop := TabX h0 ∧ ∀ w, Hp.le h0 w → Lib.TabIs Tryz.prog w "internal/strconv.uint64pow10" .u64 Lib.pow10Tab
def TabW (U : HProp) : Prop := ∃ h0, TabY h0 ∧ Inn (Sl.ro h0) U
theorem TabW.u {U : HProp} (h : TabW U) : TabU U := let ⟨h0, T, i⟩ := h; ⟨h0, T.1, i⟩
theorem TabW.ct {U : HProp} (h : TabW U) {f : FuncId} {args : List Value} {x : Value} (c : ∀ h0, TabY h0 → Ct Tryz.prog f args [Sl.ro h0] (fun v hs => v = x ∧ hs = [Sl.ro h0])) : Ct Tryz.prog f args [U] (fun v hs => v = x ∧ hs = [U]) := by
 obtain ⟨h0, T, i⟩ := h
 exact (c h0 T).inn0 i
theorem TabW.inn {U V : HProp} (h : TabW U) (i : Inn U V) : TabW V := let ⟨h0, T, j⟩ := h; ⟨h0, T, j.trans i⟩
abbrev itS (n : Int) : ByteArray := ⟨(Lib.itoa n).toArray⟩
abbrev i64in (n : Int) : Prop := -9223372036854775808 ≤ n ∧ n ≤ 9223372036854775807
theorem itS_size {n : Int} (h : i64in n) : (itS n).size ≤ 21 := by
 have := Lib.itoa_length_le n h.1 h.2
 show (Lib.itoa n).toArray.size ≤ 21
 rw [List.size_toArray]; exact this
theorem itoaY_spec {h0 : Hp} (T : TabY h0) (n : Int) (h : i64in n) : Ct Tryz.prog 155 [int n] [ro h0] (fun v hs => v = .string (itS n) ∧ hs = [ro h0]) :=
 Ct.ofBelow Tryz.func155 rfl (by kernel_rfl) (V := fun _ => .string (itS n)) (fun w0 w R st => (Any.strconv_Itoa Tryz.laysItoa n h.1 h.2 w (T.2 w (Sat.ro st))).mono fun e w' ⟨h1, k, os, h2⟩ => ⟨h1, by
   rw [h2]
   refine ⟨rfl, rfl, rfl, ?_, fun j hj => ?_⟩
   · show w.heap.size ≤ (w.heap ++ os).size
     rw [Array.size_append]; omega
   · show (w.heap ++ os)[j]? = w.heap[j]?
     rw [Array.getElem?_append_left hj]⟩) (fun _ => ⟨rfl, rfl⟩)
theorem jextra : Builder.Extra Tryz.prog Tryz.laysJoin_ren where
 sizeBuilder := by kernel_rfl
 liesBuilder := by kernel_rfl
 t5 := Tryz.underlying5
 a5 := Tryz.isAgg5
 z5 := Tryz.sizeOf5
 v5 := Tryz.zeroValue5
 infoByte := by kernel_rfl
 cellsByte := by kernel_rfl
 sizeByte := by kernel_rfl
 neB5 := by decide
abbrev jnS (xs : List ByteArray) (sep : ByteArray) : ByteArray := ⟨(Lib.join (xs.map (·.data.toList)) sep.data.toList).toArray⟩
theorem join_spec {S : HProp} {a : Option Addr} {c : Nat} {xs : List ByteArray} (hS : Srd S 1 strC a xs) (hne : xs ≠ []) (hc : xs.length ≤ c) (hN : xs.length ≤ 1000) (sep : ByteArray) (hlen : (Lib.join (xs.map (·.data.toList)) sep.data.toList).length ≤ 140737488355328) :
   Ct Tryz.prog 156 [.slice a xs.length c, .string sep] [S] (fun v hs => v = .string (jnS xs sep) ∧ hs = [S]) :=
 Ct.ofBelow Tryz.func156 rfl (by kernel_rfl) (V := fun _ => .string (jnS xs sep)) (fun w0 w R st => by
   obtain ⟨b, off, rfl, hx⟩ := (hS.h .hd : SlH w0 ([S] ++ R) 1 strC a xs) w st hne
   have hcells : ∀ (j : Nat) x, xs[j]? = some x → w.cell? ⟨b, off + j, none⟩ = some (.string x) := fun j x hj => by
     have := hx j x hj 0 (.string x) rfl
     simpa using this
   obtain ⟨x0, hx0⟩ : ∃ x, xs[0]? = some x := ⟨xs[0]'(List.length_pos_iff.2 hne), by simp [List.length_pos_iff.2 hne]⟩
   exact Any.strings_Join Tryz.laysJoin jextra b off c xs sep w hcells (World.block_lt_of_cell? w _ (hcells 0 x0 hx0)) (by omega) hc hlen) (fun _ => ⟨rfl, rfl⟩)
abbrev quC (x : AskV) (lim : Int) (z : Rec) : List Value := [int x.kind, int x.n, .slice x.w.a x.w.xs.length x.w.c, .slice x.sa x.ss.length x.sc, int lim, int z.o, int z.q, int z.w, int z.c, .string z.t]
abbrev quV (x : AskV) (lim : Int) (z : Rec) : Value := .agg (quC x lim z).toArray
def aftB (z : Rec) : Bool := decide (z = Rec.zero) || (decide (z.t = ⟨#[]⟩) && recB z)
def okQ (lim : Int) (z : Rec) : Bool := (decide (1 ≤ lim) && decide (lim ≤ 50)) && aftB z
theorem mayQuery_spec {S : HProp} (hT : TabU S) {d : Nat} {x : AskV} (hA : ARd S x) (hF : FewA d x) (hz : sizeA d x ≤ 1000) (hd : d ≤ 1000) (lim : Int) (z : Rec) :
   Ct Tryz.prog 153 [quV x lim z] [S] (fun v hs => v = .bool (mayA d x && okQ lim z) ∧ hs = [S]) := by
 obtain ⟨v0, hv0⟩ : ∃ v0, v0 = (mayA d x && okQ lim z) := ⟨_, rfl⟩
 have hv := hv0
 unfold okQ at hv
 obtain ⟨av, hav⟩ : ∃ av, av = aftB z := ⟨_, rfl⟩
 rw [← hav] at hv
 unfold aftB at hav
 rw [← hv0]
 refine Cti Tryz.func153 (by kernel_rfl) 35 Tryz.ntmps153 rfl rfl fun w0 R => ?_
 refine Gsr (La rfl (ac_box rfl rfl) ?_)
 rintro _ _ ⟨qb, rfl, rfl⟩
 refine Las rfl rfl (Lnt (Gs.seq (Gs.cut (E := [(1, ptr qb), (3, .bool av)]) (I := [cl qb 34 (quC x lim z), S] ++ R) ?_ ?_)))
 ·
  refine Gs.reg (Lq rfl (pu_fa fa_34_2 rfl) (Lr rfl (rd_lda ag_32 rfl (Rdc.cl 5 (by repeat constructor) rfl) rfl) ?_))
  refine Lq rfl (pu_build bd_32 (by repeat constructor) rfl) ?_
  refine Lq rfl (pu_eqT (a := z) (b := Rec.zero) cmp_32 (by decide) Tryz.eqGuardType32 rfl rfl) ?_
  refine LpuB rfl rfl trivial (pu_move rfl) (fun hg4 => ?_) (fun hg4 => ?_)
  ·
   have e4 : decide (z = Rec.zero) = true := hg4
   rw [e4, Bool.true_or] at hav
   refine Lof rfl (Lof rfl (Lof rfl (Lof rfl (Lof rfl (LoffU rfl rfl rfl rfl rfl (LoffU rfl rfl rfl rfl rfl (LoffU rfl rfl rfl rfl rfl (Lof rfl (Lpk rfl rfl rfl (Las rfl rfl (Lnt ?_)))))))))))
   subst hav
   exact Gs.cutEnd (by repeat constructor) (by repeat constructor)
  have e4 : decide (z = Rec.zero) = false := hg4
  rw [e4, Bool.false_or] at hav
  refine Lpu rfl rfl ⟨_, rfl, rfl⟩ (pu_fa fa_34_2 rfl) (Lpu rfl rfl ⟨_, rfl, rfl⟩ (pu_fa fa_32_2 rfl) (Lrd rfl rfl ⟨_, rfl, rfl⟩ (rd_ld na_9 rfl (Rdc.cl1 (by repeat constructor) rfl)) ?_))
  refine Lpu rfl rfl ⟨_, rfl, rfl⟩ (pu_eqS rfl rfl) (LpuB rfl rfl ⟨_, rfl, rfl⟩ (pu_move rfl) (fun hg9 => ?_) (fun hg9 => ?_))
  ·
   have e9 : decide (z.t = ⟨#[]⟩) = true := hg9
   rw [e9, Bool.true_and] at hav
   refine Lpu rfl rfl ⟨_, rfl, rfl⟩ (pu_fa fa_34_2 rfl) (Lrd rfl rfl ⟨_, rfl, rfl⟩ (rd_lda ag_32 rfl (Rdc.cl 5 (by repeat constructor) rfl) rfl) ?_)
   refine Lac rfl rfl ⟨_, rfl, rfl⟩ (asC (hT.ct (fun h0 T => recMay_spec T.1 z))) ?_
   rintro _ _ ⟨_, ⟨rfl, rfl⟩, rfl⟩
   refine Lpu rfl rfl ⟨_, rfl, rfl⟩ (by first | exact pu_pick_t rfl rfl | exact pu_pick_f rfl rfl) ?_
   refine Lpk rfl rfl rfl (Las rfl rfl (Lnt ?_))
   subst hav
   exact Gs.cutEnd (by repeat constructor) (by repeat constructor)
  have e9 : decide (z.t = ⟨#[]⟩) = false := hg9
  rw [e9, Bool.false_and] at hav
  refine Lof rfl (Lof rfl (Lof rfl (Lpu rfl rfl ⟨_, rfl, rfl⟩ (by first | exact pu_pick_t rfl rfl | exact pu_pick_f rfl rfl) ?_)))
  refine Lpk rfl rfl rfl (Las rfl rfl (Lnt ?_))
  subst hav
  exact Gs.cutEnd (by repeat constructor) (by repeat constructor)
 refine Gsr (Lq rfl (pu_fa fa_34_0 rfl) (Lr rfl (rd_lda ag_26 rfl (Rdc.cl 4 (by repeat constructor) rfl) rfl) ?_))
 refine La rfl (asC (mayA_spec hT hA hF hz hd)) ?_
 rintro _ _ ⟨_, ⟨rfl, rfl⟩, rfl⟩
 refine LpuB rfl rfl trivial (pu_move rfl) (fun hg3 => ?_) (fun hg3 => ?_)
 ·
  have e3 : mayA d x = true := hg3
  refine Lpu rfl rfl ⟨_, rfl, rfl⟩ (pu_fa fa_34_1 rfl) (Lrd rfl rfl ⟨_, rfl, rfl⟩ (rd_ld na_3 rfl (Rdc.cl1 (by repeat constructor) rfl)) ?_)
  refine Lpu rfl rfl ⟨_, rfl, rfl⟩ (pu_ge rfl rfl) (Lpk rfl rfl rfl (LpuB rfl rfl trivial (pu_move rfl) (fun hg8 => ?_) (fun hg8 => ?_)))
  ·
   have e8 : decide (1 ≤ lim) = true := hg8
   refine Lpu rfl rfl ⟨_, rfl, rfl⟩ (pu_fa fa_34_1 rfl) (Lrd rfl rfl ⟨_, rfl, rfl⟩ (rd_ld na_3 rfl (Rdc.cl1 (by repeat constructor) rfl)) ?_)
   refine Lpu rfl rfl ⟨_, rfl, rfl⟩ (pu_le rfl rfl) (Lpk rfl rfl rfl (LpuB rfl rfl trivial (pu_move rfl) (fun hg13 => ?_) (fun hg13 => ?_)))
   ·
    have e13 : decide (lim ≤ 50) = true := hg13
    refine Lpu rfl rfl ⟨_, rfl, rfl⟩ (pu_move rfl) (Lpk rfl rfl rfl (Las rfl rfl (Lnt (Gs.ret ?_))))
    exact Gs.fin1 Tryz.results153 rfl _ (⟨by
      rw [hv]
      first
        | rw [e3, e8, e13, hav]; rfl
        | rw [e3, e8, e13]; rfl
        | rw [e3, e8]; rfl
        | rw [e3]; rfl, rfl⟩) (by repeat constructor)
   have e13 : decide (lim ≤ 50) = false := hg13
   refine Lof rfl (Lpk rfl rfl rfl (Las rfl rfl (Lnt (Gs.ret ?_))))
   exact Gs.fin1 Tryz.results153 rfl _ (⟨by
     rw [hv]
     first
       | rw [e3, e8, e13, hav]; rfl
       | rw [e3, e8, e13]; rfl
       | rw [e3, e8]; rfl
       | rw [e3]; rfl, rfl⟩) (by repeat constructor)
  have e8 : decide (1 ≤ lim) = false := hg8
  refine Lof rfl (Lof rfl (Lof rfl (Lpk rfl rfl rfl (Lmv rfl rfl (Lof rfl (Lpk rfl rfl rfl (Las rfl rfl (Lnt (Gs.ret ?_)))))))))
  exact Gs.fin1 Tryz.results153 rfl _ (⟨by
    rw [hv]
    first
      | rw [e3, e8, e13, hav]; rfl
      | rw [e3, e8, e13]; rfl
      | rw [e3, e8]; rfl
      | rw [e3]; rfl, rfl⟩) (by repeat constructor)
 have e3 : mayA d x = false := hg3
 refine Lof rfl (Lof rfl (Lof rfl (Lpk rfl rfl rfl (Lmv rfl rfl (Lof rfl (Lof rfl (Lof rfl (Lpk rfl rfl rfl (Lmv rfl rfl (Lof rfl (Lpk rfl rfl rfl ?_)))))))))))
 refine Las rfl rfl (Lnt (Gs.ret ?_))
 exact Gs.fin1 Tryz.results153 rfl _ (⟨by
   rw [hv]
   first
     | rw [e3, e8, e13, hav]; rfl
     | rw [e3, e8, e13]; rfl
     | rw [e3, e8]; rfl
     | rw [e3]; rfl, rfl⟩) (by repeat constructor)
theorem mayQuery14_spec {S : HProp} (hT : TabU S) {d : Nat} {x : AskV} (hA : ARd S x) (hF : FewA d x) (hz : sizeA d x ≤ 1000) (hd : d ≤ 1000) (lim : Int) (z : Rec) :
   Ct Tryz.prog 83 [quV x lim z] [S] (fun v hs => v = .bool (mayA d x && okQ lim z) ∧ hs = [S]) := by
 have hrec : (decide (z.t = ⟨#[]⟩) && recB z) = (keyB z.key && stampB z.w z.c && decide (z.t = ⟨#[]⟩)) := by
   by_cases e : z.t = ⟨#[]⟩
   · rw [decide_eq_true e, Bool.true_and, Bool.and_true]
     unfold recB
     rw [e, show textB ⟨#[]⟩ = true by unfold textB; rw [validS_nil]; rfl, Bool.and_true]
   · rw [decide_eq_false e, Bool.false_and, Bool.and_false]
 obtain ⟨v0, hv0⟩ : ∃ v0, v0 = (mayA d x && okQ lim z) := ⟨_, rfl⟩
 have hv := hv0
 unfold okQ aftB at hv
 rw [hrec] at hv
 rw [← hv0]
 refine Cti Tryz.func83 (by kernel_rfl) 44 Tryz.ntmps83 rfl rfl fun w0 R => ?_
 refine Gsr (La rfl (ac_box rfl rfl) ?_)
 rintro _ _ ⟨qb, rfl, rfl⟩
 refine Las rfl rfl (Lnt (Gsr (Lq rfl (pu_fa fa_34_2 rfl) (Lr rfl (rd_lda ag_32 rfl (Rdc.cl 5 (by repeat constructor) rfl) rfl) ?_))))
 refine Lq rfl (pu_build bd_32 (by repeat constructor) rfl) ?_
 refine Lq rfl (pu_eqT (a := z) (b := Rec.zero) cmp_32 (by decide) Tryz.eqGuardType32 rfl rfl) ?_
 refine Las rfl rfl (Lnt (Gsr (Lq rfl (pu_fa fa_34_2 rfl) (Lq rfl (pu_fa fa_32_0 rfl) (Lr rfl (rd_lda ag_28 rfl (Rdc.cl 2 (by repeat constructor) rfl) rfl) ?_)))))
 refine La rfl (asC (keyMay_spec z.key)) ?_
 rintro _ _ ⟨_, ⟨rfl, rfl⟩, rfl⟩
 refine LpuB rfl rfl trivial (pu_move rfl) (fun hg4 => ?_) (fun hg4 => ?_)
 ·
  have e4 : keyB z.key = true := hg4
  rw [e4, Bool.true_and] at hv
  refine Lpu rfl rfl ⟨_, rfl, rfl⟩ (pu_fa fa_34_2 rfl) (Lpu rfl rfl ⟨_, rfl, rfl⟩ (pu_fa fa_32_1 rfl) (Lrd rfl rfl ⟨_, rfl, rfl⟩ (rd_lda ag_30 rfl (Rdc.cl 2 (by repeat constructor) rfl) rfl) ?_))
  refine Lac rfl rfl ⟨_, rfl, rfl⟩ (asC (stampMay2_spec z.w z.c)) ?_
  rintro _ _ ⟨_, ⟨rfl, rfl⟩, rfl⟩
  refine Lpk rfl rfl rfl (LpuB rfl rfl trivial (pu_move rfl) (fun hg10 => ?_) (fun hg10 => ?_))
  ·
   have e10 : stampB z.w z.c = true := hg10
   rw [e10, Bool.true_and] at hv
   refine Lpu rfl rfl ⟨_, rfl, rfl⟩ (pu_fa fa_34_2 rfl) (Lpu rfl rfl ⟨_, rfl, rfl⟩ (pu_fa fa_32_2 rfl) (Lrd rfl rfl ⟨_, rfl, rfl⟩ (rd_ld na_9 rfl (Rdc.cl1 (by repeat constructor) rfl)) ?_))
   refine Lpu rfl rfl ⟨_, rfl, rfl⟩ (pu_eqS rfl rfl) (Lpk rfl rfl rfl (Las rfl rfl (Lnt (Gsr (Lq rfl (pu_fa fa_34_0 rfl) (Lr rfl (rd_lda ag_26 rfl (Rdc.cl 4 (by repeat constructor) rfl) rfl) ?_))))))
   refine La rfl (asC (may14_spec hT hA hF hz hd)) ?_
   rintro _ _ ⟨_, ⟨rfl, rfl⟩, rfl⟩
   refine LpuB rfl rfl trivial (pu_move rfl) (fun hg3 => ?_) (fun hg3 => ?_)
   ·
    have e3 : mayA d x = true := hg3
    refine Lpu rfl rfl ⟨_, rfl, rfl⟩ (pu_fa fa_34_1 rfl) (Lrd rfl rfl ⟨_, rfl, rfl⟩ (rd_ld na_3 rfl (Rdc.cl1 (by repeat constructor) rfl)) ?_)
    refine Lpu rfl rfl ⟨_, rfl, rfl⟩ (pu_ge rfl rfl) (Lpk rfl rfl rfl (LpuB rfl rfl trivial (pu_move rfl) (fun hg8 => ?_) (fun hg8 => ?_)))
    ·
     have e8 : decide (1 ≤ lim) = true := hg8
     refine Lpu rfl rfl ⟨_, rfl, rfl⟩ (pu_fa fa_34_1 rfl) (Lrd rfl rfl ⟨_, rfl, rfl⟩ (rd_ld na_3 rfl (Rdc.cl1 (by repeat constructor) rfl)) ?_)
     refine Lpu rfl rfl ⟨_, rfl, rfl⟩ (pu_le rfl rfl) (Lpk rfl rfl rfl (LpuB rfl rfl trivial (pu_move rfl) (fun hg13 => ?_) (fun hg13 => ?_)))
     ·
      have e13 : decide (lim ≤ 50) = true := hg13
      refine Lpu rfl rfl ⟨_, rfl, rfl⟩ (pu_move rfl) (LpuB rfl rfl ⟨_, rfl, rfl⟩ (pu_move rfl) (fun hg15 => ?_) (fun hg15 => ?_))
      ·
       have e15 : decide (z = Rec.zero) = true := hg15
       refine Lof rfl (Lpu rfl rfl ⟨_, rfl, rfl⟩ (by first | exact pu_pick_t rfl rfl | exact pu_pick_f rfl rfl) ?_)
       refine Lpk rfl rfl rfl (Las rfl rfl (Lnt (Gs.ret ?_)))
       exact Gs.fin1 Tryz.results83 rfl _ (⟨by
         rw [hv]
         first
           | rw [e3, e8, e13, e15]; rfl
           | rw [e3, e8, e13, e15, Bool.false_or]; rfl
           | rw [e3, e8, e13]; rfl
           | rw [e3, e8]; rfl
           | rw [e3]; rfl, rfl⟩) (by repeat constructor)
      have e15 : decide (z = Rec.zero) = false := hg15
      refine Lpu rfl rfl ⟨_, rfl, rfl⟩ (pu_move rfl) (Lpu rfl rfl ⟨_, rfl, rfl⟩ (by first | exact pu_pick_t rfl rfl | exact pu_pick_f rfl rfl) ?_)
      refine Lpk rfl rfl rfl (Las rfl rfl (Lnt (Gs.ret ?_)))
      exact Gs.fin1 Tryz.results83 rfl _ (⟨by
        rw [hv]
        first
          | rw [e3, e8, e13, e15]; rfl
          | rw [e3, e8, e13, e15, Bool.false_or]; rfl
          | rw [e3, e8, e13]; rfl
          | rw [e3, e8]; rfl
          | rw [e3]; rfl, rfl⟩) (by repeat constructor)
     have e13 : decide (lim ≤ 50) = false := hg13
     refine Lof rfl (Lof rfl (LoffU rfl rfl rfl rfl rfl (Lof rfl (Lpk rfl rfl rfl (Las rfl rfl (Lnt (Gs.ret ?_)))))))
     exact Gs.fin1 Tryz.results83 rfl _ (⟨by
       rw [hv]
       first
         | rw [e3, e8, e13, e15]; rfl
         | rw [e3, e8, e13, e15, Bool.false_or]; rfl
         | rw [e3, e8, e13]; rfl
         | rw [e3, e8]; rfl
         | rw [e3]; rfl, rfl⟩) (by repeat constructor)
    have e8 : decide (1 ≤ lim) = false := hg8
    refine Lof rfl (Lof rfl (Lof rfl (Lpk rfl rfl rfl (Lmv rfl rfl (Lof rfl (Lof rfl (LoffU rfl rfl rfl rfl rfl (Lof rfl (Lpk rfl rfl rfl (Las rfl rfl (Lnt ?_)))))))))))
    refine Gs.ret ?_
    exact Gs.fin1 Tryz.results83 rfl _ (⟨by
      rw [hv]
      first
        | rw [e3, e8, e13, e15]; rfl
        | rw [e3, e8, e13, e15, Bool.false_or]; rfl
        | rw [e3, e8, e13]; rfl
        | rw [e3, e8]; rfl
        | rw [e3]; rfl, rfl⟩) (by repeat constructor)
   have e3 : mayA d x = false := hg3
   refine Lof rfl (Lof rfl (Lof rfl (Lpk rfl rfl rfl (Lmv rfl rfl (Lof rfl (Lof rfl (Lof rfl (Lpk rfl rfl rfl (Lmv rfl rfl (Lof rfl (Lof rfl ?_)))))))))))
   refine LoffU rfl rfl rfl rfl rfl (Lof rfl (Lpk rfl rfl rfl (Las rfl rfl (Lnt (Gs.ret ?_)))))
   exact Gs.fin1 Tryz.results83 rfl _ (⟨by
     rw [hv]
     first
       | rw [e3, e8, e13, e15]; rfl
       | rw [e3, e8, e13, e15, Bool.false_or]; rfl
       | rw [e3, e8, e13]; rfl
       | rw [e3, e8]; rfl
       | rw [e3]; rfl, rfl⟩) (by repeat constructor)
  have e10 : stampB z.w z.c = false := hg10
  rw [e10, Bool.false_and] at hv
  refine Lof rfl (Lof rfl (Lof rfl (Lof rfl (Lpk rfl rfl rfl (Las rfl rfl (Lnt (Gsr (Lq rfl (pu_fa fa_34_0 rfl) (Lr rfl (rd_lda ag_26 rfl (Rdc.cl 4 (by repeat constructor) rfl) rfl) ?_)))))))))
  refine La rfl (asC (may14_spec hT hA hF hz hd)) ?_
  rintro _ _ ⟨_, ⟨rfl, rfl⟩, rfl⟩
  refine LpuB rfl rfl trivial (pu_move rfl) (fun hg3 => ?_) (fun hg3 => ?_)
  ·
   have e3 : mayA d x = true := hg3
   refine Lpu rfl rfl ⟨_, rfl, rfl⟩ (pu_fa fa_34_1 rfl) (Lrd rfl rfl ⟨_, rfl, rfl⟩ (rd_ld na_3 rfl (Rdc.cl1 (by repeat constructor) rfl)) ?_)
   refine Lpu rfl rfl ⟨_, rfl, rfl⟩ (pu_ge rfl rfl) (Lpk rfl rfl rfl (LpuB rfl rfl trivial (pu_move rfl) (fun hg8 => ?_) (fun hg8 => ?_)))
   ·
    have e8 : decide (1 ≤ lim) = true := hg8
    refine Lpu rfl rfl ⟨_, rfl, rfl⟩ (pu_fa fa_34_1 rfl) (Lrd rfl rfl ⟨_, rfl, rfl⟩ (rd_ld na_3 rfl (Rdc.cl1 (by repeat constructor) rfl)) ?_)
    refine Lpu rfl rfl ⟨_, rfl, rfl⟩ (pu_le rfl rfl) (Lpk rfl rfl rfl (LpuB rfl rfl trivial (pu_move rfl) (fun hg13 => ?_) (fun hg13 => ?_)))
    ·
     have e13 : decide (lim ≤ 50) = true := hg13
     refine Lpu rfl rfl ⟨_, rfl, rfl⟩ (pu_move rfl) (LpuB rfl rfl ⟨_, rfl, rfl⟩ (pu_move rfl) (fun hg15 => ?_) (fun hg15 => ?_))
     ·
      have e15 : decide (z = Rec.zero) = true := hg15
      refine Lof rfl (Lpu rfl rfl ⟨_, rfl, rfl⟩ (by first | exact pu_pick_t rfl rfl | exact pu_pick_f rfl rfl) ?_)
      refine Lpk rfl rfl rfl (Las rfl rfl (Lnt (Gs.ret ?_)))
      exact Gs.fin1 Tryz.results83 rfl _ (⟨by
        rw [hv]
        first
          | rw [e3, e8, e13, e15]; rfl
          | rw [e3, e8, e13, e15, Bool.false_or]; rfl
          | rw [e3, e8, e13]; rfl
          | rw [e3, e8]; rfl
          | rw [e3]; rfl, rfl⟩) (by repeat constructor)
     have e15 : decide (z = Rec.zero) = false := hg15
     refine Lpu rfl rfl ⟨_, rfl, rfl⟩ (pu_move rfl) (Lpu rfl rfl ⟨_, rfl, rfl⟩ (by first | exact pu_pick_t rfl rfl | exact pu_pick_f rfl rfl) ?_)
     refine Lpk rfl rfl rfl (Las rfl rfl (Lnt (Gs.ret ?_)))
     exact Gs.fin1 Tryz.results83 rfl _ (⟨by
       rw [hv]
       first
         | rw [e3, e8, e13, e15]; rfl
         | rw [e3, e8, e13, e15, Bool.false_or]; rfl
         | rw [e3, e8, e13]; rfl
         | rw [e3, e8]; rfl
         | rw [e3]; rfl, rfl⟩) (by repeat constructor)
    have e13 : decide (lim ≤ 50) = false := hg13
    refine Lof rfl (Lof rfl (LoffU rfl rfl rfl rfl rfl (Lof rfl (Lpk rfl rfl rfl (Las rfl rfl (Lnt (Gs.ret ?_)))))))
    exact Gs.fin1 Tryz.results83 rfl _ (⟨by
      rw [hv]
      first
        | rw [e3, e8, e13, e15]; rfl
        | rw [e3, e8, e13, e15, Bool.false_or]; rfl
        | rw [e3, e8, e13]; rfl
        | rw [e3, e8]; rfl
        | rw [e3]; rfl, rfl⟩) (by repeat constructor)
   have e8 : decide (1 ≤ lim) = false := hg8
   refine Lof rfl (Lof rfl (Lof rfl (Lpk rfl rfl rfl (Lmv rfl rfl (Lof rfl (Lof rfl (LoffU rfl rfl rfl rfl rfl (Lof rfl (Lpk rfl rfl rfl (Las rfl rfl (Lnt ?_)))))))))))
   refine Gs.ret ?_
   exact Gs.fin1 Tryz.results83 rfl _ (⟨by
     rw [hv]
     first
       | rw [e3, e8, e13, e15]; rfl
       | rw [e3, e8, e13, e15, Bool.false_or]; rfl
       | rw [e3, e8, e13]; rfl
       | rw [e3, e8]; rfl
       | rw [e3]; rfl, rfl⟩) (by repeat constructor)
  have e3 : mayA d x = false := hg3
  refine Lof rfl (Lof rfl (Lof rfl (Lpk rfl rfl rfl (Lmv rfl rfl (Lof rfl (Lof rfl (Lof rfl (Lpk rfl rfl rfl (Lmv rfl rfl (Lof rfl (Lof rfl ?_)))))))))))
  refine LoffU rfl rfl rfl rfl rfl (Lof rfl (Lpk rfl rfl rfl (Las rfl rfl (Lnt (Gs.ret ?_)))))
  exact Gs.fin1 Tryz.results83 rfl _ (⟨by
    rw [hv]
    first
      | rw [e3, e8, e13, e15]; rfl
      | rw [e3, e8, e13, e15, Bool.false_or]; rfl
      | rw [e3, e8, e13]; rfl
      | rw [e3, e8]; rfl
      | rw [e3]; rfl, rfl⟩) (by repeat constructor)
 have e4 : keyB z.key = false := hg4
 rw [e4, Bool.false_and, Bool.false_and] at hv
 refine Lof rfl (Lof rfl (Lof rfl (Lof rfl (Lpk rfl rfl rfl (Lmv rfl rfl (Lof rfl (Lof rfl (Lof rfl (Lof rfl (Lpk rfl rfl rfl (Las rfl rfl ?_)))))))))))
 refine Lnt (Gsr (Lq rfl (pu_fa fa_34_0 rfl) (Lr rfl (rd_lda ag_26 rfl (Rdc.cl 4 (by repeat constructor) rfl) rfl) ?_)))
 refine La rfl (asC (may14_spec hT hA hF hz hd)) ?_
 rintro _ _ ⟨_, ⟨rfl, rfl⟩, rfl⟩
 refine LpuB rfl rfl trivial (pu_move rfl) (fun hg3 => ?_) (fun hg3 => ?_)
 ·
  have e3 : mayA d x = true := hg3
  refine Lpu rfl rfl ⟨_, rfl, rfl⟩ (pu_fa fa_34_1 rfl) (Lrd rfl rfl ⟨_, rfl, rfl⟩ (rd_ld na_3 rfl (Rdc.cl1 (by repeat constructor) rfl)) ?_)
  refine Lpu rfl rfl ⟨_, rfl, rfl⟩ (pu_ge rfl rfl) (Lpk rfl rfl rfl (LpuB rfl rfl trivial (pu_move rfl) (fun hg8 => ?_) (fun hg8 => ?_)))
  ·
   have e8 : decide (1 ≤ lim) = true := hg8
   refine Lpu rfl rfl ⟨_, rfl, rfl⟩ (pu_fa fa_34_1 rfl) (Lrd rfl rfl ⟨_, rfl, rfl⟩ (rd_ld na_3 rfl (Rdc.cl1 (by repeat constructor) rfl)) ?_)
   refine Lpu rfl rfl ⟨_, rfl, rfl⟩ (pu_le rfl rfl) (Lpk rfl rfl rfl (LpuB rfl rfl trivial (pu_move rfl) (fun hg13 => ?_) (fun hg13 => ?_)))
   ·
    have e13 : decide (lim ≤ 50) = true := hg13
    refine Lpu rfl rfl ⟨_, rfl, rfl⟩ (pu_move rfl) (LpuB rfl rfl ⟨_, rfl, rfl⟩ (pu_move rfl) (fun hg15 => ?_) (fun hg15 => ?_))
    ·
     have e15 : decide (z = Rec.zero) = true := hg15
     refine Lof rfl (Lpu rfl rfl ⟨_, rfl, rfl⟩ (by first | exact pu_pick_t rfl rfl | exact pu_pick_f rfl rfl) ?_)
     refine Lpk rfl rfl rfl (Las rfl rfl (Lnt (Gs.ret ?_)))
     exact Gs.fin1 Tryz.results83 rfl _ (⟨by
       rw [hv]
       first
         | rw [e3, e8, e13, e15]; rfl
         | rw [e3, e8, e13, e15, Bool.false_or]; rfl
         | rw [e3, e8, e13]; rfl
         | rw [e3, e8]; rfl
         | rw [e3]; rfl, rfl⟩) (by repeat constructor)
    have e15 : decide (z = Rec.zero) = false := hg15
    refine Lpu rfl rfl ⟨_, rfl, rfl⟩ (pu_move rfl) (Lpu rfl rfl ⟨_, rfl, rfl⟩ (by first | exact pu_pick_t rfl rfl | exact pu_pick_f rfl rfl) ?_)
    refine Lpk rfl rfl rfl (Las rfl rfl (Lnt (Gs.ret ?_)))
    exact Gs.fin1 Tryz.results83 rfl _ (⟨by
      rw [hv]
      first
        | rw [e3, e8, e13, e15]; rfl
        | rw [e3, e8, e13, e15, Bool.false_or]; rfl
        | rw [e3, e8, e13]; rfl
        | rw [e3, e8]; rfl
        | rw [e3]; rfl, rfl⟩) (by repeat constructor)
   have e13 : decide (lim ≤ 50) = false := hg13
   refine Lof rfl (Lof rfl (LoffU rfl rfl rfl rfl rfl (Lof rfl (Lpk rfl rfl rfl (Las rfl rfl (Lnt (Gs.ret ?_)))))))
   exact Gs.fin1 Tryz.results83 rfl _ (⟨by
     rw [hv]
     first
       | rw [e3, e8, e13, e15]; rfl
       | rw [e3, e8, e13, e15, Bool.false_or]; rfl
       | rw [e3, e8, e13]; rfl
       | rw [e3, e8]; rfl
       | rw [e3]; rfl, rfl⟩) (by repeat constructor)
  have e8 : decide (1 ≤ lim) = false := hg8
  refine Lof rfl (Lof rfl (Lof rfl (Lpk rfl rfl rfl (Lmv rfl rfl (Lof rfl (Lof rfl (LoffU rfl rfl rfl rfl rfl (Lof rfl (Lpk rfl rfl rfl (Las rfl rfl (Lnt ?_)))))))))))
  refine Gs.ret ?_
  exact Gs.fin1 Tryz.results83 rfl _ (⟨by
    rw [hv]
    first
      | rw [e3, e8, e13, e15]; rfl
      | rw [e3, e8, e13, e15, Bool.false_or]; rfl
      | rw [e3, e8, e13]; rfl
      | rw [e3, e8]; rfl
      | rw [e3]; rfl, rfl⟩) (by repeat constructor)
 have e3 : mayA d x = false := hg3
 refine Lof rfl (Lof rfl (Lof rfl (Lpk rfl rfl rfl (Lmv rfl rfl (Lof rfl (Lof rfl (Lof rfl (Lpk rfl rfl rfl (Lmv rfl rfl (Lof rfl (Lof rfl ?_)))))))))))
 refine LoffU rfl rfl rfl rfl rfl (Lof rfl (Lpk rfl rfl rfl (Las rfl rfl (Lnt (Gs.ret ?_)))))
 exact Gs.fin1 Tryz.results83 rfl _ (⟨by
   rw [hv]
   first
     | rw [e3, e8, e13, e15]; rfl
     | rw [e3, e8, e13, e15, Bool.false_or]; rfl
     | rw [e3, e8, e13]; rfl
     | rw [e3, e8]; rfl
     | rw [e3]; rfl, rfl⟩) (by repeat constructor)
abbrev ask4 : AskV := .mk 4 0 ⟨none, [], 0⟩ none 0 []
theorem ask4_rd (S : HProp) : ARd S ask4 := .mk (fun _ _ _ _ _ _ h => (h rfl).elim) (fun _ _ _ _ _ _ h => (h rfl).elim) ⟨Nat.zero_le _, Nat.zero_le _⟩ fun x h => by cases h
theorem ask4_few : FewA 1 ask4 := ⟨Nat.zero_le _, fun w h => (by cases h), Nat.zero_le _, fun x h => by cases h⟩
theorem ask4_may : mayA 1 ask4 = true := by
 unfold mayA goodA
 rfl
theorem write4_spec {S : HProp} (hT : TabW S) : Ct Tryz.prog 154 [askV ask4] [S] (fun v hs => (∃ s, v = .string s ∧ s.size ≤ 30) ∧ hs = [S]) := by
 refine Cti Tryz.func154 (by kernel_rfl) 73 Tryz.ntmps154 rfl rfl fun w0 R => ?_
 refine Gsr (La rfl (ac_box rfl rfl) ?_)
 rintro _ _ ⟨xb, rfl, rfl⟩
 refine Las rfl rfl (Lnt (Gsr (Las rfl rfl (Lnt (Gs.seq (Gsr (Lq rfl (pu_fa fa_26_3 rfl) (Lr rfl (rd_ld na_24 rfl (Rdc.cl1 (by repeat constructor) rfl)) ?_))))))))
 refine Lq rfl (pu_len Tryz.underlying24 rfl) (Lmv rfl rfl (Lnt (Gs.block (Gs.loop1 (fun _ : Nat => True) (fun _ => [(1, ptr xb), (3, .slice none 0 0), (8, int 0), (9, int 0)]) (fun _ => [cl xb 26 (askC ask4), S] ++ R) (fun i => i) 0 (trivial) (by repeat constructor) (by repeat constructor) (fun i _ => ?_)))))
 refine Gsr (Lq rfl (pu_lt rfl rfl) (Lnt (Gs.seq (Gs.cond_ff rfl (by decide) ?_))))
 refine Gs.exit (Gx (Gx (Gs.blk_hit (Gn (Gs.seq (Gsr (Lq rfl (pu_fa fa_26_0 rfl) (Lr rfl (rd_ld na_3 rfl (Rdc.cl1 (by repeat constructor) rfl)) ?_))))))))
 refine Lnt (Gs.block (Gsr (Lq rfl (pu_eq rfl rfl) (Las rfl rfl (Lnt (Gs.cond_ff rfl (by decide) ?_))))))
 refine Gsr (Lq rfl (pu_eq rfl rfl) (Las rfl rfl (Lnt (Gs.cond_ff rfl (by decide) ?_))))
 refine Gsr (Lq rfl (pu_eq rfl rfl) (Las rfl rfl (Lnt (Gs.cond_ff rfl (by decide) ?_))))
 refine Gsr (Lq rfl (pu_eq rfl rfl) (Las rfl rfl (Lnt (Gs.cond_tt rfl (by decide) ?_))))
 refine Gsr (Lq rfl (pu_fa fa_26_1 rfl) (Lr rfl (rd_ld na_3 rfl (Rdc.cl1 (by repeat constructor) rfl)) ?_))
 refine La rfl (asC (hT.ct (fun h0 T => itoaY_spec T 0 ⟨by decide, by decide⟩))) ?_
 rintro _ _ ⟨_, ⟨rfl, rfl⟩, rfl⟩
 refine Lq rfl (pu_addS (by have h9 := itS_size (n := 0) ⟨by decide, by decide⟩; show 5 + (itS 0).size ≤ _; omega) rfl rfl) ?_
 refine Las rfl rfl (Lnt (Gs.ret (Gs.blk_r (Gr ?_))))
 exact Gs.fin1 Tryz.results154 rfl _ (⟨⟨_, rfl, by
   have h9 := itS_size (n := 0) ⟨by decide, by decide⟩
   rw [ByteArray.size_append]
   show 5 + (itS 0).size ≤ 30
   omega⟩, rfl⟩) (by repeat constructor)
theorem aft_in {z : Rec} (h : aftB z = true) : i64in z.w ∧ i64in z.c ∧ i64in z.o ∧ i64in z.q := by
 unfold aftB at h
 rw [Bool.or_eq_true, decide_eq_true_iff] at h
 rcases h with h | h
 · subst h; exact ⟨⟨by decide, by decide⟩, ⟨by decide, by decide⟩, ⟨by decide, by decide⟩, ⟨by decide, by decide⟩⟩
 · have e1 : z.key.o = z.o := rfl
   have e2 : z.key.q = z.q := rfl
   simp only [Bool.and_eq_true, recB, keyB, stampB, inB, decide_eq_true_eq] at h
   rw [e1, e2] at h
   omega
theorem write_spec {S : HProp} (hT : TabW S) (lim : Int) (z : Rec) :
   Ct Tryz.prog 110 [quV ask4 lim z] [S] (fun v hs => (∃ s e, v = .tuple #[.string s, int e] ∧ decide (e = 0) = okQ lim z) ∧ hs = [S]) := by
 refine Cti Tryz.func110 (by kernel_rfl) 59 Tryz.ntmps110 rfl rfl fun w0 R => ?_
 refine Gsr (La rfl (ac_box rfl rfl) ?_)
 rintro _ _ ⟨qb, rfl, rfl⟩
 refine Las rfl rfl (Las rfl rfl (Lnt (Gs.seq (Gsr (Lr rfl (rd_lda ag_34 rfl (Rdc.cl 10 (by repeat constructor) rfl) rfl) ?_)))))
 refine La rfl (asC (mayQuery_spec hT.u (ask4_rd S) ask4_few (by decide) (by decide) lim z)) ?_
 rintro _ _ ⟨_, ⟨rfl, rfl⟩, rfl⟩
 rw [ask4_may, Bool.true_and]
 refine Lq rfl (pu_not rfl) (Lnt (Gs.cond rfl (fun hc0 => ?_) (fun hc0 => ?_)))
 ·
  have hno : okQ lim z = false := by simpa using hc0
  refine Gsr (Las rfl rfl (Las rfl rfl (Lnt (Gs.ret (Gr ?_)))))
  exact Gs.fin2 Tryz.results110 rfl rfl _ (⟨⟨_, 2, rfl, by rw [hno]; rfl⟩, rfl⟩) (by repeat constructor)
 have hyes : okQ lim z = true := by simpa using hc0
 have hlm : 1 ≤ lim ∧ lim ≤ 50 := by
   unfold okQ at hyes
   simp only [Bool.and_eq_true, decide_eq_true_eq] at hyes
   exact hyes.1
 have haf : aftB z = true := by
   unfold okQ at hyes
   rw [Bool.and_eq_true] at hyes
   exact hyes.2
 obtain ⟨iw, ic, io, iq⟩ := aft_in haf
 have il : i64in lim := ⟨by omega, by omega⟩
 have zl := itS_size il
 refine Gs.skip (Gn (Gs.seq (Gs.regD mixed (by kernel_rfl) (Rq 0 rfl (by kernel_rfl) (pu_fa fa_34_0 rfl) (Rr 1 rfl (by kernel_rfl) (rd_lda ag_26 rfl (Rdc.cl 4 (by repeat constructor) rfl) rfl) ?_)))))
 refine Rq 4 rfl (by kernel_rfl) (pu_fa fa_34_1 rfl) (Rr 5 rfl (by kernel_rfl) (rd_ld na_3 rfl (Rdc.cl1 (by repeat constructor) rfl)) ?_)
 refine Rg.one (by kernel_rfl) (Stp.acR 2 [5] rfl rfl (by kernel_rfl) trivial (asC (write4_spec hT)) (by rintro _ _ ⟨_, ⟨⟨s0, rfl, hs0⟩, rfl⟩, rfl⟩; exact (Reads.cons rfl rfl rfl trivial rfl (rd_ld na_3 rfl (Rdc.cl1 (by repeat constructor) rfl)) Reads.nil)) ?_)
 rintro _ _ ⟨_, ⟨⟨s0, rfl, hs0⟩, rfl⟩, rfl⟩
 refine Rq 3 rfl (by kernel_rfl) (pu_addS (by show s0.size + 7 ≤ _; omega) rfl rfl) ?_
 refine Rg.one (by kernel_rfl) (Stp.ac 6 rfl rfl (by kernel_rfl) trivial (asC (hT.ct (fun h0 T => itoaY_spec T lim il)))  ?_)
 rintro _ _ ⟨_, ⟨rfl, rfl⟩, rfl⟩
 refine Rq 7 rfl (by kernel_rfl) (pu_addS (by rw [ByteArray.size_append]; show s0.size + 7 + (itS lim).size ≤ _; omega) rfl rfl) ?_
 refine Rq 8 rfl (by kernel_rfl) (pu_assign rfl) (Rg.end (by kernel_rfl) ?_)
 obtain ⟨s1, hs1⟩ : ∃ s1, s1 = s0 ++ ⟨#[32, 108, 105, 109, 105, 116, 58]⟩ ++ itS lim := ⟨_, rfl⟩
 have hs1l : s1.size ≤ 60 := by rw [hs1, ByteArray.size_append, ByteArray.size_append]; show s0.size + 7 + (itS lim).size ≤ 60; omega
 rw [← hs1]
 refine Gn (Gs.seq (Gsr (Lq rfl (pu_fa fa_34_2 rfl) (Lr rfl (rd_lda ag_32 rfl (Rdc.cl 5 (by repeat constructor) rfl) rfl) ?_))))
 refine La rfl (ac_alloc zv_32 rfl) ?_
 rintro _ _ ⟨zb, rfl, rfl⟩
 refine Lac0 rfl trivial (ac_st sz_32 rfl rfl (by repeat constructor) rfl rfl rfl rfl) ?_
 rintro _ _ rfl
 refine Lnt (Gsr (Lq rfl (pu_fa fa_32_0 rfl) (Lq rfl (pu_fa fa_28_1 rfl) (Lr rfl (rd_ld na_3 rfl (Rdc.cl1 (by repeat constructor) rfl)) ?_))))
 refine Lq rfl (pu_gt rfl rfl) (Lnt (Gs.cond rfl (fun hc1 => ?_) (fun hc1 => ?_)))
 ·
  refine Gsr (Las rfl rfl (Lnil (Gs.slNil 9 1 strC (Gn (Gs.seq (Gsr (Lq rfl (pu_fa fa_32_1 rfl) (Lq rfl (pu_fa fa_30_0 rfl) (Lr rfl (rd_ld na_3 rfl (Rdc.cl1 (by repeat constructor) rfl)) ?_)))))))))
  refine Lq rfl (pu_fa fa_32_1 rfl) (Lq rfl (pu_fa fa_30_1 rfl) (Lr rfl (rd_ld na_3 rfl (Rdc.cl1 (by repeat constructor) rfl)) ?_))
  refine Lq rfl (pu_fa fa_32_0 rfl) (Lq rfl (pu_fa fa_28_0 rfl) (Lr rfl (rd_ld na_3 rfl (Rdc.cl1 (by repeat constructor) rfl)) ?_))
  refine Lq rfl (pu_fa fa_32_0 rfl) (Lq rfl (pu_fa fa_28_1 rfl) (Lr rfl (rd_ld na_3 rfl (Rdc.cl1 (by repeat constructor) rfl)) ?_))
  refine La rfl (ac_lit encC_3 ([z.w, z.c, z.o, z.q]) et_99 ek_3 rfl (by repeat constructor) rfl rfl (by decide)) ?_
  rintro _ _ ⟨a38, rfl, rfl⟩
  refine Lq rfl (pu_len Tryz.underlying99 rfl) (Lmv rfl rfl (Lnt (Gs.block (Gs.loop1 (fun s : Nat × (Option Addr × Nat) × List ByteArray => s.1 ≤ 4 ∧ s.2.2 = ([z.w, z.c, z.o, z.q].take s.1).map itS) (fun s => [(4, .string s1), (6, .slice s.2.1.1 s.2.2.length s.2.1.2), (38, .slice (some ⟨a38, 0, none⟩) 4 4), (39, int 4), (40, int s.1)]) (fun s => [S, sl 3 1 intC (some ⟨a38, 0, none⟩) 4 [z.w, z.c, z.o, z.q], sl 9 1 strC s.2.1.1 s.2.1.2 s.2.2] ++ R) (fun s => 4 - s.1) (0, (none, 0), []) (⟨Nat.zero_le _, rfl⟩) (by repeat constructor) (by repeat constructor) (fun s hs => ?_)))))
  obtain ⟨i, ⟨oa, oc⟩, O⟩ := s
  obtain ⟨hi, hO⟩ := hs
  dsimp only at hi hO ⊢
  have hOl : O.length = i := by rw [hO, List.length_map, List.length_take]; show min i 4 = i; omega
  refine Gsr (Lq rfl (pu_lt rfl rfl) (Lnt (Gs.seq (Gs.cond rfl (fun hc2 => ?_) (fun hc2 => ?_)))))
  ·
   have hlt : i < 4 := by have := of_decide_eq_true hc2; omega
   obtain ⟨n, hn⟩ : ∃ n, [z.w, z.c, z.o, z.q][i]? = some n := ⟨[z.w, z.c, z.o, z.q][i]'hlt, List.getElem?_eq_getElem hlt⟩
   have inn : i64in n := by
     have hm := List.mem_of_getElem? hn
     simp only [List.mem_cons, List.not_mem_nil, or_false] at hm
     rcases hm with rfl | rfl | rfl | rfl
     · exact iw
     · exact ic
     · exact io
     · exact iq
   have hsn : O ++ [itS n] = ([z.w, z.c, z.o, z.q].take (i + 1)).map itS := by rw [List.take_add_one, hn, List.map_append, hO]; rfl
   refine Gs.skip (Gn (Gs.seq (Gs.block (Gsr (Lq rfl (pu_ia se_99 rfl rfl (by omega) (by omega)) (Lr rfl (rd_ld na_3 rfl (Rdc.el0 (SlH.own (xs := [z.w, z.c, z.o, z.q]) (E := 3) (enc := intC) (sz := 1) (by repeat constructor)) hn rfl rfl)) ?_))))))
   refine Las rfl rfl (Lnt (Gs.reg (Lmv rfl rfl (Lmv rfl rfl (La rfl (asC (hT.ct (fun h0 T => itoaY_spec T n inn))) ?_)))))
   rintro _ _ ⟨_, ⟨rfl, rfl⟩, rfl⟩
   refine La rfl (ac_lit encC_9 ([itS n]) et_23 ek_9 rfl (by repeat constructor) rfl rfl (by decide)) ?_
   rintro _ _ ⟨a47, rfl, rfl⟩
   refine La rfl (ac_append (xs := O) (ys := [itS n]) et_23 ek_9 rfl rfl (by repeat constructor) (SrcH.sl Tryz.underlying23 ek_9 (SlH.own (by repeat constructor))) (by first | omega | (simp; omega)) (by first | omega | (simp; omega))) ?_
   rintro _ _ ⟨a48, c48, rfl, rfl⟩
   refine Las rfl rfl (Lnil (Gs.blk_n (Gn (Gs.reg (Lq rfl (by first | exact pu_addI rfl rfl rfl (by omega) (by omega) | exact pu_add rfl rfl) ?_)))))
   refine Lmv rfl rfl (Lnt ?_)
   exact Ag (i + 1, (a48, c48), O ++ [itS n]) ⟨hlt, hsn⟩ (by show 4 - (i + 1) < 4 - i; omega)
  have hge : i = 4 := by have := of_decide_eq_false hc2; omega
  subst hge
  have hO4 : O = [itS z.w, itS z.c, itS z.o, itS z.q] := hO
  refine Gs.slLen (E := 9) (sz := 1) (enc := strC) (a := oa) (c := oc) (xs := O) (by repeat constructor) fun hlc => ?_
  have hj : (Lib.join (O.map (·.data.toList)) [46]).length ≤ 87 := by
    rw [hO4, List.map_cons, Lib.join_length]
    have e1 := itS_size iw
    have e2 := itS_size ic
    have e3 := itS_size io
    have e4 := itS_size iq
    have g : ∀ n, (itS n).size = (Lib.itoa n).length := fun n => by show (Lib.itoa n).toArray.size = _; rw [List.size_toArray]
    rw [g] at e1 e2 e3 e4
    have f : ∀ s : ByteArray, s.data.toList.length = s.size := fun s => by simp
    simp only [List.map_cons, List.map_nil, List.length_cons, List.length_nil, Lib.lens, f]
    simp only [List.map_cons, List.map_nil, List.sum_cons, List.sum_nil, f, g]
    omega
  have hjs : (jnS O ⟨#[46]⟩).size ≤ 87 := by show (Lib.join (O.map (·.data.toList)) [46]).toArray.size ≤ 87; rw [List.size_toArray]; exact hj
  refine Gs.exit (Gx (Gx (Gs.blk_hit (Gn (Gs.reg (Lmv rfl rfl (Lmv rfl rfl (La rfl (asC (join_spec (S := sl 9 1 strC oa oc O) (a := oa) (c := oc) Srd.own (by rw [hO4]; exact List.cons_ne_nil _ _) hlc (by omega) ⟨#[46]⟩ (Nat.le_trans hj (by decide)))) ?_))))))))
  rintro _ _ ⟨_, ⟨rfl, rfl⟩, rfl⟩
  refine Lq rfl (pu_addS (by show 7 + (jnS O ⟨#[46]⟩).size ≤ _; omega) rfl rfl) ?_
  refine Lq rfl (pu_addS (by rw [ByteArray.size_append]; show s1.size + (7 + (jnS O ⟨#[46]⟩).size) ≤ _; omega) rfl rfl) ?_
  refine Las rfl rfl (Lnil ?_)
  have hfin : (s1 ++ ((⟨#[32, 97, 102, 116, 101, 114, 58]⟩ : ByteArray) ++ jnS O ⟨#[46]⟩)).size ≤ 200 := by rw [ByteArray.size_append, ByteArray.size_append]; show s1.size + (7 + (jnS O ⟨#[46]⟩).size) ≤ 200; omega
  refine Gn (Gs.seq (Gsr (Lmv rfl rfl (Lq rfl (pu_lenS Tryz.underlying9 rfl) (Lq rfl (pu_gt rfl rfl) (Lnt (Gs.cond_ff rfl (by first | exact decide_eq_false (by omega) | exact decide_eq_false (by have h9 := hfin; omega)) ?_)))))))
  refine Gs.skip (Gn (Gsr (Lmv rfl rfl (Las rfl rfl (Las rfl rfl (Lnt (Gs.ret ?_)))))))
  exact Gs.fin2 Tryz.results110 rfl rfl _ (⟨⟨_, 0, rfl, by rw [hyes]; rfl⟩, rfl⟩) (by repeat constructor)
 refine Gs.skip (Gn (Gs.seq (Gsr (Lmv rfl rfl (Lq rfl (pu_lenS Tryz.underlying9 rfl) (Lq rfl (pu_gt rfl rfl) (Lnt (Gs.cond_ff rfl (by first | exact decide_eq_false (by omega) | exact decide_eq_false (by have h9 := hfin; omega)) ?_))))))))
 refine Gs.skip (Gn (Gsr (Lmv rfl rfl (Las rfl rfl (Las rfl rfl (Lnt (Gs.ret ?_)))))))
 exact Gs.fin2 Tryz.results110 rfl rfl _ (⟨⟨_, 0, rfl, by rw [hyes]; rfl⟩, rfl⟩) (by repeat constructor)
theorem smay_spec {S : HProp} (hT : TabW S) {d : Nat} {x : AskV} (hA : ARd S x) (hF : FewA d x) (hz : sizeA d x ≤ 1000) (hd : d ≤ 1000) (lim : Int) (z : Rec) :
   Ct Tryz.prog 63 [quV x lim z] [S] (fun v hs => v = .bool (mayA d x && okQ lim z) ∧ hs = [S]) := by
 obtain ⟨v0, hv0⟩ : ∃ v0, v0 = (mayA d x && okQ lim z) := ⟨_, rfl⟩
 rw [← hv0]
 refine Cti Tryz.func63 (by kernel_rfl) 22 Tryz.ntmps63 rfl rfl fun w0 R => ?_
 refine Gsr (La rfl (ac_box rfl rfl) ?_)
 rintro _ _ ⟨qb, rfl, rfl⟩
 refine Las rfl rfl (Lnt (Gsr (Lq rfl (pu_build bd_26 (by repeat constructor) rfl) ?_)))
 refine Lq rfl (pu_fa fa_34_1 rfl) (Lr rfl (rd_ld na_3 rfl (Rdc.cl1 (by repeat constructor) rfl)) ?_)
 refine Lq rfl (pu_fa fa_34_2 rfl) (Lr rfl (rd_lda ag_32 rfl (Rdc.cl 5 (by repeat constructor) rfl) rfl) ?_)
 refine Lq rfl (pu_build bd_34 (by repeat constructor) rfl) ?_
 refine La rfl (asC (write_spec hT lim z)) ?_
 rintro _ _ ⟨_, ⟨⟨s, e, rfl, he⟩, rfl⟩, rfl⟩
 refine Lmv rfl rfl (Lq rfl (pu_extract rfl rfl) (Lq rfl (pu_extract rfl rfl) (Las rfl rfl (Las rfl rfl (Lnt (Gsr (Lmv rfl rfl (Lq rfl (pu_eq rfl rfl) (LpuB rfl rfl trivial (pu_move rfl) (fun hg2 => ?_) (fun hg2 => ?_))))))))))
 ·
  have e2 : okQ lim z = true := by rw [← he]; exact hg2
  refine Lpu rfl rfl ⟨_, rfl, rfl⟩ (pu_fa fa_34_0 rfl) (Lrd rfl rfl ⟨_, rfl, rfl⟩ (rd_lda ag_26 rfl (Rdc.cl 4 (by repeat constructor) rfl) rfl) ?_)
  refine Lac rfl rfl ⟨_, rfl, rfl⟩ (asC (mayA_spec hT.u hA hF hz hd)) ?_
  rintro _ _ ⟨_, ⟨rfl, rfl⟩, rfl⟩
  refine Lpk rfl rfl rfl (Las rfl rfl (Lnt (Gs.ret ?_)))
  exact Gs.fin1 Tryz.results63 rfl _ (⟨by
    first
      | rw [hv0, e2, Bool.and_true]
      | rw [hv0, e2, Bool.and_false], rfl⟩) (by repeat constructor)
 have e2 : okQ lim z = false := by rw [← he]; exact hg2
 refine Lof rfl (Lof rfl (Lof rfl (Lpk rfl rfl rfl (Las rfl rfl (Lnt (Gs.ret ?_))))))
 exact Gs.fin1 Tryz.results63 rfl _ (⟨by
   first
     | rw [hv0, e2, Bool.and_true]
     | rw [hv0, e2, Bool.and_false], rfl⟩) (by repeat constructor)
end YtklgiidfompdpaaGreatDoor
end Go.Proofs
namespace Go.Stb
open Go
variable {α : Type} {lt : α → α → Bool}
structure Ord (lt : α → α → Bool) : Prop where
 tr : ∀ x y z, lt x y = true → lt y z = true → lt x z = true
 asy : ∀ x y, lt x y = true → lt y x = false
def Apart (lt : α → α → Bool) (l : List α) : Prop := l.Pairwise fun x y => lt x y = true ∨ lt y x = true
def Asc (lt : α → α → Bool) (l : List α) : Prop := l.Pairwise fun x y => lt x y = true
theorem Apart.perm {l m : List α} (h : Apart lt l) (p : List.Perm l m) : Apart lt m := (List.Perm.pairwise_iff (fun {_ _} h => h.symm) p).1 h
theorem Apart.app {A B : List α} (h : Apart lt (A ++ B)) {x y : α} (hx : x ∈ A) (hy : y ∈ B) : lt x y = true ∨ lt y x = true := (List.pairwise_append.1 h).2.2 x hx y hy
theorem Asc.app {A B : List α} (hA : Asc lt A) (hB : Asc lt B) (h : ∀ x ∈ A, ∀ y ∈ B, lt x y = true) : Asc lt (A ++ B) := List.pairwise_append.2 ⟨hA, hB, h⟩
theorem Asc.at2 {l : List α} (h : Asc lt l) {i j : Nat} {x y : α} (hi : l[i]? = some x) (hj : l[j]? = some y) (hij : i < j) : lt x y = true := by
 obtain ⟨h1, rfl⟩ := List.getElem?_eq_some_iff.1 hi
 obtain ⟨h2, rfl⟩ := List.getElem?_eq_some_iff.1 hj
 exact List.pairwise_iff_getElem.1 h i j h1 h2 hij
theorem one_left {x : α} {B : List α} {t : Nat} (ha : Apart lt ([x] ++ B)) (hB : Asc lt B) (h1 : ∀ k y, k < t → B[k]? = some y → lt y x = true) (h2 : ∀ k y, t ≤ k → B[k]? = some y → lt y x = false) : Asc lt (B.take t ++ [x] ++ B.drop t) := by
 have hsub : List.Sublist (B.take t ++ B.drop t) B := by rw [List.take_append_drop]; exact List.Sublist.refl _
 have hAB := List.pairwise_append.1 (hB.sublist hsub)
 have hl : ∀ y ∈ B.take t, lt y x = true := fun y hy => by
   obtain ⟨k, hk⟩ := List.mem_iff_getElem?.1 hy
   rw [List.getElem?_take] at hk
   split at hk
   · exact h1 k y (by assumption) hk
   · cases hk
 have hr : ∀ y ∈ B.drop t, lt x y = true := fun y hy => by
   obtain ⟨k, hk⟩ := List.mem_iff_getElem?.1 hy
   rw [List.getElem?_drop] at hk
   have h3 := h2 (t + k) y (Nat.le_add_right _ _) hk
   rcases ha.app (List.mem_singleton_self x) (List.mem_of_getElem? hk) with h | h
   · exact h
   · rw [h3] at h; cases h
 refine Asc.app (Asc.app hAB.1 (List.pairwise_singleton _ _) fun y hy z hz => ?_) hAB.2.1 fun y hy z hz => ?_
 · simp only [List.mem_singleton] at hz; subst hz; exact hl y hy
 · rcases List.mem_append.1 hy with hy | hy
   · exact hAB.2.2 y hy z hz
   · simp only [List.mem_singleton] at hy; subst hy; exact hr z hz
theorem one_right {y : α} {A : List α} {t : Nat} (ha : Apart lt (A ++ [y])) (hA : Asc lt A) (h1 : ∀ k x, k < t → A[k]? = some x → lt y x = false) (h2 : ∀ k x, t ≤ k → A[k]? = some x → lt y x = true) : Asc lt (A.take t ++ [y] ++ A.drop t) := by
 have hsub : List.Sublist (A.take t ++ A.drop t) A := by rw [List.take_append_drop]; exact List.Sublist.refl _
 have hAB := List.pairwise_append.1 (hA.sublist hsub)
 have hl : ∀ x ∈ A.take t, lt x y = true := fun x hx => by
   obtain ⟨k, hk⟩ := List.mem_iff_getElem?.1 hx
   rw [List.getElem?_take] at hk
   split at hk
   · have h3 := h1 k x (by assumption) hk
     rcases ha.app (List.mem_of_getElem? hk) (List.mem_singleton_self y) with h | h
     · exact h
     · rw [h3] at h; cases h
   · cases hk
 have hr : ∀ x ∈ A.drop t, lt y x = true := fun x hx => by
   obtain ⟨k, hk⟩ := List.mem_iff_getElem?.1 hx
   rw [List.getElem?_drop] at hk
   exact h2 (t + k) x (Nat.le_add_right _ _) hk
 refine Asc.app (Asc.app hAB.1 (List.pairwise_singleton _ _) fun y' hy z hz => ?_) hAB.2.1 fun y' hy z hz => ?_
 · simp only [List.mem_singleton] at hz; subst hz; exact hl y' hy
 · rcases List.mem_append.1 hy with hy | hy
   · exact hAB.2.2 y' hy z hz
   · simp only [List.mem_singleton] at hy; subst hy; exact hr z hz
theorem cut_both (O : Ord lt) {A B : List α} {i k : Nat} (hi : i ≤ A.length) (hk : k ≤ B.length) (ha : Apart lt (A ++ B)) (hA : Asc lt A) (hB : Asc lt B)
   (h1 : ∀ x y, 0 < i → A[i - 1]? = some x → B[k]? = some y → lt y x = false) (h2 : ∀ x y, 0 < k → B[k - 1]? = some y → A[i]? = some x → lt y x = true) :
   ∀ x ∈ A.take i ++ B.take k, ∀ y ∈ A.drop i ++ B.drop k, lt x y = true := by
 have hle : ∀ {l : List α} (hl : Asc lt l) {p q : Nat} {u v : α}, l[p]? = some u → l[q]? = some v → p < q → lt u v = true := fun hl _ _ _ _ hp hq h => Asc.at2 hl hp hq h
 intro x hx y hy
 rcases List.mem_append.1 hx with hx | hx <;> rcases List.mem_append.1 hy with hy | hy
 · have hsub : List.Sublist (A.take i ++ A.drop i) A := by rw [List.take_append_drop]; exact List.Sublist.refl _
   exact (List.pairwise_append.1 (hA.sublist hsub)).2.2 x hx y hy
 · obtain ⟨p, hp⟩ := List.mem_iff_getElem?.1 hx
   obtain ⟨q, hq⟩ := List.mem_iff_getElem?.1 hy
   rw [List.getElem?_take] at hp
   rw [List.getElem?_drop] at hq
   split at hp
   · rename_i hpi
     have hpl := (List.getElem?_eq_some_iff.1 hp).1
     have hql := (List.getElem?_eq_some_iff.1 hq).1
     -- the last of the left is not behind the first of the right
     have hlast : ∀ u v, A[i - 1]? = some u → B[k]? = some v → lt u v = true := fun u v hu hv => by
       have h3 := h1 u v (by omega) hu hv
       rcases ha.app (List.mem_of_getElem? hu) (List.mem_of_getElem? hv) with h | h
       · exact h
       · rw [h3] at h; cases h
     by_cases hil : i - 1 < A.length
     · have hu : A[i - 1]? = some A[i - 1] := by simp [hil]
       have hv : B[k]? = some (B[k]'(by omega)) := by simp [show k < B.length by omega]
       have e := hlast _ _ hu hv
       have e1 : lt x (B[k]'(by omega)) = true := by
         by_cases hpe : p = i - 1
         · subst hpe; rw [hp] at hu; cases hu; exact e
         · exact O.tr _ _ _ (hle hA hp hu (by omega)) e
       by_cases hqe : q = 0
       · subst hqe; rw [Nat.add_zero, hv] at hq; cases hq; exact e1
       · exact O.tr _ _ _ e1 (hle hB hv hq (by omega))
     · exfalso; omega
   · cases hp
 · obtain ⟨p, hp⟩ := List.mem_iff_getElem?.1 hx
   obtain ⟨q, hq⟩ := List.mem_iff_getElem?.1 hy
   rw [List.getElem?_take] at hp
   rw [List.getElem?_drop] at hq
   split at hp
   · rename_i hpk
     have hpl := (List.getElem?_eq_some_iff.1 hp).1
     have hql := (List.getElem?_eq_some_iff.1 hq).1
     have hv : A[i]? = some (A[i]'(by omega)) := by simp [show i < A.length by omega]
     by_cases hkl : k - 1 < B.length
     · have hu : B[k - 1]? = some B[k - 1] := by simp [hkl]
       have e := h2 _ _ (by omega) hu hv
       have e1 : lt x (A[i]'(by omega)) = true := by
         by_cases hpe : p = k - 1
         · subst hpe; rw [hp] at hu; cases hu; exact e
         · exact O.tr _ _ _ (hle hB hp hu (by omega)) e
       by_cases hqe : q = 0
       · subst hqe; rw [Nat.add_zero, hv] at hq; cases hq; exact e1
       · exact O.tr _ _ _ e1 (hle hA hv hq (by omega))
     · exfalso; omega
   · cases hp
 · have hsub : List.Sublist (B.take k ++ B.drop k) B := by rw [List.take_append_drop]; exact List.Sublist.refl _
   exact (List.pairwise_append.1 (hB.sublist hsub)).2.2 x hx y hy
end Go.Stb
namespace Go.Stb
open Go
variable {α : Type} {lt : α → α → Bool}
theorem get_mid (A B : List α) (x : α) : (A ++ x :: B)[A.length]? = some x := by rw [List.getElem?_append_right (Nat.le_refl _), Nat.sub_self]; rfl
theorem set_mid (A B : List α) (x y : α) : (A ++ x :: B).set A.length y = A ++ y :: B := by rw [List.set_append_right _ _ (Nat.le_refl _), Nat.sub_self]; rfl
theorem getA {l A B : List α} {x : α} {i : Nat} (h : l = A ++ x :: B) (hi : i = A.length) : l[i]? = some x := by subst h; subst hi; exact get_mid ..
theorem set_at {l A B : List α} {x : α} {i : Nat} (y : α) (h : l = A ++ x :: B) (hi : i = A.length) : l.set i y = A ++ y :: B := by subst h; subst hi; exact set_mid ..
theorem swap_at {l A B C : List α} {x y : α} {i j : Nat} (h : l = A ++ x :: (B ++ y :: C)) (hi : i = A.length) (hj : j = A.length + 1 + B.length) : (l.set i y).set j x = A ++ y :: (B ++ x :: C) := by
 rw [set_at y h hi, set_at (A := A ++ y :: B) (B := C) (x := y) x (by simp) (by simp; omega)]; simp
theorem swap_at' {l A B C : List α} {x y : α} {i j : Nat} (h : l = A ++ x :: (B ++ y :: C)) (hi : i = A.length) (hj : j = A.length + 1 + B.length) : (l.set j x).set i y = A ++ y :: (B ++ x :: C) := by
 rw [set_at (A := A ++ x :: B) (B := C) (x := y) x (by rw [h]; simp) (by simp; omega), set_at (A := A) (B := B ++ x :: C) (x := x) y (by simp) hi]
theorem getB {l A B C : List α} {x y : α} {j : Nat} (h : l = A ++ x :: (B ++ y :: C)) (hj : j = A.length + 1 + B.length) : l[j]? = some y := getA (A := A ++ x :: B) (B := C) (by rw [h]; simp) (by simp; omega)
theorem drop_cons {l : List α} {i : Nat} {x : α} (h : l[i]? = some x) : l.drop i = x :: l.drop (i + 1) := by
 obtain ⟨hl, rfl⟩ := List.getElem?_eq_some_iff.1 h
 exact List.drop_eq_getElem_cons hl
theorem take_snoc' {l : List α} {i : Nat} {x : α} (h : l[i]? = some x) : l.take (i + 1) = l.take i ++ [x] := by rw [List.take_add_one, h]; rfl
theorem some_at {l : List α} {i : Nat} (h : i < l.length) : ∃ x, l[i]? = some x := ⟨l[i], by simp [h]⟩
def swS (D X M Y E : List α) (i : Nat) : List α := D ++ ((Y.take i ++ X.drop i) ++ (M ++ ((X.take i ++ Y.drop i) ++ E)))
theorem swS_0 (D X M Y E : List α) : swS D X M Y E 0 = D ++ (X ++ (M ++ (Y ++ E))) := by simp [swS]
theorem swS_n {D X M Y E : List α} (h : X.length = Y.length) : swS D X M Y E X.length = D ++ (Y ++ (M ++ (X ++ E))) := by
 unfold swS
 rw [List.take_of_length_le (by omega), List.drop_of_length_le (Nat.le_refl _), List.take_of_length_le (Nat.le_refl _), List.drop_of_length_le (by omega)]; simp
theorem swS_at {D X M Y E : List α} {i : Nat} {x y : α} (hx : X[i]? = some x) (hy : Y[i]? = some y) : swS D X M Y E i = (D ++ Y.take i) ++ x :: ((X.drop (i + 1) ++ (M ++ X.take i)) ++ y :: (Y.drop (i + 1) ++ E)) := by
 unfold swS; rw [drop_cons hx, drop_cons hy]; simp
theorem swS_s {D X M Y E : List α} {i : Nat} {x y : α} (hx : X[i]? = some x) (hy : Y[i]? = some y) : swS D X M Y E (i + 1) = (D ++ Y.take i) ++ y :: ((X.drop (i + 1) ++ (M ++ X.take i)) ++ x :: (Y.drop (i + 1) ++ E)) := by
 unfold swS; rw [take_snoc' hx, take_snoc' hy]; simp
theorem swS_len {D X M Y E : List α} {i : Nat} (h : X.length = Y.length) (hi : i ≤ X.length) : (swS D X M Y E i).length = (D ++ (X ++ (M ++ (Y ++ E)))).length := by
 unfold swS; simp only [List.length_append, List.length_take, List.length_drop]; omega
theorem swS_pos {D X M Y : List α} {i : Nat} (h : X.length = Y.length) (hi : i < X.length) : (D ++ Y.take i).length = D.length + i ∧ (D ++ Y.take i).length + 1 + (X.drop (i + 1) ++ (M ++ X.take i)).length = D.length + X.length + M.length + i := by
 simp only [List.length_append, List.length_take, List.length_drop]; omega
def inS (P C : List α) (x : α) (Q : List α) (t : Nat) : List α := P ++ ((C.take t ++ x :: C.drop t) ++ Q)
theorem inS_at {P C : List α} {x u : α} {Q : List α} {t : Nat} (hu : C[t]? = some u) : inS P C x Q (t + 1) = (P ++ C.take t) ++ u :: ([] ++ x :: (C.drop (t + 1) ++ Q)) := by
 unfold inS; rw [take_snoc' hu]; simp
theorem inS_s {P C : List α} {x u : α} {Q : List α} {t : Nat} (hu : C[t]? = some u) : inS P C x Q t = (P ++ C.take t) ++ x :: ([] ++ u :: (C.drop (t + 1) ++ Q)) := by
 unfold inS; rw [drop_cons hu]; simp
theorem inS_len {P C : List α} {x : α} {Q : List α} {t : Nat} : (inS P C x Q t).length = P.length + C.length + 1 + Q.length := by
 unfold inS; simp only [List.length_append, List.length_take, List.length_cons, List.length_drop]; omega
theorem inS_x {P C : List α} {x : α} {Q : List α} {t : Nat} (ht : t ≤ C.length) : (inS P C x Q t)[P.length + t]? = some x := by
 refine getA (A := P ++ C.take t) (B := C.drop t ++ Q) (by unfold inS; simp) (by simp; omega)
theorem inS_perm (P C : List α) (x : α) (Q : List α) (t : Nat) : List.Perm (C.take t ++ x :: C.drop t) (C ++ [x]) := by
 have h : List.Perm (C.take t ++ x :: C.drop t) (x :: (C.take t ++ C.drop t)) := List.perm_middle
 rw [List.take_append_drop] at h
 exact h.trans (List.perm_append_comm (l₁ := [x]) (l₂ := C))
theorem low_all (O : Ord lt) {B : List α} {x : α} {t : Nat} (hB : Asc lt B) (h : ∀ y, 0 < t → B[t - 1]? = some y → lt y x = true) (ht : t ≤ B.length) : ∀ k y, k < t → B[k]? = some y → lt y x = true := fun k y hk hy => by
 obtain ⟨z, hz⟩ := some_at (l := B) (i := t - 1) (by omega)
 have h1 := h z (by omega) hz
 by_cases e : k = t - 1
 · subst e; rw [hz] at hy; cases hy; exact h1
 · exact O.tr _ _ _ (hB.at2 hy hz (by omega)) h1
theorem high_none (O : Ord lt) {B : List α} {x : α} {t : Nat} (hB : Asc lt B) (h : ∀ y, B[t]? = some y → lt y x = false) : ∀ k y, t ≤ k → B[k]? = some y → lt y x = false := fun k y hk hy => by
 by_cases e : k = t
 · subst e; exact h y hy
 · have hl := (List.getElem?_eq_some_iff.1 hy).1
   obtain ⟨z, hz⟩ := some_at (l := B) (i := t) (by omega)
   cases hh : lt y x with
   | false => rfl
   | true => exact absurd (O.tr _ _ _ (hB.at2 hz hy (by omega)) hh) (by rw [h z hz]; decide)
theorem low_none (O : Ord lt) {A : List α} {y : α} {t : Nat} (hA : Asc lt A) (h : ∀ x, 0 < t → A[t - 1]? = some x → lt y x = false) (ht : t ≤ A.length) : ∀ k x, k < t → A[k]? = some x → lt y x = false := fun k x hk hx => by
 obtain ⟨z, hz⟩ := some_at (l := A) (i := t - 1) (by omega)
 have h1 := h z (by omega) hz
 by_cases e : k = t - 1
 · subst e; rw [hz] at hx; cases hx; exact h1
 · cases hh : lt y x with
   | false => rfl
   | true => rw [O.tr _ _ _ hh (hA.at2 hx hz (by omega))] at h1; cases h1
theorem high_all (O : Ord lt) {A : List α} {y : α} {t : Nat} (hA : Asc lt A) (h : ∀ x, A[t]? = some x → lt y x = true) : ∀ k x, t ≤ k → A[k]? = some x → lt y x = true := fun k x hk hx => by
 by_cases e : k = t
 · subst e; exact h x hx
 · have hl := (List.getElem?_eq_some_iff.1 hx).1
   obtain ⟨z, hz⟩ := some_at (l := A) (i := t) (by omega)
   exact O.tr _ _ _ (h z hz) (hA.at2 hz hx (by omega))
theorem block_pre {P T : List α} {i s : Nat} (h : i * s + s ≤ P.length) : ((P ++ T).drop (i * s)).take s = (P.drop (i * s)).take s := by
 rw [List.drop_append_of_le_length (by omega), List.take_append_of_le_length (by simp; omega)]
theorem block_mid {P C T : List α} {i s : Nat} (hP : P.length = i * s) (h : C.length = s ∨ (C.length ≤ s ∧ T = [])) : ((P ++ (C ++ T)).drop (i * s)).take s = C := by
 rw [List.drop_append_of_le_length (by omega), List.drop_of_length_le (by omega), List.nil_append]
 rcases h with h | ⟨h, rfl⟩
 · rw [List.take_append_of_le_length (by omega), List.take_of_length_le (by omega)]
 · rw [List.append_nil, List.take_of_length_le h]
theorem asc_uniq (O : Ord lt) : ∀ {l m : List α}, Asc lt l → Asc lt m → List.Perm l m → l = m
 | [], m, _, _, p => (List.Perm.nil_eq p)
 | x :: l, [], _, _, p => by have := p.length_eq; simp at this
 | x :: l, y :: m, hl, hm, p => by
   have hl' := List.pairwise_cons.1 hl
   have hm' := List.pairwise_cons.1 hm
   have e : x = y := by
     rcases List.mem_cons.1 (p.subset (List.mem_cons_self : x ∈ x :: l)) with h | h
     · exact h
     · rcases List.mem_cons.1 (p.symm.subset (List.mem_cons_self : y ∈ y :: m)) with h2 | h2
       · exact h2.symm
       · have h3 := O.asy _ _ (hm'.1 x h)
         rw [hl'.1 y h2] at h3; cases h3
   subst e
   rw [asc_uniq O hl'.2 hm'.2 (List.Perm.cons_inv p)]
end Go.Stb
namespace Go.Proofs.YtklgiidfompdpaaGreatDoor
open Go Go.Sl Go.Gv Go.Kv Go.Po Go.Ix Go.Stb
theorem less_iff {a b : Rec} : lessR a b = true ↔ a.w < b.w ∨ (a.w = b.w ∧ (a.c < b.c ∨ (a.c = b.c ∧ before a.key b.key = true))) := by
 unfold lessR slB
 simp only [Bool.or_eq_true, Bool.and_eq_true, decide_eq_true_eq, Prod.mk.injEq]
 constructor
 · rintro ((h | ⟨h1, h2⟩) | ⟨⟨h1, h2⟩, h3⟩)
   · exact .inl h
   · exact .inr ⟨h1, .inl h2⟩
   · exact .inr ⟨h1, .inr ⟨h2, h3⟩⟩
 · rintro (h | ⟨h1, h2 | ⟨h2, h3⟩⟩)
   · exact .inl (.inl h)
   · exact .inl (.inr ⟨h1, h2⟩)
   · exact .inr ⟨⟨h1, h2⟩, h3⟩
theorem ordL : Ord lessR where
 tr x y z h1 h2 := by
   rw [less_iff] at *
   rcases h1 with h1 | ⟨h1, h1' | ⟨h1', h1''⟩⟩ <;> rcases h2 with h2 | ⟨h2, h2' | ⟨h2', h2''⟩⟩
   · exact .inl (by omega)
   · exact .inl (by omega)
   · exact .inl (by omega)
   · exact .inl (by omega)
   · exact .inr ⟨by omega, .inl (by omega)⟩
   · exact .inr ⟨by omega, .inl (by omega)⟩
   · exact .inl (by omega)
   · exact .inr ⟨by omega, .inl (by omega)⟩
   · exact .inr ⟨by omega, .inr ⟨by omega, before_trans h1'' h2''⟩⟩
 asy x y h := by
   cases hh : lessR y x with
   | false => rfl
   | true =>
     rw [less_iff] at *
     rcases h with h1 | ⟨h1, h1' | ⟨h1', h1''⟩⟩ <;> rcases hh with h2 | ⟨h2, h2' | ⟨h2', h2''⟩⟩ <;> first | omega | (rw [before_asymm h1''] at h2''; cases h2'')
theorem less_total {a b : Rec} (h : a.key ≠ b.key) : lessR a b = true ∨ lessR b a = true := by
 rw [less_iff, less_iff]
 rcases before_total h with hb | hb <;> by_cases h1 : a.w = b.w <;> by_cases h2 : a.c = b.c <;> simp only [hb] <;> first | omega | skip
 all_goals simp only [h1, h2, true_and, and_true, Int.lt_irrefl, false_or, or_true, true_or]
theorem apart_keys {l : List Rec} (h : (l.map Rec.key).Nodup) : Apart lessR l := by
 have h' : l.Pairwise fun a b => a.key ≠ b.key := List.pairwise_map.1 h
 exact h'.imp fun {a b} hab => less_total hab
def IsS (xs ys : List Rec) : Prop := List.Perm ys xs ∧ Asc lessR ys
theorem IsS.uniq {xs xs' ys ys' : List Rec} (h : IsS xs ys) (h' : IsS xs' ys') (p : List.Perm xs xs') : ys = ys' := Stb.asc_uniq ordL h.2 h'.2 ((h.1.trans p).trans h'.1.symm)
end Go.Proofs.YtklgiidfompdpaaGreatDoor
namespace Go.Proofs.YtklgiidfompdpaaGreatDoor
open Go Go.Sl Go.Gv Go.Kv Go.Po Go.Ix Go.Stb
set_option maxRecDepth 100000
abbrev cmpR : Value := .func (.func 115) #[] #[]
abbrev rsA (a : Option Addr) (c : Nat) (l : List Rec) : HProp := sl 32 5 recC a c l
theorem swapR_spec (a : Option Addr) (c : Nat) {D X M Y E : List Rec} {p q k : Int} (hp : p = (D.length : Nat)) (hq : q = ((D.length + X.length + M.length : Nat) : Int)) (hk : k = (X.length : Nat)) (h : X.length = Y.length) {n : Nat} (hn : n = (D ++ (X ++ (M ++ (Y ++ E)))).length) (hl : n ≤ 100000) :
   Ct Tryz.prog 270 [.slice a n c, int p, int q, int k, cmpR] [rsA a c (D ++ (X ++ (M ++ (Y ++ E))))] (fun v hs => v = .tuple #[] ∧ hs = [rsA a c (D ++ (Y ++ (M ++ (X ++ E))))]) := by
 have hln : n = D.length + (X.length + (M.length + (Y.length + E.length))) := by rw [hn]; simp
 rw [← swS_0 D X M Y E]
 refine Cti Tryz.func270 (by kernel_rfl) 38 Tryz.ntmps270 rfl rfl fun w0 R => ?_
 refine Gs.slAddr (xs := swS D X M Y E 0) (SlH.own (E := 32) (enc := recC) (by repeat constructor)) fun ab ao ha => ?_
 refine Gsr (Las rfl rfl (Lnt (Gs.block (Gs.loop1 (fun i : Nat => i ≤ X.length) (fun i => [(0, .slice a n c), (1, int p), (2, int q), (3, int k), (10, int i)]) (fun i => [rsA a c (swS D X M Y E i)] ++ R) (fun i => X.length - i) 0 (Nat.zero_le _) (by repeat constructor) (by repeat constructor) (fun i hi => ?_)))))
 refine Gs.seq (Gsr (Lmv rfl rfl (Lmv rfl rfl (Lq rfl (pu_lt rfl rfl) (Lnt (Gs.cond rfl (fun hc0 => ?_) (fun hc0 => ?_)))))))
 ·
  have hlt : i < X.length := by have := of_decide_eq_true hc0; omega
  obtain ⟨x, hx⟩ := some_at hlt
  obtain ⟨y, hy⟩ := some_at (l := Y) (i := i) (by omega)
  have hne : swS D X M Y E 0 ≠ [] := fun e => by
    have h0 := swS_len (D := D) (M := M) (E := E) (i := 0) h (Nat.zero_le _)
    rw [e, ← hn] at h0; simp at h0; omega
  obtain rfl := ha hne
  have hsw := swS_at (D := D) (M := M) (E := E) hx hy
  have hs1 := swS_s (D := D) (M := M) (E := E) hx hy
  obtain ⟨hpa, hpb⟩ := swS_pos (D := D) (M := M) h hlt
  have gx : (swS D X M Y E i)[(p + (i : Int)).toNat]? = some x := getA hsw (by omega)
  have gy : (swS D X M Y E i)[(q + (i : Int)).toNat]? = some y := getB hsw (by omega)
  have hne2 : (p + (i : Int)).toNat ≠ (q + (i : Int)).toNat := by omega
  have gy2 : ((swS D X M Y E i).set (p + (i : Int)).toNat y)[(q + (i : Int)).toNat]? = some y := by rw [List.getElem?_set_ne hne2]; exact gy
  have hset : ((swS D X M Y E i).set (p + (i : Int)).toNat y).set (q + (i : Int)).toNat x = swS D X M Y E (i + 1) := by rw [hs1]; exact swap_at hsw (by omega) (by omega)
  refine Gs.skip (Gn (Gs.seq (Gs.block (Gs.regD mixed (by kernel_rfl) (Rmv 0 rfl (by kernel_rfl) rfl (Rmv 1 rfl (by kernel_rfl) rfl (Rmv 2 rfl (by kernel_rfl) rfl (Rq 3 rfl (by kernel_rfl) (by first | exact pu_addI rfl rfl rfl (by omega) (by omega) | exact pu_add rfl rfl) ?_))))))))
  refine Rmv 4 rfl (by kernel_rfl) rfl (Rmv 5 rfl (by kernel_rfl) rfl (Rmv 6 rfl (by kernel_rfl) rfl (Rq 7 rfl (by kernel_rfl) (by first | exact pu_addI rfl rfl rfl (by omega) (by omega) | exact pu_add rfl rfl) ?_)))
  refine Rmv 8 rfl (by kernel_rfl) rfl (Rmv 9 rfl (by kernel_rfl) rfl (Rmv 10 rfl (by kernel_rfl) rfl (Rq 11 rfl (by kernel_rfl) (by first | exact pu_addI rfl rfl rfl (by omega) (by omega) | exact pu_add rfl rfl) ?_)))
  refine Rq 12 rfl (by kernel_rfl) (pu_ia se_41 rfl rfl (by omega) (by omega)) (Rr 13 rfl (by kernel_rfl) (rd_lda ag_32 rfl (Rdc.el0 (SlH.own (xs := swS D X M Y E i) (E := 32) (enc := recC) (sz := 5) (by repeat constructor)) gy rfl rfl) rfl) ?_)
  refine Rmv 14 rfl (by kernel_rfl) rfl (Rmv 15 rfl (by kernel_rfl) rfl (Rmv 16 rfl (by kernel_rfl) rfl (Rq 17 rfl (by kernel_rfl) (by first | exact pu_addI rfl rfl rfl (by omega) (by omega) | exact pu_add rfl rfl) ?_)))
  refine Rq 18 rfl (by kernel_rfl) (pu_ia se_41 rfl rfl (by omega) (by omega)) (Rr 19 rfl (by kernel_rfl) (rd_lda ag_32 rfl (Rdc.el0 (SlH.own (xs := swS D X M Y E i) (E := 32) (enc := recC) (sz := 5) (by repeat constructor)) gx rfl rfl) rfl) ?_)
  refine Rq 20 rfl (by kernel_rfl) (pu_ia se_41 rfl rfl (by omega) (by omega)) (Rg.one (by kernel_rfl) (Stp.ac0 21 rfl rfl (by kernel_rfl) trivial (ac_stE (enc := recC) (xs := swS D X M Y E i) (i := (p + (i : Int)).toNat) (x0 := x) (y0 := y) (vs := recC y) (fo := 0) sz_32 ek_32 rfl rfl (by repeat constructor) rfl rfl rfl gx rfl rfl)  ?_))
  rintro _ _ rfl
  refine Rq 22 rfl (by kernel_rfl) (pu_ia se_41 rfl rfl (by omega) (by omega)) (Rg.one (by kernel_rfl) (Stp.ac0 23 rfl rfl (by kernel_rfl) trivial (ac_stE (enc := recC) (xs := (swS D X M Y E i).set (p + (i : Int)).toNat y) (i := (q + (i : Int)).toNat) (x0 := y) (y0 := x) (vs := recC x) (fo := 0) sz_32 ek_32 rfl rfl (by repeat constructor) rfl rfl rfl gy2 rfl rfl)  ?_))
  rintro _ _ rfl
  refine Rg.end (by kernel_rfl) ?_
  rw [hset]
  refine Gs.blk_n (Gn (Gs.reg (Lmv rfl rfl (Lq rfl (by first | exact pu_addI rfl rfl rfl (by omega) (by omega) | exact pu_add rfl rfl) ?_))))
  refine Las rfl rfl (Lnt ?_)
  exact Ag (i + 1) hlt (by omega)
 have hge : i = X.length := by have := of_decide_eq_false hc0; omega
 rw [hge, swS_n h]
 refine Gs.exit (Gx (Gx (Gs.blk_hit (Gs.fin_n ?_))))
 exact Gs.fin0 Tryz.results270 _ (⟨rfl, rfl⟩) (by repeat constructor)
structure RotS where
 D : List Rec
 X : List Rec
 Y : List Rec
 E : List Rec
theorem rotR_spec (a : Option Addr) (c : Nat) {D U V E : List Rec} {p q b : Int} (hp : p = (D.length : Nat)) (hq : q = ((D.length + U.length : Nat) : Int)) (hb : b = ((D.length + U.length + V.length : Nat) : Int)) (hU : U ≠ []) (hV : V ≠ []) {n : Nat} (hn : n = (D ++ (U ++ (V ++ E))).length) (hl : n ≤ 100000) :
   Ct Tryz.prog 251 [.slice a n c, int p, int q, int b, cmpR] [rsA a c (D ++ (U ++ (V ++ E)))] (fun v hs => v = .tuple #[] ∧ hs = [rsA a c (D ++ (V ++ (U ++ E)))]) := by
 have hUl := List.length_pos_iff.2 hU
 have hVl := List.length_pos_iff.2 hV
 have hln : n = D.length + (U.length + (V.length + E.length)) := by rw [hn]; simp
 obtain ⟨T, hT⟩ : ∃ T, T = D ++ (V ++ (U ++ E)) := ⟨_, rfl⟩
 rw [← hT]
 refine Cti Tryz.func251 (by kernel_rfl) 58 Tryz.ntmps251 rfl rfl fun w0 R => ?_
 refine Gsr (Lmv rfl rfl (Lmv rfl rfl (Lq rfl (by first | exact pu_subI rfl rfl rfl (by omega) (by omega) | exact pu_sub rfl rfl) ?_)))
 refine Las rfl rfl (Lnil ?_)
 rw [show q - p = ((U.length : Nat) : Int) by omega]
 refine Gn (Gsr (Lmv rfl rfl (Lmv rfl rfl (Lq rfl (by first | exact pu_subI rfl rfl rfl (by omega) (by omega) | exact pu_sub rfl rfl) ?_))))
 refine Las rfl rfl (Lnil ?_)
 rw [show b - q = ((V.length : Nat) : Int) by omega]
 refine Gn (Gs.seq (Gs.block (Gs.loop1 (fun s : RotS => 0 < s.X.length ∧ 0 < s.Y.length ∧ q = ((s.D.length + s.X.length : Nat) : Int) ∧ n = s.D.length + (s.X.length + (s.Y.length + s.E.length)) ∧ s.D ++ (s.Y ++ (s.X ++ s.E)) = T) (fun s => [(0, .slice a n c), (1, int p), (2, int q), (3, int b), (4, cmpR), (10, int s.X.length), (11, int s.Y.length)]) (fun s => [rsA a c (s.D ++ (s.X ++ (s.Y ++ s.E)))] ++ R) (fun s => s.X.length + s.Y.length) ⟨D, U, V, E⟩ (⟨hUl, hVl, hq, hln, hT.symm⟩) (by repeat constructor) (by repeat constructor) (fun s hs => ?_))))
 obtain ⟨D', X, Y, E'⟩ := s
 obtain ⟨hX, hY, hq', hn', hTs⟩ := hs
 dsimp only at hX hY hq' hn' hTs ⊢
 refine Gs.seq (Gsr (Lmv rfl rfl (Lmv rfl rfl (Lq rfl (pu_ne rfl rfl) (Lnt (Gs.cond rfl (fun hc0 => ?_) (fun hc0 => ?_)))))))
 ·
  have hne : X.length ≠ Y.length := fun e => (of_decide_eq_true hc0) (by rw [e])
  refine Gs.skip (Gn (Gs.block (Gsr (Lmv rfl rfl (Lmv rfl rfl (Lq rfl (pu_gt rfl rfl) (Lnt (Gs.cond rfl (fun hc1 => ?_) (fun hc1 => ?_)))))))))
  ·
   have hgt : Y.length < X.length := by have := of_decide_eq_true hc1; omega
   have hX12 : X = X.take Y.length ++ X.drop Y.length := (List.take_append_drop _ _).symm
   obtain ⟨X1, hX1⟩ : ∃ z, z = X.take Y.length := ⟨_, rfl⟩
   obtain ⟨X2, hX2⟩ : ∃ z, z = X.drop Y.length := ⟨_, rfl⟩
   rw [← hX1, ← hX2] at hX12
   have h1l : X1.length = Y.length := by rw [hX1, List.length_take]; omega
   have h2l : X2.length = X.length - Y.length := by rw [hX2, List.length_drop]
   have hlist : D' ++ (X ++ (Y ++ E')) = D' ++ (X1 ++ (X2 ++ (Y ++ E'))) := by rw [hX12]; simp
   have hT2 : (D' ++ Y) ++ (X1 ++ (X2 ++ E')) = T := by rw [← hTs, hX12]; simp
   have hres : D' ++ (Y ++ (X2 ++ (X1 ++ E'))) = (D' ++ Y) ++ (X2 ++ (X1 ++ E')) := by simp
   rw [hlist]
   refine Gsr (Lmv rfl rfl (Lmv rfl rfl (Lmv rfl rfl (Lq rfl (by first | exact pu_subI rfl rfl rfl (by omega) (by omega) | exact pu_sub rfl rfl) ?_))))
   refine Lmv rfl rfl (Lmv rfl rfl (Lmv rfl rfl (La rfl (asC (swapR_spec a c (p := q - (X.length : Int)) (q := q) (k := (Y.length : Int)) (n := n) (D := D') (X := X1) (M := X2) (Y := Y) (E := E') (by omega) (by omega) (by omega) h1l (by simp; omega) hl)) ?_)))
   rintro _ _ ⟨_, ⟨rfl, rfl⟩, rfl⟩
   refine Lnt (Gs.reg (Lmv rfl rfl (Lmv rfl rfl (Lq rfl (by first | exact pu_subI rfl rfl rfl (by omega) (by omega) | exact pu_sub rfl rfl) ?_))))
   refine Las rfl rfl (Lnil ?_)
   rw [hres, show (X.length : Int) - (Y.length : Int) = (X2.length : Int) by omega, show Y.length = X1.length from h1l.symm]
   refine Gs.blk_n (Gn ?_)
   first | exact Ag (⟨D' ++ Y, X2, X1, E'⟩ : RotS) ⟨by show 0 < X2.length; omega, by show 0 < X1.length; omega, by show q = (((D' ++ Y).length + X2.length : Nat) : Int); rw [List.length_append]; omega, by show n = (D' ++ Y).length + (X2.length + (X1.length + E'.length)); rw [List.length_append]; omega, hT2⟩ (by show X2.length + X1.length < X.length + Y.length; omega) | exact Ag (⟨D', Y2, Y1, X ++ E'⟩ : RotS) ⟨by show 0 < Y2.length; omega, by show 0 < Y1.length; omega, by show q = ((D'.length + Y2.length : Nat) : Int); omega, by show n = D'.length + (Y2.length + (Y1.length + (X ++ E').length)); rw [List.length_append]; omega, hT2⟩ (by show Y2.length + Y1.length < X.length + Y.length; omega)
  have hgt : X.length < Y.length := by have := of_decide_eq_false hc1; omega
  have hY12 : Y = Y.take (Y.length - X.length) ++ Y.drop (Y.length - X.length) := (List.take_append_drop _ _).symm
  obtain ⟨Y1, hY1⟩ : ∃ z, z = Y.take (Y.length - X.length) := ⟨_, rfl⟩
  obtain ⟨Y2, hY2⟩ : ∃ z, z = Y.drop (Y.length - X.length) := ⟨_, rfl⟩
  rw [← hY1, ← hY2] at hY12
  have h1l : Y1.length = Y.length - X.length := by rw [hY1, List.length_take]; omega
  have h2l : Y2.length = X.length := by rw [hY2, List.length_drop]; omega
  have hlist : D' ++ (X ++ (Y ++ E')) = D' ++ (X ++ (Y1 ++ (Y2 ++ E'))) := by rw [hY12]; simp
  have hT2 : D' ++ (Y1 ++ (Y2 ++ (X ++ E'))) = T := by rw [← hTs, hY12]; simp
  have hres : D' ++ (Y2 ++ (Y1 ++ (X ++ E'))) = D' ++ (Y2 ++ (Y1 ++ (X ++ E'))) := rfl
  rw [hlist]
  refine Gsr (Lmv rfl rfl (Lmv rfl rfl (Lmv rfl rfl (Lq rfl (by first | exact pu_subI rfl rfl rfl (by omega) (by omega) | exact pu_sub rfl rfl) ?_))))
  refine Lmv rfl rfl (Lmv rfl rfl (Lq rfl (by first | exact pu_addI rfl rfl rfl (by omega) (by omega) | exact pu_add rfl rfl) ?_))
  refine Lmv rfl rfl (Lq rfl (by first | exact pu_subI rfl rfl rfl (by omega) (by omega) | exact pu_sub rfl rfl) ?_)
  refine Lmv rfl rfl (Lmv rfl rfl (La rfl (asC (swapR_spec a c (p := q - (X.length : Int)) (q := q + (Y.length : Int) - (X.length : Int)) (k := (X.length : Int)) (n := n) (D := D') (X := X) (M := Y1) (Y := Y2) (E := E') (by omega) (by omega) (by omega) h2l.symm (by simp; omega) hl)) ?_))
  rintro _ _ ⟨_, ⟨rfl, rfl⟩, rfl⟩
  refine Lnt (Gs.reg (Lmv rfl rfl (Lmv rfl rfl (Lq rfl (by first | exact pu_subI rfl rfl rfl (by omega) (by omega) | exact pu_sub rfl rfl) ?_))))
  refine Las rfl rfl (Lnil ?_)
  rw [show (Y.length : Int) - (X.length : Int) = (Y1.length : Int) by omega, show X.length = Y2.length from h2l.symm]
  refine Gs.blk_n (Gn ?_)
  first | exact Ag (⟨D' ++ Y, X2, X1, E'⟩ : RotS) ⟨by show 0 < X2.length; omega, by show 0 < X1.length; omega, by show q = (((D' ++ Y).length + X2.length : Nat) : Int); rw [List.length_append]; omega, by show n = (D' ++ Y).length + (X2.length + (X1.length + E'.length)); rw [List.length_append]; omega, hT2⟩ (by show X2.length + X1.length < X.length + Y.length; omega) | exact Ag (⟨D', Y2, Y1, X ++ E'⟩ : RotS) ⟨by show 0 < Y2.length; omega, by show 0 < Y1.length; omega, by show q = ((D'.length + Y2.length : Nat) : Int); omega, by show n = D'.length + (Y2.length + (Y1.length + (X ++ E').length)); rw [List.length_append]; omega, hT2⟩ (by show Y2.length + Y1.length < X.length + Y.length; omega)
 have heq : X.length = Y.length := by have := of_decide_eq_false hc0; omega
 refine Gs.exit (Gx (Gx (Gs.blk_hit (Gn (Gs.reg (Lmv rfl rfl (Lmv rfl rfl (Lmv rfl rfl (Lq rfl (by first | exact pu_subI rfl rfl rfl (by omega) (by omega) | exact pu_sub rfl rfl) ?_)))))))))
 refine Lmv rfl rfl (Lmv rfl rfl (Lmv rfl rfl (La rfl (asC (swapR_spec a c (p := q - (X.length : Int)) (q := q) (k := (X.length : Int)) (n := n) (D := D') (X := X) (M := []) (Y := Y) (E := E') (by omega) (by rw [List.length_nil]; omega) rfl heq (by simp; omega) hl)) ?_)))
 rintro _ _ ⟨_, ⟨rfl, rfl⟩, rfl⟩
 refine Lnil ?_
 rw [show D' ++ (Y ++ ([] ++ (X ++ E'))) = T by rw [List.nil_append]; exact hTs]
 refine Gs.fin_n ?_
 exact Gs.fin0 Tryz.results251 _ (⟨rfl, rfl⟩) (by repeat constructor)
theorem ordR_lt {a b : Rec} : decide (ordR a b < 0) = lessR a b := by
 unfold ordR
 cases h1 : lessR a b <;> cases h2 : lessR b a <;> simp
def rsE (a : Option Addr) (c : Nat) (P S Q : List Rec) : HProp := fun h => ∃ C, IsS S C ∧ rsA a c (P ++ (C ++ Q)) h
theorem rsE_mk {a : Option Addr} {c : Nat} {P S Q C l : List Rec} (h : IsS S C) (e : l = P ++ (C ++ Q)) : ∀ k, rsA a c l k → rsE a c P S Q k := fun k x => ⟨C, h, by rw [← e]; exact x⟩
theorem Gs.rsE {w0 : World} {n : Nat} {env : Env} {H : List HProp} {X : Act → World → Prop} {a : Option Addr} {c : Nat} {P S Q : List Rec} (g : ∀ C, IsS S C → Gs w0 n env (rsA a c (P ++ (C ++ Q)) :: H) X) : Gs w0 n env (rsE a c P S Q :: H) X :=
 Gs.ex (A := fun C => fun h => IsS S C ∧ rsA a c (P ++ (C ++ Q)) h) fun C => Gs.pure fun h => g C h
theorem Apart.pre {lt : Rec → Rec → Bool} {A B : List Rec} (h : Apart lt (A ++ B)) : Apart lt A := (List.pairwise_append.1 h).1
theorem insR_spec (a : Option Addr) (c : Nat) {P S Q : List Rec} {p q : Nat} (hp : p = P.length) (hq : q = P.length + S.length) (hS : Apart lessR S) {n : Nat} (hn : n = (P ++ (S ++ Q)).length) (hl : n ≤ 40000) :
   Ct Tryz.prog 205 [.slice a n c, int p, int q, cmpR] [rsA a c (P ++ (S ++ Q))] (fun v hs => v = .tuple #[] ∧ hs = [rsE a c P S Q]) := by
 have hln : n = P.length + (S.length + Q.length) := by rw [hn]; simp
 have hcmp : ∀ x y : Rec, Ct Tryz.prog 115 ([] ++ [recV x, recV y] ++ []) [] (fun v hs => v = int (ordR x y) ∧ hs = []) := fun x y => orderR_spec x y
 have h0 : IsS (S.take 1) (S.take 1) := ⟨List.Perm.refl _, by cases S with | nil => exact List.Pairwise.nil | cons x l => exact List.pairwise_singleton _ _⟩
 have hst : P ++ (S ++ Q) = P ++ (S.take 1 ++ (S.drop 1 ++ Q)) := by rw [← List.append_assoc (S.take 1), List.take_append_drop]
 rw [hst]
 refine Cti Tryz.func205 (by kernel_rfl) 53 Tryz.ntmps205 rfl rfl fun w0 R => ?_
 refine Gs.slAddr (xs := P ++ (S.take 1 ++ (S.drop 1 ++ Q))) (SlH.own (E := 32) (enc := recC) (by repeat constructor)) fun ab ao ha => ?_
 refine Gsr (Lmv rfl rfl (Lq rfl (pu_addI (z := ((p + 1 : Nat) : Int)) rfl rfl (by omega) (by omega) (by omega)) ?_))
 refine Las rfl rfl (Lnt (Gs.block (Gs.loop1 (fun s : Nat × List Rec => 1 ≤ s.1 ∧ s.1 ≤ S.length + 1 ∧ IsS (S.take s.1) s.2) (fun s => [(0, .slice a n c), (1, int p), (2, int q), (3, cmpR), (8, int ((p + s.1 : Nat) : Int))]) (fun s => [rsA a c (P ++ (s.2 ++ (S.drop s.1 ++ Q)))] ++ R) (fun s => S.length + 1 - s.1) (1, S.take 1) (⟨Nat.le_refl _, by show 1 ≤ S.length + 1; omega, h0⟩) (by repeat constructor) (by repeat constructor) (fun s hs => ?_))))
 obtain ⟨k, C⟩ := s
 obtain ⟨hk1, hk, hC⟩ := hs
 dsimp only at hk1 hk hC ⊢
 refine Gs.seq (Gsr (Lmv rfl rfl (Lmv rfl rfl (Lq rfl (pu_lt rfl rfl) (Lnt (Gs.cond rfl (fun hc0 => ?_) (fun hc0 => ?_)))))))
 ·
  have hlt : k < S.length := by have := of_decide_eq_true hc0; omega
  obtain ⟨x, hx⟩ := some_at hlt
  have hCl : C.length = k := by rw [hC.1.length_eq, List.length_take]; omega
  obtain rfl := ha (fun e => by have := congrArg List.length e; simp at this; omega)
  have hap : Apart lessR (C ++ [x]) := by
    refine (Apart.pre (B := S.drop (k + 1)) ?_).perm (hC.1.symm.append_right [x])
    rw [← take_snoc' hx, List.take_append_drop]; exact hS
  have hin : P ++ (C ++ (S.drop k ++ Q)) = inS P C x (S.drop (k + 1) ++ Q) k := by
    unfold inS; rw [drop_cons hx, List.take_of_length_le (Nat.le_of_eq hCl), List.drop_of_length_le (Nat.le_of_eq hCl)]; simp
  have hnx : ∀ t, List.Perm (C.take t ++ x :: C.drop t) (S.take (k + 1)) := fun t => by
    rw [take_snoc' hx]; exact (inS_perm P C x Q t).trans (hC.1.append_right [x])
  rw [hin]
  refine Gs.skip (Gn (Gs.seq (Gs.block (Gsr (Lmv rfl rfl (Las rfl rfl (Lnt (Gs.block (Gs.loop1 (fun t : Nat => t ≤ k ∧ ∀ m y, t ≤ m → C[m]? = some y → lessR x y = true) (fun t => [(0, .slice (some ⟨ab, ao, none⟩) n c), (1, int p), (2, int q), (3, cmpR), (8, int ((p + k : Nat) : Int)), (9, int ((p + t : Nat) : Int))]) (fun t => [rsA (some ⟨ab, ao, none⟩) c (inS P C x (S.drop (k + 1) ++ Q) t)] ++ R) (fun t => t) k (⟨Nat.le_refl _, fun m y hm hy => by have := (List.getElem?_eq_some_iff.1 hy).1; omega⟩) (by repeat constructor) (by repeat constructor) (fun t ⟨ht, hhi⟩ => ?_))))))))))
  refine Gs.seq (Gs.seq (Gs.regD mixed (by kernel_rfl) (Rmv 0 rfl (by kernel_rfl) rfl (Rmv 1 rfl (by kernel_rfl) rfl (Rq 2 rfl (by kernel_rfl) (pu_gt rfl rfl) (Rg.puB 3 rfl rfl (by kernel_rfl) trivial (pu_move rfl) (fun hg3 => ?_) (fun hg3 => ?_)))))))
  ·
   have hpos : 0 < t := by have := of_decide_eq_true hg3; omega
   obtain ⟨m, rfl⟩ : ∃ m, t = m + 1 := ⟨t - 1, by omega⟩
   obtain ⟨u, hu⟩ := some_at (l := C) (i := m) (by omega)
   have hA := inS_at (P := P) (x := x) (Q := S.drop (k + 1) ++ Q) hu
   have hB := inS_s (P := P) (x := x) (Q := S.drop (k + 1) ++ Q) hu
   have hPl : (P ++ C.take m).length = p + m := by rw [List.length_append, List.length_take]; omega
   have hil : (inS P C x (S.drop (k + 1) ++ Q) (m + 1)).length = n := by rw [inS_len, List.length_append, List.length_drop]; omega
   have gx : (inS P C x (S.drop (k + 1) ++ Q) (m + 1))[(((p + (m + 1) : Nat) : Int)).toNat]? = some x := getB hA (by rw [hPl, List.length_nil]; omega)
   have gu : (inS P C x (S.drop (k + 1) ++ Q) (m + 1))[(((p + (m + 1) : Nat) : Int) - 1).toNat]? = some u := getA hA (by rw [hPl]; omega)
   have hne2 : (((p + (m + 1) : Nat) : Int)).toNat ≠ (((p + (m + 1) : Nat) : Int) - 1).toNat := by omega
   have gu2 : ((inS P C x (S.drop (k + 1) ++ Q) (m + 1)).set (((p + (m + 1) : Nat) : Int)).toNat u)[(((p + (m + 1) : Nat) : Int) - 1).toNat]? = some u := by rw [List.getElem?_set_ne hne2]; exact gu
   have hset : ((inS P C x (S.drop (k + 1) ++ Q) (m + 1)).set (((p + (m + 1) : Nat) : Int)).toNat u).set (((p + (m + 1) : Nat) : Int) - 1).toNat x = inS P C x (S.drop (k + 1) ++ Q) m := by rw [hB]; exact swap_at' hA (by rw [hPl]; omega) (by rw [hPl, List.length_nil]; omega)
   refine Rg.pu 4 rfl rfl (by kernel_rfl) ⟨_, rfl, rfl⟩ (pu_move rfl) (Rg.pu 5 rfl rfl (by kernel_rfl) ⟨_, rfl, rfl⟩ (pu_move rfl) (Rg.pu 6 rfl rfl (by kernel_rfl) ⟨_, rfl, rfl⟩ (pu_move rfl) (Rg.pu 7 rfl rfl (by kernel_rfl) ⟨_, rfl, rfl⟩ (pu_ia se_41 rfl rfl (by omega) (by omega)) (Rg.rd 8 rfl rfl (by kernel_rfl) ⟨_, rfl, rfl⟩ (rd_lda ag_32 rfl (Rdc.el0 (SlH.own (xs := inS P C x (S.drop (k + 1) ++ Q) (m + 1)) (E := 32) (enc := recC) (sz := 5) (by repeat constructor)) gx rfl rfl) rfl) ?_))))
   refine Rg.pu 9 rfl rfl (by kernel_rfl) ⟨_, rfl, rfl⟩ (pu_move rfl) (Rg.pu 10 rfl rfl (by kernel_rfl) ⟨_, rfl, rfl⟩ (pu_move rfl) (Rg.pu 11 rfl rfl (by kernel_rfl) ⟨_, rfl, rfl⟩ (by first | exact pu_subI rfl rfl rfl (by omega) (by omega) | exact pu_sub rfl rfl) ?_))
   refine Rg.pu 12 rfl rfl (by kernel_rfl) ⟨_, rfl, rfl⟩ (pu_ia se_41 rfl rfl (by omega) (by omega)) (Rg.rd 13 rfl rfl (by kernel_rfl) ⟨_, rfl, rfl⟩ (rd_lda ag_32 rfl (Rdc.el0 (SlH.own (xs := inS P C x (S.drop (k + 1) ++ Q) (m + 1)) (E := 32) (enc := recC) (sz := 5) (by repeat constructor)) gu rfl rfl) rfl) ?_)
   refine Rg.one (by kernel_rfl) (Stp.ac 14 rfl rfl (by kernel_rfl) ⟨_, rfl, rfl⟩ (as_callV rfl (hcmp x u) (by repeat constructor) (by repeat constructor))  ?_)
   rintro _ _ ⟨_, ⟨rfl, rfl⟩, rfl⟩
   refine Rg.pu 15 rfl rfl (by kernel_rfl) ⟨_, rfl, rfl⟩ (pu_lt rfl rfl) (Rpk 16 rfl (by kernel_rfl) rfl rfl (Rg.end (by kernel_rfl) (Gn (Gs.cond rfl (fun hc1 => ?_) (fun hc1 => ?_)))))
   ·
    have hxu : lessR x u = true := by rw [← ordR_lt]; exact hc1
    have hhi2 : ∀ m' y, m ≤ m' → C[m']? = some y → lessR x y = true := fun m' y hm hy => by
      by_cases e : m' = m
      · subst e; rw [hu] at hy; cases hy; exact hxu
      · exact hhi m' y (by omega) hy
    refine Gs.skip (Gn (Gs.seq (Gs.block (Gs.regD mixed (by kernel_rfl) (Rmv 0 rfl (by kernel_rfl) rfl (Rmv 1 rfl (by kernel_rfl) rfl (Rmv 2 rfl (by kernel_rfl) rfl (Rmv 3 rfl (by kernel_rfl) rfl (Rq 4 rfl (by kernel_rfl) (by first | exact pu_subI rfl rfl rfl (by omega) (by omega) | exact pu_sub rfl rfl) ?_)))))))))
    refine Rmv 5 rfl (by kernel_rfl) rfl (Rmv 6 rfl (by kernel_rfl) rfl (Rq 7 rfl (by kernel_rfl) (by first | exact pu_subI rfl rfl rfl (by omega) (by omega) | exact pu_sub rfl rfl) ?_))
    refine Rq 8 rfl (by kernel_rfl) (pu_ia se_41 rfl rfl (by omega) (by omega)) (Rr 9 rfl (by kernel_rfl) (rd_lda ag_32 rfl (Rdc.el0 (SlH.own (xs := inS P C x (S.drop (k + 1) ++ Q) (m + 1)) (E := 32) (enc := recC) (sz := 5) (by repeat constructor)) gu rfl rfl) rfl) ?_)
    refine Rmv 10 rfl (by kernel_rfl) rfl (Rmv 11 rfl (by kernel_rfl) rfl (Rq 12 rfl (by kernel_rfl) (pu_ia se_41 rfl rfl (by omega) (by omega)) (Rr 13 rfl (by kernel_rfl) (rd_lda ag_32 rfl (Rdc.el0 (SlH.own (xs := inS P C x (S.drop (k + 1) ++ Q) (m + 1)) (E := 32) (enc := recC) (sz := 5) (by repeat constructor)) gx rfl rfl) rfl) ?_)))
    refine Rq 14 rfl (by kernel_rfl) (pu_ia se_41 rfl rfl (by omega) (by omega)) (Rg.one (by kernel_rfl) (Stp.ac0 15 rfl rfl (by kernel_rfl) trivial (ac_stE (enc := recC) (xs := inS P C x (S.drop (k + 1) ++ Q) (m + 1)) (i := (((p + (m + 1) : Nat) : Int)).toNat) (x0 := x) (y0 := u) (vs := recC u) (fo := 0) sz_32 ek_32 rfl rfl (by repeat constructor) rfl rfl rfl gx rfl rfl)  ?_))
    rintro _ _ rfl
    refine Rq 16 rfl (by kernel_rfl) (pu_ia se_41 rfl rfl (by omega) (by omega)) (Rg.one (by kernel_rfl) (Stp.ac0 17 rfl rfl (by kernel_rfl) trivial (ac_stE (enc := recC) (xs := (inS P C x (S.drop (k + 1) ++ Q) (m + 1)).set (((p + (m + 1) : Nat) : Int)).toNat u) (i := (((p + (m + 1) : Nat) : Int) - 1).toNat) (x0 := u) (y0 := x) (vs := recC x) (fo := 0) sz_32 ek_32 rfl rfl (by repeat constructor) rfl rfl rfl gu2 rfl rfl)  ?_))
    rintro _ _ rfl
    refine Rg.end (by kernel_rfl) ?_
    rw [hset]
    refine Gs.blk_n (Gn (Gs.reg (Lmv rfl rfl (Lq rfl (pu_subI (z := ((p + m : Nat) : Int)) rfl rfl (by omega) (by omega) (by omega)) ?_))))
    refine Las rfl rfl (Lnt ?_)
    exact Ag m ⟨by omega, hhi2⟩ (by omega)
   have hxu : lessR x u = false := by rw [← ordR_lt]; exact hc1
   have hlow : ∀ m' y, m' < m + 1 → C[m']? = some y → lessR x y = false := low_none ordL hC.2 (fun y _ hy => by rw [Nat.add_sub_cancel, hu] at hy; cases hy; exact hxu) (by omega)
   refine Gs.exit (Gx (Gx (Gs.blk_hit (Gs.blk_n (Gn (Gs.reg (Lmv rfl rfl (Lq rfl (pu_addI (z := ((p + (k + 1) : Nat) : Int)) rfl rfl (by omega) (by omega) (by omega)) ?_))))))))
   refine Las rfl rfl (Lnt ?_)
   first | exact Ag (k + 1, C.take t ++ x :: C.drop t) ⟨by show 1 ≤ k + 1; omega, by show k + 1 ≤ S.length + 1; omega, hnx t, by have h9 := one_right hap hC.2 hlow hhi; rwa [List.append_assoc, List.singleton_append] at h9⟩ (by show S.length + 1 - (k + 1) < S.length + 1 - k; omega) | exact Ag (k + 1, C.take (m + 1) ++ x :: C.drop (m + 1)) ⟨by show 1 ≤ k + 1; omega, by show k + 1 ≤ S.length + 1; omega, hnx (m + 1), by have h9 := one_right hap hC.2 hlow hhi; rwa [List.append_assoc, List.singleton_append] at h9⟩ (by show S.length + 1 - (k + 1) < S.length + 1 - k; omega)
  have hz : t = 0 := by have := of_decide_eq_false hg3; omega
  have hlow : ∀ m y, m < t → C[m]? = some y → lessR x y = false := fun m y hm _ => by omega
  refine Rof 4 rfl (by kernel_rfl) rfl (Rof 5 rfl (by kernel_rfl) rfl (Rof 6 rfl (by kernel_rfl) rfl (Rof 7 rfl (by kernel_rfl) rfl (Rof 8 rfl (by kernel_rfl) rfl (Rof 9 rfl (by kernel_rfl) rfl (Rof 10 rfl (by kernel_rfl) rfl (Rof 11 rfl (by kernel_rfl) rfl (Rof 12 rfl (by kernel_rfl) rfl (Rof 13 rfl (by kernel_rfl) rfl (Rof 14 rfl (by kernel_rfl) rfl (Rof 15 rfl (by kernel_rfl) rfl ?_)))))))))))
  refine Rpk 16 rfl (by kernel_rfl) rfl rfl (Rg.end (by kernel_rfl) (Gn (Gs.cond_f rfl (Gs.exit (Gx (Gx (Gs.blk_hit (Gs.blk_n (Gn (Gs.reg (Lmv rfl rfl ?_)))))))))))
  refine Lq rfl (pu_addI (z := ((p + (k + 1) : Nat) : Int)) rfl rfl (by omega) (by omega) (by omega)) ?_
  refine Las rfl rfl (Lnt ?_)
  first | exact Ag (k + 1, C.take t ++ x :: C.drop t) ⟨by show 1 ≤ k + 1; omega, by show k + 1 ≤ S.length + 1; omega, hnx t, by have h9 := one_right hap hC.2 hlow hhi; rwa [List.append_assoc, List.singleton_append] at h9⟩ (by show S.length + 1 - (k + 1) < S.length + 1 - k; omega) | exact Ag (k + 1, C.take (m + 1) ++ x :: C.drop (m + 1)) ⟨by show 1 ≤ k + 1; omega, by show k + 1 ≤ S.length + 1; omega, hnx (m + 1), by have h9 := one_right hap hC.2 hlow hhi; rwa [List.append_assoc, List.singleton_append] at h9⟩ (by show S.length + 1 - (k + 1) < S.length + 1 - k; omega)
 have hge : S.length ≤ k := by have := of_decide_eq_false hc0; omega
 rw [List.take_of_length_le hge] at hC
 refine Gs.ent (rsE_mk hC (by rw [List.drop_of_length_le hge, List.nil_append])) ?_
 refine Gs.exit (Gx (Gx (Gs.blk_hit (Gs.fin_n ?_))))
 exact Gs.fin0 Tryz.results205 _ (⟨rfl, rfl⟩) (by repeat constructor)
end Go.Proofs.YtklgiidfompdpaaGreatDoor
