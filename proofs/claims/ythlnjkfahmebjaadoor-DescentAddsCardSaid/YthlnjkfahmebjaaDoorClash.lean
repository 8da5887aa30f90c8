/- Walks: descent.clash, Clash, Bound. -/
import Derived.Test.YthlnjkfahmebjaaDoorFind
import Derived.Test.YthlnjkfahmebjaaDoorK0
namespace Go.Proofs.YthlnjkfahmebjaaDoor
open Go Go.Sl Go.Gv Go.Kv
set_option maxRecDepth 100000
def clashP (A B : List Rec) : Nat → Part → Bool
  | 0, p => !unl A B p && decide (lookR A ⟨p.o, p.i⟩ ≠ lookR B ⟨p.o, p.i⟩)
  | n + 1, p => (partsOf p).any (clashP A B n) || ((partsOf p).any (unl A B) && !unl A B p)
def clashN (A B : List Rec) (n : Nat) : Bool := (List.range n).any fun o => clashP A B 5 ⟨o, 0, 0⟩
theorem look_differ (x y : Option Rec) : decide (x ≠ y) = ((!(x.isSome == y.isSome)) || !decide (x.getD Rec.zero = y.getD Rec.zero)) := by
  cases x <;> cases y <;> simp
theorem any_take {α : Type} {p : α → Bool} {l : List α} {i : Nat} {x : α} (h : l[i]? = some x) : (l.take (i + 1)).any p = ((l.take i).any p || p x) := by
  rw [List.take_add_one, h]; simp
theorem clash_spec {S : HProp} {a b : Nat} {A B : List Rec} (hA : TrR S a A) (hB : TrR S b B) : ∀ (n : Nat) (p : Part), n ≤ 5 → p.l = 5 - (n : Int) → 0 ≤ p.i → (p.i + 1) * 4 ^ n ≤ 1024 →
    Ct Tryd.prog 33 [ptr a, ptr b, partV p] [S] (fun v hs => v = .bool (clashP A B n p) ∧ hs = [S]) := by
  intro n
  induction n with
  | zero =>
    intro p hn hl hi0 hi1
    obtain ⟨po, pl, pi⟩ := p
    dsimp only at hl hi0 hi1
    have hl5 : pl = 5 := by omega
    subst hl5
    refine Ct.intro Tryd.func33 rfl (by kernel_rfl) 80 Tryd.ntmps33 (Nat.le_of_ble_eq_true rfl) fun w0 R => ?_
    refine Gs.seq ?_
    refine Gs.reg ?_
    refine Go.Sl.L.ac rfl rfl trivial (ac_box rfl rfl) ?_
    rintro _ _ ⟨pb, rfl, rfl⟩
    refine Go.Sl.L.pu rfl rfl trivial (pu_assign rfl) ?_
    refine Go.Sl.L.nil ?_
    refine Gs.then_n ?_
    refine Gs.seq ?_
    refine Gs.seq ?_
    refine Gs.reg ?_
    refine Go.Sl.L.pu rfl rfl trivial (pu_fa fa_49_1 rfl) ?_
    refine Go.Sl.L.rd rfl rfl trivial (rd_ld na_3 rfl (Rdc.cl1 (by repeat constructor) rfl)) ?_
    refine Go.Sl.L.pu rfl rfl trivial (pu_eq rfl rfl) ?_
    refine Go.Sl.L.nil ?_
    refine Gs.then_n ?_
    refine Gs.cond_t rfl ?_
    refine Gs.seq ?_
    refine Gs.reg ?_
    refine Go.Sl.L.pu rfl rfl trivial (pu_move rfl) ?_
    refine Go.Sl.L.pu rfl rfl trivial (pu_fa fa_49_0 rfl) ?_
    refine Go.Sl.L.rd rfl rfl trivial (rd_ld na_3 rfl (Rdc.cl1 (by repeat constructor) rfl)) ?_
    refine Go.Sl.L.pu rfl rfl trivial (pu_fa fa_49_2 rfl) ?_
    refine Go.Sl.L.rd rfl rfl trivial (rd_ld na_3 rfl (Rdc.cl1 (by repeat constructor) rfl)) ?_
    refine Go.Sl.L.pu rfl rfl trivial (pu_build bd_38 (by repeat constructor) rfl) ?_
    refine Go.Sl.L.ac rfl rfl trivial (as_call (hA.get ⟨po, pi⟩) (by repeat constructor) (by repeat constructor)) ?_
    rintro _ _ ⟨_, ⟨rfl, rfl⟩, rfl⟩
    refine Go.Sl.L.pu rfl rfl trivial (pu_move rfl) ?_
    refine Go.Sl.L.pu rfl rfl trivial (pu_extract rfl rfl) ?_
    refine Go.Sl.L.pu rfl rfl trivial (pu_extract rfl rfl) ?_
    refine Go.Sl.L.ac rfl rfl trivial (ac_alloc zv_42 rfl) ?_
    rintro _ _ ⟨xb, rfl, rfl⟩
    refine Go.Sl.L.ac0 rfl trivial (ac_st sz_42 rfl rfl (by repeat constructor) rfl rfl rfl rfl) ?_
    rintro _ _ rfl
    refine Go.Sl.L.pu rfl rfl trivial (pu_assign rfl) ?_
    refine Go.Sl.L.nil ?_
    refine Gs.then_n ?_
    refine Gs.seq ?_
    refine Gs.reg ?_
    refine Go.Sl.L.pu rfl rfl trivial (pu_move rfl) ?_
    refine Go.Sl.L.pu rfl rfl trivial (pu_fa fa_49_0 rfl) ?_
    refine Go.Sl.L.rd rfl rfl trivial (rd_ld na_3 rfl (Rdc.cl1 (by repeat constructor) rfl)) ?_
    refine Go.Sl.L.pu rfl rfl trivial (pu_fa fa_49_2 rfl) ?_
    refine Go.Sl.L.rd rfl rfl trivial (rd_ld na_3 rfl (Rdc.cl1 (by repeat constructor) rfl)) ?_
    refine Go.Sl.L.pu rfl rfl trivial (pu_build bd_38 (by repeat constructor) rfl) ?_
    refine Go.Sl.L.ac rfl rfl trivial (as_call (hB.get ⟨po, pi⟩) (by repeat constructor) (by repeat constructor)) ?_
    rintro _ _ ⟨_, ⟨rfl, rfl⟩, rfl⟩
    refine Go.Sl.L.pu rfl rfl trivial (pu_move rfl) ?_
    refine Go.Sl.L.pu rfl rfl trivial (pu_extract rfl rfl) ?_
    refine Go.Sl.L.pu rfl rfl trivial (pu_extract rfl rfl) ?_
    refine Go.Sl.L.ac rfl rfl trivial (ac_alloc zv_42 rfl) ?_
    rintro _ _ ⟨yb, rfl, rfl⟩
    refine Go.Sl.L.ac0 rfl trivial (ac_st sz_42 rfl rfl (by repeat constructor) rfl rfl rfl rfl) ?_
    rintro _ _ rfl
    refine Go.Sl.L.pu rfl rfl trivial (pu_assign rfl) ?_
    refine Go.Sl.L.nil ?_
    refine Gs.then_n ?_
    refine Gs.seq ?_
    refine Gs.reg ?_
    refine Go.Sl.L.pu rfl rfl trivial (pu_move rfl) ?_
    refine Go.Sl.L.pu rfl rfl trivial (pu_move rfl) ?_
    refine Go.Sl.L.rd rfl rfl trivial (rd_lda ag_49 rfl (Rdc.cl 3 (by repeat constructor) rfl) rfl) ?_
    refine Go.Sl.L.ac rfl rfl trivial (as_call (unlike_spec hA hB ⟨po, 5, pi⟩) (by repeat constructor) (by repeat constructor)) ?_
    rintro _ _ ⟨_, ⟨rfl, rfl⟩, rfl⟩
    refine Go.Sl.L.pu rfl rfl trivial (pu_not rfl) ?_
    refine Go.Sl.L.puB rfl rfl trivial (pu_move rfl) (fun hg5 => ?_) (fun hg5 => ?_)
    · skip
      refine Go.Sl.L.pu rfl rfl ⟨_, rfl, rfl⟩ (pu_move rfl) ?_
      refine Go.Sl.L.pu rfl rfl ⟨_, rfl, rfl⟩ (pu_move rfl) ?_
      refine Go.Sl.L.pu rfl rfl ⟨_, rfl, rfl⟩ (pu_neB Tryd.underlying4 rfl rfl) ?_
      refine Go.Sl.L.puB rfl rfl ⟨_, rfl, rfl⟩ (pu_move rfl) (fun hg9 => ?_) (fun hg9 => ?_)
      · skip
        refine Go.Sl.L.off rfl rfl rfl rfl rfl rfl ?_
        refine Go.Sl.L.off rfl rfl rfl rfl rfl rfl ?_
        refine Go.Sl.L.off rfl rfl rfl rfl rfl rfl ?_
        refine Go.Sl.L.off rfl rfl rfl rfl rfl rfl ?_
        refine Go.Sl.L.pu rfl rfl ⟨_, rfl, rfl⟩ (by first | exact pu_pick_t rfl rfl | exact pu_pick_f rfl rfl) ?_
        refine Go.Sl.L.pu rfl rfl trivial (by first | exact pu_pick_t rfl rfl | exact pu_pick_f rfl rfl) ?_
        refine Go.Sl.L.pu rfl rfl trivial (pu_assign rfl) ?_
        refine Go.Sl.L.nil ?_
        refine Gs.then_n ?_
        refine Gs.ret ?_
        refine Gs.then_r ?_
        exact Gs.fin1 Tryd.results33 rfl _ (⟨by first | (rw [clashP, look_differ, hg5, hg9]; simp only [Bool.true_and, Bool.true_or, Bool.false_or]) | (rw [clashP, look_differ, hg5]; simp only [Bool.false_and]), rfl⟩) (by repeat constructor)
      · skip
        refine Go.Sl.L.rd rfl rfl ⟨_, rfl, rfl⟩ (rd_lda ag_42 rfl (Rdc.cl 5 (by repeat constructor) rfl) rfl) ?_
        refine Go.Sl.L.rd rfl rfl ⟨_, rfl, rfl⟩ (rd_lda ag_42 rfl (Rdc.cl 5 (by repeat constructor) rfl) rfl) ?_
        refine Go.Sl.L.ac rfl rfl ⟨_, rfl, rfl⟩ (as_call (recSame_spec ((lookR A ⟨po, pi⟩).getD Rec.zero) ((lookR B ⟨po, pi⟩).getD Rec.zero)) (by repeat constructor) (by repeat constructor)) ?_
        rintro _ _ ⟨_, ⟨rfl, rfl⟩, rfl⟩
        refine Go.Sl.L.pu rfl rfl ⟨_, rfl, rfl⟩ (pu_not rfl) ?_
        refine Go.Sl.L.pu rfl rfl ⟨_, rfl, rfl⟩ (by first | exact pu_pick_t rfl rfl | exact pu_pick_f rfl rfl) ?_
        refine Go.Sl.L.pu rfl rfl trivial (by first | exact pu_pick_t rfl rfl | exact pu_pick_f rfl rfl) ?_
        refine Go.Sl.L.pu rfl rfl trivial (pu_assign rfl) ?_
        refine Go.Sl.L.nil ?_
        refine Gs.then_n ?_
        refine Gs.ret ?_
        refine Gs.then_r ?_
        exact Gs.fin1 Tryd.results33 rfl _ (⟨by first | (rw [clashP, look_differ, hg5, hg9]; simp only [Bool.true_and, Bool.true_or, Bool.false_or]) | (rw [clashP, look_differ, hg5]; simp only [Bool.false_and]), rfl⟩) (by repeat constructor)
    · skip
      refine Go.Sl.L.off rfl rfl rfl rfl rfl rfl ?_
      refine Go.Sl.L.off rfl rfl rfl rfl rfl rfl ?_
      refine Go.Sl.L.off rfl rfl rfl rfl rfl rfl ?_
      refine Go.Sl.L.off rfl rfl rfl rfl rfl rfl ?_
      refine Go.Sl.L.offU rfl rfl rfl rfl rfl ?_
      refine Go.Sl.L.offU rfl rfl rfl rfl rfl ?_
      refine Go.Sl.L.offU rfl rfl rfl rfl rfl ?_
      refine Go.Sl.L.offU rfl rfl rfl rfl rfl ?_
      refine Go.Sl.L.off rfl rfl rfl rfl rfl rfl ?_
      refine Go.Sl.L.pu rfl rfl trivial (by first | exact pu_pick_t rfl rfl | exact pu_pick_f rfl rfl) ?_
      refine Go.Sl.L.pu rfl rfl trivial (pu_assign rfl) ?_
      refine Go.Sl.L.nil ?_
      refine Gs.then_n ?_
      refine Gs.ret ?_
      refine Gs.then_r ?_
      exact Gs.fin1 Tryd.results33 rfl _ (⟨by first | (rw [clashP, look_differ, hg5, hg9]; simp only [Bool.true_and, Bool.true_or, Bool.false_or]) | (rw [clashP, look_differ, hg5]; simp only [Bool.false_and]), rfl⟩) (by repeat constructor)
  | succ n ih =>
    intro p hn hl hi0 hi1
    have hp := pow_in (k := n) (by omega)
    have hib : p.i + 1 ≤ 256 := by
      have h1 : (4 : Int) ^ (n + 1) = 4 * 4 ^ n := by rw [Int.pow_succ]; exact Int.mul_comm ..
      have h2 : (p.i + 1) * 4 ≤ (p.i + 1) * 4 ^ (n + 1) := Int.mul_le_mul_of_nonneg_left (by omega) (by omega)
      omega
    have hpl : (partsOf p).length = 4 := by simp [partsOf]
    have hpart : ∀ (i : Nat) (q : Part), (partsOf p)[i]? = some q → q.l = 5 - (n : Int) ∧ 0 ≤ q.i ∧ (q.i + 1) * 4 ^ n ≤ 1024 := fun i q hq => by
      have hm := List.mem_of_getElem? hq
      simp only [partsOf, List.mem_map, List.mem_range] at hm
      obtain ⟨j, hj, rfl⟩ := hm
      refine ⟨by show p.l + 1 = _; omega, by show 0 ≤ 4 * p.i + (j : Int); omega, ?_⟩
      show (4 * p.i + (j : Int) + 1) * 4 ^ n ≤ 1024
      have h1 : (4 : Int) ^ (n + 1) = 4 * 4 ^ n := by rw [Int.pow_succ]; exact Int.mul_comm ..
      have h2 : (4 * p.i + (j : Int) + 1) * 4 ^ n ≤ (4 * p.i + 4) * 4 ^ n := Int.mul_le_mul_of_nonneg_right (by omega) (by omega)
      have h3 : (4 * p.i + 4) * (4 : Int) ^ n = (p.i + 1) * 4 ^ (n + 1) := by rw [h1, ← Int.mul_assoc]; congr 1; omega
      omega
    refine Ct.intro Tryd.func33 rfl (by kernel_rfl) 80 Tryd.ntmps33 (Nat.le_of_ble_eq_true rfl) fun w0 R => ?_
    refine Gs.seq ?_
    refine Gs.reg ?_
    refine Go.Sl.L.ac rfl rfl trivial (ac_box rfl rfl) ?_
    rintro _ _ ⟨pb, rfl, rfl⟩
    refine Go.Sl.L.pu rfl rfl trivial (pu_assign rfl) ?_
    refine Go.Sl.L.nil ?_
    refine Gs.then_n ?_
    refine Gs.seq ?_
    refine Gs.seq ?_
    refine Gs.reg ?_
    refine Go.Sl.L.pu rfl rfl trivial (pu_fa fa_49_1 rfl) ?_
    refine Go.Sl.L.rd rfl rfl trivial (rd_ld na_3 rfl (Rdc.cl1 (by repeat constructor) rfl)) ?_
    refine Go.Sl.L.pu rfl rfl trivial (pu_eq rfl rfl) ?_
    refine Go.Sl.L.nil ?_
    refine Gs.then_n ?_
    refine Gs.cond_ff rfl (decide_eq_false (by omega)) ?_
    refine Gs.skip ?_
    refine Gs.then_n ?_
    refine Gs.seq ?_
    refine Gs.reg ?_
    refine Go.Sl.L.pu rfl rfl trivial (pu_assign rfl) ?_
    refine Go.Sl.L.nil ?_
    refine Gs.then_n ?_
    refine Gs.seq ?_
    refine Gs.seq ?_
    refine Gs.reg ?_
    refine Go.Sl.L.rd rfl rfl trivial (rd_lda ag_49 rfl (Rdc.cl 3 (by repeat constructor) rfl) rfl) ?_
    refine Go.Sl.L.ac rfl rfl trivial (as_call (parts_spec p (by omega) (by omega)) (by repeat constructor) (by repeat constructor)) ?_
    rintro _ _ ⟨_, ⟨xa, xc, rfl, rfl⟩, rfl⟩
    refine Go.Sl.L.pu rfl rfl trivial (pu_len Tryd.underlying50 rfl) ?_
    refine Go.Sl.L.pu rfl rfl trivial (pu_move rfl) ?_
    refine Go.Sl.L.nil ?_
    refine Gs.slAddr (xs := partsOf p) (SlH.own (E := 49) (enc := partC) (by repeat constructor)) fun ab ao ha => ?_
    obtain rfl := ha (by rintro e; rw [e] at hpl; cases hpl)
    refine Gs.then_n ?_
    refine Gs.block ?_
    refine Gs.loop1 (fun i : Nat => i ≤ 4 ∧ ((partsOf p).take i).any (clashP A B n) = false) (fun i => [(0, ptr a), (1, ptr b), (5, ptr pb), (11, .bool (((partsOf p).take i).any (unl A B))), (54, .slice (some ⟨ab, ao, none⟩) (partsOf p).length xc), (55, int (partsOf p).length), (56, int i)]) (fun i => [sl 49 3 partC (some ⟨ab, ao, none⟩) xc (partsOf p), cl pb 49 (partC p), S] ++ R) (fun i => 4 - i) 0 (⟨Nat.zero_le _, rfl⟩) (by repeat constructor) (by repeat constructor) (fun i ⟨hi, hcl⟩ => ?_)
    refine Gs.seq ?_
    refine Gs.reg ?_
    refine Go.Sl.L.pu rfl rfl trivial (pu_lt rfl rfl) ?_
    refine Go.Sl.L.nil ?_
    refine Gs.then_n ?_
    refine Gs.seq ?_
    refine Gs.cond rfl (fun hc1 => ?_) (fun hc1 => ?_)
    · skip
      have hlt : i < 4 := by have := of_decide_eq_true hc1; omega
      obtain ⟨q, hq⟩ : ∃ x, (partsOf p)[i]? = some x := ⟨(partsOf p)[i]'(by omega), by simp⟩
      obtain ⟨q1, q2, q3⟩ := hpart i q hq
      refine Gs.skip ?_
      refine Gs.then_n ?_
      refine Gs.seq ?_
      refine Gs.block ?_
      refine Gs.seq ?_
      refine Gs.reg ?_
      refine Go.Sl.L.pu rfl rfl trivial (pu_ia se_50 rfl rfl (by omega) (by omega)) ?_
      refine Go.Sl.L.rd rfl rfl trivial (rd_lda ag_49 rfl (Rdc.el0 (xs := partsOf p) (enc := partC) (sz := 3) (SlH.own (E := 49) (c := xc) (by repeat constructor)) hq rfl rfl) rfl) ?_
      refine Go.Sl.L.ac rfl rfl trivial (ac_alloc zv_49 rfl) ?_
      rintro _ _ ⟨qb, rfl, rfl⟩
      refine Go.Sl.L.ac0 rfl trivial (ac_st sz_49 rfl rfl (by repeat constructor) rfl rfl rfl rfl) ?_
      rintro _ _ rfl
      refine Go.Sl.L.nil ?_
      refine Gs.then_n ?_
      refine Gs.seq ?_
      refine Gs.reg ?_
      refine Go.Sl.L.pu rfl rfl trivial (pu_move rfl) ?_
      refine Go.Sl.L.puB rfl rfl trivial (pu_move rfl) (fun hg1 => ?_) (fun hg1 => ?_)
      · skip
        let sb : Bool := true
        have hsb : sb = ((partsOf p).take (i + 1)).any (unl A B) := by rw [any_take hq, hg1]; rfl
        refine Go.Sl.L.off rfl rfl rfl rfl rfl rfl ?_
        refine Go.Sl.L.off rfl rfl rfl rfl rfl rfl ?_
        refine Go.Sl.L.off rfl rfl rfl rfl rfl rfl ?_
        refine Go.Sl.L.off rfl rfl rfl rfl rfl rfl ?_
        refine Go.Sl.L.pu rfl rfl trivial (by first | exact pu_pick_t rfl rfl | exact pu_pick_f rfl rfl) ?_
        refine Go.Sl.L.pu rfl rfl trivial (pu_assign rfl) ?_
        refine Go.Sl.L.nil ?_
        refine Gs.then_n ?_
        refine Gs.seq ?_
        refine Gs.reg ?_
        refine Go.Sl.L.pu rfl rfl trivial (pu_move rfl) ?_
        refine Go.Sl.L.pu rfl rfl trivial (pu_move rfl) ?_
        refine Go.Sl.L.rd rfl rfl trivial (rd_lda ag_49 rfl (Rdc.cl 3 (by repeat constructor) rfl) rfl) ?_
        refine Go.Sl.L.ac rfl rfl trivial (as_call (ih q (by omega) q1 q2 q3) (by repeat constructor) (by repeat constructor)) ?_
        rintro _ _ ⟨_, ⟨rfl, rfl⟩, rfl⟩
        refine Go.Sl.L.nil ?_
        refine Gs.then_n ?_
        refine Gs.cond rfl (fun hc2 => ?_) (fun hc2 => ?_)
        · skip
          have hyes : clashP A B (n + 1) p = true := by
            have : (partsOf p).any (clashP A B n) = true := List.any_eq_true.2 ⟨q, List.mem_of_getElem? hq, hc2⟩
            simp only [clashP, this, Bool.true_or]
          refine Gs.seq ?_
          refine Gs.reg ?_
          refine Go.Sl.L.pu rfl rfl trivial (pu_assign rfl) ?_
          refine Go.Sl.L.nil ?_
          refine Gs.then_n ?_
          refine Gs.ret ?_
          refine Gs.blk_r ?_
          refine Gs.then_r ?_
          refine Gs.then_r ?_
          refine Gs.blk_r ?_
          refine Gs.then_r ?_
          exact Gs.fin1 Tryd.results33 rfl _ (⟨by rw [hyes], rfl⟩) (by repeat constructor)
        · skip
          have hcl2 : ((partsOf p).take (i + 1)).any (clashP A B n) = false := by rw [any_take hq, hcl, hc2]; rfl
          refine Gs.skip ?_
          refine Gs.blk_n ?_
          refine Gs.then_n ?_
          refine Gs.reg ?_
          refine Go.Sl.L.pu rfl rfl trivial (by first | exact pu_addI rfl rfl rfl (by omega) (by omega) | exact pu_add rfl rfl) ?_
          refine Go.Sl.L.pu rfl rfl trivial (pu_move rfl) ?_
          refine Go.Sl.L.nil ?_
          refine Gs.then_n ?_
          exact Gs.again1 (i + 1) ⟨by omega, hcl2⟩ (by omega) (by rw [← hsb]; repeat constructor) (by repeat constructor)
      · skip
        let sb : Bool := unl A B q
        have hsb : sb = ((partsOf p).take (i + 1)).any (unl A B) := by rw [any_take hq, hg1]; rfl
        refine Go.Sl.L.pu rfl rfl ⟨_, rfl, rfl⟩ (pu_move rfl) ?_
        refine Go.Sl.L.pu rfl rfl ⟨_, rfl, rfl⟩ (pu_move rfl) ?_
        refine Go.Sl.L.rd rfl rfl ⟨_, rfl, rfl⟩ (rd_lda ag_49 rfl (Rdc.cl 3 (by repeat constructor) rfl) rfl) ?_
        refine Go.Sl.L.ac rfl rfl ⟨_, rfl, rfl⟩ (as_call (unlike_spec hA hB q) (by repeat constructor) (by repeat constructor)) ?_
        rintro _ _ ⟨_, ⟨rfl, rfl⟩, rfl⟩
        refine Go.Sl.L.pu rfl rfl trivial (by first | exact pu_pick_t rfl rfl | exact pu_pick_f rfl rfl) ?_
        refine Go.Sl.L.pu rfl rfl trivial (pu_assign rfl) ?_
        refine Go.Sl.L.nil ?_
        refine Gs.then_n ?_
        refine Gs.seq ?_
        refine Gs.reg ?_
        refine Go.Sl.L.pu rfl rfl trivial (pu_move rfl) ?_
        refine Go.Sl.L.pu rfl rfl trivial (pu_move rfl) ?_
        refine Go.Sl.L.rd rfl rfl trivial (rd_lda ag_49 rfl (Rdc.cl 3 (by repeat constructor) rfl) rfl) ?_
        refine Go.Sl.L.ac rfl rfl trivial (as_call (ih q (by omega) q1 q2 q3) (by repeat constructor) (by repeat constructor)) ?_
        rintro _ _ ⟨_, ⟨rfl, rfl⟩, rfl⟩
        refine Go.Sl.L.nil ?_
        refine Gs.then_n ?_
        refine Gs.cond rfl (fun hc2 => ?_) (fun hc2 => ?_)
        · skip
          have hyes : clashP A B (n + 1) p = true := by
            have : (partsOf p).any (clashP A B n) = true := List.any_eq_true.2 ⟨q, List.mem_of_getElem? hq, hc2⟩
            simp only [clashP, this, Bool.true_or]
          refine Gs.seq ?_
          refine Gs.reg ?_
          refine Go.Sl.L.pu rfl rfl trivial (pu_assign rfl) ?_
          refine Go.Sl.L.nil ?_
          refine Gs.then_n ?_
          refine Gs.ret ?_
          refine Gs.blk_r ?_
          refine Gs.then_r ?_
          refine Gs.then_r ?_
          refine Gs.blk_r ?_
          refine Gs.then_r ?_
          exact Gs.fin1 Tryd.results33 rfl _ (⟨by rw [hyes], rfl⟩) (by repeat constructor)
        · skip
          have hcl2 : ((partsOf p).take (i + 1)).any (clashP A B n) = false := by rw [any_take hq, hcl, hc2]; rfl
          refine Gs.skip ?_
          refine Gs.blk_n ?_
          refine Gs.then_n ?_
          refine Gs.reg ?_
          refine Go.Sl.L.pu rfl rfl trivial (by first | exact pu_addI rfl rfl rfl (by omega) (by omega) | exact pu_add rfl rfl) ?_
          refine Go.Sl.L.pu rfl rfl trivial (pu_move rfl) ?_
          refine Go.Sl.L.nil ?_
          refine Gs.then_n ?_
          exact Gs.again1 (i + 1) ⟨by omega, hcl2⟩ (by omega) (by rw [← hsb]; repeat constructor) (by repeat constructor)
    · skip
      have hge : i = (partsOf p).length := by have := of_decide_eq_false hc1; omega
      rw [hge, List.take_length] at hcl ⊢
      refine Gs.exit ?_
      refine Gs.then_x ?_
      refine Gs.then_x ?_
      refine Gs.blk_hit ?_
      refine Gs.then_n ?_
      refine Gs.seq ?_
      refine Gs.reg ?_
      refine Go.Sl.L.pu rfl rfl trivial (pu_move rfl) ?_
      refine Go.Sl.L.puB rfl rfl trivial (pu_move rfl) (fun hg1 => ?_) (fun hg1 => ?_)
      · skip
        refine Go.Sl.L.pu rfl rfl ⟨_, rfl, rfl⟩ (pu_move rfl) ?_
        refine Go.Sl.L.pu rfl rfl ⟨_, rfl, rfl⟩ (pu_move rfl) ?_
        refine Go.Sl.L.rd rfl rfl ⟨_, rfl, rfl⟩ (rd_lda ag_49 rfl (Rdc.cl 3 (by repeat constructor) rfl) rfl) ?_
        refine Go.Sl.L.ac rfl rfl ⟨_, rfl, rfl⟩ (as_call (unlike_spec hA hB p) (by repeat constructor) (by repeat constructor)) ?_
        rintro _ _ ⟨_, ⟨rfl, rfl⟩, rfl⟩
        refine Go.Sl.L.pu rfl rfl ⟨_, rfl, rfl⟩ (pu_not rfl) ?_
        refine Go.Sl.L.pu rfl rfl trivial (by first | exact pu_pick_t rfl rfl | exact pu_pick_f rfl rfl) ?_
        refine Go.Sl.L.pu rfl rfl trivial (pu_assign rfl) ?_
        refine Go.Sl.L.nil ?_
        refine Gs.then_n ?_
        refine Gs.ret ?_
        exact Gs.fin1 Tryd.results33 rfl _ (⟨by simp only [clashP, hcl, hg1, Bool.true_and, Bool.false_and, Bool.false_or], rfl⟩) (by repeat constructor)
      · skip
        refine Go.Sl.L.off rfl rfl rfl rfl rfl rfl ?_
        refine Go.Sl.L.off rfl rfl rfl rfl rfl rfl ?_
        refine Go.Sl.L.off rfl rfl rfl rfl rfl rfl ?_
        refine Go.Sl.L.off rfl rfl rfl rfl rfl rfl ?_
        refine Go.Sl.L.off rfl rfl rfl rfl rfl rfl ?_
        refine Go.Sl.L.pu rfl rfl trivial (by first | exact pu_pick_t rfl rfl | exact pu_pick_f rfl rfl) ?_
        refine Go.Sl.L.pu rfl rfl trivial (pu_assign rfl) ?_
        refine Go.Sl.L.nil ?_
        refine Gs.then_n ?_
        refine Gs.ret ?_
        exact Gs.fin1 Tryd.results33 rfl _ (⟨by simp only [clashP, hcl, hg1, Bool.true_and, Bool.false_and, Bool.false_or], rfl⟩) (by repeat constructor)
theorem clashN_spec {S : HProp} {a b : Nat} {A B : List Rec} (hA : TrR S a A) (hB : TrR S b B) (n : Nat) (hn : n ≤ 8) :
    Ct Tryd.prog 13 [ptr a, ptr b, int n] [S] (fun v hs => v = .bool (clashN A B n) ∧ hs = [S]) := by
  refine Ct.intro Tryd.func13 rfl (by kernel_rfl) 28 Tryd.ntmps13 (Nat.le_of_ble_eq_true rfl) fun w0 R => ?_
  refine Gs.seq ?_
  refine Gs.reg ?_
  refine Go.Sl.L.pu rfl rfl trivial (pu_assign rfl) ?_
  refine Go.Sl.L.nil ?_
  refine Gs.then_n ?_
  refine Gs.seq ?_
  refine Gs.seq ?_
  refine Gs.reg ?_
  refine Go.Sl.L.pu rfl rfl trivial (pu_move rfl) ?_
  refine Go.Sl.L.pu rfl rfl trivial (pu_maxI (z := (n : Int)) rfl rfl (by omega)) ?_
  refine Go.Sl.L.pu rfl rfl trivial (pu_minI (z := (n : Int)) rfl rfl (by omega)) ?_
  refine Go.Sl.L.pu rfl rfl trivial (pu_move rfl) ?_
  refine Go.Sl.L.nil ?_
  refine Gs.then_n ?_
  refine Gs.block ?_
  refine Gs.loop1 (fun i : Nat => i ≤ n ∧ clashN A B i = false) (fun i => [(0, ptr a), (1, ptr b), (10, int n), (11, int i)]) (fun _ => [S] ++ R) (fun i => n - i) 0 (⟨Nat.zero_le _, rfl⟩) (by repeat constructor) (by repeat constructor) (fun i ⟨hi, hcl⟩ => ?_)
  refine Gs.seq ?_
  refine Gs.reg ?_
  refine Go.Sl.L.pu rfl rfl trivial (pu_lt rfl rfl) ?_
  refine Go.Sl.L.nil ?_
  refine Gs.then_n ?_
  refine Gs.seq ?_
  refine Gs.cond rfl (fun hc0 => ?_) (fun hc0 => ?_)
  · skip
    have hlt : i < n := by have := of_decide_eq_true hc0; omega
    refine Gs.skip ?_
    refine Gs.then_n ?_
    refine Gs.seq ?_
    refine Gs.block ?_
    refine Gs.seq ?_
    refine Gs.reg ?_
    refine Go.Sl.L.pu rfl rfl trivial (pu_move rfl) ?_
    refine Go.Sl.L.pu rfl rfl trivial (pu_assign rfl) ?_
    refine Go.Sl.L.nil ?_
    refine Gs.then_n ?_
    refine Gs.seq ?_
    refine Gs.reg ?_
    refine Go.Sl.L.pu rfl rfl trivial (pu_move rfl) ?_
    refine Go.Sl.L.pu rfl rfl trivial (pu_neN Tryd.underlying25 rfl rfl) ?_
    refine Go.Sl.L.puBt rfl rfl trivial (pu_move rfl) rfl ?_
    refine Go.Sl.L.pu rfl rfl ⟨_, rfl, rfl⟩ (pu_move rfl) ?_
    refine Go.Sl.L.pu rfl rfl ⟨_, rfl, rfl⟩ (pu_neN Tryd.underlying25 rfl rfl) ?_
    refine Go.Sl.L.pu rfl rfl trivial (by first | exact pu_pick_t rfl rfl | exact pu_pick_f rfl rfl) ?_
    refine Go.Sl.L.puBt rfl rfl trivial (pu_move rfl) rfl ?_
    refine Go.Sl.L.pu rfl rfl ⟨_, rfl, rfl⟩ (pu_move rfl) ?_
    refine Go.Sl.L.pu rfl rfl ⟨_, rfl, rfl⟩ (pu_move rfl) ?_
    refine Go.Sl.L.pu rfl rfl ⟨_, rfl, rfl⟩ (pu_move rfl) ?_
    refine Go.Sl.L.pu rfl rfl ⟨_, rfl, rfl⟩ (pu_build bd_49 (by repeat constructor) rfl) ?_
    refine Go.Sl.L.ac rfl rfl ⟨_, rfl, rfl⟩ (as_call (clash_spec hA hB 5 ⟨i, 0, 0⟩ (by omega) rfl (Int.le_refl 0) (show (0 + 1 : Int) * 4 ^ 5 ≤ 1024 by decide)) (by repeat constructor) (by repeat constructor)) ?_
    rintro _ _ ⟨_, ⟨rfl, rfl⟩, rfl⟩
    refine Go.Sl.L.pu rfl rfl trivial (by first | exact pu_pick_t rfl rfl | exact pu_pick_f rfl rfl) ?_
    refine Go.Sl.L.nil ?_
    refine Gs.then_n ?_
    refine Gs.cond rfl (fun hc1 => ?_) (fun hc1 => ?_)
    · skip
      have hyes : clashN A B n = true := List.any_eq_true.2 ⟨i, List.mem_range.2 hlt, hc1⟩
      refine Gs.seq ?_
      refine Gs.reg ?_
      refine Go.Sl.L.pu rfl rfl trivial (pu_assign rfl) ?_
      refine Go.Sl.L.nil ?_
      refine Gs.then_n ?_
      refine Gs.ret ?_
      refine Gs.blk_r ?_
      refine Gs.then_r ?_
      refine Gs.then_r ?_
      refine Gs.blk_r ?_
      refine Gs.then_r ?_
      exact Gs.fin1 Tryd.results13 rfl _ (⟨by rw [hyes], rfl⟩) (by repeat constructor)
    · skip
      have hno : clashN A B (i + 1) = false := by
        unfold clashN at hcl ⊢
        rw [List.range_succ, List.any_append, hcl]; simp [hc1]
      refine Gs.skip ?_
      refine Gs.blk_n ?_
      refine Gs.then_n ?_
      refine Gs.reg ?_
      refine Go.Sl.L.pu rfl rfl trivial (by first | exact pu_addI rfl rfl rfl (by omega) (by omega) | exact pu_add rfl rfl) ?_
      refine Go.Sl.L.pu rfl rfl trivial (pu_move rfl) ?_
      refine Go.Sl.L.nil ?_
      refine Gs.then_n ?_
      exact Gs.again1 (i + 1) ⟨by omega, hno⟩ (by omega) (by repeat constructor) (by repeat constructor)
  · skip
    have hge : i = n := by have := of_decide_eq_false hc0; omega
    rw [hge] at hcl
    refine Gs.exit ?_
    refine Gs.then_x ?_
    refine Gs.then_x ?_
    refine Gs.blk_hit ?_
    refine Gs.then_n ?_
    refine Gs.seq ?_
    refine Gs.reg ?_
    refine Go.Sl.L.pu rfl rfl trivial (pu_assign rfl) ?_
    refine Go.Sl.L.nil ?_
    refine Gs.then_n ?_
    refine Gs.ret ?_
    exact Gs.fin1 Tryd.results13 rfl _ (⟨by rw [hcl], rfl⟩) (by repeat constructor)
theorem bound_spec (m : Nat) (hm : m ≤ 1000000) : Ct Tryd.prog 18 [int m] [] (fun v hs => v = int (8 + m * 4 * 5 : Int) ∧ hs = []) := by
  refine Ct.intro Tryd.func18 rfl (by kernel_rfl) 7 Tryd.ntmps18 (Nat.le_of_ble_eq_true rfl) fun w0 R => ?_
  refine Gs.seq ?_
  refine Gs.reg ?_
  refine Go.Sl.L.pu rfl rfl trivial (pu_assign rfl) ?_
  refine Go.Sl.L.nil ?_
  refine Gs.then_n ?_
  refine Gs.seq ?_
  refine Gs.reg ?_
  refine Go.Sl.L.pu rfl rfl trivial (pu_move rfl) ?_
  refine Go.Sl.L.pu rfl rfl trivial (by first | exact pu_mulI rfl rfl rfl (by omega) (by omega) | exact pu_mul rfl rfl) ?_
  refine Go.Sl.L.pu rfl rfl trivial (by first | exact pu_mulI rfl rfl rfl (by omega) (by omega) | exact pu_mul rfl rfl) ?_
  refine Go.Sl.L.pu rfl rfl trivial (by first | exact pu_addI rfl rfl rfl (by omega) (by omega) | exact pu_add rfl rfl) ?_
  refine Go.Sl.L.pu rfl rfl trivial (pu_assign rfl) ?_
  refine Go.Sl.L.nil ?_
  refine Gs.then_n ?_
  refine Gs.ret ?_
  exact Gs.fin1 Tryd.results18 rfl _ (⟨rfl, rfl⟩) (by repeat constructor)
end Go.Proofs.YthlnjkfahmebjaaDoor
