/- Walks: record.Lay, and its second copy. -/
import Derived.Test.YthlnjkfahmebjaaDoorHash
import Derived.Test.YthlnjkfahmebjaaDoorMay
namespace Go.Proofs.YthlnjkfahmebjaaDoor
open Go Go.Sl Go.Gv
set_option maxRecDepth 100000
def byteN (n : Int) (k : Nat) : UInt8 := cutB (shrK .i64 n ((8 * k : Nat) : Int))
/-- The bytes of a number, the highest first. -/
def numB (n : Int) : Nat → List UInt8
  | 0 => []
  | k + 1 => byteN n k :: numB n k
theorem numB_length (n : Int) : ∀ k, (numB n k).length = k
  | 0 => rfl
  | k + 1 => by simp [numB, numB_length n k]
theorem put_spec (a : Option Addr) (c : Nat) (xs : List UInt8) (n : Int) (k : Nat) (hl : xs.length ≤ 100000) (hk : k ≤ 8) :
    Ct Tryd.prog 57 [.slice a xs.length c, int n, int k] [sl 5 1 byteC a c xs] (fun v hs => ∃ a' c', v = .slice a' (xs ++ numB n k).length c' ∧ hs = [sl 5 1 byteC a' c' (xs ++ numB n k)]) := by
  refine Ct.intro Tryd.func57 rfl (by kernel_rfl) 20 Tryd.ntmps57 (Nat.le_of_ble_eq_true rfl) fun w0 R => ?_
  refine Gs.seq ?_
  refine Gs.reg ?_
  refine Go.Sl.L.pu rfl rfl trivial (pu_assign rfl) ?_
  refine Go.Sl.L.nil ?_
  refine Gs.then_n ?_
  refine Gs.seq ?_
  refine Gs.block ?_
  refine Gs.loop1 (fun s : Nat × Option Addr × Nat × List UInt8 => s.2.2.2 ++ numB n s.1 = xs ++ numB n k ∧ s.1 ≤ k) (fun s => [(0, .slice s.2.1 s.2.2.2.length s.2.2.1), (1, int n), (2, int s.1)]) (fun s => [sl 5 1 byteC s.2.1 s.2.2.1 s.2.2.2] ++ R) (fun s => s.1) (k, a, c, xs) (⟨rfl, Nat.le_refl _⟩) (by repeat constructor) (by repeat constructor) (fun s hs => ?_)
  obtain ⟨j, ca, cc, l⟩ := s
  obtain ⟨hl1, hj⟩ := hs
  dsimp only at hj hl1 ⊢
  have hll : l.length ≤ 100008 := by have := congrArg List.length hl1; simp only [List.length_append, numB_length] at this; omega
  refine Gs.seq ?_
  refine Gs.seq ?_
  refine Gs.reg ?_
  refine Go.Sl.L.pu rfl rfl trivial (pu_move rfl) ?_
  refine Go.Sl.L.pu rfl rfl trivial (pu_gt rfl rfl) ?_
  refine Go.Sl.L.nil ?_
  refine Gs.then_n ?_
  refine Gs.cond rfl (fun hc0 => ?_) (fun hc0 => ?_)
  · skip
    obtain ⟨i, rfl⟩ : ∃ i, j = i + 1 := ⟨j - 1, by have := of_decide_eq_true hc0; omega⟩
    have hl2 : (l ++ [byteN n i]) ++ numB n i = xs ++ numB n k := by rw [← hl1]; simp [numB]
    refine Gs.skip ?_
    refine Gs.then_n ?_
    refine Gs.block ?_
    refine Gs.seq ?_
    refine Gs.reg ?_
    refine Go.Sl.L.pu rfl rfl trivial (pu_move rfl) ?_
    refine Go.Sl.L.pu rfl rfl trivial (pu_subI (z := (i : Int)) rfl rfl (by omega) (by omega) (by omega)) ?_
    refine Go.Sl.L.pu rfl rfl trivial (pu_assign rfl) ?_
    refine Go.Sl.L.nil ?_
    refine Gs.then_n ?_
    refine Gs.reg ?_
    refine Go.Sl.L.pu rfl rfl trivial (pu_move rfl) ?_
    refine Go.Sl.L.pu rfl rfl trivial (pu_move rfl) ?_
    refine Go.Sl.L.pu rfl rfl trivial (pu_move rfl) ?_
    refine Go.Sl.L.pu rfl rfl trivial (pu_mulI (z := ((8 * i : Nat) : Int)) rfl rfl (by omega) (by omega) (by omega)) ?_
    refine Go.Sl.L.pu rfl rfl trivial (pu_shr rfl rfl (by omega)) ?_
    refine Go.Sl.L.pu rfl rfl trivial (pu_conv Tryd.underlying3 Tryd.underlying5 rfl) ?_
    rw [cutB_eq]
    refine Go.Sl.L.ac rfl rfl trivial (ac_lit encC_5 ([byteN n i]) et_82 ek_5 rfl (by repeat constructor) rfl rfl (by decide)) ?_
    rintro _ _ ⟨a17, rfl, rfl⟩
    refine Go.Sl.L.ac rfl rfl trivial (ac_append et_82 ek_5 rfl rfl (by repeat constructor) (SrcH.sl Tryd.underlying82 ek_5 (SlH.own (by repeat constructor))) (by first | omega | (simp; omega)) (by first | omega | (simp; omega))) ?_
    rintro _ _ ⟨a18, c18, rfl, rfl⟩
    refine Go.Sl.L.pu rfl rfl trivial (pu_assign rfl) ?_
    refine Go.Sl.L.nil ?_
    refine Gs.blk_n ?_
    refine Gs.then_n ?_
    exact Gs.again1 (i, a18, c18, l ++ [byteN n i]) ⟨hl2, by show i ≤ k; omega⟩ (by show i < i + 1; omega) (by repeat constructor) (by repeat constructor)
  · skip
    have hge : j = 0 := by have := of_decide_eq_false hc0; omega
    subst hge
    rw [show l = xs ++ numB n k by rw [← hl1]; simp [numB]]
    refine Gs.exit ?_
    refine Gs.then_x ?_
    refine Gs.then_x ?_
    refine Gs.blk_hit ?_
    refine Gs.then_n ?_
    refine Gs.seq ?_
    refine Gs.reg ?_
    refine Go.Sl.L.pu rfl rfl trivial (pu_move rfl) ?_
    refine Go.Sl.L.pu rfl rfl trivial (pu_assign rfl) ?_
    refine Go.Sl.L.nil ?_
    refine Gs.then_n ?_
    refine Gs.ret ?_
    exact Gs.fin1 Tryd.results57 rfl _ (⟨ca, cc, rfl, rfl⟩) (by repeat constructor)
theorem num_spec (a : Option Addr) (c : Nat) (xs : List UInt8) (n : Int) (k : Nat) (hl : xs.length ≤ 100000) (hk : k ≤ 8) :
    Ct Tryd.prog 71 [.slice a xs.length c, int n, int k] [sl 5 1 byteC a c xs] (fun v hs => ∃ a' c', v = .slice a' (xs ++ numB n k).length c' ∧ hs = [sl 5 1 byteC a' c' (xs ++ numB n k)]) := by
  refine Ct.intro Tryd.func71 rfl (by kernel_rfl) 23 Tryd.ntmps71 (Nat.le_of_ble_eq_true rfl) fun w0 R => ?_
  refine Gs.seq ?_
  refine Gs.reg ?_
  refine Go.Sl.L.pu rfl rfl trivial (pu_assign rfl) ?_
  refine Go.Sl.L.nil ?_
  refine Gs.then_n ?_
  refine Gs.seq ?_
  refine Gs.seq ?_
  refine Gs.reg ?_
  refine Go.Sl.L.pu rfl rfl trivial (pu_move rfl) ?_
  refine Go.Sl.L.pu rfl rfl trivial (by first | exact pu_subI rfl rfl rfl (by omega) (by omega) | exact pu_sub rfl rfl) ?_
  refine Go.Sl.L.pu rfl rfl trivial (pu_assign rfl) ?_
  refine Go.Sl.L.nil ?_
  refine Gs.then_n ?_
  refine Gs.block ?_
  refine Gs.loop1 (fun s : Nat × Option Addr × Nat × List UInt8 => s.2.2.2 ++ numB n s.1 = xs ++ numB n k ∧ s.1 ≤ k) (fun s => [(0, .slice s.2.1 s.2.2.2.length s.2.2.1), (1, int n), (7, int ((s.1 : Int) - 1))]) (fun s => [sl 5 1 byteC s.2.1 s.2.2.1 s.2.2.2] ++ R) (fun s => s.1) (k, a, c, xs) (⟨rfl, Nat.le_refl _⟩) (by repeat constructor) (by repeat constructor) (fun s hs => ?_)
  obtain ⟨j, ca, cc, l⟩ := s
  obtain ⟨hl1, hj⟩ := hs
  dsimp only at hj hl1 ⊢
  have hll : l.length ≤ 100008 := by have := congrArg List.length hl1; simp only [List.length_append, numB_length] at this; omega
  refine Gs.seq ?_
  refine Gs.seq ?_
  refine Gs.reg ?_
  refine Go.Sl.L.pu rfl rfl trivial (pu_move rfl) ?_
  refine Go.Sl.L.pu rfl rfl trivial (pu_ge rfl rfl) ?_
  refine Go.Sl.L.nil ?_
  refine Gs.then_n ?_
  refine Gs.cond rfl (fun hc0 => ?_) (fun hc0 => ?_)
  · skip
    obtain ⟨i, rfl⟩ : ∃ i, j = i + 1 := ⟨j - 1, by have := of_decide_eq_true hc0; omega⟩
    rw [show (((i + 1 : Nat) : Int) - 1) = (i : Int) by omega]
    have hl2 : (l ++ [byteN n i]) ++ numB n i = xs ++ numB n k := by rw [← hl1]; simp [numB]
    refine Gs.skip ?_
    refine Gs.then_n ?_
    refine Gs.seq ?_
    refine Gs.block ?_
    refine Gs.reg ?_
    refine Go.Sl.L.pu rfl rfl trivial (pu_move rfl) ?_
    refine Go.Sl.L.pu rfl rfl trivial (pu_move rfl) ?_
    refine Go.Sl.L.pu rfl rfl trivial (pu_move rfl) ?_
    refine Go.Sl.L.pu rfl rfl trivial (pu_mulI (z := ((8 * i : Nat) : Int)) rfl rfl (by omega) (by omega) (by omega)) ?_
    refine Go.Sl.L.pu rfl rfl trivial (pu_shr rfl rfl (by omega)) ?_
    refine Go.Sl.L.pu rfl rfl trivial (pu_conv Tryd.underlying3 Tryd.underlying5 rfl) ?_
    rw [cutB_eq]
    refine Go.Sl.L.ac rfl rfl trivial (ac_lit encC_5 ([byteN n i]) et_82 ek_5 rfl (by repeat constructor) rfl rfl (by decide)) ?_
    rintro _ _ ⟨a20, rfl, rfl⟩
    refine Go.Sl.L.ac rfl rfl trivial (ac_append et_82 ek_5 rfl rfl (by repeat constructor) (SrcH.sl Tryd.underlying82 ek_5 (SlH.own (by repeat constructor))) (by first | omega | (simp; omega)) (by first | omega | (simp; omega))) ?_
    rintro _ _ ⟨a21, c21, rfl, rfl⟩
    refine Go.Sl.L.pu rfl rfl trivial (pu_assign rfl) ?_
    refine Go.Sl.L.nil ?_
    refine Gs.blk_n ?_
    refine Gs.then_n ?_
    refine Gs.reg ?_
    refine Go.Sl.L.pu rfl rfl trivial (pu_move rfl) ?_
    refine Go.Sl.L.pu rfl rfl trivial (by first | exact pu_subI rfl rfl rfl (by omega) (by omega) | exact pu_sub rfl rfl) ?_
    refine Go.Sl.L.pu rfl rfl trivial (pu_assign rfl) ?_
    refine Go.Sl.L.nil ?_
    refine Gs.then_n ?_
    exact Gs.again1 (i, a21, c21, l ++ [byteN n i]) ⟨hl2, by show i ≤ k; omega⟩ (by show i < i + 1; omega) (by repeat constructor) (by repeat constructor)
  · skip
    have hge : j = 0 := by have := of_decide_eq_false hc0; omega
    subst hge
    rw [show l = xs ++ numB n k by rw [← hl1]; simp [numB]]
    refine Gs.exit ?_
    refine Gs.then_x ?_
    refine Gs.then_x ?_
    refine Gs.blk_hit ?_
    refine Gs.then_n ?_
    refine Gs.seq ?_
    refine Gs.reg ?_
    refine Go.Sl.L.pu rfl rfl trivial (pu_move rfl) ?_
    refine Go.Sl.L.pu rfl rfl trivial (pu_assign rfl) ?_
    refine Go.Sl.L.nil ?_
    refine Gs.then_n ?_
    refine Gs.ret ?_
    exact Gs.fin1 Tryd.results71 rfl _ (⟨ca, cc, rfl, rfl⟩) (by repeat constructor)
/-- A record's bytes. -/
def layB (r : Rec) : List UInt8 := ((((([] ++ numB r.o 1) ++ numB r.q 2) ++ numB r.w 6) ++ numB r.c 2) ++ numB (r.t.size : Int) 1) ++ r.t.data.toList
theorem recB_text {r : Rec} (h : recB r = true) : r.t.data.toList.length ≤ 120 := by
  have h1 : textB r.t = true := by simp only [recB, Bool.and_eq_true] at h; exact h.2
  have h2 : (r.t.size : Int) ≤ 120 := by simp only [textB, Bool.and_eq_true, decide_eq_true_eq] at h1; exact h1.1
  have h3 : r.t.data.toList.length = r.t.size := by rw [Array.length_toList]; rfl
  omega
theorem layB_length (r : Rec) : (layB r).length = 12 + r.t.data.toList.length := by simp [layB, numB_length]; omega
theorem layR_ok {h0 : Hp} (T : Tabs h0) (r : Rec) (hr : recB r = true) : Ct Tryd.prog 42 [recV r] [ro h0] (fun v hs => ∃ a c, v = .tuple #[.slice a (layB r).length c, int 0] ∧ hs = [ro h0, sl 5 1 byteC a c (layB r)]) := by
  have ht : r.t.data.toList.length ≤ 120 := recB_text hr
  have htl : (r.t.size : Int) = r.t.data.toList.length := by rw [Array.length_toList]; rfl
  obtain ⟨l1, hl1⟩ : ∃ l, l = [] ++ numB r.o 1 := ⟨_, rfl⟩
  obtain ⟨l2, hl2⟩ : ∃ l, l = l1 ++ numB r.q 2 := ⟨_, rfl⟩
  obtain ⟨l3, hl3⟩ : ∃ l, l = l2 ++ numB r.w 6 := ⟨_, rfl⟩
  obtain ⟨l4, hl4⟩ : ∃ l, l = l3 ++ numB r.c 2 := ⟨_, rfl⟩
  obtain ⟨l5, hl5⟩ : ∃ l, l = l4 ++ numB (r.t.size : Int) 1 := ⟨_, rfl⟩
  have hlay : layB r = l5 ++ r.t.data.toList := by rw [hl5, hl4, hl3, hl2, hl1]; rfl
  have k1 : l1.length = 1 := by rw [hl1]; simp [numB_length]
  have k2 : l2.length = 3 := by rw [hl2, List.length_append, numB_length, k1]
  have k3 : l3.length = 9 := by rw [hl3, List.length_append, numB_length, k2]
  have k4 : l4.length = 11 := by rw [hl4, List.length_append, numB_length, k3]
  have k5 : l5.length = 12 := by rw [hl5, List.length_append, numB_length, k4]
  refine Ct.intro Tryd.func42 rfl (by kernel_rfl) 33 Tryd.ntmps42 (Nat.le_of_ble_eq_true rfl) fun w0 R => ?_
  refine Gs.seq ?_
  refine Gs.reg ?_
  refine Go.Sl.L.ac rfl rfl trivial (ac_box rfl rfl) ?_
  rintro _ _ ⟨b1, rfl, rfl⟩
  refine Go.Sl.L.pu rfl rfl trivial (pu_assign rfl) ?_
  refine Go.Sl.L.pu rfl rfl trivial (pu_assign rfl) ?_
  refine Go.Sl.L.nil ?_
  refine Gs.then_n ?_
  refine Gs.seq ?_
  refine Gs.seq ?_
  refine Gs.reg ?_
  refine Go.Sl.L.rd rfl rfl trivial (rd_lda ag_42 rfl (Rdc.cl 5 (by repeat constructor) rfl) rfl) ?_
  refine Go.Sl.L.ac rfl rfl trivial (as_call (recMay_spec T r) (by repeat constructor) (by repeat constructor)) ?_
  rintro _ _ ⟨_, ⟨rfl, rfl⟩, rfl⟩
  refine Go.Sl.L.pu rfl rfl trivial (pu_not rfl) ?_
  refine Go.Sl.L.nil ?_
  refine Gs.then_n ?_
  refine Gs.cond_ff rfl (by simp [hr]) ?_
  refine Gs.skip ?_
  refine Gs.then_n ?_
  refine Gs.seq ?_
  refine Gs.slNil 5 1 byteC ?_
  refine Gs.regD mixed (by kernel_rfl) ?_
  refine Rg.pu 0 rfl rfl (by kernel_rfl) trivial (pu_fa fa_42_0 rfl) ?_
  refine Rg.pu 1 rfl rfl (by kernel_rfl) trivial (pu_fa fa_38_0 rfl) ?_
  refine Rg.rd 2 rfl rfl (by kernel_rfl) trivial (rd_ld na_3 rfl (Rdc.cl1 (by repeat constructor) rfl)) ?_
  refine Rg.pu 4 rfl rfl (by kernel_rfl) trivial (pu_fa fa_42_0 rfl) ?_
  refine Rg.pu 5 rfl rfl (by kernel_rfl) trivial (pu_fa fa_38_1 rfl) ?_
  refine Rg.rd 6 rfl rfl (by kernel_rfl) trivial (rd_ld na_3 rfl (Rdc.cl1 (by repeat constructor) rfl)) ?_
  refine Rg.one (by kernel_rfl) (Stp.acR 3 [6] rfl rfl (by kernel_rfl) trivial (as_call (put_spec none 0 [] r.o 1 (by decide) (by decide)) (by repeat constructor) (by repeat constructor)) (by rintro _ _ ⟨_, ⟨ba1, bc1, rfl, rfl⟩, rfl⟩; exact (Reads.cons rfl rfl rfl trivial rfl (rd_ld na_3 rfl (Rdc.cl1 (by repeat constructor) rfl)) Reads.nil)) ?_)
  rintro _ _ ⟨_, ⟨ba1, bc1, rfl, rfl⟩, rfl⟩
  rw [← hl1]
  refine Rg.one (by kernel_rfl) (Stp.ac 7 rfl rfl (by kernel_rfl) trivial (as_call (put_spec ba1 bc1 l1 r.q 2 (by omega) (by decide)) (by repeat constructor) (by repeat constructor))  ?_)
  rintro _ _ ⟨_, ⟨ba2, bc2, rfl, rfl⟩, rfl⟩
  rw [← hl2]
  refine Rg.pu 8 rfl rfl (by kernel_rfl) trivial (pu_assign rfl) ?_
  refine Rg.end (by kernel_rfl) ?_
  refine Gs.then_n ?_
  refine Gs.seq ?_
  refine Gs.regD mixed (by kernel_rfl) ?_
  refine Rg.pu 0 rfl rfl (by kernel_rfl) trivial (pu_move rfl) ?_
  refine Rg.pu 1 rfl rfl (by kernel_rfl) trivial (pu_fa fa_42_1 rfl) ?_
  refine Rg.pu 2 rfl rfl (by kernel_rfl) trivial (pu_fa fa_40_0 rfl) ?_
  refine Rg.rd 3 rfl rfl (by kernel_rfl) trivial (rd_ld na_3 rfl (Rdc.cl1 (by repeat constructor) rfl)) ?_
  refine Rg.pu 5 rfl rfl (by kernel_rfl) trivial (pu_fa fa_42_1 rfl) ?_
  refine Rg.pu 6 rfl rfl (by kernel_rfl) trivial (pu_fa fa_40_1 rfl) ?_
  refine Rg.rd 7 rfl rfl (by kernel_rfl) trivial (rd_ld na_3 rfl (Rdc.cl1 (by repeat constructor) rfl)) ?_
  refine Rg.pu 9 rfl rfl (by kernel_rfl) trivial (pu_fa fa_42_2 rfl) ?_
  refine Rg.rd 10 rfl rfl (by kernel_rfl) trivial (rd_ld na_9 rfl (Rdc.cl1 (by repeat constructor) rfl)) ?_
  refine Rg.pu 11 rfl rfl (by kernel_rfl) trivial (pu_lenS Tryd.underlying9 rfl) ?_
  refine Rg.one (by kernel_rfl) (Stp.acR 4 [7, 10] rfl rfl (by kernel_rfl) trivial (as_call (put_spec ba2 bc2 l2 r.w 6 (by omega) (by decide)) (by repeat constructor) (by repeat constructor)) (by rintro _ _ ⟨_, ⟨ba3, bc3, rfl, rfl⟩, rfl⟩; exact (Reads.cons rfl rfl rfl trivial rfl (rd_ld na_3 rfl (Rdc.cl1 (by repeat constructor) rfl)) (Reads.cons rfl rfl rfl trivial rfl (rd_ld na_9 rfl (Rdc.cl1 (by repeat constructor) rfl)) Reads.nil))) ?_)
  rintro _ _ ⟨_, ⟨ba3, bc3, rfl, rfl⟩, rfl⟩
  rw [← hl3]
  refine Rg.one (by kernel_rfl) (Stp.acR 8 [10] rfl rfl (by kernel_rfl) trivial (as_call (put_spec ba3 bc3 l3 r.c 2 (by omega) (by decide)) (by repeat constructor) (by repeat constructor)) (by rintro _ _ ⟨_, ⟨ba4, bc4, rfl, rfl⟩, rfl⟩; exact (Reads.cons rfl rfl rfl trivial rfl (rd_ld na_9 rfl (Rdc.cl1 (by repeat constructor) rfl)) Reads.nil)) ?_)
  rintro _ _ ⟨_, ⟨ba4, bc4, rfl, rfl⟩, rfl⟩
  rw [← hl4]
  refine Rg.one (by kernel_rfl) (Stp.ac 12 rfl rfl (by kernel_rfl) trivial (as_call (put_spec ba4 bc4 l4 (r.t.size : Int) 1 (by omega) (by decide)) (by repeat constructor) (by repeat constructor))  ?_)
  rintro _ _ ⟨_, ⟨ba5, bc5, rfl, rfl⟩, rfl⟩
  rw [← hl5]
  refine Rg.pu 13 rfl rfl (by kernel_rfl) trivial (pu_assign rfl) ?_
  refine Rg.end (by kernel_rfl) ?_
  refine Gs.then_n ?_
  refine Gs.seq ?_
  refine Gs.reg ?_
  refine Go.Sl.L.pu rfl rfl trivial (pu_move rfl) ?_
  refine Go.Sl.L.pu rfl rfl trivial (pu_fa fa_42_2 rfl) ?_
  refine Go.Sl.L.rd rfl rfl trivial (rd_ld na_9 rfl (Rdc.cl1 (by repeat constructor) rfl)) ?_
  refine Go.Sl.L.ac rfl rfl trivial (ac_append et_82 ek_5 rfl rfl (by repeat constructor) (SrcH.strB Tryd.underlying9 r.t) (by first | omega | (simp; omega)) (by first | omega | (simp; omega))) ?_
  rintro _ _ ⟨a32, c32, rfl, rfl⟩
  refine Go.Sl.L.pu rfl rfl trivial (pu_assign rfl) ?_
  refine Go.Sl.L.pu rfl rfl trivial (pu_assign rfl) ?_
  refine Go.Sl.L.nil ?_
  refine Gs.then_n ?_
  refine Gs.ret ?_
  exact Gs.fin2 Tryd.results42 rfl rfl _ (⟨_, _, by rw [hlay], by rw [hlay]⟩) (by repeat constructor)
theorem layR_bad {h0 : Hp} (T : Tabs h0) (r : Rec) (hr : recB r = false) : Ct Tryd.prog 42 [recV r] [ro h0] (fun v hs => v = .tuple #[.slice none 0 0, int 2] ∧ hs = [ro h0]) := by
  refine Ct.intro Tryd.func42 rfl (by kernel_rfl) 33 Tryd.ntmps42 (Nat.le_of_ble_eq_true rfl) fun w0 R => ?_
  refine Gs.seq ?_
  refine Gs.reg ?_
  refine Go.Sl.L.ac rfl rfl trivial (ac_box rfl rfl) ?_
  rintro _ _ ⟨b1, rfl, rfl⟩
  refine Go.Sl.L.pu rfl rfl trivial (pu_assign rfl) ?_
  refine Go.Sl.L.pu rfl rfl trivial (pu_assign rfl) ?_
  refine Go.Sl.L.nil ?_
  refine Gs.then_n ?_
  refine Gs.seq ?_
  refine Gs.seq ?_
  refine Gs.reg ?_
  refine Go.Sl.L.rd rfl rfl trivial (rd_lda ag_42 rfl (Rdc.cl 5 (by repeat constructor) rfl) rfl) ?_
  refine Go.Sl.L.ac rfl rfl trivial (as_call (recMay_spec T r) (by repeat constructor) (by repeat constructor)) ?_
  rintro _ _ ⟨_, ⟨rfl, rfl⟩, rfl⟩
  refine Go.Sl.L.pu rfl rfl trivial (pu_not rfl) ?_
  refine Go.Sl.L.nil ?_
  refine Gs.then_n ?_
  refine Gs.cond_tt rfl (by simp [hr]) ?_
  refine Gs.seq ?_
  refine Gs.reg ?_
  refine Go.Sl.L.pu rfl rfl trivial (pu_assign rfl) ?_
  refine Go.Sl.L.pu rfl rfl trivial (pu_assign rfl) ?_
  refine Go.Sl.L.nil ?_
  refine Gs.then_n ?_
  refine Gs.ret ?_
  refine Gs.then_r ?_
  exact Gs.fin2 Tryd.results42 rfl rfl _ (⟨rfl, rfl⟩) (by repeat constructor)
theorem layR4_ok {h0 : Hp} (T : Tabs h0) (r : Rec) (hr : recB r = true) : Ct Tryd.prog 50 [recV r] [ro h0] (fun v hs => ∃ a c, v = .tuple #[.slice a (layB r).length c, int 0] ∧ hs = [ro h0, sl 5 1 byteC a c (layB r)]) := by
  have ht : r.t.data.toList.length ≤ 120 := recB_text hr
  have htl : (r.t.size : Int) = r.t.data.toList.length := by rw [Array.length_toList]; rfl
  obtain ⟨l1, hl1⟩ : ∃ l, l = [] ++ numB r.o 1 := ⟨_, rfl⟩
  obtain ⟨l2, hl2⟩ : ∃ l, l = l1 ++ numB r.q 2 := ⟨_, rfl⟩
  obtain ⟨l3, hl3⟩ : ∃ l, l = l2 ++ numB r.w 6 := ⟨_, rfl⟩
  obtain ⟨l4, hl4⟩ : ∃ l, l = l3 ++ numB r.c 2 := ⟨_, rfl⟩
  obtain ⟨l5, hl5⟩ : ∃ l, l = l4 ++ numB (r.t.size : Int) 1 := ⟨_, rfl⟩
  have hlay : layB r = l5 ++ r.t.data.toList := by rw [hl5, hl4, hl3, hl2, hl1]; rfl
  have k1 : l1.length = 1 := by rw [hl1]; simp [numB_length]
  have k2 : l2.length = 3 := by rw [hl2, List.length_append, numB_length, k1]
  have k3 : l3.length = 9 := by rw [hl3, List.length_append, numB_length, k2]
  have k4 : l4.length = 11 := by rw [hl4, List.length_append, numB_length, k3]
  have k5 : l5.length = 12 := by rw [hl5, List.length_append, numB_length, k4]
  refine Ct.intro Tryd.func50 rfl (by kernel_rfl) 32 Tryd.ntmps50 (Nat.le_of_ble_eq_true rfl) fun w0 R => ?_
  refine Gs.seq ?_
  refine Gs.reg ?_
  refine Go.Sl.L.ac rfl rfl trivial (ac_box rfl rfl) ?_
  rintro _ _ ⟨b1, rfl, rfl⟩
  refine Go.Sl.L.pu rfl rfl trivial (pu_assign rfl) ?_
  refine Go.Sl.L.pu rfl rfl trivial (pu_assign rfl) ?_
  refine Go.Sl.L.nil ?_
  refine Gs.then_n ?_
  refine Gs.seq ?_
  refine Gs.seq ?_
  refine Gs.reg ?_
  refine Go.Sl.L.rd rfl rfl trivial (rd_lda ag_42 rfl (Rdc.cl 5 (by repeat constructor) rfl) rfl) ?_
  refine Go.Sl.L.ac rfl rfl trivial (as_call (recMay4_spec T r) (by repeat constructor) (by repeat constructor)) ?_
  rintro _ _ ⟨_, ⟨rfl, rfl⟩, rfl⟩
  refine Go.Sl.L.pu rfl rfl trivial (pu_not rfl) ?_
  refine Go.Sl.L.nil ?_
  refine Gs.then_n ?_
  refine Gs.cond_ff rfl (by simp [hr]) ?_
  refine Gs.skip ?_
  refine Gs.then_n ?_
  refine Gs.seq ?_
  refine Gs.slNil 5 1 byteC ?_
  refine Gs.regD mixed (by kernel_rfl) ?_
  refine Rg.pu 0 rfl rfl (by kernel_rfl) trivial (pu_fa fa_42_0 rfl) ?_
  refine Rg.pu 1 rfl rfl (by kernel_rfl) trivial (pu_fa fa_38_0 rfl) ?_
  refine Rg.rd 2 rfl rfl (by kernel_rfl) trivial (rd_ld na_3 rfl (Rdc.cl1 (by repeat constructor) rfl)) ?_
  refine Rg.pu 4 rfl rfl (by kernel_rfl) trivial (pu_fa fa_42_0 rfl) ?_
  refine Rg.pu 5 rfl rfl (by kernel_rfl) trivial (pu_fa fa_38_1 rfl) ?_
  refine Rg.rd 6 rfl rfl (by kernel_rfl) trivial (rd_ld na_3 rfl (Rdc.cl1 (by repeat constructor) rfl)) ?_
  refine Rg.pu 8 rfl rfl (by kernel_rfl) trivial (pu_fa fa_42_1 rfl) ?_
  refine Rg.pu 9 rfl rfl (by kernel_rfl) trivial (pu_fa fa_40_0 rfl) ?_
  refine Rg.rd 10 rfl rfl (by kernel_rfl) trivial (rd_ld na_3 rfl (Rdc.cl1 (by repeat constructor) rfl)) ?_
  refine Rg.pu 12 rfl rfl (by kernel_rfl) trivial (pu_fa fa_42_1 rfl) ?_
  refine Rg.pu 13 rfl rfl (by kernel_rfl) trivial (pu_fa fa_40_1 rfl) ?_
  refine Rg.rd 14 rfl rfl (by kernel_rfl) trivial (rd_ld na_3 rfl (Rdc.cl1 (by repeat constructor) rfl)) ?_
  refine Rg.pu 16 rfl rfl (by kernel_rfl) trivial (pu_fa fa_42_2 rfl) ?_
  refine Rg.rd 17 rfl rfl (by kernel_rfl) trivial (rd_ld na_9 rfl (Rdc.cl1 (by repeat constructor) rfl)) ?_
  refine Rg.pu 18 rfl rfl (by kernel_rfl) trivial (pu_lenS Tryd.underlying9 rfl) ?_
  refine Rg.one (by kernel_rfl) (Stp.acR 3 [6, 10, 14, 17] rfl rfl (by kernel_rfl) trivial (as_call (num_spec none 0 [] r.o 1 (by decide) (by decide)) (by repeat constructor) (by repeat constructor)) (by rintro _ _ ⟨_, ⟨ba1, bc1, rfl, rfl⟩, rfl⟩; exact (Reads.cons rfl rfl rfl trivial rfl (rd_ld na_3 rfl (Rdc.cl1 (by repeat constructor) rfl)) (Reads.cons rfl rfl rfl trivial rfl (rd_ld na_3 rfl (Rdc.cl1 (by repeat constructor) rfl)) (Reads.cons rfl rfl rfl trivial rfl (rd_ld na_3 rfl (Rdc.cl1 (by repeat constructor) rfl)) (Reads.cons rfl rfl rfl trivial rfl (rd_ld na_9 rfl (Rdc.cl1 (by repeat constructor) rfl)) Reads.nil))))) ?_)
  rintro _ _ ⟨_, ⟨ba1, bc1, rfl, rfl⟩, rfl⟩
  rw [← hl1]
  refine Rg.one (by kernel_rfl) (Stp.acR 7 [10, 14, 17] rfl rfl (by kernel_rfl) trivial (as_call (num_spec ba1 bc1 l1 r.q 2 (by omega) (by decide)) (by repeat constructor) (by repeat constructor)) (by rintro _ _ ⟨_, ⟨ba2, bc2, rfl, rfl⟩, rfl⟩; exact (Reads.cons rfl rfl rfl trivial rfl (rd_ld na_3 rfl (Rdc.cl1 (by repeat constructor) rfl)) (Reads.cons rfl rfl rfl trivial rfl (rd_ld na_3 rfl (Rdc.cl1 (by repeat constructor) rfl)) (Reads.cons rfl rfl rfl trivial rfl (rd_ld na_9 rfl (Rdc.cl1 (by repeat constructor) rfl)) Reads.nil)))) ?_)
  rintro _ _ ⟨_, ⟨ba2, bc2, rfl, rfl⟩, rfl⟩
  rw [← hl2]
  refine Rg.one (by kernel_rfl) (Stp.acR 11 [14, 17] rfl rfl (by kernel_rfl) trivial (as_call (num_spec ba2 bc2 l2 r.w 6 (by omega) (by decide)) (by repeat constructor) (by repeat constructor)) (by rintro _ _ ⟨_, ⟨ba3, bc3, rfl, rfl⟩, rfl⟩; exact (Reads.cons rfl rfl rfl trivial rfl (rd_ld na_3 rfl (Rdc.cl1 (by repeat constructor) rfl)) (Reads.cons rfl rfl rfl trivial rfl (rd_ld na_9 rfl (Rdc.cl1 (by repeat constructor) rfl)) Reads.nil))) ?_)
  rintro _ _ ⟨_, ⟨ba3, bc3, rfl, rfl⟩, rfl⟩
  rw [← hl3]
  refine Rg.one (by kernel_rfl) (Stp.acR 15 [17] rfl rfl (by kernel_rfl) trivial (as_call (num_spec ba3 bc3 l3 r.c 2 (by omega) (by decide)) (by repeat constructor) (by repeat constructor)) (by rintro _ _ ⟨_, ⟨ba4, bc4, rfl, rfl⟩, rfl⟩; exact (Reads.cons rfl rfl rfl trivial rfl (rd_ld na_9 rfl (Rdc.cl1 (by repeat constructor) rfl)) Reads.nil)) ?_)
  rintro _ _ ⟨_, ⟨ba4, bc4, rfl, rfl⟩, rfl⟩
  rw [← hl4]
  refine Rg.one (by kernel_rfl) (Stp.ac 19 rfl rfl (by kernel_rfl) trivial (as_call (num_spec ba4 bc4 l4 (r.t.size : Int) 1 (by omega) (by decide)) (by repeat constructor) (by repeat constructor))  ?_)
  rintro _ _ ⟨_, ⟨ba5, bc5, rfl, rfl⟩, rfl⟩
  rw [← hl5]
  refine Rg.pu 20 rfl rfl (by kernel_rfl) trivial (pu_assign rfl) ?_
  refine Rg.end (by kernel_rfl) ?_
  refine Gs.then_n ?_
  refine Gs.seq ?_
  refine Gs.reg ?_
  refine Go.Sl.L.pu rfl rfl trivial (pu_move rfl) ?_
  refine Go.Sl.L.pu rfl rfl trivial (pu_fa fa_42_2 rfl) ?_
  refine Go.Sl.L.rd rfl rfl trivial (rd_ld na_9 rfl (Rdc.cl1 (by repeat constructor) rfl)) ?_
  refine Go.Sl.L.ac rfl rfl trivial (ac_append et_82 ek_5 rfl rfl (by repeat constructor) (SrcH.strB Tryd.underlying9 r.t) (by first | omega | (simp; omega)) (by first | omega | (simp; omega))) ?_
  rintro _ _ ⟨a31, c31, rfl, rfl⟩
  refine Go.Sl.L.pu rfl rfl trivial (pu_assign rfl) ?_
  refine Go.Sl.L.pu rfl rfl trivial (pu_assign rfl) ?_
  refine Go.Sl.L.nil ?_
  refine Gs.then_n ?_
  refine Gs.ret ?_
  exact Gs.fin2 Tryd.results50 rfl rfl _ (⟨_, _, by rw [hlay], by rw [hlay]⟩) (by repeat constructor)
theorem layR4_bad {h0 : Hp} (T : Tabs h0) (r : Rec) (hr : recB r = false) : Ct Tryd.prog 50 [recV r] [ro h0] (fun v hs => v = .tuple #[.slice none 0 0, int 2] ∧ hs = [ro h0]) := by
  refine Ct.intro Tryd.func50 rfl (by kernel_rfl) 32 Tryd.ntmps50 (Nat.le_of_ble_eq_true rfl) fun w0 R => ?_
  refine Gs.seq ?_
  refine Gs.reg ?_
  refine Go.Sl.L.ac rfl rfl trivial (ac_box rfl rfl) ?_
  rintro _ _ ⟨b1, rfl, rfl⟩
  refine Go.Sl.L.pu rfl rfl trivial (pu_assign rfl) ?_
  refine Go.Sl.L.pu rfl rfl trivial (pu_assign rfl) ?_
  refine Go.Sl.L.nil ?_
  refine Gs.then_n ?_
  refine Gs.seq ?_
  refine Gs.seq ?_
  refine Gs.reg ?_
  refine Go.Sl.L.rd rfl rfl trivial (rd_lda ag_42 rfl (Rdc.cl 5 (by repeat constructor) rfl) rfl) ?_
  refine Go.Sl.L.ac rfl rfl trivial (as_call (recMay4_spec T r) (by repeat constructor) (by repeat constructor)) ?_
  rintro _ _ ⟨_, ⟨rfl, rfl⟩, rfl⟩
  refine Go.Sl.L.pu rfl rfl trivial (pu_not rfl) ?_
  refine Go.Sl.L.nil ?_
  refine Gs.then_n ?_
  refine Gs.cond_tt rfl (by simp [hr]) ?_
  refine Gs.seq ?_
  refine Gs.reg ?_
  refine Go.Sl.L.pu rfl rfl trivial (pu_assign rfl) ?_
  refine Go.Sl.L.pu rfl rfl trivial (pu_assign rfl) ?_
  refine Go.Sl.L.nil ?_
  refine Gs.then_n ?_
  refine Gs.ret ?_
  refine Gs.then_r ?_
  exact Gs.fin2 Tryd.results50 rfl rfl _ (⟨rfl, rfl⟩) (by repeat constructor)
end Go.Proofs.YthlnjkfahmebjaaDoor
