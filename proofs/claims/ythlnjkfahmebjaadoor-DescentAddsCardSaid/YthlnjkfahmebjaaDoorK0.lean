/- Walks: grapevinelaw0's Low, SameKeys, GreatRecords; ref4.Before, ref10.Into; record.Same, ref4.Same. -/
import Derived.Test.YthlnjkfahmebjaaDoorTree
import Derived.Test.YthlnjkfahmebjaaDoorSrt
namespace Go.Proofs.YthlnjkfahmebjaaDoor
open Go Go.Sl Go.Gv Go.Kv
set_option maxRecDepth 100000
def lowZ (a b : Int) : Int := IntKind.i64.wrap ((IntKind.u64.wrap a).tmod (IntKind.u64.wrap b))
theorem lowZ_in {a b : Int} (hb : 0 < b) (hb2 : b ≤ 1000000) : 0 ≤ lowZ a b ∧ lowZ a b < b := by
  have h1 : IntKind.u64.wrap b = b := by simp [IntKind.wrap, IntKind.bits, IntKind.signed]; omega
  have h2 : 0 ≤ IntKind.u64.wrap a := by simp [IntKind.wrap, IntKind.bits, IntKind.signed]; omega
  unfold lowZ
  rw [h1]
  have h3 := Int.tmod_nonneg b h2
  have h4 := Int.tmod_lt_of_pos (IntKind.u64.wrap a) hb
  rw [wrap_in (by omega) (by omega)]
  exact ⟨h3, h4⟩
theorem low_spec (a b : Int) (hb : 0 < b) (hb2 : b ≤ 1000000) : Ct Tryd.prog 11 [int a, int b] [] (fun v hs => v = int (lowZ a b) ∧ hs = []) := by
  have h1 : IntKind.u64.wrap b = b := by simp [IntKind.wrap, IntKind.bits, IntKind.signed]; omega
  refine Ct.intro Tryd.func11 rfl (by kernel_rfl) 11 Tryd.ntmps11 (Nat.le_of_ble_eq_true rfl) fun w0 R => ?_
  refine Gs.seq ?_
  refine Gs.reg ?_
  refine Go.Sl.L.pu rfl rfl trivial (pu_assign rfl) ?_
  refine Go.Sl.L.nil ?_
  refine Gs.then_n ?_
  refine Gs.seq ?_
  refine Gs.reg ?_
  refine Go.Sl.L.pu rfl rfl trivial (pu_move rfl) ?_
  refine Go.Sl.L.pu rfl rfl trivial (pu_conv Tryd.underlying3 Tryd.underlying67 rfl) ?_
  refine Go.Sl.L.pu rfl rfl trivial (pu_move rfl) ?_
  refine Go.Sl.L.pu rfl rfl trivial (pu_conv Tryd.underlying3 Tryd.underlying67 rfl) ?_
  refine Go.Sl.L.pu rfl rfl trivial (pu_rem rfl rfl (by rw [h1]; omega)) ?_
  refine Go.Sl.L.pu rfl rfl trivial (pu_conv Tryd.underlying67 Tryd.underlying3 rfl) ?_
  refine Go.Sl.L.pu rfl rfl trivial (pu_assign rfl) ?_
  refine Go.Sl.L.nil ?_
  refine Gs.then_n ?_
  refine Gs.ret ?_
  exact Gs.fin1 Tryd.results11 rfl _ (⟨rfl, rfl⟩) (by repeat constructor)
theorem sameKeys_spec {S U : HProp} {a b : Option Addr} {c d : Nat} {xs ys : List Key} (hS : Srd S 2 keyC a xs) (hU : Srd U 2 keyC b ys) (hl : xs.length ≤ 1000000) :
    Ct Tryd.prog 17 [.slice a xs.length c, .slice b ys.length d] [S, U] (fun v hs => v = .bool (decide (xs = ys)) ∧ hs = [S, U]) := by
  refine Ct.intro Tryd.func17 rfl (by kernel_rfl) 26 Tryd.ntmps17 (Nat.le_of_ble_eq_true rfl) fun w0 R => ?_
  refine Gs.slAddr (hS.h (by repeat constructor)) fun ab ao ha => ?_
  refine Gs.slAddr (hU.h (by repeat constructor)) fun ub uo hu => ?_
  refine Gs.seq ?_
  refine Gs.reg ?_
  refine Go.Sl.L.pu rfl rfl trivial (pu_assign rfl) ?_
  refine Go.Sl.L.nil ?_
  refine Gs.then_n ?_
  refine Gs.seq ?_
  refine Gs.seq ?_
  refine Gs.reg ?_
  refine Go.Sl.L.pu rfl rfl trivial (pu_move rfl) ?_
  refine Go.Sl.L.pu rfl rfl trivial (pu_len Tryd.underlying30 rfl) ?_
  refine Go.Sl.L.pu rfl rfl trivial (pu_move rfl) ?_
  refine Go.Sl.L.pu rfl rfl trivial (pu_len Tryd.underlying30 rfl) ?_
  refine Go.Sl.L.pu rfl rfl trivial (pu_ne rfl rfl) ?_
  refine Go.Sl.L.nil ?_
  refine Gs.then_n ?_
  refine Gs.cond rfl (fun hc0 => ?_) (fun hc0 => ?_)
  · skip
    have hne : ¬ xs = ys := fun e => by have := of_decide_eq_true hc0; rw [e] at this; exact this rfl
    refine Gs.seq ?_
    refine Gs.reg ?_
    refine Go.Sl.L.pu rfl rfl trivial (pu_assign rfl) ?_
    refine Go.Sl.L.nil ?_
    refine Gs.then_n ?_
    refine Gs.ret ?_
    refine Gs.then_r ?_
    exact Gs.fin1 Tryd.results17 rfl _ (⟨by rw [decide_eq_false hne], rfl⟩) (by repeat constructor)
  · skip
    have hle : xs.length = ys.length := by have := of_decide_eq_false hc0; omega
    refine Gs.skip ?_
    refine Gs.then_n ?_
    refine Gs.seq ?_
    refine Gs.seq ?_
    refine Gs.reg ?_
    refine Go.Sl.L.pu rfl rfl trivial (pu_assign rfl) ?_
    refine Go.Sl.L.nil ?_
    refine Gs.then_n ?_
    refine Gs.block ?_
    refine Gs.loop1 (fun i : Nat => i ≤ xs.length ∧ xs.take i = ys.take i) (fun i => [(0, .slice a xs.length c), (1, .slice b ys.length d), (5, int i)]) (fun i => [S, U] ++ R) (fun i => xs.length - i) 0 (⟨Nat.zero_le _, rfl⟩) (by repeat constructor) (by repeat constructor) (fun i ⟨hi, ht⟩ => ?_)
    refine Gs.seq ?_
    refine Gs.seq ?_
    refine Gs.reg ?_
    refine Go.Sl.L.pu rfl rfl trivial (pu_move rfl) ?_
    refine Go.Sl.L.pu rfl rfl trivial (pu_move rfl) ?_
    refine Go.Sl.L.pu rfl rfl trivial (pu_len Tryd.underlying30 rfl) ?_
    refine Go.Sl.L.pu rfl rfl trivial (pu_lt rfl rfl) ?_
    refine Go.Sl.L.nil ?_
    refine Gs.then_n ?_
    refine Gs.cond rfl (fun hc1 => ?_) (fun hc1 => ?_)
    · skip
      have hlt : i < xs.length := by have := of_decide_eq_true hc1; omega
      obtain ⟨x, hx⟩ : ∃ x, xs[i]? = some x := ⟨xs[i], by simp [hlt]⟩
      obtain ⟨y, hy⟩ : ∃ x, ys[i]? = some x := ⟨ys[i]'(by omega), by simp [← hle, hlt]⟩
      obtain rfl := ha (by rintro rfl; simp at hlt)
      obtain rfl := hu (by rintro rfl; simp at hy)
      refine Gs.skip ?_
      refine Gs.then_n ?_
      refine Gs.seq ?_
      refine Gs.block ?_
      refine Gs.seq ?_
      refine Gs.regD mixed (by kernel_rfl) ?_
      refine Rg.pu 0 rfl rfl (by kernel_rfl) trivial (pu_move rfl) ?_
      refine Rg.pu 1 rfl rfl (by kernel_rfl) trivial (pu_move rfl) ?_
      refine Rg.pu 2 rfl rfl (by kernel_rfl) trivial (pu_ia se_30 rfl rfl (by omega) (by omega)) ?_
      refine Rg.rd 3 rfl rfl (by kernel_rfl) trivial (rd_lda ag_38 rfl (Rdc.el0 (hS.h (by repeat constructor)) hx rfl rfl) rfl) ?_
      refine Rg.pu 4 rfl rfl (by kernel_rfl) trivial (pu_move rfl) ?_
      refine Rg.pu 5 rfl rfl (by kernel_rfl) trivial (pu_move rfl) ?_
      refine Rg.pu 6 rfl rfl (by kernel_rfl) trivial (pu_ia se_30 rfl rfl (by omega) (by omega)) ?_
      refine Rg.rd 7 rfl rfl (by kernel_rfl) trivial (rd_lda ag_38 rfl (Rdc.el0 (hU.h (by repeat constructor)) hy rfl rfl) rfl) ?_
      refine Rg.pu 8 rfl rfl (by kernel_rfl) trivial (pu_neT (a := x) (b := y) cmp_38 (by decide) Tryd.eqGuardType38 rfl rfl) ?_
      refine Rg.end (by kernel_rfl) ?_
      refine Gs.then_n ?_
      refine Gs.cond rfl (fun hc2 => ?_) (fun hc2 => ?_)
      · skip
        have hne : ¬ xs = ys := fun e => by have := of_decide_eq_true hc2; rw [e, hy] at hx; exact this (Option.some.inj hx).symm
        refine Gs.seq ?_
        refine Gs.reg ?_
        refine Go.Sl.L.pu rfl rfl trivial (pu_assign rfl) ?_
        refine Go.Sl.L.nil ?_
        refine Gs.then_n ?_
        refine Gs.ret ?_
        refine Gs.blk_r ?_
        refine Gs.then_r ?_
        refine Gs.then_r ?_
        refine Gs.blk_r ?_
        refine Gs.then_r ?_
        exact Gs.fin1 Tryd.results17 rfl _ (⟨by rw [decide_eq_false hne], rfl⟩) (by repeat constructor)
      · skip
        have hxy : x = y := by have := of_decide_eq_false hc2; exact Decidable.not_not.1 this
        refine Gs.skip ?_
        refine Gs.blk_n ?_
        refine Gs.then_n ?_
        refine Gs.reg ?_
        refine Go.Sl.L.pu rfl rfl trivial (pu_move rfl) ?_
        refine Go.Sl.L.pu rfl rfl trivial (by first | exact pu_addI rfl rfl rfl (by omega) (by omega) | exact pu_add rfl rfl) ?_
        refine Go.Sl.L.pu rfl rfl trivial (pu_assign rfl) ?_
        refine Go.Sl.L.nil ?_
        refine Gs.then_n ?_
        exact Gs.again1 (i + 1) ⟨by omega, by rw [List.take_add_one, List.take_add_one, ht, hx, hy, hxy]⟩ (by omega) (by repeat constructor) (by repeat constructor)
    · skip
      have hge : i = xs.length := by have := of_decide_eq_false hc1; omega
      have heq : xs = ys := by rw [hge, List.take_length, hle, List.take_length] at ht; exact ht
      refine Gs.exit ?_
      refine Gs.then_x ?_
      refine Gs.then_x ?_
      refine Gs.blk_hit ?_
      refine Gs.then_n ?_
      refine Gs.seq ?_
      refine Gs.reg ?_
      refine Go.Sl.L.pu rfl rfl trivial (pu_assign rfl) ?_
      refine Go.Sl.L.nil ?_
      refine Gs.then_n ?_
      refine Gs.ret ?_
      exact Gs.fin1 Tryd.results17 rfl _ (⟨by rw [decide_eq_true heq], rfl⟩) (by repeat constructor)
theorem greatRecords_spec {S : HProp} {a : Option Addr} {c : Nat} {xs : List Rec} (hS : Srd S 5 recC a xs) (hl : xs.length ≤ 9223372036854775807) (k : Int) :
    Ct Tryd.prog 8 [.slice a xs.length c, int k] [S] (fun v hs => (∃ b : Bool, v = .bool b ∧ (b = false → xs.length ≤ k)) ∧ hs = [S]) := by
  refine Ct.intro Tryd.func8 rfl (by kernel_rfl) 29 Tryd.ntmps8 (Nat.le_of_ble_eq_true rfl) fun w0 R => ?_
  refine Gs.slAddr (hS.h (by repeat constructor)) fun ab ao ha => ?_
  refine Gs.seq ?_
  refine Gs.reg ?_
  refine Go.Sl.L.pu rfl rfl trivial (pu_assign rfl) ?_
  refine Go.Sl.L.nil ?_
  refine Gs.then_n ?_
  refine Gs.seq ?_
  refine Gs.seq ?_
  refine Gs.reg ?_
  refine Go.Sl.L.pu rfl rfl trivial (pu_assign rfl) ?_
  refine Go.Sl.L.nil ?_
  refine Gs.then_n ?_
  refine Gs.block ?_
  refine Gs.loop1 (fun i : Nat => i ≤ xs.length) (fun i => [(0, .slice a xs.length c), (1, int k), (5, int i)]) (fun i => [S] ++ R) (fun i => xs.length - i) 0 (Nat.zero_le _) (by repeat constructor) (by repeat constructor) (fun i hi => ?_)
  refine Gs.seq ?_
  refine Gs.seq ?_
  refine Gs.reg ?_
  refine Go.Sl.L.pu rfl rfl trivial (pu_move rfl) ?_
  refine Go.Sl.L.pu rfl rfl trivial (pu_move rfl) ?_
  refine Go.Sl.L.pu rfl rfl trivial (pu_len Tryd.underlying22 rfl) ?_
  refine Go.Sl.L.pu rfl rfl trivial (pu_lt rfl rfl) ?_
  refine Go.Sl.L.puB rfl rfl trivial (pu_move rfl) (fun hg4 => ?_) (fun hg4 => ?_)
  · skip
    have hlt : i < xs.length := by have := of_decide_eq_true hg4; omega
    obtain ⟨x, hx⟩ : ∃ x, xs[i]? = some x := ⟨xs[i], by simp [hlt]⟩
    obtain rfl := ha (by rintro rfl; simp at hlt)
    refine Go.Sl.L.pu rfl rfl ⟨_, rfl, rfl⟩ (pu_move rfl) ?_
    refine Go.Sl.L.pu rfl rfl ⟨_, rfl, rfl⟩ (pu_len Tryd.underlying22 rfl) ?_
    refine Go.Sl.L.pu rfl rfl ⟨_, rfl, rfl⟩ (pu_move rfl) ?_
    refine Go.Sl.L.pu rfl rfl ⟨_, rfl, rfl⟩ (pu_le rfl rfl) ?_
    refine Go.Sl.L.pu rfl rfl trivial (by first | exact pu_pick_t rfl rfl | exact pu_pick_f rfl rfl) ?_
    refine Go.Sl.L.nil ?_
    refine Gs.then_n ?_
    refine Gs.cond rfl (fun hc0 => ?_) (fun hc0 => ?_)
    · skip
      refine Gs.skip ?_
      refine Gs.then_n ?_
      refine Gs.seq ?_
      refine Gs.block ?_
      refine Gs.seq ?_
      refine Gs.reg ?_
      refine Go.Sl.L.pu rfl rfl trivial (pu_move rfl) ?_
      refine Go.Sl.L.pu rfl rfl trivial (pu_move rfl) ?_
      refine Go.Sl.L.pu rfl rfl trivial (pu_ia se_22 rfl rfl (by omega) (by omega)) ?_
      refine Go.Sl.L.pu rfl rfl trivial (pu_fa fa_42_2 rfl) ?_
      refine Go.Sl.L.rd rfl rfl trivial (rd_ld na_9 rfl (Rdc.elp 1 (hS.h (by repeat constructor)) hx rfl rfl)) ?_
      refine Go.Sl.L.pu rfl rfl trivial (pu_lenS Tryd.underlying9 rfl) ?_
      refine Go.Sl.L.pu rfl rfl trivial (pu_gt rfl rfl) ?_
      refine Go.Sl.L.nil ?_
      refine Gs.then_n ?_
      refine Gs.cond rfl (fun hc1 => ?_) (fun hc1 => ?_)
      · skip
        refine Gs.seq ?_
        refine Gs.reg ?_
        refine Go.Sl.L.pu rfl rfl trivial (pu_assign rfl) ?_
        refine Go.Sl.L.nil ?_
        refine Gs.then_n ?_
        refine Gs.ret ?_
        refine Gs.blk_r ?_
        refine Gs.then_r ?_
        refine Gs.then_r ?_
        refine Gs.blk_r ?_
        refine Gs.then_r ?_
        exact Gs.fin1 Tryd.results8 rfl _ (⟨⟨true, rfl, fun h => by cases h⟩, rfl⟩) (by repeat constructor)
      · skip
        refine Gs.skip ?_
        refine Gs.blk_n ?_
        refine Gs.then_n ?_
        refine Gs.reg ?_
        refine Go.Sl.L.pu rfl rfl trivial (pu_move rfl) ?_
        refine Go.Sl.L.pu rfl rfl trivial (by first | exact pu_addI rfl rfl rfl (by omega) (by omega) | exact pu_add rfl rfl) ?_
        refine Go.Sl.L.pu rfl rfl trivial (pu_assign rfl) ?_
        refine Go.Sl.L.nil ?_
        refine Gs.then_n ?_
        exact Gs.again1 (i + 1) (by omega) (by omega) (by repeat constructor) (by repeat constructor)
    · skip
      refine Gs.exit ?_
      refine Gs.then_x ?_
      refine Gs.then_x ?_
      refine Gs.blk_hit ?_
      refine Gs.then_n ?_
      refine Gs.seq ?_
      refine Gs.reg ?_
      refine Go.Sl.L.pu rfl rfl trivial (pu_move rfl) ?_
      refine Go.Sl.L.pu rfl rfl trivial (pu_len Tryd.underlying22 rfl) ?_
      refine Go.Sl.L.pu rfl rfl trivial (pu_move rfl) ?_
      refine Go.Sl.L.pu rfl rfl trivial (pu_gt rfl rfl) ?_
      refine Go.Sl.L.pu rfl rfl trivial (pu_assign rfl) ?_
      refine Go.Sl.L.nil ?_
      refine Gs.then_n ?_
      refine Gs.ret ?_
      exact Gs.fin1 Tryd.results8 rfl _ (⟨⟨_, rfl, fun h => by have := of_decide_eq_false h; omega⟩, rfl⟩) (by repeat constructor)
  · skip
    refine Go.Sl.L.off rfl rfl rfl rfl rfl rfl ?_
    refine Go.Sl.L.off rfl rfl rfl rfl rfl rfl ?_
    refine Go.Sl.L.off rfl rfl rfl rfl rfl rfl ?_
    refine Go.Sl.L.off rfl rfl rfl rfl rfl rfl ?_
    refine Go.Sl.L.pu rfl rfl trivial (by first | exact pu_pick_t rfl rfl | exact pu_pick_f rfl rfl) ?_
    refine Go.Sl.L.nil ?_
    refine Gs.then_n ?_
    refine Gs.cond_f rfl ?_
    refine Gs.exit ?_
    refine Gs.then_x ?_
    refine Gs.then_x ?_
    refine Gs.blk_hit ?_
    refine Gs.then_n ?_
    refine Gs.seq ?_
    refine Gs.reg ?_
    refine Go.Sl.L.pu rfl rfl trivial (pu_move rfl) ?_
    refine Go.Sl.L.pu rfl rfl trivial (pu_len Tryd.underlying22 rfl) ?_
    refine Go.Sl.L.pu rfl rfl trivial (pu_move rfl) ?_
    refine Go.Sl.L.pu rfl rfl trivial (pu_gt rfl rfl) ?_
    refine Go.Sl.L.pu rfl rfl trivial (pu_assign rfl) ?_
    refine Go.Sl.L.nil ?_
    refine Gs.then_n ?_
    refine Gs.ret ?_
    exact Gs.fin1 Tryd.results8 rfl _ (⟨⟨_, rfl, fun h => by have := of_decide_eq_false h; omega⟩, rfl⟩) (by repeat constructor)
theorem before4_spec (a b : Key) : Ct Tryd.prog 34 [keyV a, keyV b] [] (fun v hs => v = .bool (before a b) ∧ hs = []) := by
  refine Ct.intro Tryd.func34 rfl (by kernel_rfl) 24 Tryd.ntmps34 (Nat.le_of_ble_eq_true rfl) fun w0 R => ?_
  refine Gs.seq ?_
  refine Gs.reg ?_
  refine Go.Sl.L.ac rfl rfl trivial (ac_box rfl rfl) ?_
  rintro _ _ ⟨b2, rfl, rfl⟩
  refine Go.Sl.L.ac rfl rfl trivial (ac_box rfl rfl) ?_
  rintro _ _ ⟨b3, rfl, rfl⟩
  refine Go.Sl.L.pu rfl rfl trivial (pu_assign rfl) ?_
  refine Go.Sl.L.nil ?_
  refine Gs.then_n ?_
  refine Gs.seq ?_
  refine Gs.reg ?_
  refine Go.Sl.L.pu rfl rfl trivial (pu_fa fa_38_0 rfl) ?_
  refine Go.Sl.L.rd rfl rfl trivial (rd_ld na_3 rfl (Rdc.cl1 (by repeat constructor) rfl)) ?_
  refine Go.Sl.L.pu rfl rfl trivial (pu_fa fa_38_0 rfl) ?_
  refine Go.Sl.L.rd rfl rfl trivial (rd_ld na_3 rfl (Rdc.cl1 (by repeat constructor) rfl)) ?_
  refine Go.Sl.L.pu rfl rfl trivial (pu_lt rfl rfl) ?_
  refine Go.Sl.L.puB rfl rfl trivial (pu_move rfl) (fun hg5 => ?_) (fun hg5 => ?_)
  · skip
    refine Go.Sl.L.off rfl rfl rfl rfl rfl rfl ?_
    refine Go.Sl.L.off rfl rfl rfl rfl rfl rfl ?_
    refine Go.Sl.L.off rfl rfl rfl rfl rfl rfl ?_
    refine Go.Sl.L.off rfl rfl rfl rfl rfl rfl ?_
    refine Go.Sl.L.off rfl rfl rfl rfl rfl rfl ?_
    refine Go.Sl.L.off rfl rfl rfl rfl rfl rfl ?_
    refine Go.Sl.L.offU rfl rfl rfl rfl rfl ?_
    refine Go.Sl.L.offU rfl rfl rfl rfl rfl ?_
    refine Go.Sl.L.offU rfl rfl rfl rfl rfl ?_
    refine Go.Sl.L.offU rfl rfl rfl rfl rfl ?_
    refine Go.Sl.L.offU rfl rfl rfl rfl rfl ?_
    refine Go.Sl.L.off rfl rfl rfl rfl rfl rfl ?_
    refine Go.Sl.L.pu rfl rfl trivial (by first | exact pu_pick_t rfl rfl | exact pu_pick_f rfl rfl) ?_
    refine Go.Sl.L.pu rfl rfl trivial (pu_assign rfl) ?_
    refine Go.Sl.L.nil ?_
    refine Gs.then_n ?_
    refine Gs.ret ?_
    exact Gs.fin1 Tryd.results34 rfl _ (⟨by grind [before], rfl⟩) (by repeat constructor)
  · skip
    refine Go.Sl.L.pu rfl rfl ⟨_, rfl, rfl⟩ (pu_fa fa_38_0 rfl) ?_
    refine Go.Sl.L.rd rfl rfl ⟨_, rfl, rfl⟩ (rd_ld na_3 rfl (Rdc.cl1 (by repeat constructor) rfl)) ?_
    refine Go.Sl.L.pu rfl rfl ⟨_, rfl, rfl⟩ (pu_fa fa_38_0 rfl) ?_
    refine Go.Sl.L.rd rfl rfl ⟨_, rfl, rfl⟩ (rd_ld na_3 rfl (Rdc.cl1 (by repeat constructor) rfl)) ?_
    refine Go.Sl.L.pu rfl rfl ⟨_, rfl, rfl⟩ (pu_eq rfl rfl) ?_
    refine Go.Sl.L.puB rfl rfl ⟨_, rfl, rfl⟩ (pu_move rfl) (fun hg11 => ?_) (fun hg11 => ?_)
    · skip
      refine Go.Sl.L.pu rfl rfl ⟨_, rfl, rfl⟩ (pu_fa fa_38_1 rfl) ?_
      refine Go.Sl.L.rd rfl rfl ⟨_, rfl, rfl⟩ (rd_ld na_3 rfl (Rdc.cl1 (by repeat constructor) rfl)) ?_
      refine Go.Sl.L.pu rfl rfl ⟨_, rfl, rfl⟩ (pu_fa fa_38_1 rfl) ?_
      refine Go.Sl.L.rd rfl rfl ⟨_, rfl, rfl⟩ (rd_ld na_3 rfl (Rdc.cl1 (by repeat constructor) rfl)) ?_
      refine Go.Sl.L.pu rfl rfl ⟨_, rfl, rfl⟩ (pu_lt rfl rfl) ?_
      refine Go.Sl.L.pu rfl rfl ⟨_, rfl, rfl⟩ (by first | exact pu_pick_t rfl rfl | exact pu_pick_f rfl rfl) ?_
      refine Go.Sl.L.pu rfl rfl trivial (by first | exact pu_pick_t rfl rfl | exact pu_pick_f rfl rfl) ?_
      refine Go.Sl.L.pu rfl rfl trivial (pu_assign rfl) ?_
      refine Go.Sl.L.nil ?_
      refine Gs.then_n ?_
      refine Gs.ret ?_
      exact Gs.fin1 Tryd.results34 rfl _ (⟨by grind [before], rfl⟩) (by repeat constructor)
    · skip
      refine Go.Sl.L.off rfl rfl rfl rfl rfl rfl ?_
      refine Go.Sl.L.off rfl rfl rfl rfl rfl rfl ?_
      refine Go.Sl.L.off rfl rfl rfl rfl rfl rfl ?_
      refine Go.Sl.L.off rfl rfl rfl rfl rfl rfl ?_
      refine Go.Sl.L.off rfl rfl rfl rfl rfl rfl ?_
      refine Go.Sl.L.pu rfl rfl ⟨_, rfl, rfl⟩ (by first | exact pu_pick_t rfl rfl | exact pu_pick_f rfl rfl) ?_
      refine Go.Sl.L.pu rfl rfl trivial (by first | exact pu_pick_t rfl rfl | exact pu_pick_f rfl rfl) ?_
      refine Go.Sl.L.pu rfl rfl trivial (pu_assign rfl) ?_
      refine Go.Sl.L.nil ?_
      refine Gs.then_n ?_
      refine Gs.ret ?_
      exact Gs.fin1 Tryd.results34 rfl _ (⟨by grind [before], rfl⟩) (by repeat constructor)
theorem at_le (ks : List Key) (k : Key) : at_ ks k ≤ ks.length := List.findIdx_le_length
theorem at_step {ks : List Key} {k x : Key} {i : Nat} (hi : i ≤ at_ ks k) (hx : ks[i]? = some x) : if before x k then i + 1 ≤ at_ ks k else i = at_ ks k := by
  obtain ⟨hl, rfl⟩ := List.getElem?_eq_some_iff.1 hx
  split
  · rename_i hb
    rcases Nat.lt_or_eq_of_le hi with h | h
    · exact h
    · have h2 : at_ ks k < ks.length := by omega
      have := List.findIdx_getElem (p := fun x => !before x k) (xs := ks) (w := h2)
      have e : ks[List.findIdx (fun x => !before x k) ks] = ks[i] := by congr 1; exact h.symm
      rw [e, hb] at this; cases this
  · rename_i hb
    rcases Nat.lt_or_eq_of_le hi with h | h
    · have := List.not_of_lt_findIdx (p := fun x => !before x k) (xs := ks) h
      simp at this; exact (hb this).elim
    · exact h
theorem into_spec (a : Option Addr) (c : Nat) (ks : List Key) (hl : ks.length ≤ 100000) (k : Key) :
    Ct Tryd.prog 16 [.slice a ks.length c, keyV k] [sl 38 2 keyC a c ks] (fun v hs => ∃ a' c', v = .slice a' (intoL ks k).length c' ∧ hs = [sl 38 2 keyC a' c' (intoL ks k)]) := by
  have hle := at_le ks k
  refine Ct.intro Tryd.func16 rfl (by kernel_rfl) 44 Tryd.ntmps16 (Nat.le_of_ble_eq_true rfl) fun w0 R => ?_
  refine Gs.slAddr (SlH.own (by repeat constructor) : SlH _ _ 2 keyC a ks) fun ab ao ha => ?_
  refine Gs.slLen (E := 38) (sz := 2) (enc := keyC) (a := a) (c := c) (xs := ks) (by repeat constructor) fun hlc => ?_
  refine Gs.seq ?_
  refine Gs.reg ?_
  refine Go.Sl.L.ac rfl rfl trivial (ac_box rfl rfl) ?_
  rintro _ _ ⟨b3, rfl, rfl⟩
  refine Go.Sl.L.pu rfl rfl trivial (pu_assign rfl) ?_
  refine Go.Sl.L.nil ?_
  refine Gs.then_n ?_
  refine Gs.seq ?_
  refine Gs.reg ?_
  refine Go.Sl.L.pu rfl rfl trivial (pu_assign rfl) ?_
  refine Go.Sl.L.nil ?_
  refine Gs.then_n ?_
  refine Gs.seq ?_
  refine Gs.block ?_
  refine Gs.loop1 (fun i : Nat => i ≤ at_ ks k) (fun i => [(0, .slice a ks.length c), (3, ptr b3), (5, int i)]) (fun i => [cl b3 38 (keyC k), sl 38 2 keyC a c ks] ++ R) (fun i => ks.length - i) 0 (Nat.zero_le _) (by repeat constructor) (by repeat constructor) (fun i hi => ?_)
  refine Gs.seq ?_
  refine Gs.seq ?_
  refine Gs.regD mixed (by kernel_rfl) ?_
  refine Rg.pu 0 rfl rfl (by kernel_rfl) trivial (pu_move rfl) ?_
  refine Rg.pu 1 rfl rfl (by kernel_rfl) trivial (pu_move rfl) ?_
  refine Rg.pu 2 rfl rfl (by kernel_rfl) trivial (pu_len Tryd.underlying30 rfl) ?_
  refine Rg.pu 3 rfl rfl (by kernel_rfl) trivial (pu_lt rfl rfl) ?_
  refine Rg.puB 4 rfl rfl (by kernel_rfl) trivial (pu_move rfl) (fun hg4 => ?_) (fun hg4 => ?_)
  · skip
    have hlt : i < ks.length := by have := of_decide_eq_true hg4; omega
    obtain ⟨x, hx⟩ : ∃ x, ks[i]? = some x := ⟨ks[i], by simp [hlt]⟩
    have hst := at_step hi hx
    obtain rfl := ha (by rintro rfl; simp at hlt)
    refine Rg.pu 5 rfl rfl (by kernel_rfl) ⟨_, rfl, rfl⟩ (pu_move rfl) ?_
    refine Rg.pu 6 rfl rfl (by kernel_rfl) ⟨_, rfl, rfl⟩ (pu_move rfl) ?_
    refine Rg.pu 7 rfl rfl (by kernel_rfl) ⟨_, rfl, rfl⟩ (pu_ia se_30 rfl rfl (by omega) (by omega)) ?_
    refine Rg.rd 8 rfl rfl (by kernel_rfl) ⟨_, rfl, rfl⟩ (rd_lda ag_38 rfl (Rdc.el0 (SlH.own (by repeat constructor)) hx rfl rfl) rfl) ?_
    refine Rg.rd 9 rfl rfl (by kernel_rfl) ⟨_, rfl, rfl⟩ (rd_lda ag_38 rfl (Rdc.cl 2 (by repeat constructor) rfl) rfl) ?_
    refine Rg.one (by kernel_rfl) (Stp.ac 10 rfl rfl (by kernel_rfl) ⟨_, rfl, rfl⟩ (as_call (before4_spec x k) (by repeat constructor) (by repeat constructor))  ?_)
    rintro _ _ ⟨_, ⟨rfl, rfl⟩, rfl⟩
    refine Rg.pu 11 rfl rfl (by kernel_rfl) trivial (by first | exact pu_pick_t rfl rfl | exact pu_pick_f rfl rfl) ?_
    refine Rg.end (by kernel_rfl) ?_
    refine Gs.then_n ?_
    refine Gs.cond rfl (fun hc0 => ?_) (fun hc0 => ?_)
    · skip
      rw [if_pos hc0] at hst
      refine Gs.skip ?_
      refine Gs.then_n ?_
      refine Gs.block ?_
      refine Gs.reg ?_
      refine Go.Sl.L.pu rfl rfl trivial (pu_move rfl) ?_
      refine Go.Sl.L.pu rfl rfl trivial (by first | exact pu_addI rfl rfl rfl (by omega) (by omega) | exact pu_add rfl rfl) ?_
      refine Go.Sl.L.pu rfl rfl trivial (pu_assign rfl) ?_
      refine Go.Sl.L.nil ?_
      refine Gs.blk_n ?_
      refine Gs.then_n ?_
      exact Gs.again1 (i + 1) (by omega) (by omega) (by repeat constructor) (by repeat constructor)
    · skip
      rw [if_neg (by rw [hc0]; decide)] at hst
      have he := hst
      refine Gs.exit ?_
      refine Gs.then_x ?_
      refine Gs.then_x ?_
      refine Gs.blk_hit ?_
      refine Gs.then_n ?_
      refine Gs.seq ?_
      refine Gs.seq ?_
      refine Gs.regD mixed (by kernel_rfl) ?_
      refine Rg.pu 0 rfl rfl (by kernel_rfl) trivial (pu_move rfl) ?_
      refine Rg.pu 1 rfl rfl (by kernel_rfl) trivial (pu_move rfl) ?_
      refine Rg.pu 2 rfl rfl (by kernel_rfl) trivial (pu_len Tryd.underlying30 rfl) ?_
      refine Rg.pu 3 rfl rfl (by kernel_rfl) trivial (pu_lt rfl rfl) ?_
      refine Rg.puB 4 rfl rfl (by kernel_rfl) trivial (pu_move rfl) (fun hg4 => ?_) (fun hg4 => ?_)
      · skip
        have hlt2 : i < ks.length := by have := of_decide_eq_true hg4; omega
        obtain ⟨x2, hx2⟩ : ∃ x, ks[i]? = some x := ⟨ks[i], by simp [hlt2]⟩
        try obtain rfl := ha (by rintro rfl; simp at hlt2)
        refine Rg.pu 5 rfl rfl (by kernel_rfl) ⟨_, rfl, rfl⟩ (pu_move rfl) ?_
        refine Rg.pu 6 rfl rfl (by kernel_rfl) ⟨_, rfl, rfl⟩ (pu_move rfl) ?_
        refine Rg.pu 7 rfl rfl (by kernel_rfl) ⟨_, rfl, rfl⟩ (pu_ia se_30 rfl rfl (by omega) (by omega)) ?_
        refine Rg.rd 8 rfl rfl (by kernel_rfl) ⟨_, rfl, rfl⟩ (rd_lda ag_38 rfl (Rdc.el0 (SlH.own (by repeat constructor)) hx2 rfl rfl) rfl) ?_
        refine Rg.rd 9 rfl rfl (by kernel_rfl) ⟨_, rfl, rfl⟩ (rd_lda ag_38 rfl (Rdc.cl 2 (by repeat constructor) rfl) rfl) ?_
        refine Rg.pu 10 rfl rfl (by kernel_rfl) ⟨_, rfl, rfl⟩ (pu_eqT (a := x2) (b := k) cmp_38 (by decide) Tryd.eqGuardType38 rfl rfl) ?_
        refine Rg.pu 11 rfl rfl (by kernel_rfl) trivial (by first | exact pu_pick_t rfl rfl | exact pu_pick_f rfl rfl) ?_
        refine Rg.end (by kernel_rfl) ?_
        refine Gs.then_n ?_
        refine Gs.cond rfl (fun hc1 => ?_) (fun hc1 => ?_)
        · skip
          have hin : intoL ks k = ks := by
            have h1 : x2 = k := of_decide_eq_true hc1
            unfold intoL; rw [if_pos (by rw [← he, hx2, h1])]
          refine Gs.seq ?_
          refine Gs.reg ?_
          refine Go.Sl.L.pu rfl rfl trivial (pu_move rfl) ?_
          refine Go.Sl.L.pu rfl rfl trivial (pu_assign rfl) ?_
          refine Go.Sl.L.nil ?_
          refine Gs.then_n ?_
          refine Gs.ret ?_
          refine Gs.then_r ?_
          exact Gs.fin1 Tryd.results16 rfl _ (⟨_, _, by rw [hin], by rw [hin]⟩) (by repeat constructor)
        · skip
          have hne : ¬ ks[at_ ks k]? = some k := fun e => by
            have h1 : x2 ≠ k := of_decide_eq_false hc1
            rw [← he, hx2] at e; exact h1 (Option.some.inj e)
          refine Gs.skip ?_
          refine Gs.then_n ?_
          refine Gs.seq ?_
          have hin : ks.take i ++ [k] ++ ks.drop i = intoL ks k := by unfold intoL; rw [if_neg hne, he]
          refine Gs.regD mixed (by kernel_rfl) ?_
          refine Rg.pu 0 rfl rfl (by kernel_rfl) trivial (pu_move rfl) ?_
          refine Rg.pu 1 rfl rfl (by kernel_rfl) trivial (pu_move rfl) ?_
          refine Rg.pu 2 rfl rfl (by kernel_rfl) trivial (pu_sliceH et_30 rfl rfl (by omega) (by omega)) ?_
          refine Rg.rd 4 rfl rfl (by kernel_rfl) trivial (rd_lda ag_38 rfl (Rdc.cl 2 (by repeat constructor) rfl) rfl) ?_
          refine Rg.pu 7 rfl rfl (by kernel_rfl) trivial (pu_move rfl) ?_
          refine Rg.pu 8 rfl rfl (by kernel_rfl) trivial (pu_move rfl) ?_
          refine Rg.pu 9 rfl rfl (by kernel_rfl) trivial (pu_sliceL et_30 rfl rfl (by omega) (by omega)) ?_
          refine Rg.two (by kernel_rfl) (Stp.acK 3 rfl rfl (by kernel_rfl) trivial (ac_copy et_30 ek_38 rfl rfl (SrcH.sl' (ys := ks.take i) Tryd.underlying30 ek_38 (by simp <;> omega) (SlH.cutH (SlH.own (by repeat constructor)) _ _ hlc)) (by first | omega | (simp; omega)) (by first | omega | (simp; omega))) (by rintro _ _ ⟨a36, c36, rfl, rfl⟩ w s; first | exact s.drop | exact s | exact Ent.sat (by repeat constructor) s) ?_) (Stp.ac 5 rfl rfl (by kernel_rfl) trivial (ac_lit encC_38 ([k]) et_30 ek_38 rfl (by repeat constructor) rfl rfl (by decide))  ?_)
          · skip
            rintro _ _ ⟨a36, c36, rfl, rfl⟩
            refine Rg.one (by kernel_rfl) (Stp.ac 5 rfl rfl (by kernel_rfl) trivial (ac_lit encC_38 ([k]) et_30 ek_38 rfl (by repeat constructor) rfl rfl (by decide))  ?_)
            rintro _ _ ⟨a38, rfl, rfl⟩
            refine Rg.one (by kernel_rfl) (Stp.ac 6 rfl rfl (by kernel_rfl) trivial (ac_append et_30 ek_38 rfl rfl (by repeat constructor) (SrcH.sl Tryd.underlying30 ek_38 (SlH.own (by repeat constructor))) (by first | omega | (simp; omega)) (by first | omega | (simp; omega)))  ?_)
            rintro _ _ ⟨a39, c39, rfl, rfl⟩
            refine Rg.one (by kernel_rfl) (Stp.ac 10 rfl rfl (by kernel_rfl) trivial (ac_append et_30 ek_38 rfl rfl (by repeat constructor) (SrcH.sl' (ys := ks.drop i) Tryd.underlying30 ek_38 (by simp <;> omega) (SlH.cutL (SlH.own (by repeat constructor)) _ _ hlc)) (by first | omega | (simp; omega)) (by first | omega | (simp; omega)))  ?_)
            rintro _ _ ⟨a43, c43, rfl, rfl⟩
            rw [hin]
            refine Rg.pu 11 rfl rfl (by kernel_rfl) trivial (pu_assign rfl) ?_
            refine Rg.end (by kernel_rfl) ?_
            refine Gs.then_n ?_
            refine Gs.ret ?_
            exact Gs.fin1 Tryd.results16 rfl _ (⟨_, _, rfl, rfl⟩) (by repeat constructor)
          · skip
            rintro _ _ ⟨a38, rfl, rfl⟩
            refine Rg.one (by kernel_rfl) (Stp.ac 3 rfl rfl (by kernel_rfl) trivial (ac_copy et_30 ek_38 rfl rfl (SrcH.sl' (ys := ks.take i) Tryd.underlying30 ek_38 (by simp <;> omega) (SlH.cutH (SlH.own (by repeat constructor)) _ _ hlc)) (by first | omega | (simp; omega)) (by first | omega | (simp; omega)))  ?_)
            rintro _ _ ⟨a36, c36, rfl, rfl⟩
            refine Rg.one (by kernel_rfl) (Stp.ac 6 rfl rfl (by kernel_rfl) trivial (ac_append et_30 ek_38 rfl rfl (by repeat constructor) (SrcH.sl Tryd.underlying30 ek_38 (SlH.own (by repeat constructor))) (by first | omega | (simp; omega)) (by first | omega | (simp; omega)))  ?_)
            rintro _ _ ⟨a39, c39, rfl, rfl⟩
            refine Rg.one (by kernel_rfl) (Stp.ac 10 rfl rfl (by kernel_rfl) trivial (ac_append et_30 ek_38 rfl rfl (by repeat constructor) (SrcH.sl' (ys := ks.drop i) Tryd.underlying30 ek_38 (by simp <;> omega) (SlH.cutL (SlH.own (by repeat constructor)) _ _ hlc)) (by first | omega | (simp; omega)) (by first | omega | (simp; omega)))  ?_)
            rintro _ _ ⟨a43, c43, rfl, rfl⟩
            rw [hin]
            refine Rg.pu 11 rfl rfl (by kernel_rfl) trivial (pu_assign rfl) ?_
            refine Rg.end (by kernel_rfl) ?_
            refine Gs.then_n ?_
            refine Gs.ret ?_
            exact Gs.fin1 Tryd.results16 rfl _ (⟨_, _, rfl, rfl⟩) (by repeat constructor)
      · skip
        have hne : ¬ ks[at_ ks k]? = some k := fun e => by
          have h1 := of_decide_eq_false hg4
          have h2 := (List.getElem?_eq_some_iff.1 e).1
          omega
        refine Rg.off 5 rfl rfl (by kernel_rfl) rfl rfl rfl rfl ?_
        refine Rg.off 6 rfl rfl (by kernel_rfl) rfl rfl rfl rfl ?_
        refine Rg.off 7 rfl rfl (by kernel_rfl) rfl rfl rfl rfl ?_
        refine Rg.off 8 rfl rfl (by kernel_rfl) rfl rfl rfl rfl ?_
        refine Rg.off 9 rfl rfl (by kernel_rfl) rfl rfl rfl rfl ?_
        refine Rg.off 10 rfl rfl (by kernel_rfl) rfl rfl rfl rfl ?_
        refine Rg.pu 11 rfl rfl (by kernel_rfl) trivial (by first | exact pu_pick_t rfl rfl | exact pu_pick_f rfl rfl) ?_
        refine Rg.end (by kernel_rfl) ?_
        refine Gs.then_n ?_
        refine Gs.cond_f rfl ?_
        refine Gs.skip ?_
        refine Gs.then_n ?_
        refine Gs.seq ?_
        have hin : ks.take i ++ [k] ++ ks.drop i = intoL ks k := by unfold intoL; rw [if_neg hne, he]
        refine Gs.regD mixed (by kernel_rfl) ?_
        refine Rg.pu 0 rfl rfl (by kernel_rfl) trivial (pu_move rfl) ?_
        refine Rg.pu 1 rfl rfl (by kernel_rfl) trivial (pu_move rfl) ?_
        refine Rg.pu 2 rfl rfl (by kernel_rfl) trivial (pu_sliceH et_30 rfl rfl (by omega) (by omega)) ?_
        refine Rg.rd 4 rfl rfl (by kernel_rfl) trivial (rd_lda ag_38 rfl (Rdc.cl 2 (by repeat constructor) rfl) rfl) ?_
        refine Rg.pu 7 rfl rfl (by kernel_rfl) trivial (pu_move rfl) ?_
        refine Rg.pu 8 rfl rfl (by kernel_rfl) trivial (pu_move rfl) ?_
        refine Rg.pu 9 rfl rfl (by kernel_rfl) trivial (pu_sliceL et_30 rfl rfl (by omega) (by omega)) ?_
        refine Rg.two (by kernel_rfl) (Stp.acK 3 rfl rfl (by kernel_rfl) trivial (ac_copy et_30 ek_38 rfl rfl (SrcH.sl' (ys := ks.take i) Tryd.underlying30 ek_38 (by simp <;> omega) (SlH.cutH (SlH.own (by repeat constructor)) _ _ hlc)) (by first | omega | (simp; omega)) (by first | omega | (simp; omega))) (by rintro _ _ ⟨a36, c36, rfl, rfl⟩ w s; first | exact s.drop | exact s | exact Ent.sat (by repeat constructor) s) ?_) (Stp.ac 5 rfl rfl (by kernel_rfl) trivial (ac_lit encC_38 ([k]) et_30 ek_38 rfl (by repeat constructor) rfl rfl (by decide))  ?_)
        · skip
          rintro _ _ ⟨a36, c36, rfl, rfl⟩
          refine Rg.one (by kernel_rfl) (Stp.ac 5 rfl rfl (by kernel_rfl) trivial (ac_lit encC_38 ([k]) et_30 ek_38 rfl (by repeat constructor) rfl rfl (by decide))  ?_)
          rintro _ _ ⟨a38, rfl, rfl⟩
          refine Rg.one (by kernel_rfl) (Stp.ac 6 rfl rfl (by kernel_rfl) trivial (ac_append et_30 ek_38 rfl rfl (by repeat constructor) (SrcH.sl Tryd.underlying30 ek_38 (SlH.own (by repeat constructor))) (by first | omega | (simp; omega)) (by first | omega | (simp; omega)))  ?_)
          rintro _ _ ⟨a39, c39, rfl, rfl⟩
          refine Rg.one (by kernel_rfl) (Stp.ac 10 rfl rfl (by kernel_rfl) trivial (ac_append et_30 ek_38 rfl rfl (by repeat constructor) (SrcH.sl' (ys := ks.drop i) Tryd.underlying30 ek_38 (by simp <;> omega) (SlH.cutL (SlH.own (by repeat constructor)) _ _ hlc)) (by first | omega | (simp; omega)) (by first | omega | (simp; omega)))  ?_)
          rintro _ _ ⟨a43, c43, rfl, rfl⟩
          rw [hin]
          refine Rg.pu 11 rfl rfl (by kernel_rfl) trivial (pu_assign rfl) ?_
          refine Rg.end (by kernel_rfl) ?_
          refine Gs.then_n ?_
          refine Gs.ret ?_
          exact Gs.fin1 Tryd.results16 rfl _ (⟨_, _, rfl, rfl⟩) (by repeat constructor)
        · skip
          rintro _ _ ⟨a38, rfl, rfl⟩
          refine Rg.one (by kernel_rfl) (Stp.ac 3 rfl rfl (by kernel_rfl) trivial (ac_copy et_30 ek_38 rfl rfl (SrcH.sl' (ys := ks.take i) Tryd.underlying30 ek_38 (by simp <;> omega) (SlH.cutH (SlH.own (by repeat constructor)) _ _ hlc)) (by first | omega | (simp; omega)) (by first | omega | (simp; omega)))  ?_)
          rintro _ _ ⟨a36, c36, rfl, rfl⟩
          refine Rg.one (by kernel_rfl) (Stp.ac 6 rfl rfl (by kernel_rfl) trivial (ac_append et_30 ek_38 rfl rfl (by repeat constructor) (SrcH.sl Tryd.underlying30 ek_38 (SlH.own (by repeat constructor))) (by first | omega | (simp; omega)) (by first | omega | (simp; omega)))  ?_)
          rintro _ _ ⟨a39, c39, rfl, rfl⟩
          refine Rg.one (by kernel_rfl) (Stp.ac 10 rfl rfl (by kernel_rfl) trivial (ac_append et_30 ek_38 rfl rfl (by repeat constructor) (SrcH.sl' (ys := ks.drop i) Tryd.underlying30 ek_38 (by simp <;> omega) (SlH.cutL (SlH.own (by repeat constructor)) _ _ hlc)) (by first | omega | (simp; omega)) (by first | omega | (simp; omega)))  ?_)
          rintro _ _ ⟨a43, c43, rfl, rfl⟩
          rw [hin]
          refine Rg.pu 11 rfl rfl (by kernel_rfl) trivial (pu_assign rfl) ?_
          refine Rg.end (by kernel_rfl) ?_
          refine Gs.then_n ?_
          refine Gs.ret ?_
          exact Gs.fin1 Tryd.results16 rfl _ (⟨_, _, rfl, rfl⟩) (by repeat constructor)
  · skip
    have he : i = at_ ks k := by have := of_decide_eq_false hg4; omega
    refine Rg.off 5 rfl rfl (by kernel_rfl) rfl rfl rfl rfl ?_
    refine Rg.off 6 rfl rfl (by kernel_rfl) rfl rfl rfl rfl ?_
    refine Rg.off 7 rfl rfl (by kernel_rfl) rfl rfl rfl rfl ?_
    refine Rg.off 8 rfl rfl (by kernel_rfl) rfl rfl rfl rfl ?_
    refine Rg.off 9 rfl rfl (by kernel_rfl) rfl rfl rfl rfl ?_
    refine Rg.off 10 rfl rfl (by kernel_rfl) rfl rfl rfl rfl ?_
    refine Rg.pu 11 rfl rfl (by kernel_rfl) trivial (by first | exact pu_pick_t rfl rfl | exact pu_pick_f rfl rfl) ?_
    refine Rg.end (by kernel_rfl) ?_
    refine Gs.then_n ?_
    refine Gs.cond_f rfl ?_
    refine Gs.exit ?_
    refine Gs.then_x ?_
    refine Gs.then_x ?_
    refine Gs.blk_hit ?_
    refine Gs.then_n ?_
    refine Gs.seq ?_
    refine Gs.seq ?_
    refine Gs.regD mixed (by kernel_rfl) ?_
    refine Rg.pu 0 rfl rfl (by kernel_rfl) trivial (pu_move rfl) ?_
    refine Rg.pu 1 rfl rfl (by kernel_rfl) trivial (pu_move rfl) ?_
    refine Rg.pu 2 rfl rfl (by kernel_rfl) trivial (pu_len Tryd.underlying30 rfl) ?_
    refine Rg.pu 3 rfl rfl (by kernel_rfl) trivial (pu_lt rfl rfl) ?_
    refine Rg.puB 4 rfl rfl (by kernel_rfl) trivial (pu_move rfl) (fun hg4 => ?_) (fun hg4 => ?_)
    · skip
      have hlt2 : i < ks.length := by have := of_decide_eq_true hg4; omega
      obtain ⟨x2, hx2⟩ : ∃ x, ks[i]? = some x := ⟨ks[i], by simp [hlt2]⟩
      try obtain rfl := ha (by rintro rfl; simp at hlt2)
      refine Rg.pu 5 rfl rfl (by kernel_rfl) ⟨_, rfl, rfl⟩ (pu_move rfl) ?_
      refine Rg.pu 6 rfl rfl (by kernel_rfl) ⟨_, rfl, rfl⟩ (pu_move rfl) ?_
      refine Rg.pu 7 rfl rfl (by kernel_rfl) ⟨_, rfl, rfl⟩ (pu_ia se_30 rfl rfl (by omega) (by omega)) ?_
      refine Rg.rd 8 rfl rfl (by kernel_rfl) ⟨_, rfl, rfl⟩ (rd_lda ag_38 rfl (Rdc.el0 (SlH.own (by repeat constructor)) hx2 rfl rfl) rfl) ?_
      refine Rg.rd 9 rfl rfl (by kernel_rfl) ⟨_, rfl, rfl⟩ (rd_lda ag_38 rfl (Rdc.cl 2 (by repeat constructor) rfl) rfl) ?_
      refine Rg.pu 10 rfl rfl (by kernel_rfl) ⟨_, rfl, rfl⟩ (pu_eqT (a := x2) (b := k) cmp_38 (by decide) Tryd.eqGuardType38 rfl rfl) ?_
      refine Rg.pu 11 rfl rfl (by kernel_rfl) trivial (by first | exact pu_pick_t rfl rfl | exact pu_pick_f rfl rfl) ?_
      refine Rg.end (by kernel_rfl) ?_
      refine Gs.then_n ?_
      refine Gs.cond rfl (fun hc1 => ?_) (fun hc1 => ?_)
      · skip
        have hin : intoL ks k = ks := by
          have h1 : x2 = k := of_decide_eq_true hc1
          unfold intoL; rw [if_pos (by rw [← he, hx2, h1])]
        refine Gs.seq ?_
        refine Gs.reg ?_
        refine Go.Sl.L.pu rfl rfl trivial (pu_move rfl) ?_
        refine Go.Sl.L.pu rfl rfl trivial (pu_assign rfl) ?_
        refine Go.Sl.L.nil ?_
        refine Gs.then_n ?_
        refine Gs.ret ?_
        refine Gs.then_r ?_
        exact Gs.fin1 Tryd.results16 rfl _ (⟨_, _, by rw [hin], by rw [hin]⟩) (by repeat constructor)
      · skip
        have hne : ¬ ks[at_ ks k]? = some k := fun e => by
          have h1 : x2 ≠ k := of_decide_eq_false hc1
          rw [← he, hx2] at e; exact h1 (Option.some.inj e)
        refine Gs.skip ?_
        refine Gs.then_n ?_
        refine Gs.seq ?_
        have hin : ks.take i ++ [k] ++ ks.drop i = intoL ks k := by unfold intoL; rw [if_neg hne, he]
        refine Gs.regD mixed (by kernel_rfl) ?_
        refine Rg.pu 0 rfl rfl (by kernel_rfl) trivial (pu_move rfl) ?_
        refine Rg.pu 1 rfl rfl (by kernel_rfl) trivial (pu_move rfl) ?_
        refine Rg.pu 2 rfl rfl (by kernel_rfl) trivial (pu_sliceH et_30 rfl rfl (by omega) (by omega)) ?_
        refine Rg.rd 4 rfl rfl (by kernel_rfl) trivial (rd_lda ag_38 rfl (Rdc.cl 2 (by repeat constructor) rfl) rfl) ?_
        refine Rg.pu 7 rfl rfl (by kernel_rfl) trivial (pu_move rfl) ?_
        refine Rg.pu 8 rfl rfl (by kernel_rfl) trivial (pu_move rfl) ?_
        refine Rg.pu 9 rfl rfl (by kernel_rfl) trivial (pu_sliceL et_30 rfl rfl (by omega) (by omega)) ?_
        refine Rg.two (by kernel_rfl) (Stp.acK 3 rfl rfl (by kernel_rfl) trivial (ac_copy et_30 ek_38 rfl rfl (SrcH.sl' (ys := ks.take i) Tryd.underlying30 ek_38 (by simp <;> omega) (SlH.cutH (SlH.own (by repeat constructor)) _ _ hlc)) (by first | omega | (simp; omega)) (by first | omega | (simp; omega))) (by rintro _ _ ⟨a36, c36, rfl, rfl⟩ w s; first | exact s.drop | exact s | exact Ent.sat (by repeat constructor) s) ?_) (Stp.ac 5 rfl rfl (by kernel_rfl) trivial (ac_lit encC_38 ([k]) et_30 ek_38 rfl (by repeat constructor) rfl rfl (by decide))  ?_)
        · skip
          rintro _ _ ⟨a36, c36, rfl, rfl⟩
          refine Rg.one (by kernel_rfl) (Stp.ac 5 rfl rfl (by kernel_rfl) trivial (ac_lit encC_38 ([k]) et_30 ek_38 rfl (by repeat constructor) rfl rfl (by decide))  ?_)
          rintro _ _ ⟨a38, rfl, rfl⟩
          refine Rg.one (by kernel_rfl) (Stp.ac 6 rfl rfl (by kernel_rfl) trivial (ac_append et_30 ek_38 rfl rfl (by repeat constructor) (SrcH.sl Tryd.underlying30 ek_38 (SlH.own (by repeat constructor))) (by first | omega | (simp; omega)) (by first | omega | (simp; omega)))  ?_)
          rintro _ _ ⟨a39, c39, rfl, rfl⟩
          refine Rg.one (by kernel_rfl) (Stp.ac 10 rfl rfl (by kernel_rfl) trivial (ac_append et_30 ek_38 rfl rfl (by repeat constructor) (SrcH.sl' (ys := ks.drop i) Tryd.underlying30 ek_38 (by simp <;> omega) (SlH.cutL (SlH.own (by repeat constructor)) _ _ hlc)) (by first | omega | (simp; omega)) (by first | omega | (simp; omega)))  ?_)
          rintro _ _ ⟨a43, c43, rfl, rfl⟩
          rw [hin]
          refine Rg.pu 11 rfl rfl (by kernel_rfl) trivial (pu_assign rfl) ?_
          refine Rg.end (by kernel_rfl) ?_
          refine Gs.then_n ?_
          refine Gs.ret ?_
          exact Gs.fin1 Tryd.results16 rfl _ (⟨_, _, rfl, rfl⟩) (by repeat constructor)
        · skip
          rintro _ _ ⟨a38, rfl, rfl⟩
          refine Rg.one (by kernel_rfl) (Stp.ac 3 rfl rfl (by kernel_rfl) trivial (ac_copy et_30 ek_38 rfl rfl (SrcH.sl' (ys := ks.take i) Tryd.underlying30 ek_38 (by simp <;> omega) (SlH.cutH (SlH.own (by repeat constructor)) _ _ hlc)) (by first | omega | (simp; omega)) (by first | omega | (simp; omega)))  ?_)
          rintro _ _ ⟨a36, c36, rfl, rfl⟩
          refine Rg.one (by kernel_rfl) (Stp.ac 6 rfl rfl (by kernel_rfl) trivial (ac_append et_30 ek_38 rfl rfl (by repeat constructor) (SrcH.sl Tryd.underlying30 ek_38 (SlH.own (by repeat constructor))) (by first | omega | (simp; omega)) (by first | omega | (simp; omega)))  ?_)
          rintro _ _ ⟨a39, c39, rfl, rfl⟩
          refine Rg.one (by kernel_rfl) (Stp.ac 10 rfl rfl (by kernel_rfl) trivial (ac_append et_30 ek_38 rfl rfl (by repeat constructor) (SrcH.sl' (ys := ks.drop i) Tryd.underlying30 ek_38 (by simp <;> omega) (SlH.cutL (SlH.own (by repeat constructor)) _ _ hlc)) (by first | omega | (simp; omega)) (by first | omega | (simp; omega)))  ?_)
          rintro _ _ ⟨a43, c43, rfl, rfl⟩
          rw [hin]
          refine Rg.pu 11 rfl rfl (by kernel_rfl) trivial (pu_assign rfl) ?_
          refine Rg.end (by kernel_rfl) ?_
          refine Gs.then_n ?_
          refine Gs.ret ?_
          exact Gs.fin1 Tryd.results16 rfl _ (⟨_, _, rfl, rfl⟩) (by repeat constructor)
    · skip
      have hne : ¬ ks[at_ ks k]? = some k := fun e => by
        have h1 := of_decide_eq_false hg4
        have h2 := (List.getElem?_eq_some_iff.1 e).1
        omega
      refine Rg.off 5 rfl rfl (by kernel_rfl) rfl rfl rfl rfl ?_
      refine Rg.off 6 rfl rfl (by kernel_rfl) rfl rfl rfl rfl ?_
      refine Rg.off 7 rfl rfl (by kernel_rfl) rfl rfl rfl rfl ?_
      refine Rg.off 8 rfl rfl (by kernel_rfl) rfl rfl rfl rfl ?_
      refine Rg.off 9 rfl rfl (by kernel_rfl) rfl rfl rfl rfl ?_
      refine Rg.off 10 rfl rfl (by kernel_rfl) rfl rfl rfl rfl ?_
      refine Rg.pu 11 rfl rfl (by kernel_rfl) trivial (by first | exact pu_pick_t rfl rfl | exact pu_pick_f rfl rfl) ?_
      refine Rg.end (by kernel_rfl) ?_
      refine Gs.then_n ?_
      refine Gs.cond_f rfl ?_
      refine Gs.skip ?_
      refine Gs.then_n ?_
      refine Gs.seq ?_
      have hin : ks.take i ++ [k] ++ ks.drop i = intoL ks k := by unfold intoL; rw [if_neg hne, he]
      refine Gs.regD mixed (by kernel_rfl) ?_
      refine Rg.pu 0 rfl rfl (by kernel_rfl) trivial (pu_move rfl) ?_
      refine Rg.pu 1 rfl rfl (by kernel_rfl) trivial (pu_move rfl) ?_
      refine Rg.pu 2 rfl rfl (by kernel_rfl) trivial (pu_sliceH et_30 rfl rfl (by omega) (by omega)) ?_
      refine Rg.rd 4 rfl rfl (by kernel_rfl) trivial (rd_lda ag_38 rfl (Rdc.cl 2 (by repeat constructor) rfl) rfl) ?_
      refine Rg.pu 7 rfl rfl (by kernel_rfl) trivial (pu_move rfl) ?_
      refine Rg.pu 8 rfl rfl (by kernel_rfl) trivial (pu_move rfl) ?_
      refine Rg.pu 9 rfl rfl (by kernel_rfl) trivial (pu_sliceL et_30 rfl rfl (by omega) (by omega)) ?_
      refine Rg.two (by kernel_rfl) (Stp.acK 3 rfl rfl (by kernel_rfl) trivial (ac_copy et_30 ek_38 rfl rfl (SrcH.sl' (ys := ks.take i) Tryd.underlying30 ek_38 (by simp <;> omega) (SlH.cutH (SlH.own (by repeat constructor)) _ _ hlc)) (by first | omega | (simp; omega)) (by first | omega | (simp; omega))) (by rintro _ _ ⟨a36, c36, rfl, rfl⟩ w s; first | exact s.drop | exact s | exact Ent.sat (by repeat constructor) s) ?_) (Stp.ac 5 rfl rfl (by kernel_rfl) trivial (ac_lit encC_38 ([k]) et_30 ek_38 rfl (by repeat constructor) rfl rfl (by decide))  ?_)
      · skip
        rintro _ _ ⟨a36, c36, rfl, rfl⟩
        refine Rg.one (by kernel_rfl) (Stp.ac 5 rfl rfl (by kernel_rfl) trivial (ac_lit encC_38 ([k]) et_30 ek_38 rfl (by repeat constructor) rfl rfl (by decide))  ?_)
        rintro _ _ ⟨a38, rfl, rfl⟩
        refine Rg.one (by kernel_rfl) (Stp.ac 6 rfl rfl (by kernel_rfl) trivial (ac_append et_30 ek_38 rfl rfl (by repeat constructor) (SrcH.sl Tryd.underlying30 ek_38 (SlH.own (by repeat constructor))) (by first | omega | (simp; omega)) (by first | omega | (simp; omega)))  ?_)
        rintro _ _ ⟨a39, c39, rfl, rfl⟩
        refine Rg.one (by kernel_rfl) (Stp.ac 10 rfl rfl (by kernel_rfl) trivial (ac_append et_30 ek_38 rfl rfl (by repeat constructor) (SrcH.sl' (ys := ks.drop i) Tryd.underlying30 ek_38 (by simp <;> omega) (SlH.cutL (SlH.own (by repeat constructor)) _ _ hlc)) (by first | omega | (simp; omega)) (by first | omega | (simp; omega)))  ?_)
        rintro _ _ ⟨a43, c43, rfl, rfl⟩
        rw [hin]
        refine Rg.pu 11 rfl rfl (by kernel_rfl) trivial (pu_assign rfl) ?_
        refine Rg.end (by kernel_rfl) ?_
        refine Gs.then_n ?_
        refine Gs.ret ?_
        exact Gs.fin1 Tryd.results16 rfl _ (⟨_, _, rfl, rfl⟩) (by repeat constructor)
      · skip
        rintro _ _ ⟨a38, rfl, rfl⟩
        refine Rg.one (by kernel_rfl) (Stp.ac 3 rfl rfl (by kernel_rfl) trivial (ac_copy et_30 ek_38 rfl rfl (SrcH.sl' (ys := ks.take i) Tryd.underlying30 ek_38 (by simp <;> omega) (SlH.cutH (SlH.own (by repeat constructor)) _ _ hlc)) (by first | omega | (simp; omega)) (by first | omega | (simp; omega)))  ?_)
        rintro _ _ ⟨a36, c36, rfl, rfl⟩
        refine Rg.one (by kernel_rfl) (Stp.ac 6 rfl rfl (by kernel_rfl) trivial (ac_append et_30 ek_38 rfl rfl (by repeat constructor) (SrcH.sl Tryd.underlying30 ek_38 (SlH.own (by repeat constructor))) (by first | omega | (simp; omega)) (by first | omega | (simp; omega)))  ?_)
        rintro _ _ ⟨a39, c39, rfl, rfl⟩
        refine Rg.one (by kernel_rfl) (Stp.ac 10 rfl rfl (by kernel_rfl) trivial (ac_append et_30 ek_38 rfl rfl (by repeat constructor) (SrcH.sl' (ys := ks.drop i) Tryd.underlying30 ek_38 (by simp <;> omega) (SlH.cutL (SlH.own (by repeat constructor)) _ _ hlc)) (by first | omega | (simp; omega)) (by first | omega | (simp; omega)))  ?_)
        rintro _ _ ⟨a43, c43, rfl, rfl⟩
        rw [hin]
        refine Rg.pu 11 rfl rfl (by kernel_rfl) trivial (pu_assign rfl) ?_
        refine Rg.end (by kernel_rfl) ?_
        refine Gs.then_n ?_
        refine Gs.ret ?_
        exact Gs.fin1 Tryd.results16 rfl _ (⟨_, _, rfl, rfl⟩) (by repeat constructor)
theorem recSame_spec (x y : Rec) : Ct Tryd.prog 44 [recV x, recV y] [] (fun v hs => v = .bool (decide (x = y)) ∧ hs = []) := by
  refine Ct.intro Tryd.func44 rfl (by kernel_rfl) 8 Tryd.ntmps44 (Nat.le_of_ble_eq_true rfl) fun w0 R => ?_
  refine Gs.seq ?_
  refine Gs.reg ?_
  refine Go.Sl.L.ac rfl rfl trivial (ac_box rfl rfl) ?_
  rintro _ _ ⟨b2, rfl, rfl⟩
  refine Go.Sl.L.ac rfl rfl trivial (ac_box rfl rfl) ?_
  rintro _ _ ⟨b3, rfl, rfl⟩
  refine Go.Sl.L.pu rfl rfl trivial (pu_assign rfl) ?_
  refine Go.Sl.L.nil ?_
  refine Gs.then_n ?_
  refine Gs.seq ?_
  refine Gs.reg ?_
  refine Go.Sl.L.rd rfl rfl trivial (rd_lda ag_42 rfl (Rdc.cl 5 (by repeat constructor) rfl) rfl) ?_
  refine Go.Sl.L.rd rfl rfl trivial (rd_lda ag_42 rfl (Rdc.cl 5 (by repeat constructor) rfl) rfl) ?_
  refine Go.Sl.L.pu rfl rfl trivial (pu_eqT (a := x) (b := y) cmp_42 (by decide) Tryd.eqGuardType42 rfl rfl) ?_
  refine Go.Sl.L.pu rfl rfl trivial (pu_assign rfl) ?_
  refine Go.Sl.L.nil ?_
  refine Gs.then_n ?_
  refine Gs.ret ?_
  exact Gs.fin1 Tryd.results44 rfl _ (⟨rfl, rfl⟩) (by repeat constructor)
theorem rec_dec (x y : Rec) : decide (x = y) = (decide (x.key = y.key) && (decide ((x.w, x.c) = (y.w, y.c)) && decide (x.t = y.t))) := by
  rw [← Bool.decide_and, ← Bool.decide_and]
  refine decide_eq_decide.2 ⟨fun h => by subst h; exact ⟨rfl, rfl, rfl⟩, fun ⟨h1, h2, h3⟩ => ?_⟩
  cases x; cases y
  simp only [Rec.key, Key.mk.injEq, Prod.mk.injEq] at h1 h2 h3
  obtain ⟨rfl, rfl⟩ := h1
  obtain ⟨rfl, rfl⟩ := h2
  subst h3; rfl
theorem recSame4_spec (x y : Rec) : Ct Tryd.prog 15 [recV x, recV y] [] (fun v hs => v = .bool (decide (x = y)) ∧ hs = []) := by
  refine Ct.intro Tryd.func15 rfl (by kernel_rfl) 24 Tryd.ntmps15 (Nat.le_of_ble_eq_true rfl) fun w0 R => ?_
  refine Gs.seq ?_
  refine Gs.reg ?_
  refine Go.Sl.L.ac rfl rfl trivial (ac_box rfl rfl) ?_
  rintro _ _ ⟨b2, rfl, rfl⟩
  refine Go.Sl.L.ac rfl rfl trivial (ac_box rfl rfl) ?_
  rintro _ _ ⟨b3, rfl, rfl⟩
  refine Go.Sl.L.pu rfl rfl trivial (pu_assign rfl) ?_
  refine Go.Sl.L.nil ?_
  refine Gs.then_n ?_
  refine Gs.seq ?_
  refine Gs.reg ?_
  refine Go.Sl.L.pu rfl rfl trivial (pu_fa fa_42_0 rfl) ?_
  refine Go.Sl.L.rd rfl rfl trivial (rd_lda ag_38 rfl (Rdc.cl 2 (by repeat constructor) rfl) rfl) ?_
  refine Go.Sl.L.pu rfl rfl trivial (pu_fa fa_42_0 rfl) ?_
  refine Go.Sl.L.rd rfl rfl trivial (rd_lda ag_38 rfl (Rdc.cl 2 (by repeat constructor) rfl) rfl) ?_
  refine Go.Sl.L.pu rfl rfl trivial (pu_eqT (a := x.key) (b := y.key) cmp_38 (by decide) Tryd.eqGuardType38 rfl rfl) ?_
  refine Go.Sl.L.puB rfl rfl trivial (pu_move rfl) (fun hg5 => ?_) (fun hg5 => ?_)
  · skip
    refine Go.Sl.L.pu rfl rfl ⟨_, rfl, rfl⟩ (pu_fa fa_42_1 rfl) ?_
    refine Go.Sl.L.rd rfl rfl ⟨_, rfl, rfl⟩ (rd_lda ag_40 rfl (Rdc.cl 2 (by repeat constructor) rfl) rfl) ?_
    refine Go.Sl.L.pu rfl rfl ⟨_, rfl, rfl⟩ (pu_fa fa_42_1 rfl) ?_
    refine Go.Sl.L.rd rfl rfl ⟨_, rfl, rfl⟩ (rd_lda ag_40 rfl (Rdc.cl 2 (by repeat constructor) rfl) rfl) ?_
    refine Go.Sl.L.pu rfl rfl ⟨_, rfl, rfl⟩ (pu_eqT (a := (x.w, x.c)) (b := (y.w, y.c)) cmp_40 (by decide) Tryd.eqGuardType40 rfl rfl) ?_
    refine Go.Sl.L.pu rfl rfl trivial (by first | exact pu_pick_t rfl rfl | exact pu_pick_f rfl rfl) ?_
    refine Go.Sl.L.puB rfl rfl trivial (pu_move rfl) (fun hg12 => ?_) (fun hg12 => ?_)
    · skip
      refine Go.Sl.L.pu rfl rfl ⟨_, rfl, rfl⟩ (pu_fa fa_42_2 rfl) ?_
      refine Go.Sl.L.rd rfl rfl ⟨_, rfl, rfl⟩ (rd_ld na_9 rfl (Rdc.cl1 (by repeat constructor) rfl)) ?_
      refine Go.Sl.L.pu rfl rfl ⟨_, rfl, rfl⟩ (pu_fa fa_42_2 rfl) ?_
      refine Go.Sl.L.rd rfl rfl ⟨_, rfl, rfl⟩ (rd_ld na_9 rfl (Rdc.cl1 (by repeat constructor) rfl)) ?_
      refine Go.Sl.L.pu rfl rfl ⟨_, rfl, rfl⟩ (pu_eqS rfl rfl) ?_
      refine Go.Sl.L.pu rfl rfl trivial (by first | exact pu_pick_t rfl rfl | exact pu_pick_f rfl rfl) ?_
      refine Go.Sl.L.pu rfl rfl trivial (pu_assign rfl) ?_
      refine Go.Sl.L.nil ?_
      refine Gs.then_n ?_
      refine Gs.ret ?_
      exact Gs.fin1 Tryd.results15 rfl _ (⟨by rw [rec_dec]; simp only [*, Bool.true_and, Bool.false_and], rfl⟩) (by repeat constructor)
    · skip
      refine Go.Sl.L.off rfl rfl rfl rfl rfl rfl ?_
      refine Go.Sl.L.off rfl rfl rfl rfl rfl rfl ?_
      refine Go.Sl.L.off rfl rfl rfl rfl rfl rfl ?_
      refine Go.Sl.L.off rfl rfl rfl rfl rfl rfl ?_
      refine Go.Sl.L.off rfl rfl rfl rfl rfl rfl ?_
      refine Go.Sl.L.pu rfl rfl trivial (by first | exact pu_pick_t rfl rfl | exact pu_pick_f rfl rfl) ?_
      refine Go.Sl.L.pu rfl rfl trivial (pu_assign rfl) ?_
      refine Go.Sl.L.nil ?_
      refine Gs.then_n ?_
      refine Gs.ret ?_
      exact Gs.fin1 Tryd.results15 rfl _ (⟨by rw [rec_dec]; simp only [*, Bool.true_and, Bool.false_and], rfl⟩) (by repeat constructor)
  · skip
    refine Go.Sl.L.off rfl rfl rfl rfl rfl rfl ?_
    refine Go.Sl.L.off rfl rfl rfl rfl rfl rfl ?_
    refine Go.Sl.L.off rfl rfl rfl rfl rfl rfl ?_
    refine Go.Sl.L.off rfl rfl rfl rfl rfl rfl ?_
    refine Go.Sl.L.off rfl rfl rfl rfl rfl rfl ?_
    refine Go.Sl.L.pu rfl rfl trivial (by first | exact pu_pick_t rfl rfl | exact pu_pick_f rfl rfl) ?_
    refine Go.Sl.L.pu rfl rfl trivial (pu_move rfl) ?_
    refine Go.Sl.L.off rfl rfl rfl rfl rfl rfl ?_
    refine Go.Sl.L.off rfl rfl rfl rfl rfl rfl ?_
    refine Go.Sl.L.off rfl rfl rfl rfl rfl rfl ?_
    refine Go.Sl.L.off rfl rfl rfl rfl rfl rfl ?_
    refine Go.Sl.L.off rfl rfl rfl rfl rfl rfl ?_
    refine Go.Sl.L.pu rfl rfl trivial (by first | exact pu_pick_t rfl rfl | exact pu_pick_f rfl rfl) ?_
    refine Go.Sl.L.pu rfl rfl trivial (pu_assign rfl) ?_
    refine Go.Sl.L.nil ?_
    refine Gs.then_n ?_
    refine Gs.ret ?_
    exact Gs.fin1 Tryd.results15 rfl _ (⟨by rw [rec_dec]; simp only [*, Bool.true_and, Bool.false_and], rfl⟩) (by repeat constructor)
end Go.Proofs.YthlnjkfahmebjaaDoor
