/- Walks: rises, one, May, all, find, at (post, grapevineref10). -/
import Derived.Test.YtonilkceolbkmaaPo
namespace Go.Proofs.Ytonilkceolbkmaa
open Go Go.Sl Go.Gv Go.Po
set_option maxRecDepth 100000
theorem before4_spec (a b : Key) : Ct Try.prog 28 [keyV a, keyV b] [] (fun v hs => v = .bool (before a b) ∧ hs = []) := by
  refine Ct.intro Try.func28 rfl (by kernel_rfl) 24 Try.ntmps28 (Nat.le_of_ble_eq_true rfl) fun w0 R => ?_
  refine Gs.seq ?_
  refine Gs.reg ?_
  refine Go.Sl.L.ac rfl rfl trivial (ac_box rfl rfl) ?_
  rintro _ _ ⟨b2, rfl, rfl⟩
  refine Go.Sl.L.ac rfl rfl trivial (ac_box rfl rfl) ?_
  rintro _ _ ⟨b3, rfl, rfl⟩
  refine Go.Sl.L.pu rfl rfl trivial (pu_assign rfl) ?_
  refine Go.Sl.L.nil ?_
  refine Gs.then_n ?_
  refine Gs.seq ?_
  refine Gs.reg ?_
  refine Go.Sl.L.pu rfl rfl trivial (pu_fa fa_34_0 rfl) ?_
  refine Go.Sl.L.rd rfl rfl trivial (rd_ld na_3 rfl (Rdc.cl1 (by repeat constructor) rfl)) ?_
  refine Go.Sl.L.pu rfl rfl trivial (pu_fa fa_34_0 rfl) ?_
  refine Go.Sl.L.rd rfl rfl trivial (rd_ld na_3 rfl (Rdc.cl1 (by repeat constructor) rfl)) ?_
  refine Go.Sl.L.pu rfl rfl trivial (pu_lt rfl rfl) ?_
  refine Go.Sl.L.puB rfl rfl trivial (pu_move rfl) (fun hg5 => ?_) (fun hg5 => ?_)
  · skip
    refine Go.Sl.L.off rfl rfl rfl rfl rfl rfl ?_
    refine Go.Sl.L.off rfl rfl rfl rfl rfl rfl ?_
    refine Go.Sl.L.off rfl rfl rfl rfl rfl rfl ?_
    refine Go.Sl.L.off rfl rfl rfl rfl rfl rfl ?_
    refine Go.Sl.L.off rfl rfl rfl rfl rfl rfl ?_
    refine Go.Sl.L.off rfl rfl rfl rfl rfl rfl ?_
    refine Go.Sl.L.offU rfl rfl rfl rfl rfl ?_
    refine Go.Sl.L.offU rfl rfl rfl rfl rfl ?_
    refine Go.Sl.L.offU rfl rfl rfl rfl rfl ?_
    refine Go.Sl.L.offU rfl rfl rfl rfl rfl ?_
    refine Go.Sl.L.offU rfl rfl rfl rfl rfl ?_
    refine Go.Sl.L.off rfl rfl rfl rfl rfl rfl ?_
    refine Go.Sl.L.pu rfl rfl trivial (by first | exact pu_pick_t rfl rfl | exact pu_pick_f rfl rfl) ?_
    refine Go.Sl.L.pu rfl rfl trivial (pu_assign rfl) ?_
    refine Go.Sl.L.nil ?_
    refine Gs.then_n ?_
    refine Gs.ret ?_
    exact Gs.fin1 Try.results28 rfl _ (⟨by grind [before], rfl⟩) (by repeat constructor)
  · skip
    refine Go.Sl.L.pu rfl rfl ⟨_, rfl, rfl⟩ (pu_fa fa_34_0 rfl) ?_
    refine Go.Sl.L.rd rfl rfl ⟨_, rfl, rfl⟩ (rd_ld na_3 rfl (Rdc.cl1 (by repeat constructor) rfl)) ?_
    refine Go.Sl.L.pu rfl rfl ⟨_, rfl, rfl⟩ (pu_fa fa_34_0 rfl) ?_
    refine Go.Sl.L.rd rfl rfl ⟨_, rfl, rfl⟩ (rd_ld na_3 rfl (Rdc.cl1 (by repeat constructor) rfl)) ?_
    refine Go.Sl.L.pu rfl rfl ⟨_, rfl, rfl⟩ (pu_eq rfl rfl) ?_
    refine Go.Sl.L.puB rfl rfl ⟨_, rfl, rfl⟩ (pu_move rfl) (fun hg11 => ?_) (fun hg11 => ?_)
    · skip
      refine Go.Sl.L.pu rfl rfl ⟨_, rfl, rfl⟩ (pu_fa fa_34_1 rfl) ?_
      refine Go.Sl.L.rd rfl rfl ⟨_, rfl, rfl⟩ (rd_ld na_3 rfl (Rdc.cl1 (by repeat constructor) rfl)) ?_
      refine Go.Sl.L.pu rfl rfl ⟨_, rfl, rfl⟩ (pu_fa fa_34_1 rfl) ?_
      refine Go.Sl.L.rd rfl rfl ⟨_, rfl, rfl⟩ (rd_ld na_3 rfl (Rdc.cl1 (by repeat constructor) rfl)) ?_
      refine Go.Sl.L.pu rfl rfl ⟨_, rfl, rfl⟩ (pu_lt rfl rfl) ?_
      refine Go.Sl.L.pu rfl rfl ⟨_, rfl, rfl⟩ (by first | exact pu_pick_t rfl rfl | exact pu_pick_f rfl rfl) ?_
      refine Go.Sl.L.pu rfl rfl trivial (by first | exact pu_pick_t rfl rfl | exact pu_pick_f rfl rfl) ?_
      refine Go.Sl.L.pu rfl rfl trivial (pu_assign rfl) ?_
      refine Go.Sl.L.nil ?_
      refine Gs.then_n ?_
      refine Gs.ret ?_
      exact Gs.fin1 Try.results28 rfl _ (⟨by grind [before], rfl⟩) (by repeat constructor)
    · skip
      refine Go.Sl.L.off rfl rfl rfl rfl rfl rfl ?_
      refine Go.Sl.L.off rfl rfl rfl rfl rfl rfl ?_
      refine Go.Sl.L.off rfl rfl rfl rfl rfl rfl ?_
      refine Go.Sl.L.off rfl rfl rfl rfl rfl rfl ?_
      refine Go.Sl.L.off rfl rfl rfl rfl rfl rfl ?_
      refine Go.Sl.L.pu rfl rfl ⟨_, rfl, rfl⟩ (by first | exact pu_pick_t rfl rfl | exact pu_pick_f rfl rfl) ?_
      refine Go.Sl.L.pu rfl rfl trivial (by first | exact pu_pick_t rfl rfl | exact pu_pick_f rfl rfl) ?_
      refine Go.Sl.L.pu rfl rfl trivial (pu_assign rfl) ?_
      refine Go.Sl.L.nil ?_
      refine Gs.then_n ?_
      refine Gs.ret ?_
      exact Gs.fin1 Try.results28 rfl _ (⟨by grind [before], rfl⟩) (by repeat constructor)
theorem beforeR_spec (a b : Key) : Ct Try.prog 43 [keyV a, keyV b] [] (fun v hs => v = .bool (before a b) ∧ hs = []) := by
  refine Ct.intro Try.func43 rfl (by kernel_rfl) 20 Try.ntmps43 (Nat.le_of_ble_eq_true rfl) fun w0 R => ?_
  refine Gs.seq ?_
  refine Gs.reg ?_
  refine Go.Sl.L.ac rfl rfl trivial (ac_box rfl rfl) ?_
  rintro _ _ ⟨b2, rfl, rfl⟩
  refine Go.Sl.L.ac rfl rfl trivial (ac_box rfl rfl) ?_
  rintro _ _ ⟨b3, rfl, rfl⟩
  refine Go.Sl.L.pu rfl rfl trivial (pu_assign rfl) ?_
  refine Go.Sl.L.nil ?_
  refine Gs.then_n ?_
  refine Gs.seq ?_
  refine Gs.seq ?_
  refine Gs.reg ?_
  refine Go.Sl.L.pu rfl rfl trivial (pu_fa fa_34_0 rfl) ?_
  refine Go.Sl.L.rd rfl rfl trivial (rd_ld na_3 rfl (Rdc.cl1 (by repeat constructor) rfl)) ?_
  refine Go.Sl.L.pu rfl rfl trivial (pu_fa fa_34_0 rfl) ?_
  refine Go.Sl.L.rd rfl rfl trivial (rd_ld na_3 rfl (Rdc.cl1 (by repeat constructor) rfl)) ?_
  refine Go.Sl.L.pu rfl rfl trivial (pu_ne rfl rfl) ?_
  refine Go.Sl.L.nil ?_
  refine Gs.then_n ?_
  refine Gs.cond rfl (fun hc0 => ?_) (fun hc0 => ?_)
  · skip
    refine Gs.seq ?_
    refine Gs.reg ?_
    refine Go.Sl.L.pu rfl rfl trivial (pu_fa fa_34_0 rfl) ?_
    refine Go.Sl.L.rd rfl rfl trivial (rd_ld na_3 rfl (Rdc.cl1 (by repeat constructor) rfl)) ?_
    refine Go.Sl.L.pu rfl rfl trivial (pu_fa fa_34_0 rfl) ?_
    refine Go.Sl.L.rd rfl rfl trivial (rd_ld na_3 rfl (Rdc.cl1 (by repeat constructor) rfl)) ?_
    refine Go.Sl.L.pu rfl rfl trivial (pu_lt rfl rfl) ?_
    refine Go.Sl.L.pu rfl rfl trivial (pu_assign rfl) ?_
    refine Go.Sl.L.nil ?_
    refine Gs.then_n ?_
    refine Gs.ret ?_
    refine Gs.then_r ?_
    exact Gs.fin1 Try.results43 rfl _ (⟨by grind [before], rfl⟩) (by repeat constructor)
  · skip
    refine Gs.skip ?_
    refine Gs.then_n ?_
    refine Gs.seq ?_
    refine Gs.reg ?_
    refine Go.Sl.L.pu rfl rfl trivial (pu_fa fa_34_1 rfl) ?_
    refine Go.Sl.L.rd rfl rfl trivial (rd_ld na_3 rfl (Rdc.cl1 (by repeat constructor) rfl)) ?_
    refine Go.Sl.L.pu rfl rfl trivial (pu_fa fa_34_1 rfl) ?_
    refine Go.Sl.L.rd rfl rfl trivial (rd_ld na_3 rfl (Rdc.cl1 (by repeat constructor) rfl)) ?_
    refine Go.Sl.L.pu rfl rfl trivial (pu_lt rfl rfl) ?_
    refine Go.Sl.L.pu rfl rfl trivial (pu_assign rfl) ?_
    refine Go.Sl.L.nil ?_
    refine Gs.then_n ?_
    refine Gs.ret ?_
    exact Gs.fin1 Try.results43 rfl _ (⟨by grind [before], rfl⟩) (by repeat constructor)
theorem rises_spec {S : HProp} {a : Option Addr} {c : Nat} {l : List Int} (hS : Srd S 1 intC a l) (hl : l.length ≤ 1000) :
    Ct Try.prog 42 [.slice a l.length c] [S] (fun v hs => v = .bool (risesB l) ∧ hs = [S]) := by
  refine Ct.intro Try.func42 rfl (by kernel_rfl) 20 Try.ntmps42 (Nat.le_of_ble_eq_true rfl) fun w0 R => ?_
  refine Gs.slAddr (hS.h (by repeat constructor)) fun ab ao ha => ?_
  refine Gs.seq ?_
  refine Gs.reg ?_
  refine Go.Sl.L.pu rfl rfl trivial (pu_assign rfl) ?_
  refine Go.Sl.L.nil ?_
  refine Gs.then_n ?_
  refine Gs.seq ?_
  refine Gs.reg ?_
  refine Go.Sl.L.pu rfl rfl trivial (pu_assign rfl) ?_
  refine Go.Sl.L.nil ?_
  refine Gs.then_n ?_
  refine Gs.seq ?_
  refine Gs.seq ?_
  refine Gs.reg ?_
  refine Go.Sl.L.pu rfl rfl trivial (pu_move rfl) ?_
  refine Go.Sl.L.pu rfl rfl trivial (pu_len Try.underlying35 rfl) ?_
  refine Go.Sl.L.pu rfl rfl trivial (pu_move rfl) ?_
  refine Go.Sl.L.nil ?_
  refine Gs.then_n ?_
  refine Gs.block ?_
  refine Gs.loop1 (fun s : Nat × Int => s.1 ≤ l.length ∧ risesFrom (-1) (l.take s.1) = true ∧ s.2 = lastOr (-1) (l.take s.1)) (fun s => [(0, .slice a l.length c), (3, int s.2), (6, .slice a l.length c), (7, int l.length), (8, int s.1)]) (fun _ => [S] ++ R) (fun s => l.length - s.1) (0, -1) (⟨Nat.zero_le _, rfl, rfl⟩) (by repeat constructor) (by repeat constructor) (fun s hs => ?_)
  obtain ⟨i, m⟩ := s
  obtain ⟨hi, hr, hm⟩ := hs
  dsimp only at hi hr hm ⊢
  refine Gs.seq ?_
  refine Gs.reg ?_
  refine Go.Sl.L.pu rfl rfl trivial (pu_lt rfl rfl) ?_
  refine Go.Sl.L.nil ?_
  refine Gs.then_n ?_
  refine Gs.seq ?_
  refine Gs.cond rfl (fun hc0 => ?_) (fun hc0 => ?_)
  · skip
    have hlt : i < l.length := by have := of_decide_eq_true hc0; omega
    obtain ⟨x, hx⟩ : ∃ x, l[i]? = some x := ⟨l[i], by simp [hlt]⟩
    obtain rfl := ha (by rintro rfl; simp at hlt)
    have hst := rises_take (a := -1) hx
    rw [hr, Bool.true_and, ← hm] at hst
    refine Gs.skip ?_
    refine Gs.then_n ?_
    refine Gs.seq ?_
    refine Gs.block ?_
    refine Gs.seq ?_
    refine Gs.reg ?_
    refine Go.Sl.L.pu rfl rfl trivial (pu_ia se_35 rfl rfl (by omega) (by omega)) ?_
    refine Go.Sl.L.rd rfl rfl trivial (rd_ld na_3 rfl (Rdc.el0 (hS.h (by repeat constructor)) hx rfl rfl)) ?_
    refine Go.Sl.L.pu rfl rfl trivial (pu_assign rfl) ?_
    refine Go.Sl.L.nil ?_
    refine Gs.then_n ?_
    refine Gs.seq ?_
    refine Gs.seq ?_
    refine Gs.reg ?_
    refine Go.Sl.L.pu rfl rfl trivial (pu_move rfl) ?_
    refine Go.Sl.L.pu rfl rfl trivial (pu_move rfl) ?_
    refine Go.Sl.L.pu rfl rfl trivial (pu_le rfl rfl) ?_
    refine Go.Sl.L.nil ?_
    refine Gs.then_n ?_
    refine Gs.cond rfl (fun hc1 => ?_) (fun hc1 => ?_)
    · skip
      have hno : risesB l = false := rises_not (i := i + 1) (by rw [hst]; exact decide_eq_false (by have := of_decide_eq_true hc1; omega))
      refine Gs.seq ?_
      refine Gs.reg ?_
      refine Go.Sl.L.pu rfl rfl trivial (pu_assign rfl) ?_
      refine Go.Sl.L.nil ?_
      refine Gs.then_n ?_
      refine Gs.ret ?_
      refine Gs.then_r ?_
      refine Gs.blk_r ?_
      refine Gs.then_r ?_
      refine Gs.then_r ?_
      refine Gs.blk_r ?_
      refine Gs.then_r ?_
      exact Gs.fin1 Try.results42 rfl _ (⟨by rw [hno], rfl⟩) (by repeat constructor)
    · skip
      have hyes : risesFrom (-1) (l.take (i + 1)) = true := by rw [hst]; exact decide_eq_true (by have := of_decide_eq_false hc1; omega)
      refine Gs.skip ?_
      refine Gs.then_n ?_
      refine Gs.reg ?_
      refine Go.Sl.L.pu rfl rfl trivial (pu_move rfl) ?_
      refine Go.Sl.L.pu rfl rfl trivial (pu_assign rfl) ?_
      refine Go.Sl.L.nil ?_
      refine Gs.blk_n ?_
      refine Gs.then_n ?_
      refine Gs.reg ?_
      refine Go.Sl.L.pu rfl rfl trivial (by first | exact pu_addI rfl rfl rfl (by omega) (by omega) | exact pu_add rfl rfl) ?_
      refine Go.Sl.L.pu rfl rfl trivial (pu_move rfl) ?_
      refine Go.Sl.L.nil ?_
      refine Gs.then_n ?_
      exact Gs.again1 (i + 1, x) ⟨by show i + 1 ≤ l.length; omega, hyes, (last_take hx).symm⟩ (by show l.length - (i + 1) < l.length - i; omega) (by repeat constructor) (by repeat constructor)
  · skip
    have hge : i = l.length := by have := of_decide_eq_false hc0; omega
    rw [hge, List.take_length] at hr
    refine Gs.exit ?_
    refine Gs.then_x ?_
    refine Gs.then_x ?_
    refine Gs.blk_hit ?_
    refine Gs.then_n ?_
    refine Gs.seq ?_
    refine Gs.reg ?_
    refine Go.Sl.L.pu rfl rfl trivial (pu_move rfl) ?_
    refine Go.Sl.L.pu rfl rfl trivial (pu_len Try.underlying35 rfl) ?_
    refine Go.Sl.L.pu rfl rfl trivial (pu_gt rfl rfl) ?_
    refine Go.Sl.L.pu rfl rfl trivial (pu_assign rfl) ?_
    refine Go.Sl.L.nil ?_
    refine Gs.then_n ?_
    refine Gs.ret ?_
    exact Gs.fin1 Try.results42 rfl _ (⟨by rw [risesB, hr, Bool.true_and]; congr 1; exact decide_eq_decide.2 ⟨fun h e => by rw [e] at h; simp at h, fun h => by have := List.length_pos_iff.2 h; omega⟩, rfl⟩) (by repeat constructor)
theorem one_spec {S : HProp} {p : PostV} (hS : Srd S 1 intC p.t.a p.t.xs) (hl : p.t.xs.length ≤ 1000) :
    Ct Try.prog 44 [postV p] [S] (fun v hs => v = .bool (risesB p.t.xs) ∧ hs = [S]) := by
  obtain ⟨k, ⟨a, l, c⟩⟩ := p
  dsimp only at hS hl ⊢
  refine Ct.intro Try.func44 rfl (by kernel_rfl) 39 Try.ntmps44 (Nat.le_of_ble_eq_true rfl) fun w0 R => ?_
  refine Gs.slAddr (hS.h (by repeat constructor)) fun ab ao ha => ?_
  refine Gs.seq ?_
  refine Gs.reg ?_
  refine Go.Sl.L.ac rfl rfl trivial (ac_box rfl rfl) ?_
  rintro _ _ ⟨pb, rfl, rfl⟩
  refine Go.Sl.L.pu rfl rfl trivial (pu_assign rfl) ?_
  refine Go.Sl.L.nil ?_
  refine Gs.then_n ?_
  refine Gs.seq ?_
  refine Gs.seq ?_
  refine Gs.reg ?_
  refine Go.Sl.L.pu rfl rfl trivial (pu_assign rfl) ?_
  refine Go.Sl.L.nil ?_
  refine Gs.then_n ?_
  refine Gs.block ?_
  refine Gs.loop1 (fun i : Nat => i ≤ l.length ∧ risesFrom (-1) (l.take i) = true) (fun i => [(1, ptr pb), (3, int i)]) (fun _ => [S, cl pb 37 [int k.o, int k.q, .slice a l.length c]] ++ R) (fun i => l.length - i) 0 (⟨Nat.zero_le _, rfl⟩) (by repeat constructor) (by repeat constructor) (fun i ⟨hi, hr⟩ => ?_)
  refine Gs.seq ?_
  refine Gs.seq ?_
  refine Gs.reg ?_
  refine Go.Sl.L.pu rfl rfl trivial (pu_move rfl) ?_
  refine Go.Sl.L.pu rfl rfl trivial (pu_fa fa_37_1 rfl) ?_
  refine Go.Sl.L.rd rfl rfl trivial (rd_ld na_35 rfl (Rdc.cl1 (by repeat constructor) rfl)) ?_
  refine Go.Sl.L.pu rfl rfl trivial (pu_len Try.underlying35 rfl) ?_
  refine Go.Sl.L.pu rfl rfl trivial (pu_lt rfl rfl) ?_
  refine Go.Sl.L.nil ?_
  refine Gs.then_n ?_
  refine Gs.cond rfl (fun hc0 => ?_) (fun hc0 => ?_)
  · skip
    have hlt : i < l.length := by have := of_decide_eq_true hc0; omega
    obtain ⟨x, hx⟩ : ∃ x, l[i]? = some x := ⟨l[i], by simp [hlt]⟩
    obtain rfl := ha (by rintro rfl; simp at hlt)
    have hst := rises_take (a := -1) hx
    rw [hr, Bool.true_and] at hst
    have hge := lastOr_ge hr
    refine Gs.skip ?_
    refine Gs.then_n ?_
    refine Gs.seq ?_
    refine Gs.block ?_
    refine Gs.seq ?_
    refine Gs.regD mixed (by kernel_rfl) ?_
    refine Rg.pu 0 rfl rfl (by kernel_rfl) trivial (pu_fa fa_37_1 rfl) ?_
    refine Rg.rd 1 rfl rfl (by kernel_rfl) trivial (rd_ld na_35 rfl (Rdc.cl1 (by repeat constructor) rfl)) ?_
    refine Rg.pu 2 rfl rfl (by kernel_rfl) trivial (pu_move rfl) ?_
    refine Rg.pu 3 rfl rfl (by kernel_rfl) trivial (pu_ia se_35 rfl rfl (by omega) (by omega)) ?_
    refine Rg.rd 4 rfl rfl (by kernel_rfl) trivial (rd_ld na_3 rfl (Rdc.el0 (hS.h (by repeat constructor)) hx rfl rfl)) ?_
    refine Rg.pu 5 rfl rfl (by kernel_rfl) trivial (pu_lt rfl rfl) ?_
    refine Rg.puB 6 rfl rfl (by kernel_rfl) trivial (pu_move rfl) (fun hg6 => ?_) (fun hg6 => ?_)
    · skip
      have hno : risesB l = false := rises_not (i := i + 1) (by rw [hst]; exact decide_eq_false (by have := of_decide_eq_true hg6; omega))
      refine Rg.off 7 rfl rfl (by kernel_rfl) rfl rfl rfl rfl ?_
      refine Rg.off 8 rfl rfl (by kernel_rfl) rfl rfl rfl rfl ?_
      refine Rg.off 9 rfl rfl (by kernel_rfl) rfl rfl rfl rfl ?_
      refine Rg.offU 10 rfl rfl (by kernel_rfl) rfl rfl rfl ?_
      refine Rg.offU 11 rfl rfl (by kernel_rfl) rfl rfl rfl ?_
      refine Rg.offU 12 rfl rfl (by kernel_rfl) rfl rfl rfl ?_
      refine Rg.offU 13 rfl rfl (by kernel_rfl) rfl rfl rfl ?_
      refine Rg.offU 14 rfl rfl (by kernel_rfl) rfl rfl rfl ?_
      refine Rg.offU 15 rfl rfl (by kernel_rfl) rfl rfl rfl ?_
      refine Rg.offU 16 rfl rfl (by kernel_rfl) rfl rfl rfl ?_
      refine Rg.offU 17 rfl rfl (by kernel_rfl) rfl rfl rfl ?_
      refine Rg.offU 18 rfl rfl (by kernel_rfl) rfl rfl rfl ?_
      refine Rg.offU 19 rfl rfl (by kernel_rfl) rfl rfl rfl ?_
      refine Rg.offU 20 rfl rfl (by kernel_rfl) rfl rfl rfl ?_
      refine Rg.offU 21 rfl rfl (by kernel_rfl) rfl rfl rfl ?_
      refine Rg.off 22 rfl rfl (by kernel_rfl) rfl rfl rfl rfl ?_
      refine Rg.pu 23 rfl rfl (by kernel_rfl) trivial (by first | exact pu_pick_t rfl rfl | exact pu_pick_f rfl rfl) ?_
      refine Rg.end (by kernel_rfl) ?_
      refine Gs.then_n ?_
      refine Gs.cond_t rfl ?_
      refine Gs.seq ?_
      refine Gs.reg ?_
      refine Go.Sl.L.pu rfl rfl trivial (pu_assign rfl) ?_
      refine Go.Sl.L.nil ?_
      refine Gs.then_n ?_
      refine Gs.ret ?_
      refine Gs.blk_r ?_
      refine Gs.then_r ?_
      refine Gs.then_r ?_
      refine Gs.blk_r ?_
      refine Gs.then_r ?_
      exact Gs.fin1 Try.results44 rfl _ (⟨by rw [hno], rfl⟩) (by repeat constructor)
    · skip
      refine Rg.pu 7 rfl rfl (by kernel_rfl) ⟨_, rfl, rfl⟩ (pu_move rfl) ?_
      refine Rg.pu 8 rfl rfl (by kernel_rfl) ⟨_, rfl, rfl⟩ (pu_gt rfl rfl) ?_
      refine Rg.puB 9 rfl rfl (by kernel_rfl) ⟨_, rfl, rfl⟩ (pu_move rfl) (fun hg9 => ?_) (fun hg9 => ?_)
      · skip
        have hi0 : 0 < i := by have := of_decide_eq_true hg9; omega
        obtain ⟨y, hy⟩ : ∃ x, l[i - 1]? = some x := ⟨l[i - 1]'(by omega), by simp⟩
        have hly : lastOr (-1) (l.take i) = y := by have := last_take (a := -1) hy; rwa [show i - 1 + 1 = i by omega] at this
        rw [hly] at hst
        refine Rg.pu 10 rfl rfl (by kernel_rfl) ⟨_, rfl, rfl⟩ (pu_fa fa_37_1 rfl) ?_
        refine Rg.rd 11 rfl rfl (by kernel_rfl) ⟨_, rfl, rfl⟩ (rd_ld na_35 rfl (Rdc.cl1 (by repeat constructor) rfl)) ?_
        refine Rg.pu 12 rfl rfl (by kernel_rfl) ⟨_, rfl, rfl⟩ (pu_move rfl) ?_
        refine Rg.pu 13 rfl rfl (by kernel_rfl) ⟨_, rfl, rfl⟩ (pu_ia se_35 rfl rfl (by omega) (by omega)) ?_
        refine Rg.rd 14 rfl rfl (by kernel_rfl) ⟨_, rfl, rfl⟩ (rd_ld na_3 rfl (Rdc.el0 (hS.h (by repeat constructor)) hx rfl rfl)) ?_
        refine Rg.pu 15 rfl rfl (by kernel_rfl) ⟨_, rfl, rfl⟩ (pu_fa fa_37_1 rfl) ?_
        refine Rg.rd 16 rfl rfl (by kernel_rfl) ⟨_, rfl, rfl⟩ (rd_ld na_35 rfl (Rdc.cl1 (by repeat constructor) rfl)) ?_
        refine Rg.pu 17 rfl rfl (by kernel_rfl) ⟨_, rfl, rfl⟩ (pu_move rfl) ?_
        refine Rg.pu 18 rfl rfl (by kernel_rfl) ⟨_, rfl, rfl⟩ (pu_subI (z := ((i - 1 : Nat) : Int)) rfl rfl (by omega) (by omega) (by omega)) ?_
        refine Rg.pu 19 rfl rfl (by kernel_rfl) ⟨_, rfl, rfl⟩ (pu_ia se_35 rfl rfl (by omega) (by omega)) ?_
        refine Rg.rd 20 rfl rfl (by kernel_rfl) ⟨_, rfl, rfl⟩ (rd_ld na_3 rfl (Rdc.el0 (hS.h (by repeat constructor)) hy rfl rfl)) ?_
        refine Rg.pu 21 rfl rfl (by kernel_rfl) ⟨_, rfl, rfl⟩ (pu_le rfl rfl) ?_
        refine Rg.pu 22 rfl rfl (by kernel_rfl) ⟨_, rfl, rfl⟩ (by first | exact pu_pick_t rfl rfl | exact pu_pick_f rfl rfl) ?_
        refine Rg.pu 23 rfl rfl (by kernel_rfl) trivial (by first | exact pu_pick_t rfl rfl | exact pu_pick_f rfl rfl) ?_
        refine Rg.end (by kernel_rfl) ?_
        refine Gs.then_n ?_
        refine Gs.cond rfl (fun hc1 => ?_) (fun hc1 => ?_)
        · skip
          have hno : risesB l = false := rises_not (i := i + 1) (by rw [hst]; exact decide_eq_false (by have := of_decide_eq_true hc1; omega))
          refine Gs.seq ?_
          refine Gs.reg ?_
          refine Go.Sl.L.pu rfl rfl trivial (pu_assign rfl) ?_
          refine Go.Sl.L.nil ?_
          refine Gs.then_n ?_
          refine Gs.ret ?_
          refine Gs.blk_r ?_
          refine Gs.then_r ?_
          refine Gs.then_r ?_
          refine Gs.blk_r ?_
          refine Gs.then_r ?_
          exact Gs.fin1 Try.results44 rfl _ (⟨by rw [hno], rfl⟩) (by repeat constructor)
        · skip
          have hyes : risesFrom (-1) (l.take (i + 1)) = true := by rw [hst]; exact decide_eq_true (by have := of_decide_eq_false hc1; omega)
          refine Gs.skip ?_
          refine Gs.blk_n ?_
          refine Gs.then_n ?_
          refine Gs.reg ?_
          refine Go.Sl.L.pu rfl rfl trivial (pu_move rfl) ?_
          refine Go.Sl.L.pu rfl rfl trivial (by first | exact pu_addI rfl rfl rfl (by omega) (by omega) | exact pu_add rfl rfl) ?_
          refine Go.Sl.L.pu rfl rfl trivial (pu_assign rfl) ?_
          refine Go.Sl.L.nil ?_
          refine Gs.then_n ?_
          exact Gs.again1 (i + 1) ⟨by omega, hyes⟩ (by omega) (by repeat constructor) (by repeat constructor)
      · skip
        have hi0 : i = 0 := by have := of_decide_eq_false hg9; omega
        have hyes : risesFrom (-1) (l.take (i + 1)) = true := by rw [hst, hi0]; exact decide_eq_true (by have := of_decide_eq_false hg6; simp only [List.take_zero, lastOr, List.getLast?_nil, Option.getD_none]; omega)
        refine Rg.off 10 rfl rfl (by kernel_rfl) rfl rfl rfl rfl ?_
        refine Rg.off 11 rfl rfl (by kernel_rfl) rfl rfl rfl rfl ?_
        refine Rg.off 12 rfl rfl (by kernel_rfl) rfl rfl rfl rfl ?_
        refine Rg.off 13 rfl rfl (by kernel_rfl) rfl rfl rfl rfl ?_
        refine Rg.off 14 rfl rfl (by kernel_rfl) rfl rfl rfl rfl ?_
        refine Rg.off 15 rfl rfl (by kernel_rfl) rfl rfl rfl rfl ?_
        refine Rg.off 16 rfl rfl (by kernel_rfl) rfl rfl rfl rfl ?_
        refine Rg.off 17 rfl rfl (by kernel_rfl) rfl rfl rfl rfl ?_
        refine Rg.off 18 rfl rfl (by kernel_rfl) rfl rfl rfl rfl ?_
        refine Rg.off 19 rfl rfl (by kernel_rfl) rfl rfl rfl rfl ?_
        refine Rg.off 20 rfl rfl (by kernel_rfl) rfl rfl rfl rfl ?_
        refine Rg.off 21 rfl rfl (by kernel_rfl) rfl rfl rfl rfl ?_
        refine Rg.pu 22 rfl rfl (by kernel_rfl) ⟨_, rfl, rfl⟩ (by first | exact pu_pick_t rfl rfl | exact pu_pick_f rfl rfl) ?_
        refine Rg.pu 23 rfl rfl (by kernel_rfl) trivial (by first | exact pu_pick_t rfl rfl | exact pu_pick_f rfl rfl) ?_
        refine Rg.end (by kernel_rfl) ?_
        refine Gs.then_n ?_
        refine Gs.cond_f rfl ?_
        refine Gs.skip ?_
        refine Gs.blk_n ?_
        refine Gs.then_n ?_
        refine Gs.reg ?_
        refine Go.Sl.L.pu rfl rfl trivial (pu_move rfl) ?_
        refine Go.Sl.L.pu rfl rfl trivial (by first | exact pu_addI rfl rfl rfl (by omega) (by omega) | exact pu_add rfl rfl) ?_
        refine Go.Sl.L.pu rfl rfl trivial (pu_assign rfl) ?_
        refine Go.Sl.L.nil ?_
        refine Gs.then_n ?_
        exact Gs.again1 (i + 1) ⟨by omega, hyes⟩ (by omega) (by repeat constructor) (by repeat constructor)
  · skip
    have hge : i = l.length := by have := of_decide_eq_false hc0; omega
    rw [hge, List.take_length] at hr
    refine Gs.exit ?_
    refine Gs.then_x ?_
    refine Gs.then_x ?_
    refine Gs.blk_hit ?_
    refine Gs.then_n ?_
    refine Gs.seq ?_
    refine Gs.reg ?_
    refine Go.Sl.L.pu rfl rfl trivial (pu_fa fa_37_1 rfl) ?_
    refine Go.Sl.L.rd rfl rfl trivial (rd_ld na_35 rfl (Rdc.cl1 (by repeat constructor) rfl)) ?_
    refine Go.Sl.L.pu rfl rfl trivial (pu_len Try.underlying35 rfl) ?_
    refine Go.Sl.L.pu rfl rfl trivial (pu_gt rfl rfl) ?_
    refine Go.Sl.L.pu rfl rfl trivial (pu_assign rfl) ?_
    refine Go.Sl.L.nil ?_
    refine Gs.then_n ?_
    refine Gs.ret ?_
    exact Gs.fin1 Try.results44 rfl _ (⟨by rw [risesB, hr, Bool.true_and]; congr 1; exact decide_eq_decide.2 ⟨fun h e => by rw [e] at h; simp at h, fun h => by have := List.length_pos_iff.2 h; omega⟩, rfl⟩) (by repeat constructor)
theorem may_spec {S : HProp} {a : Option Addr} {c : Nat} {ps : List PostV} (hS : PRd S a ps) (hl : ps.length ≤ 1000) :
    Ct Try.prog 17 [.slice a ps.length c] [S] (fun v hs => v = .bool (mayB (plain1 ps)) ∧ hs = [S]) := by
  refine Ct.intro Try.func17 rfl (by kernel_rfl) 33 Try.ntmps17 (Nat.le_of_ble_eq_true rfl) fun w0 R => ?_
  refine Gs.slAddr (hS.1.h (by repeat constructor)) fun ab ao ha => ?_
  refine Gs.seq ?_
  refine Gs.reg ?_
  refine Go.Sl.L.pu rfl rfl trivial (pu_assign rfl) ?_
  refine Go.Sl.L.nil ?_
  refine Gs.then_n ?_
  refine Gs.seq ?_
  refine Gs.seq ?_
  refine Gs.reg ?_
  refine Go.Sl.L.pu rfl rfl trivial (pu_move rfl) ?_
  refine Go.Sl.L.pu rfl rfl trivial (pu_len Try.underlying30 rfl) ?_
  refine Go.Sl.L.pu rfl rfl trivial (pu_move rfl) ?_
  refine Go.Sl.L.nil ?_
  refine Gs.then_n ?_
  refine Gs.block ?_
  refine Gs.loop1 (fun i : Nat => i ≤ ps.length ∧ mayB ((plain1 ps).take i) = true) (fun i => [(0, .slice a ps.length c), (5, .slice a ps.length c), (6, int ps.length), (7, int i)]) (fun _ => [S] ++ R) (fun i => ps.length - i) 0 (⟨Nat.zero_le _, rfl⟩) (by repeat constructor) (by repeat constructor) (fun i ⟨hi, hm⟩ => ?_)
  refine Gs.seq ?_
  refine Gs.reg ?_
  refine Go.Sl.L.pu rfl rfl trivial (pu_lt rfl rfl) ?_
  refine Go.Sl.L.nil ?_
  refine Gs.then_n ?_
  refine Gs.seq ?_
  refine Gs.cond rfl (fun hc0 => ?_) (fun hc0 => ?_)
  · skip
    have hlt : i < ps.length := by have := of_decide_eq_true hc0; omega
    obtain ⟨x, hx⟩ : ∃ x, ps[i]? = some x := ⟨ps[i], by simp [hlt]⟩
    obtain rfl := ha (by rintro rfl; simp at hlt)
    obtain ⟨k1, k2⟩ := hS.2 x (List.mem_of_getElem? hx)
    have hxp := plain_at hx
    refine Gs.skip ?_
    refine Gs.then_n ?_
    refine Gs.seq ?_
    refine Gs.block ?_
    refine Gs.seq ?_
    refine Gs.reg ?_
    refine Go.Sl.L.pu rfl rfl trivial (pu_move rfl) ?_
    refine Go.Sl.L.pu rfl rfl trivial (pu_ia se_30 rfl rfl (by omega) (by omega)) ?_
    refine Go.Sl.L.rd rfl rfl trivial (rd_lda ag_37 rfl (Rdc.el0 (hS.1.h (by repeat constructor)) hx rfl rfl) rfl) ?_
    refine Go.Sl.L.ac rfl rfl trivial (ac_alloc zv_37 rfl) ?_
    rintro _ _ ⟨xb, rfl, rfl⟩
    refine Go.Sl.L.pu rfl rfl trivial (pu_assign rfl) ?_
    refine Go.Sl.L.ac0 rfl trivial (ac_st sz_37 rfl rfl (by repeat constructor) rfl rfl rfl rfl) ?_
    rintro _ _ rfl
    refine Go.Sl.L.nil ?_
    refine Gs.then_n ?_
    refine Gs.seq ?_
    refine Gs.regD mixed (by kernel_rfl) ?_
    refine Rg.pu 0 rfl rfl (by kernel_rfl) trivial (pu_fa fa_37_1 rfl) ?_
    refine Rg.rd 1 rfl rfl (by kernel_rfl) trivial (rd_ld na_35 rfl (Rdc.cl1 (by repeat constructor) rfl)) ?_
    refine Rg.one (by kernel_rfl) (Stp.ac 2 rfl rfl (by kernel_rfl) trivial (as_call (rises_spec k1 k2) (by repeat constructor) (by repeat constructor))  ?_)
    rintro _ _ ⟨_, ⟨rfl, rfl⟩, rfl⟩
    refine Rg.pu 3 rfl rfl (by kernel_rfl) trivial (pu_not rfl) ?_
    refine Rg.puB 4 rfl rfl (by kernel_rfl) trivial (pu_move rfl) (fun hg4 => ?_) (fun hg4 => ?_)
    · skip
      have hno : mayB (plain1 ps) = false := may_step_no hxp (not_t hg4)
      refine Rg.off 5 rfl rfl (by kernel_rfl) rfl rfl rfl rfl ?_
      refine Rg.off 6 rfl rfl (by kernel_rfl) rfl rfl rfl rfl ?_
      refine Rg.off 7 rfl rfl (by kernel_rfl) rfl rfl rfl rfl ?_
      refine Rg.offU 8 rfl rfl (by kernel_rfl) rfl rfl rfl ?_
      refine Rg.offU 9 rfl rfl (by kernel_rfl) rfl rfl rfl ?_
      refine Rg.offU 10 rfl rfl (by kernel_rfl) rfl rfl rfl ?_
      refine Rg.offU 11 rfl rfl (by kernel_rfl) rfl rfl rfl ?_
      refine Rg.offU 12 rfl rfl (by kernel_rfl) rfl rfl rfl ?_
      refine Rg.offU 13 rfl rfl (by kernel_rfl) rfl rfl rfl ?_
      refine Rg.offU 14 rfl rfl (by kernel_rfl) rfl rfl rfl ?_
      refine Rg.offU 15 rfl rfl (by kernel_rfl) rfl rfl rfl ?_
      refine Rg.offU 16 rfl rfl (by kernel_rfl) rfl rfl rfl ?_
      refine Rg.offU 17 rfl rfl (by kernel_rfl) rfl rfl rfl ?_
      refine Rg.off 18 rfl rfl (by kernel_rfl) rfl rfl rfl rfl ?_
      refine Rg.pu 19 rfl rfl (by kernel_rfl) trivial (by first | exact pu_pick_t rfl rfl | exact pu_pick_f rfl rfl) ?_
      refine Rg.end (by kernel_rfl) ?_
      refine Gs.then_n ?_
      refine Gs.cond_t rfl ?_
      refine Gs.seq ?_
      refine Gs.reg ?_
      refine Go.Sl.L.pu rfl rfl trivial (pu_assign rfl) ?_
      refine Go.Sl.L.nil ?_
      refine Gs.then_n ?_
      refine Gs.ret ?_
      refine Gs.blk_r ?_
      refine Gs.then_r ?_
      refine Gs.then_r ?_
      refine Gs.blk_r ?_
      refine Gs.then_r ?_
      exact Gs.fin1 Try.results17 rfl _ (⟨by rw [hno], rfl⟩) (by repeat constructor)
    · skip
      have hri : risesB x.p.2 = true := not_f hg4
      refine Rg.pu 5 rfl rfl (by kernel_rfl) ⟨_, rfl, rfl⟩ (pu_move rfl) ?_
      refine Rg.pu 6 rfl rfl (by kernel_rfl) ⟨_, rfl, rfl⟩ (pu_gt rfl rfl) ?_
      refine Rg.puB 7 rfl rfl (by kernel_rfl) ⟨_, rfl, rfl⟩ (pu_move rfl) (fun hg7 => ?_) (fun hg7 => ?_)
      · skip
        have hi0 : 0 < i := by have := of_decide_eq_true hg7; omega
        obtain ⟨y, hy⟩ : ∃ x, ps[i - 1]? = some x := ⟨ps[i - 1]'(by omega), by simp⟩
        have hst := may_stepS hi0 hxp (plain_at hy) hm
        rw [hri, Bool.true_and] at hst
        refine Rg.pu 8 rfl rfl (by kernel_rfl) ⟨_, rfl, rfl⟩ (pu_move rfl) ?_
        refine Rg.pu 9 rfl rfl (by kernel_rfl) ⟨_, rfl, rfl⟩ (pu_move rfl) ?_
        refine Rg.pu 10 rfl rfl (by kernel_rfl) ⟨_, rfl, rfl⟩ (pu_subI (z := ((i - 1 : Nat) : Int)) rfl rfl (by omega) (by omega) (by omega)) ?_
        refine Rg.pu 11 rfl rfl (by kernel_rfl) ⟨_, rfl, rfl⟩ (pu_ia se_30 rfl rfl (by omega) (by omega)) ?_
        refine Rg.pu 12 rfl rfl (by kernel_rfl) ⟨_, rfl, rfl⟩ (pu_fa fa_37_0 rfl) ?_
        refine Rg.rd 13 rfl rfl (by kernel_rfl) ⟨_, rfl, rfl⟩ (rd_lda ag_34 rfl (Rdc.elp 2 (hS.1.h (by repeat constructor)) hy rfl rfl) rfl) ?_
        refine Rg.pu 14 rfl rfl (by kernel_rfl) ⟨_, rfl, rfl⟩ (pu_fa fa_37_0 rfl) ?_
        refine Rg.rd 15 rfl rfl (by kernel_rfl) ⟨_, rfl, rfl⟩ (rd_lda ag_34 rfl (Rdc.cl 2 (by repeat constructor) rfl) rfl) ?_
        refine Rg.one (by kernel_rfl) (Stp.ac 16 rfl rfl (by kernel_rfl) ⟨_, rfl, rfl⟩ (as_call (beforeR_spec y.k x.k) (by repeat constructor) (by repeat constructor))  ?_)
        rintro _ _ ⟨_, ⟨rfl, rfl⟩, rfl⟩
        refine Rg.pu 17 rfl rfl (by kernel_rfl) ⟨_, rfl, rfl⟩ (pu_not rfl) ?_
        refine Rg.pu 18 rfl rfl (by kernel_rfl) ⟨_, rfl, rfl⟩ (by first | exact pu_pick_t rfl rfl | exact pu_pick_f rfl rfl) ?_
        refine Rg.pu 19 rfl rfl (by kernel_rfl) trivial (by first | exact pu_pick_t rfl rfl | exact pu_pick_f rfl rfl) ?_
        refine Rg.end (by kernel_rfl) ?_
        refine Gs.then_n ?_
        refine Gs.cond rfl (fun hc1 => ?_) (fun hc1 => ?_)
        · skip
          have hno : mayB (plain1 ps) = false := may_not (i := i + 1) (by rw [hst]; exact not_t hc1)
          refine Gs.seq ?_
          refine Gs.reg ?_
          refine Go.Sl.L.pu rfl rfl trivial (pu_assign rfl) ?_
          refine Go.Sl.L.nil ?_
          refine Gs.then_n ?_
          refine Gs.ret ?_
          refine Gs.blk_r ?_
          refine Gs.then_r ?_
          refine Gs.then_r ?_
          refine Gs.blk_r ?_
          refine Gs.then_r ?_
          exact Gs.fin1 Try.results17 rfl _ (⟨by rw [hno], rfl⟩) (by repeat constructor)
        · skip
          have hyes : mayB ((plain1 ps).take (i + 1)) = true := by rw [hst]; exact not_f hc1
          refine Gs.skip ?_
          refine Gs.blk_n ?_
          refine Gs.then_n ?_
          refine Gs.reg ?_
          refine Go.Sl.L.pu rfl rfl trivial (by first | exact pu_addI rfl rfl rfl (by omega) (by omega) | exact pu_add rfl rfl) ?_
          refine Go.Sl.L.pu rfl rfl trivial (pu_move rfl) ?_
          refine Go.Sl.L.nil ?_
          refine Gs.then_n ?_
          exact Gs.again1 (i + 1) ⟨by omega, hyes⟩ (by omega) (by repeat constructor) (by repeat constructor)
      · skip
        have hi0 : i = 0 := by have := of_decide_eq_false hg7; omega
        have hyes : mayB ((plain1 ps).take (i + 1)) = true := by rw [may_step0 hi0 hxp]; exact hri
        refine Rg.off 8 rfl rfl (by kernel_rfl) rfl rfl rfl rfl ?_
        refine Rg.off 9 rfl rfl (by kernel_rfl) rfl rfl rfl rfl ?_
        refine Rg.off 10 rfl rfl (by kernel_rfl) rfl rfl rfl rfl ?_
        refine Rg.off 11 rfl rfl (by kernel_rfl) rfl rfl rfl rfl ?_
        refine Rg.off 12 rfl rfl (by kernel_rfl) rfl rfl rfl rfl ?_
        refine Rg.off 13 rfl rfl (by kernel_rfl) rfl rfl rfl rfl ?_
        refine Rg.off 14 rfl rfl (by kernel_rfl) rfl rfl rfl rfl ?_
        refine Rg.off 15 rfl rfl (by kernel_rfl) rfl rfl rfl rfl ?_
        refine Rg.off 16 rfl rfl (by kernel_rfl) rfl rfl rfl rfl ?_
        refine Rg.off 17 rfl rfl (by kernel_rfl) rfl rfl rfl rfl ?_
        refine Rg.pu 18 rfl rfl (by kernel_rfl) ⟨_, rfl, rfl⟩ (by first | exact pu_pick_t rfl rfl | exact pu_pick_f rfl rfl) ?_
        refine Rg.pu 19 rfl rfl (by kernel_rfl) trivial (by first | exact pu_pick_t rfl rfl | exact pu_pick_f rfl rfl) ?_
        refine Rg.end (by kernel_rfl) ?_
        refine Gs.then_n ?_
        refine Gs.cond_f rfl ?_
        refine Gs.skip ?_
        refine Gs.blk_n ?_
        refine Gs.then_n ?_
        refine Gs.reg ?_
        refine Go.Sl.L.pu rfl rfl trivial (by first | exact pu_addI rfl rfl rfl (by omega) (by omega) | exact pu_add rfl rfl) ?_
        refine Go.Sl.L.pu rfl rfl trivial (pu_move rfl) ?_
        refine Go.Sl.L.nil ?_
        refine Gs.then_n ?_
        exact Gs.again1 (i + 1) ⟨by omega, hyes⟩ (by omega) (by repeat constructor) (by repeat constructor)
  · skip
    have hge : i = ps.length := by have := of_decide_eq_false hc0; omega
    rw [hge, List.take_of_length_le (by simp)] at hm
    refine Gs.exit ?_
    refine Gs.then_x ?_
    refine Gs.then_x ?_
    refine Gs.blk_hit ?_
    refine Gs.then_n ?_
    refine Gs.seq ?_
    refine Gs.reg ?_
    refine Go.Sl.L.pu rfl rfl trivial (pu_assign rfl) ?_
    refine Go.Sl.L.nil ?_
    refine Gs.then_n ?_
    refine Gs.ret ?_
    exact Gs.fin1 Try.results17 rfl _ (⟨by rw [hm], rfl⟩) (by repeat constructor)
theorem may10_spec {S : HProp} {a : Option Addr} {c : Nat} {ps : List PostV} (hS : PRd S a ps) (hl : ps.length ≤ 1000) :
    Ct Try.prog 18 [.slice a ps.length c] [S] (fun v hs => v = .bool (mayB (plain1 ps)) ∧ hs = [S]) := by
  refine Ct.intro Try.func18 rfl (by kernel_rfl) 35 Try.ntmps18 (Nat.le_of_ble_eq_true rfl) fun w0 R => ?_
  refine Gs.slAddr (hS.1.h (by repeat constructor)) fun ab ao ha => ?_
  refine Gs.seq ?_
  refine Gs.reg ?_
  refine Go.Sl.L.pu rfl rfl trivial (pu_assign rfl) ?_
  refine Go.Sl.L.nil ?_
  refine Gs.then_n ?_
  refine Gs.seq ?_
  refine Gs.seq ?_
  refine Gs.reg ?_
  refine Go.Sl.L.pu rfl rfl trivial (pu_assign rfl) ?_
  refine Go.Sl.L.nil ?_
  refine Gs.then_n ?_
  refine Gs.block ?_
  refine Gs.loop1 (fun i : Nat => i ≤ ps.length ∧ mayB ((plain1 ps).take i) = true) (fun i => [(0, .slice a ps.length c), (3, int i)]) (fun _ => [S] ++ R) (fun i => ps.length - i) 0 (⟨Nat.zero_le _, rfl⟩) (by repeat constructor) (by repeat constructor) (fun i ⟨hi, hm⟩ => ?_)
  refine Gs.seq ?_
  refine Gs.seq ?_
  refine Gs.reg ?_
  refine Go.Sl.L.pu rfl rfl trivial (pu_move rfl) ?_
  refine Go.Sl.L.pu rfl rfl trivial (pu_move rfl) ?_
  refine Go.Sl.L.pu rfl rfl trivial (pu_len Try.underlying30 rfl) ?_
  refine Go.Sl.L.pu rfl rfl trivial (pu_lt rfl rfl) ?_
  refine Go.Sl.L.nil ?_
  refine Gs.then_n ?_
  refine Gs.cond rfl (fun hc0 => ?_) (fun hc0 => ?_)
  · skip
    have hlt : i < ps.length := by have := of_decide_eq_true hc0; omega
    obtain ⟨x, hx⟩ : ∃ x, ps[i]? = some x := ⟨ps[i], by simp [hlt]⟩
    obtain rfl := ha (by rintro rfl; simp at hlt)
    obtain ⟨k1, k2⟩ := hS.2 x (List.mem_of_getElem? hx)
    have hxp := plain_at hx
    refine Gs.skip ?_
    refine Gs.then_n ?_
    refine Gs.seq ?_
    refine Gs.block ?_
    refine Gs.seq ?_
    refine Gs.regD mixed (by kernel_rfl) ?_
    refine Rg.pu 0 rfl rfl (by kernel_rfl) trivial (pu_move rfl) ?_
    refine Rg.pu 1 rfl rfl (by kernel_rfl) trivial (pu_move rfl) ?_
    refine Rg.pu 2 rfl rfl (by kernel_rfl) trivial (pu_ia se_30 rfl rfl (by omega) (by omega)) ?_
    refine Rg.rd 3 rfl rfl (by kernel_rfl) trivial (rd_lda ag_37 rfl (Rdc.el0 (hS.1.h (by repeat constructor)) hx rfl rfl) rfl) ?_
    refine Rg.one (by kernel_rfl) (Stp.ac 4 rfl rfl (by kernel_rfl) trivial (as_call (one_spec (p := x) k1 k2) (by repeat constructor) (by repeat constructor))  ?_)
    rintro _ _ ⟨_, ⟨rfl, rfl⟩, rfl⟩
    refine Rg.pu 5 rfl rfl (by kernel_rfl) trivial (pu_not rfl) ?_
    refine Rg.puB 6 rfl rfl (by kernel_rfl) trivial (pu_move rfl) (fun hg6 => ?_) (fun hg6 => ?_)
    · skip
      have hno : mayB (plain1 ps) = false := may_step_no hxp (not_t hg6)
      refine Rg.off 7 rfl rfl (by kernel_rfl) rfl rfl rfl rfl ?_
      refine Rg.off 8 rfl rfl (by kernel_rfl) rfl rfl rfl rfl ?_
      refine Rg.off 9 rfl rfl (by kernel_rfl) rfl rfl rfl rfl ?_
      refine Rg.offU 10 rfl rfl (by kernel_rfl) rfl rfl rfl ?_
      refine Rg.offU 11 rfl rfl (by kernel_rfl) rfl rfl rfl ?_
      refine Rg.offU 12 rfl rfl (by kernel_rfl) rfl rfl rfl ?_
      refine Rg.offU 13 rfl rfl (by kernel_rfl) rfl rfl rfl ?_
      refine Rg.offU 14 rfl rfl (by kernel_rfl) rfl rfl rfl ?_
      refine Rg.offU 15 rfl rfl (by kernel_rfl) rfl rfl rfl ?_
      refine Rg.offU 16 rfl rfl (by kernel_rfl) rfl rfl rfl ?_
      refine Rg.offU 17 rfl rfl (by kernel_rfl) rfl rfl rfl ?_
      refine Rg.offU 18 rfl rfl (by kernel_rfl) rfl rfl rfl ?_
      refine Rg.offU 19 rfl rfl (by kernel_rfl) rfl rfl rfl ?_
      refine Rg.offU 20 rfl rfl (by kernel_rfl) rfl rfl rfl ?_
      refine Rg.offU 21 rfl rfl (by kernel_rfl) rfl rfl rfl ?_
      refine Rg.offU 22 rfl rfl (by kernel_rfl) rfl rfl rfl ?_
      refine Rg.off 23 rfl rfl (by kernel_rfl) rfl rfl rfl rfl ?_
      refine Rg.pu 24 rfl rfl (by kernel_rfl) trivial (by first | exact pu_pick_t rfl rfl | exact pu_pick_f rfl rfl) ?_
      refine Rg.end (by kernel_rfl) ?_
      refine Gs.then_n ?_
      refine Gs.cond_t rfl ?_
      refine Gs.seq ?_
      refine Gs.reg ?_
      refine Go.Sl.L.pu rfl rfl trivial (pu_assign rfl) ?_
      refine Go.Sl.L.nil ?_
      refine Gs.then_n ?_
      refine Gs.ret ?_
      refine Gs.blk_r ?_
      refine Gs.then_r ?_
      refine Gs.then_r ?_
      refine Gs.blk_r ?_
      refine Gs.then_r ?_
      exact Gs.fin1 Try.results18 rfl _ (⟨by rw [hno], rfl⟩) (by repeat constructor)
    · skip
      have hri : risesB x.p.2 = true := not_f hg6
      refine Rg.pu 7 rfl rfl (by kernel_rfl) ⟨_, rfl, rfl⟩ (pu_move rfl) ?_
      refine Rg.pu 8 rfl rfl (by kernel_rfl) ⟨_, rfl, rfl⟩ (pu_gt rfl rfl) ?_
      refine Rg.puB 9 rfl rfl (by kernel_rfl) ⟨_, rfl, rfl⟩ (pu_move rfl) (fun hg9 => ?_) (fun hg9 => ?_)
      · skip
        have hi0 : 0 < i := by have := of_decide_eq_true hg9; omega
        obtain ⟨y, hy⟩ : ∃ x, ps[i - 1]? = some x := ⟨ps[i - 1]'(by omega), by simp⟩
        have hst := may_stepS hi0 hxp (plain_at hy) hm
        rw [hri, Bool.true_and] at hst
        refine Rg.pu 10 rfl rfl (by kernel_rfl) ⟨_, rfl, rfl⟩ (pu_move rfl) ?_
        refine Rg.pu 11 rfl rfl (by kernel_rfl) ⟨_, rfl, rfl⟩ (pu_move rfl) ?_
        refine Rg.pu 12 rfl rfl (by kernel_rfl) ⟨_, rfl, rfl⟩ (pu_subI (z := ((i - 1 : Nat) : Int)) rfl rfl (by omega) (by omega) (by omega)) ?_
        refine Rg.pu 13 rfl rfl (by kernel_rfl) ⟨_, rfl, rfl⟩ (pu_ia se_30 rfl rfl (by omega) (by omega)) ?_
        refine Rg.pu 14 rfl rfl (by kernel_rfl) ⟨_, rfl, rfl⟩ (pu_fa fa_37_0 rfl) ?_
        refine Rg.rd 15 rfl rfl (by kernel_rfl) ⟨_, rfl, rfl⟩ (rd_lda ag_34 rfl (Rdc.elp 2 (hS.1.h (by repeat constructor)) hy rfl rfl) rfl) ?_
        refine Rg.pu 16 rfl rfl (by kernel_rfl) ⟨_, rfl, rfl⟩ (pu_move rfl) ?_
        refine Rg.pu 17 rfl rfl (by kernel_rfl) ⟨_, rfl, rfl⟩ (pu_move rfl) ?_
        refine Rg.pu 18 rfl rfl (by kernel_rfl) ⟨_, rfl, rfl⟩ (pu_ia se_30 rfl rfl (by omega) (by omega)) ?_
        refine Rg.pu 19 rfl rfl (by kernel_rfl) ⟨_, rfl, rfl⟩ (pu_fa fa_37_0 rfl) ?_
        refine Rg.rd 20 rfl rfl (by kernel_rfl) ⟨_, rfl, rfl⟩ (rd_lda ag_34 rfl (Rdc.elp 2 (hS.1.h (by repeat constructor)) hx rfl rfl) rfl) ?_
        refine Rg.one (by kernel_rfl) (Stp.ac 21 rfl rfl (by kernel_rfl) ⟨_, rfl, rfl⟩ (as_call (before4_spec y.k x.k) (by repeat constructor) (by repeat constructor))  ?_)
        rintro _ _ ⟨_, ⟨rfl, rfl⟩, rfl⟩
        refine Rg.pu 22 rfl rfl (by kernel_rfl) ⟨_, rfl, rfl⟩ (pu_not rfl) ?_
        refine Rg.pu 23 rfl rfl (by kernel_rfl) ⟨_, rfl, rfl⟩ (by first | exact pu_pick_t rfl rfl | exact pu_pick_f rfl rfl) ?_
        refine Rg.pu 24 rfl rfl (by kernel_rfl) trivial (by first | exact pu_pick_t rfl rfl | exact pu_pick_f rfl rfl) ?_
        refine Rg.end (by kernel_rfl) ?_
        refine Gs.then_n ?_
        refine Gs.cond rfl (fun hc1 => ?_) (fun hc1 => ?_)
        · skip
          have hno : mayB (plain1 ps) = false := may_not (i := i + 1) (by rw [hst]; exact not_t hc1)
          refine Gs.seq ?_
          refine Gs.reg ?_
          refine Go.Sl.L.pu rfl rfl trivial (pu_assign rfl) ?_
          refine Go.Sl.L.nil ?_
          refine Gs.then_n ?_
          refine Gs.ret ?_
          refine Gs.blk_r ?_
          refine Gs.then_r ?_
          refine Gs.then_r ?_
          refine Gs.blk_r ?_
          refine Gs.then_r ?_
          exact Gs.fin1 Try.results18 rfl _ (⟨by rw [hno], rfl⟩) (by repeat constructor)
        · skip
          have hyes : mayB ((plain1 ps).take (i + 1)) = true := by rw [hst]; exact not_f hc1
          refine Gs.skip ?_
          refine Gs.blk_n ?_
          refine Gs.then_n ?_
          refine Gs.reg ?_
          refine Go.Sl.L.pu rfl rfl trivial (pu_move rfl) ?_
          refine Go.Sl.L.pu rfl rfl trivial (by first | exact pu_addI rfl rfl rfl (by omega) (by omega) | exact pu_add rfl rfl) ?_
          refine Go.Sl.L.pu rfl rfl trivial (pu_assign rfl) ?_
          refine Go.Sl.L.nil ?_
          refine Gs.then_n ?_
          exact Gs.again1 (i + 1) ⟨by omega, hyes⟩ (by omega) (by repeat constructor) (by repeat constructor)
      · skip
        have hi0 : i = 0 := by have := of_decide_eq_false hg9; omega
        have hyes : mayB ((plain1 ps).take (i + 1)) = true := by rw [may_step0 hi0 hxp]; exact hri
        refine Rg.off 10 rfl rfl (by kernel_rfl) rfl rfl rfl rfl ?_
        refine Rg.off 11 rfl rfl (by kernel_rfl) rfl rfl rfl rfl ?_
        refine Rg.off 12 rfl rfl (by kernel_rfl) rfl rfl rfl rfl ?_
        refine Rg.off 13 rfl rfl (by kernel_rfl) rfl rfl rfl rfl ?_
        refine Rg.off 14 rfl rfl (by kernel_rfl) rfl rfl rfl rfl ?_
        refine Rg.off 15 rfl rfl (by kernel_rfl) rfl rfl rfl rfl ?_
        refine Rg.off 16 rfl rfl (by kernel_rfl) rfl rfl rfl rfl ?_
        refine Rg.off 17 rfl rfl (by kernel_rfl) rfl rfl rfl rfl ?_
        refine Rg.off 18 rfl rfl (by kernel_rfl) rfl rfl rfl rfl ?_
        refine Rg.off 19 rfl rfl (by kernel_rfl) rfl rfl rfl rfl ?_
        refine Rg.off 20 rfl rfl (by kernel_rfl) rfl rfl rfl rfl ?_
        refine Rg.off 21 rfl rfl (by kernel_rfl) rfl rfl rfl rfl ?_
        refine Rg.off 22 rfl rfl (by kernel_rfl) rfl rfl rfl rfl ?_
        refine Rg.pu 23 rfl rfl (by kernel_rfl) ⟨_, rfl, rfl⟩ (by first | exact pu_pick_t rfl rfl | exact pu_pick_f rfl rfl) ?_
        refine Rg.pu 24 rfl rfl (by kernel_rfl) trivial (by first | exact pu_pick_t rfl rfl | exact pu_pick_f rfl rfl) ?_
        refine Rg.end (by kernel_rfl) ?_
        refine Gs.then_n ?_
        refine Gs.cond_f rfl ?_
        refine Gs.skip ?_
        refine Gs.blk_n ?_
        refine Gs.then_n ?_
        refine Gs.reg ?_
        refine Go.Sl.L.pu rfl rfl trivial (pu_move rfl) ?_
        refine Go.Sl.L.pu rfl rfl trivial (by first | exact pu_addI rfl rfl rfl (by omega) (by omega) | exact pu_add rfl rfl) ?_
        refine Go.Sl.L.pu rfl rfl trivial (pu_assign rfl) ?_
        refine Go.Sl.L.nil ?_
        refine Gs.then_n ?_
        exact Gs.again1 (i + 1) ⟨by omega, hyes⟩ (by omega) (by repeat constructor) (by repeat constructor)
  · skip
    have hge : i = ps.length := by have := of_decide_eq_false hc0; omega
    rw [hge, List.take_of_length_le (by simp)] at hm
    refine Gs.exit ?_
    refine Gs.then_x ?_
    refine Gs.then_x ?_
    refine Gs.blk_hit ?_
    refine Gs.then_n ?_
    refine Gs.seq ?_
    refine Gs.reg ?_
    refine Go.Sl.L.pu rfl rfl trivial (pu_assign rfl) ?_
    refine Go.Sl.L.nil ?_
    refine Gs.then_n ?_
    refine Gs.ret ?_
    exact Gs.fin1 Try.results18 rfl _ (⟨by rw [hm], rfl⟩) (by repeat constructor)
end Go.Proofs.Ytonilkceolbkmaa
