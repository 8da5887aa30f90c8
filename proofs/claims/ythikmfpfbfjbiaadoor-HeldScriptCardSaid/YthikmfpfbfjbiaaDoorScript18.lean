/- Walk: grapevinelaw18.HeldScript. -/
import Derived.Test.YthikmfpfbfjbiaaDoorDrops18
namespace Go.Proofs.YthikmfpfbfjbiaaDoor
open Go Go.Sl Go.Gv Go.Kv
set_option maxRecDepth 100000

structure ActV where
  do_ : Int
  r : Rec
  wa : Option Addr
  ws : List Int
  wc : Nat
abbrev actC (x : ActV) : List Value := [int x.do_, int x.r.o, int x.r.q, int x.r.w, int x.r.c, .string x.r.t, .slice x.wa x.ws.length x.wc]
theorem script_bad {h0 : Hp} (T : Tabs h0) {aa : Option Addr} {ca : Nat} {acts : List ActV} (hr : slR h0 7 actC aa acts) (most : Int) (hm : most < 0 ∨ 12 < most) :
    Ct Tryd.prog 3 [int most, .slice aa acts.length ca] [ro h0] (fun v hs => v = .bool true ∧ hs = [ro h0]) := by
  refine Ct.intro Tryd.func3 rfl (by kernel_rfl) 163 Tryd.ntmps3 (Nat.le_of_ble_eq_true rfl) fun w0 R => ?_
  refine Gs.slAddr (SlH.ro (by repeat constructor) hr) fun ab ao hra => ?_
  refine Gs.seq ?_
  refine Gs.reg ?_
  refine Go.Sl.L.pu rfl rfl trivial (pu_assign rfl) ?_
  refine Go.Sl.L.nil ?_
  refine Gs.then_n ?_
  refine Gs.seq ?_
  refine Gs.seq ?_
  refine Gs.reg ?_
  refine Go.Sl.L.pu rfl rfl trivial (pu_move rfl) ?_
  refine Go.Sl.L.pu rfl rfl trivial (pu_len Tryd.underlying22 rfl) ?_
  refine Go.Sl.L.pu rfl rfl trivial (pu_gt rfl rfl) ?_
  refine Go.Sl.L.nil ?_
  refine Gs.then_n ?_
  refine Gs.cond rfl (fun hc0 => ?_) (fun hc0 => ?_)
  · skip
    refine Gs.seq ?_
    refine Gs.reg ?_
    refine Go.Sl.L.ac rfl rfl trivial (as_call (awake_spec T) (by repeat constructor) (by repeat constructor)) ?_
    rintro _ _ ⟨_, ⟨rfl, rfl⟩, rfl⟩
    refine Go.Sl.L.pu rfl rfl trivial (pu_assign rfl) ?_
    refine Go.Sl.L.nil ?_
    refine Gs.then_n ?_
    refine Gs.ret ?_
    refine Gs.then_r ?_
    exact Gs.fin1 Tryd.results3 rfl _ (⟨rfl, rfl⟩) (by repeat constructor)
  · skip
    have hl60 : acts.length ≤ 60 := by have := of_decide_eq_false hc0; omega
    refine Gs.skip ?_
    refine Gs.then_n ?_
    refine Gs.seq ?_
    refine Gs.seq ?_
    refine Gs.reg ?_
    refine Go.Sl.L.pu rfl rfl trivial (pu_assign rfl) ?_
    refine Go.Sl.L.nil ?_
    refine Gs.then_n ?_
    refine Gs.block ?_
    refine Gs.loop1 (fun i : Nat => i ≤ acts.length) (fun i => [(0, int most), (1, .slice aa acts.length ca), (5, int i)]) (fun i => [ro h0] ++ R) (fun i => acts.length - i) 0 (Nat.zero_le _) (by repeat constructor) (by repeat constructor) (fun i hi => ?_)
    refine Gs.seq ?_
    refine Gs.seq ?_
    refine Gs.reg ?_
    refine Go.Sl.L.pu rfl rfl trivial (pu_move rfl) ?_
    refine Go.Sl.L.pu rfl rfl trivial (pu_move rfl) ?_
    refine Go.Sl.L.pu rfl rfl trivial (pu_len Tryd.underlying22 rfl) ?_
    refine Go.Sl.L.pu rfl rfl trivial (pu_lt rfl rfl) ?_
    refine Go.Sl.L.nil ?_
    refine Gs.then_n ?_
    refine Gs.cond rfl (fun hc1 => ?_) (fun hc1 => ?_)
    · skip
      have hlt : i < acts.length := by have := of_decide_eq_true hc1; omega
      obtain ⟨x, hx⟩ : ∃ x, acts[i]? = some x := ⟨acts[i], by simp [hlt]⟩
      obtain rfl := hra (by rintro rfl; simp at hlt)
      refine Gs.skip ?_
      refine Gs.then_n ?_
      refine Gs.seq ?_
      refine Gs.block ?_
      refine Gs.seq ?_
      refine Gs.reg ?_
      refine Go.Sl.L.pu rfl rfl trivial (pu_move rfl) ?_
      refine Go.Sl.L.pu rfl rfl trivial (pu_move rfl) ?_
      refine Go.Sl.L.pu rfl rfl trivial (pu_ia se_22 rfl rfl (by omega) (by omega)) ?_
      refine Go.Sl.L.pu rfl rfl trivial (pu_fa fa_32_1 rfl) ?_
      refine Go.Sl.L.pu rfl rfl trivial (pu_fa fa_29_2 rfl) ?_
      refine Go.Sl.L.rd rfl rfl trivial (rd_ld na_9 rfl (Rdc.elp (f := 5) 1 (SlH.ro (by repeat constructor) hr) hx rfl rfl)) ?_
      refine Go.Sl.L.pu rfl rfl trivial (pu_lenS Tryd.underlying9 rfl) ?_
      refine Go.Sl.L.pu rfl rfl trivial (pu_gt rfl rfl) ?_
      refine Go.Sl.L.puB rfl rfl trivial (pu_move rfl) (fun hg8 => ?_) (fun hg8 => ?_)
      · skip
        refine Go.Sl.L.off rfl rfl rfl rfl rfl rfl ?_
        refine Go.Sl.L.off rfl rfl rfl rfl rfl rfl ?_
        refine Go.Sl.L.off rfl rfl rfl rfl rfl rfl ?_
        refine Go.Sl.L.off rfl rfl rfl rfl rfl rfl ?_
        refine Go.Sl.L.off rfl rfl rfl rfl rfl rfl ?_
        refine Go.Sl.L.off rfl rfl rfl rfl rfl rfl ?_
        refine Go.Sl.L.off rfl rfl rfl rfl rfl rfl ?_
        refine Go.Sl.L.pu rfl rfl trivial (by first | exact pu_pick_t rfl rfl | exact pu_pick_f rfl rfl) ?_
        refine Go.Sl.L.nil ?_
        refine Gs.then_n ?_
        refine Gs.cond_t rfl ?_
        refine Gs.seq ?_
        refine Gs.reg ?_
        refine Go.Sl.L.ac rfl rfl trivial (as_call (awake_spec T) (by repeat constructor) (by repeat constructor)) ?_
        rintro _ _ ⟨_, ⟨rfl, rfl⟩, rfl⟩
        refine Go.Sl.L.pu rfl rfl trivial (pu_assign rfl) ?_
        refine Go.Sl.L.nil ?_
        refine Gs.then_n ?_
        refine Gs.ret ?_
        refine Gs.blk_r ?_
        refine Gs.then_r ?_
        refine Gs.then_r ?_
        refine Gs.blk_r ?_
        refine Gs.then_r ?_
        exact Gs.fin1 Tryd.results3 rfl _ (⟨rfl, rfl⟩) (by repeat constructor)
      · skip
        refine Go.Sl.L.pu rfl rfl ⟨_, rfl, rfl⟩ (pu_move rfl) ?_
        refine Go.Sl.L.pu rfl rfl ⟨_, rfl, rfl⟩ (pu_move rfl) ?_
        refine Go.Sl.L.pu rfl rfl ⟨_, rfl, rfl⟩ (pu_ia se_22 rfl rfl (by omega) (by omega)) ?_
        refine Go.Sl.L.pu rfl rfl ⟨_, rfl, rfl⟩ (pu_fa fa_32_2 rfl) ?_
        refine Go.Sl.L.rd rfl rfl ⟨_, rfl, rfl⟩ (rd_ld na_30 rfl (Rdc.elp (f := 6) 1 (SlH.ro (by repeat constructor) hr) hx rfl rfl)) ?_
        refine Go.Sl.L.pu rfl rfl ⟨_, rfl, rfl⟩ (pu_len Tryd.underlying30 rfl) ?_
        refine Go.Sl.L.pu rfl rfl ⟨_, rfl, rfl⟩ (pu_gt rfl rfl) ?_
        refine Go.Sl.L.pu rfl rfl trivial (by first | exact pu_pick_t rfl rfl | exact pu_pick_f rfl rfl) ?_
        refine Go.Sl.L.nil ?_
        refine Gs.then_n ?_
        refine Gs.cond rfl (fun hc2 => ?_) (fun hc2 => ?_)
        · skip
          refine Gs.seq ?_
          refine Gs.reg ?_
          refine Go.Sl.L.ac rfl rfl trivial (as_call (awake_spec T) (by repeat constructor) (by repeat constructor)) ?_
          rintro _ _ ⟨_, ⟨rfl, rfl⟩, rfl⟩
          refine Go.Sl.L.pu rfl rfl trivial (pu_assign rfl) ?_
          refine Go.Sl.L.nil ?_
          refine Gs.then_n ?_
          refine Gs.ret ?_
          refine Gs.blk_r ?_
          refine Gs.then_r ?_
          refine Gs.then_r ?_
          refine Gs.blk_r ?_
          refine Gs.then_r ?_
          exact Gs.fin1 Tryd.results3 rfl _ (⟨rfl, rfl⟩) (by repeat constructor)
        · skip
          refine Gs.skip ?_
          refine Gs.blk_n ?_
          refine Gs.then_n ?_
          refine Gs.reg ?_
          refine Go.Sl.L.pu rfl rfl trivial (pu_move rfl) ?_
          refine Go.Sl.L.pu rfl rfl trivial (by first | exact pu_addI rfl rfl rfl (by omega) (by omega) | exact pu_add rfl rfl) ?_
          refine Go.Sl.L.pu rfl rfl trivial (pu_assign rfl) ?_
          refine Go.Sl.L.nil ?_
          refine Gs.then_n ?_
          exact Gs.again1 (i + 1) (by omega) (by omega) (by repeat constructor) (by repeat constructor)
    · skip
      refine Gs.exit ?_
      refine Gs.then_x ?_
      refine Gs.then_x ?_
      refine Gs.blk_hit ?_
      refine Gs.then_n ?_
      refine Gs.seq ?_
      refine Gs.reg ?_
      refine Go.Sl.L.pu rfl rfl trivial (pu_move rfl) ?_
      refine Go.Sl.L.ac rfl rfl trivial (as_call (new_bad most hm) (by repeat constructor) (by repeat constructor)) ?_
      rintro _ _ ⟨_, ⟨rfl, rfl⟩, rfl⟩
      refine Go.Sl.L.pu rfl rfl trivial (pu_assign rfl) ?_
      refine Go.Sl.L.nil ?_
      refine Gs.then_n ?_
      refine Gs.seq ?_
      refine Gs.seq ?_
      refine Gs.reg ?_
      refine Go.Sl.L.pu rfl rfl trivial (pu_move rfl) ?_
      refine Go.Sl.L.pu rfl rfl trivial (pu_lt rfl rfl) ?_
      refine Go.Sl.L.puB rfl rfl trivial (pu_move rfl) (fun hg2 => ?_) (fun hg2 => ?_)
      · skip
        refine Go.Sl.L.off rfl rfl rfl rfl rfl rfl ?_
        refine Go.Sl.L.off rfl rfl rfl rfl rfl rfl ?_
        refine Go.Sl.L.pu rfl rfl trivial (by first | exact pu_pick_t rfl rfl | exact pu_pick_f rfl rfl) ?_
        refine Go.Sl.L.nil ?_
        refine Gs.then_n ?_
        refine Gs.cond_t rfl ?_
        refine Gs.seq ?_
        refine Gs.reg ?_
        refine Go.Sl.L.pu rfl rfl trivial (pu_move rfl) ?_
        refine Go.Sl.L.pu rfl rfl trivial (pu_eqN Tryd.underlying33 rfl rfl) ?_
        refine Go.Sl.L.puBt rfl rfl trivial (pu_move rfl) rfl ?_
        refine Go.Sl.L.ac rfl rfl ⟨_, rfl, rfl⟩ (as_call (awake_spec T) (by repeat constructor) (by repeat constructor)) ?_
        rintro _ _ ⟨_, ⟨rfl, rfl⟩, rfl⟩
        refine Go.Sl.L.pu rfl rfl trivial (by first | exact pu_pick_t rfl rfl | exact pu_pick_f rfl rfl) ?_
        refine Go.Sl.L.pu rfl rfl trivial (pu_assign rfl) ?_
        refine Go.Sl.L.nil ?_
        refine Gs.then_n ?_
        refine Gs.ret ?_
        refine Gs.then_r ?_
        exact Gs.fin1 Tryd.results3 rfl _ (⟨rfl, rfl⟩) (by repeat constructor)
      · skip
        have h1 := of_decide_eq_false hg2
        refine Go.Sl.L.pu rfl rfl ⟨_, rfl, rfl⟩ (pu_move rfl) ?_
        refine Go.Sl.L.pu rfl rfl ⟨_, rfl, rfl⟩ (pu_gt rfl rfl) ?_
        refine Go.Sl.L.pu rfl rfl trivial (by first | exact pu_pick_t rfl rfl | exact pu_pick_f rfl rfl) ?_
        refine Go.Sl.L.nil ?_
        refine Gs.then_n ?_
        refine Gs.cond_tt rfl (decide_eq_true (by omega)) ?_
        refine Gs.seq ?_
        refine Gs.reg ?_
        refine Go.Sl.L.pu rfl rfl trivial (pu_move rfl) ?_
        refine Go.Sl.L.pu rfl rfl trivial (pu_eqN Tryd.underlying33 rfl rfl) ?_
        refine Go.Sl.L.puBt rfl rfl trivial (pu_move rfl) rfl ?_
        refine Go.Sl.L.ac rfl rfl ⟨_, rfl, rfl⟩ (as_call (awake_spec T) (by repeat constructor) (by repeat constructor)) ?_
        rintro _ _ ⟨_, ⟨rfl, rfl⟩, rfl⟩
        refine Go.Sl.L.pu rfl rfl trivial (by first | exact pu_pick_t rfl rfl | exact pu_pick_f rfl rfl) ?_
        refine Go.Sl.L.pu rfl rfl trivial (pu_assign rfl) ?_
        refine Go.Sl.L.nil ?_
        refine Gs.then_n ?_
        refine Gs.ret ?_
        refine Gs.then_r ?_
        exact Gs.fin1 Tryd.results3 rfl _ (⟨rfl, rfl⟩) (by repeat constructor)
theorem script_good {h0 : Hp} (T : Tabs h0) {aa : Option Addr} {ca : Nat} {acts : List ActV} (hr : slR h0 7 actC aa acts) (hws : ∀ x ∈ acts, slR h0 1 intC x.wa x.ws) (most : Int) (hm : 0 ≤ most) (hm2 : most ≤ 12) :
    Ct Tryd.prog 3 [int most, .slice aa acts.length ca] [ro h0] (fun v hs => v = .bool true ∧ hs = [ro h0]) := by
  refine Ct.intro Tryd.func3 rfl (by kernel_rfl) 163 Tryd.ntmps3 (Nat.le_of_ble_eq_true rfl) fun w0 R => ?_
  refine Gs.slAddr (SlH.ro (by repeat constructor) hr) fun ab ao hra => ?_
  refine Gs.seq ?_
  refine Gs.reg ?_
  refine Go.Sl.L.pu rfl rfl trivial (pu_assign rfl) ?_
  refine Go.Sl.L.nil ?_
  refine Gs.then_n ?_
  refine Gs.seq ?_
  refine Gs.seq ?_
  refine Gs.reg ?_
  refine Go.Sl.L.pu rfl rfl trivial (pu_move rfl) ?_
  refine Go.Sl.L.pu rfl rfl trivial (pu_len Tryd.underlying22 rfl) ?_
  refine Go.Sl.L.pu rfl rfl trivial (pu_gt rfl rfl) ?_
  refine Go.Sl.L.nil ?_
  refine Gs.then_n ?_
  refine Gs.cond rfl (fun hc0 => ?_) (fun hc0 => ?_)
  · skip
    refine Gs.seq ?_
    refine Gs.reg ?_
    refine Go.Sl.L.ac rfl rfl trivial (as_call (awake_spec T) (by repeat constructor) (by repeat constructor)) ?_
    rintro _ _ ⟨_, ⟨rfl, rfl⟩, rfl⟩
    refine Go.Sl.L.pu rfl rfl trivial (pu_assign rfl) ?_
    refine Go.Sl.L.nil ?_
    refine Gs.then_n ?_
    refine Gs.ret ?_
    refine Gs.then_r ?_
    exact Gs.fin1 Tryd.results3 rfl _ (⟨rfl, rfl⟩) (by repeat constructor)
  · skip
    have hl60 : acts.length ≤ 60 := by have := of_decide_eq_false hc0; omega
    refine Gs.skip ?_
    refine Gs.then_n ?_
    refine Gs.seq ?_
    refine Gs.seq ?_
    refine Gs.reg ?_
    refine Go.Sl.L.pu rfl rfl trivial (pu_assign rfl) ?_
    refine Go.Sl.L.nil ?_
    refine Gs.then_n ?_
    refine Gs.block ?_
    refine Gs.loop1 (fun i : Nat => i ≤ acts.length ∧ ∀ x ∈ acts.take i, x.ws.length ≤ 20) (fun i => [(0, int most), (1, .slice aa acts.length ca), (5, int i)]) (fun i => [ro h0] ++ R) (fun i => acts.length - i) 0 (⟨Nat.zero_le _, fun x hx => by simp at hx⟩) (by repeat constructor) (by repeat constructor) (fun i ⟨hi, hi20⟩ => ?_)
    refine Gs.seq ?_
    refine Gs.seq ?_
    refine Gs.reg ?_
    refine Go.Sl.L.pu rfl rfl trivial (pu_move rfl) ?_
    refine Go.Sl.L.pu rfl rfl trivial (pu_move rfl) ?_
    refine Go.Sl.L.pu rfl rfl trivial (pu_len Tryd.underlying22 rfl) ?_
    refine Go.Sl.L.pu rfl rfl trivial (pu_lt rfl rfl) ?_
    refine Go.Sl.L.nil ?_
    refine Gs.then_n ?_
    refine Gs.cond rfl (fun hc1 => ?_) (fun hc1 => ?_)
    · skip
      have hlt : i < acts.length := by have := of_decide_eq_true hc1; omega
      obtain ⟨x, hx⟩ : ∃ x, acts[i]? = some x := ⟨acts[i], by simp [hlt]⟩
      obtain rfl := hra (by rintro rfl; simp at hlt)
      refine Gs.skip ?_
      refine Gs.then_n ?_
      refine Gs.seq ?_
      refine Gs.block ?_
      refine Gs.seq ?_
      refine Gs.reg ?_
      refine Go.Sl.L.pu rfl rfl trivial (pu_move rfl) ?_
      refine Go.Sl.L.pu rfl rfl trivial (pu_move rfl) ?_
      refine Go.Sl.L.pu rfl rfl trivial (pu_ia se_22 rfl rfl (by omega) (by omega)) ?_
      refine Go.Sl.L.pu rfl rfl trivial (pu_fa fa_32_1 rfl) ?_
      refine Go.Sl.L.pu rfl rfl trivial (pu_fa fa_29_2 rfl) ?_
      refine Go.Sl.L.rd rfl rfl trivial (rd_ld na_9 rfl (Rdc.elp (f := 5) 1 (SlH.ro (by repeat constructor) hr) hx rfl rfl)) ?_
      refine Go.Sl.L.pu rfl rfl trivial (pu_lenS Tryd.underlying9 rfl) ?_
      refine Go.Sl.L.pu rfl rfl trivial (pu_gt rfl rfl) ?_
      refine Go.Sl.L.puB rfl rfl trivial (pu_move rfl) (fun hg8 => ?_) (fun hg8 => ?_)
      · skip
        refine Go.Sl.L.off rfl rfl rfl rfl rfl rfl ?_
        refine Go.Sl.L.off rfl rfl rfl rfl rfl rfl ?_
        refine Go.Sl.L.off rfl rfl rfl rfl rfl rfl ?_
        refine Go.Sl.L.off rfl rfl rfl rfl rfl rfl ?_
        refine Go.Sl.L.off rfl rfl rfl rfl rfl rfl ?_
        refine Go.Sl.L.off rfl rfl rfl rfl rfl rfl ?_
        refine Go.Sl.L.off rfl rfl rfl rfl rfl rfl ?_
        refine Go.Sl.L.pu rfl rfl trivial (by first | exact pu_pick_t rfl rfl | exact pu_pick_f rfl rfl) ?_
        refine Go.Sl.L.nil ?_
        refine Gs.then_n ?_
        refine Gs.cond_t rfl ?_
        refine Gs.seq ?_
        refine Gs.reg ?_
        refine Go.Sl.L.ac rfl rfl trivial (as_call (awake_spec T) (by repeat constructor) (by repeat constructor)) ?_
        rintro _ _ ⟨_, ⟨rfl, rfl⟩, rfl⟩
        refine Go.Sl.L.pu rfl rfl trivial (pu_assign rfl) ?_
        refine Go.Sl.L.nil ?_
        refine Gs.then_n ?_
        refine Gs.ret ?_
        refine Gs.blk_r ?_
        refine Gs.then_r ?_
        refine Gs.then_r ?_
        refine Gs.blk_r ?_
        refine Gs.then_r ?_
        exact Gs.fin1 Tryd.results3 rfl _ (⟨rfl, rfl⟩) (by repeat constructor)
      · skip
        refine Go.Sl.L.pu rfl rfl ⟨_, rfl, rfl⟩ (pu_move rfl) ?_
        refine Go.Sl.L.pu rfl rfl ⟨_, rfl, rfl⟩ (pu_move rfl) ?_
        refine Go.Sl.L.pu rfl rfl ⟨_, rfl, rfl⟩ (pu_ia se_22 rfl rfl (by omega) (by omega)) ?_
        refine Go.Sl.L.pu rfl rfl ⟨_, rfl, rfl⟩ (pu_fa fa_32_2 rfl) ?_
        refine Go.Sl.L.rd rfl rfl ⟨_, rfl, rfl⟩ (rd_ld na_30 rfl (Rdc.elp (f := 6) 1 (SlH.ro (by repeat constructor) hr) hx rfl rfl)) ?_
        refine Go.Sl.L.pu rfl rfl ⟨_, rfl, rfl⟩ (pu_len Tryd.underlying30 rfl) ?_
        refine Go.Sl.L.pu rfl rfl ⟨_, rfl, rfl⟩ (pu_gt rfl rfl) ?_
        refine Go.Sl.L.pu rfl rfl trivial (by first | exact pu_pick_t rfl rfl | exact pu_pick_f rfl rfl) ?_
        refine Go.Sl.L.nil ?_
        refine Gs.then_n ?_
        refine Gs.cond rfl (fun hc2 => ?_) (fun hc2 => ?_)
        · skip
          refine Gs.seq ?_
          refine Gs.reg ?_
          refine Go.Sl.L.ac rfl rfl trivial (as_call (awake_spec T) (by repeat constructor) (by repeat constructor)) ?_
          rintro _ _ ⟨_, ⟨rfl, rfl⟩, rfl⟩
          refine Go.Sl.L.pu rfl rfl trivial (pu_assign rfl) ?_
          refine Go.Sl.L.nil ?_
          refine Gs.then_n ?_
          refine Gs.ret ?_
          refine Gs.blk_r ?_
          refine Gs.then_r ?_
          refine Gs.then_r ?_
          refine Gs.blk_r ?_
          refine Gs.then_r ?_
          exact Gs.fin1 Tryd.results3 rfl _ (⟨rfl, rfl⟩) (by repeat constructor)
        · skip
          have h20 : x.ws.length ≤ 20 := by have := of_decide_eq_false hc2; omega
          refine Gs.skip ?_
          refine Gs.blk_n ?_
          refine Gs.then_n ?_
          refine Gs.reg ?_
          refine Go.Sl.L.pu rfl rfl trivial (pu_move rfl) ?_
          refine Go.Sl.L.pu rfl rfl trivial (by first | exact pu_addI rfl rfl rfl (by omega) (by omega) | exact pu_add rfl rfl) ?_
          refine Go.Sl.L.pu rfl rfl trivial (pu_assign rfl) ?_
          refine Go.Sl.L.nil ?_
          refine Gs.then_n ?_
          refine Gs.again1 (i + 1) ⟨by omega, fun y hy => ?_⟩ (by omega) (by repeat constructor) (by repeat constructor)
          rw [List.take_add_one, hx] at hy
          rcases List.mem_append.1 hy with h | h
          · exact hi20 y h
          · simp at h; subst h; exact h20
    · skip
      have hge : i = acts.length := by have := of_decide_eq_false hc1; omega
      subst hge
      rw [List.take_length] at hi20
      refine Gs.exit ?_
      refine Gs.then_x ?_
      refine Gs.then_x ?_
      refine Gs.blk_hit ?_
      refine Gs.then_n ?_
      refine Gs.seq ?_
      refine Gs.reg ?_
      refine Go.Sl.L.pu rfl rfl trivial (pu_move rfl) ?_
      refine Go.Sl.L.ac rfl rfl trivial (as_call (new_ok most hm hm2) (by repeat constructor) (by repeat constructor)) ?_
      rintro _ _ ⟨_, ⟨b, m, rfl, rfl⟩, rfl⟩
      refine Go.Sl.L.pu rfl rfl trivial (pu_assign rfl) ?_
      refine Go.Sl.L.nil ?_
      refine Gs.then_n ?_
      refine Gs.seq ?_
      refine Gs.seq ?_
      refine Gs.reg ?_
      refine Go.Sl.L.pu rfl rfl trivial (pu_move rfl) ?_
      refine Go.Sl.L.pu rfl rfl trivial (pu_lt rfl rfl) ?_
      refine Go.Sl.L.puBf rfl rfl trivial (pu_move rfl) (decide_eq_false (by omega)) ?_
      refine Go.Sl.L.pu rfl rfl ⟨_, rfl, rfl⟩ (pu_move rfl) ?_
      refine Go.Sl.L.pu rfl rfl ⟨_, rfl, rfl⟩ (pu_gt rfl rfl) ?_
      refine Go.Sl.L.pu rfl rfl trivial (by first | exact pu_pick_t rfl rfl | exact pu_pick_f rfl rfl) ?_
      refine Go.Sl.L.nil ?_
      refine Gs.then_n ?_
      refine Gs.cond_ff rfl (decide_eq_false (by omega)) ?_
      refine Gs.skip ?_
      refine Gs.then_n ?_
      refine Gs.seq ?_
      refine Gs.seq ?_
      refine Gs.reg ?_
      refine Go.Sl.L.pu rfl rfl trivial (pu_move rfl) ?_
      refine Go.Sl.L.pu rfl rfl trivial (pu_eqN Tryd.underlying33 rfl rfl) ?_
      refine Go.Sl.L.nil ?_
      refine Gs.then_n ?_
      refine Gs.cond_f rfl ?_
      refine Gs.skip ?_
      refine Gs.then_n ?_
      refine Gs.seq ?_
      refine Gs.reg ?_
      refine Go.Sl.L.pu rfl rfl trivial (pu_move rfl) ?_
      refine Go.Sl.L.pu rfl rfl trivial (pu_build bd_38 (by repeat constructor) rfl) ?_
      refine Go.Sl.L.ac rfl rfl trivial (ac_box rfl rfl) ?_
      rintro _ _ ⟨b2, rfl, rfl⟩
      refine Go.Sl.L.pu rfl rfl trivial (pu_assign rfl) ?_
      refine Go.Sl.L.nil ?_
      refine Gs.slNil 29 5 recC ?_
      refine Gs.rhClose (b := b2) (most := most) (L := []) none 0 (by repeat constructor) ?_
      refine Gs.then_n ?_
      refine Gs.seq ?_
      refine Gs.seq ?_
      refine Gs.reg ?_
      refine Go.Sl.L.pu rfl rfl trivial (pu_assign rfl) ?_
      refine Go.Sl.L.nil ?_
      refine Gs.then_n ?_
      refine Gs.block ?_
      refine Gs.loop1 (fun s : Nat × List Rec => s.1 ≤ acts.length ∧ May s.2 ∧ (s.2.length : Int) ≤ most) (fun s => [(1, .slice aa acts.length ca), (6, ptr b), (7, ptr b2), (8, int s.1)]) (fun s => [ro h0, cl b 61 (heldC most m), mp keyV recV m (ents s.2), rh b2 most s.2] ++ R) (fun s => acts.length - s.1) (0, []) (⟨Nat.zero_le _, (fun _ h => by cases h), hm⟩) (by repeat constructor) (by repeat constructor) (fun s hs => ?_)
      obtain ⟨j, L⟩ := s
      obtain ⟨hj, hmay, hlen⟩ := hs
      dsimp only at hj hmay hlen ⊢
      refine Gs.mpNodup (by repeat constructor) fun hnd => ?_
      rw [mkeys_ents] at hnd
      refine Gs.seq ?_
      refine Gs.seq ?_
      refine Gs.reg ?_
      refine Go.Sl.L.pu rfl rfl trivial (pu_move rfl) ?_
      refine Go.Sl.L.pu rfl rfl trivial (pu_move rfl) ?_
      refine Go.Sl.L.pu rfl rfl trivial (pu_len Tryd.underlying22 rfl) ?_
      refine Go.Sl.L.pu rfl rfl trivial (pu_lt rfl rfl) ?_
      refine Go.Sl.L.nil ?_
      refine Gs.then_n ?_
      refine Gs.cond rfl (fun hc5 => ?_) (fun hc5 => ?_)
      · skip
        have hlt : j < acts.length := by have := of_decide_eq_true hc5; omega
        obtain ⟨x, hx⟩ : ∃ x, acts[j]? = some x := ⟨acts[j], by simp [hlt]⟩
        have hxm := List.mem_of_getElem? hx
        have hx20 := hi20 x hxm
        have hxw := hws x hxm
        try obtain rfl := hra (by rintro rfl; simp at hlt)
        refine Gs.skip ?_
        refine Gs.then_n ?_
        refine Gs.seq ?_
        refine Gs.block ?_
        refine Gs.seq ?_
        refine Gs.reg ?_
        refine Go.Sl.L.pu rfl rfl trivial (pu_move rfl) ?_
        refine Go.Sl.L.pu rfl rfl trivial (pu_move rfl) ?_
        refine Go.Sl.L.pu rfl rfl trivial (pu_ia se_22 rfl rfl (by omega) (by omega)) ?_
        refine Go.Sl.L.rd rfl rfl trivial (rd_lda ag_32 rfl (Rdc.el0 (SlH.ro (by repeat constructor) hr) hx rfl rfl) rfl) ?_
        refine Go.Sl.L.ac rfl rfl trivial (ac_alloc zv_32 rfl) ?_
        rintro _ _ ⟨b9, rfl, rfl⟩
        refine Go.Sl.L.ac0 rfl trivial (ac_st sz_32 rfl rfl (by repeat constructor) rfl rfl rfl rfl) ?_
        rintro _ _ rfl
        refine Go.Sl.L.nil ?_
        refine Gs.then_n ?_
        refine Gs.seq ?_
        refine Gs.reg ?_
        refine Go.Sl.L.pu rfl rfl trivial (pu_assign rfl) ?_
        refine Go.Sl.L.nil ?_
        refine Gs.then_n ?_
        refine Gs.seq ?_
        refine Gs.seq ?_
        refine Gs.reg ?_
        refine Go.Sl.L.pu rfl rfl trivial (pu_fa fa_32_0 rfl) ?_
        refine Go.Sl.L.rd rfl rfl trivial (rd_ld na_3 rfl (Rdc.cl1 (by repeat constructor) rfl)) ?_
        refine Go.Sl.L.nil ?_
        refine Gs.then_n ?_
        refine Gs.block ?_
        refine Gs.seq ?_
        refine Gs.reg ?_
        refine Go.Sl.L.pu rfl rfl trivial (pu_eq rfl rfl) ?_
        refine Go.Sl.L.pu rfl rfl trivial (pu_assign rfl) ?_
        refine Go.Sl.L.nil ?_
        refine Gs.then_n ?_
        refine Gs.cond rfl (fun hc6 => ?_) (fun hc6 => ?_)
        · skip
          refine Gs.regD mixed (by kernel_rfl) ?_
          refine Rg.pu 0 rfl rfl (by kernel_rfl) trivial (pu_move rfl) ?_
          refine Rg.pu 1 rfl rfl (by kernel_rfl) trivial (pu_fa fa_32_1 rfl) ?_
          refine Rg.rd 2 rfl rfl (by kernel_rfl) trivial (rd_lda ag_29 rfl (Rdc.cl 5 (by repeat constructor) rfl) rfl) ?_
          refine Rg.pu 5 rfl rfl (by kernel_rfl) trivial (pu_move rfl) ?_
          refine Rg.pu 6 rfl rfl (by kernel_rfl) trivial (pu_fa fa_32_1 rfl) ?_
          refine Rg.rd 7 rfl rfl (by kernel_rfl) trivial (rd_lda ag_29 rfl (Rdc.cl 5 (by repeat constructor) rfl) rfl) ?_
          refine Rg.one (by kernel_rfl) (Stp.acR 3 [7] rfl rfl (by kernel_rfl) trivial (as_call (put_spec T b m most L x.r) (by repeat constructor) (by repeat constructor)) (by rintro _ _ ⟨_, ⟨rfl, rfl⟩, rfl⟩; exact (Reads.cons rfl rfl rfl trivial rfl (rd_lda ag_29 rfl (Rdc.cl 5 (by repeat constructor) rfl) rfl) Reads.nil)) ?_)
          rintro _ _ ⟨_, ⟨rfl, rfl⟩, rfl⟩
          refine Rg.one (by kernel_rfl) (Stp.acR 4 [7] rfl rfl (by kernel_rfl) trivial (as_call (num_spec _) (by repeat constructor) (by repeat constructor)) (by rintro _ _ ⟨_, ⟨rfl, rfl⟩, rfl⟩; exact (Reads.cons rfl rfl rfl trivial rfl (rd_lda ag_29 rfl (Rdc.cl 5 (by repeat constructor) rfl) rfl) Reads.nil)) ?_)
          rintro _ _ ⟨_, ⟨rfl, rfl⟩, rfl⟩
          refine Rg.one (by kernel_rfl) (Stp.ac 8 rfl rfl (by kernel_rfl) trivial (as_call (put18_spec T b2 most L (by omega) x.r) (by repeat constructor) (by repeat constructor))  ?_)
          rintro _ _ ⟨_, ⟨rfl, rfl⟩, rfl⟩
          refine Rg.pu 9 rfl rfl (by kernel_rfl) trivial (pu_eq rfl rfl) ?_
          refine Rg.pu 10 rfl rfl (by kernel_rfl) trivial (pu_assign rfl) ?_
          refine Rg.end (by kernel_rfl) ?_
          rw [show decide (putE most L x.r = putE most L x.r) = true from decide_eq_true rfl]
          have hmay' := hmay.put most x.r
          have hlen' := put_length hlen x.r
          generalize putL most L x.r = L' at hmay' hlen' ⊢
          refine Gs.blk_n ?_
          refine Gs.then_n ?_
          refine Gs.seq ?_
          refine Gs.mpNodup (by repeat constructor) fun hnd' => ?_
          rw [mkeys_ents] at hnd'
          have hkl : (sortK (L'.map Rec.key)).length = L'.length := by rw [sortK_length, List.length_map]
          refine Gs.rhOpen (by repeat constructor) fun a18 c18 => ?_
          refine Gs.reg ?_
          refine Go.Sl.L.pu rfl rfl trivial (pu_move rfl) ?_
          refine Go.Sl.L.ac rfl rfl trivial (as_call (keys_spec b m most L' (by omega)) (by repeat constructor) (by repeat constructor)) ?_
          rintro _ _ ⟨_, ⟨ka, kc, rfl, rfl⟩, rfl⟩
          refine Go.Sl.L.pu rfl rfl trivial (pu_assign rfl) ?_
          refine Go.Sl.L.nil ?_
          refine Gs.then_n ?_
          refine Gs.seq ?_
          refine Gs.seq ?_
          refine Gs.regD mixed (by kernel_rfl) ?_
          refine Rg.pu 0 rfl rfl (by kernel_rfl) trivial (pu_move rfl) ?_
          refine Rg.pu 1 rfl rfl (by kernel_rfl) trivial (pu_not rfl) ?_
          refine Rg.puBf 2 rfl rfl (by kernel_rfl) trivial (pu_move rfl) rfl ?_
          refine Rg.pu 3 rfl rfl (by kernel_rfl) ⟨_, rfl, rfl⟩ (pu_move rfl) ?_
          refine Rg.pu 5 rfl rfl (by kernel_rfl) ⟨_, rfl, rfl⟩ (pu_move rfl) ?_
          refine Rg.pu 6 rfl rfl (by kernel_rfl) ⟨_, rfl, rfl⟩ (by first | exact pu_nil rfl | exact pu_nilF rfl) ?_
          refine Rg.pu 7 rfl rfl (by kernel_rfl) ⟨_, rfl, rfl⟩ (pu_fa fa_38_0 rfl) ?_
          refine Rg.rd 8 rfl rfl (by kernel_rfl) ⟨_, rfl, rfl⟩ (rd_ld na_36 rfl (Rdc.cl1 (by repeat constructor) rfl)) ?_
          refine Rg.pu 9 rfl rfl (by kernel_rfl) ⟨_, rfl, rfl⟩ (pu_len Tryd.underlying36 rfl) ?_
          refine Rg.one (by kernel_rfl) (Stp.acR 4 [8] rfl rfl (by kernel_rfl) ⟨_, rfl, rfl⟩ (as_call (len_spec b m most L') (by repeat constructor) (by repeat constructor)) (by rintro _ _ ⟨_, ⟨rfl, rfl⟩, rfl⟩; exact (Reads.cons rfl rfl rfl ⟨_, rfl, rfl⟩ rfl (rd_ld na_36 rfl (Rdc.cl1 (by repeat constructor) rfl)) Reads.nil)) ?_)
          rintro _ _ ⟨_, ⟨rfl, rfl⟩, rfl⟩
          refine Rg.pu 10 rfl rfl (by kernel_rfl) ⟨_, rfl, rfl⟩ (pu_ne rfl rfl) ?_
          refine Rg.pu 11 rfl rfl (by kernel_rfl) trivial (by first | exact pu_pick_t rfl rfl | exact pu_pick_f rfl rfl) ?_
          refine Rg.puBf 12 rfl rfl (by kernel_rfl) trivial (pu_move rfl) (by simp) ?_
          refine Rg.pu 13 rfl rfl (by kernel_rfl) ⟨_, rfl, rfl⟩ (pu_move rfl) ?_
          refine Rg.pu 14 rfl rfl (by kernel_rfl) ⟨_, rfl, rfl⟩ (pu_move rfl) ?_
          refine Rg.one (by kernel_rfl) (Stp.ac 15 rfl rfl (by kernel_rfl) ⟨_, rfl, rfl⟩ (as_call (keys18_spec b2 most L' (by omega) hnd' a18 c18) (by repeat constructor) (by repeat constructor))  ?_)
          rintro _ _ ⟨_, ⟨qa, qc, rfl, rfl⟩, rfl⟩
          refine Rg.one (by kernel_rfl) (Stp.ac 16 rfl rfl (by kernel_rfl) ⟨_, rfl, rfl⟩ (as_call (sameKeys_spec (a := ka) (b := qa) (xs := sortK (L'.map Rec.key)) (ys := sortK (L'.map Rec.key)) Srd.own Srd.own (by omega)) (by repeat constructor) (by repeat constructor))  ?_)
          rintro _ _ ⟨_, ⟨rfl, rfl⟩, rfl⟩
          refine Rg.pu 17 rfl rfl (by kernel_rfl) ⟨_, rfl, rfl⟩ (pu_not rfl) ?_
          refine Rg.pu 18 rfl rfl (by kernel_rfl) trivial (by first | exact pu_pick_t rfl rfl | exact pu_pick_f rfl rfl) ?_
          refine Rg.end (by kernel_rfl) ?_
          refine Gs.then_n ?_
          refine Gs.cond_ff rfl (by simp) ?_
          refine Gs.skip ?_
          refine Gs.then_n ?_
          refine Gs.rhClose a18 c18 (by repeat constructor) ?_
          refine Gs.reg ?_
          refine Go.Sl.L.pu rfl rfl trivial (pu_move rfl) ?_
          refine Go.Sl.L.ac rfl rfl trivial (as_call (overKeys_spec ka kc (sortK (L'.map Rec.key)) (by omega)) (by repeat constructor) (by repeat constructor)) ?_
          rintro _ _ ⟨_, ⟨rfl, rfl⟩, rfl⟩
          refine Go.Sl.L.nil ?_
          refine Gs.blk_n ?_
          refine Gs.then_n ?_
          refine Gs.reg ?_
          refine Go.Sl.L.pu rfl rfl trivial (pu_move rfl) ?_
          refine Go.Sl.L.pu rfl rfl trivial (by first | exact pu_addI rfl rfl rfl (by omega) (by omega) | exact pu_add rfl rfl) ?_
          refine Go.Sl.L.pu rfl rfl trivial (pu_assign rfl) ?_
          refine Go.Sl.L.nil ?_
          refine Gs.then_n ?_
          exact Gs.again1 (j + 1, L') ⟨by show j + 1 ≤ acts.length; omega, hmay', hlen'⟩ (by show acts.length - (j + 1) < acts.length - j; omega) (by repeat constructor) (by repeat constructor)
        · skip
          refine Gs.seq ?_
          refine Gs.reg ?_
          refine Go.Sl.L.pu rfl rfl trivial (pu_eq rfl rfl) ?_
          refine Go.Sl.L.pu rfl rfl trivial (pu_assign rfl) ?_
          refine Go.Sl.L.nil ?_
          refine Gs.then_n ?_
          refine Gs.cond rfl (fun hc7 => ?_) (fun hc7 => ?_)
          · skip
            refine Gs.seq ?_
            refine Gs.reg ?_
            refine Go.Sl.L.pu rfl rfl trivial (pu_move rfl) ?_
            refine Go.Sl.L.pu rfl rfl trivial (pu_fa fa_32_1 rfl) ?_
            refine Go.Sl.L.pu rfl rfl trivial (pu_fa fa_29_0 rfl) ?_
            refine Go.Sl.L.rd rfl rfl trivial (rd_lda ag_25 rfl (Rdc.cl 2 (by repeat constructor) rfl) rfl) ?_
            refine Go.Sl.L.ac rfl rfl trivial (as_call (next_spec b m most L x.r.key) (by repeat constructor) (by repeat constructor)) ?_
            rintro _ _ ⟨_, ⟨rfl, rfl⟩, rfl⟩
            refine Go.Sl.L.pu rfl rfl trivial (pu_move rfl) ?_
            refine Go.Sl.L.pu rfl rfl trivial (pu_extract rfl rfl) ?_
            refine Go.Sl.L.pu rfl rfl trivial (pu_extract rfl rfl) ?_
            refine Go.Sl.L.ac rfl rfl trivial (ac_alloc zv_29 rfl) ?_
            rintro _ _ ⟨b11, rfl, rfl⟩
            refine Go.Sl.L.ac0 rfl trivial (ac_st sz_29 rfl rfl (by repeat constructor) rfl rfl rfl rfl) ?_
            rintro _ _ rfl
            refine Go.Sl.L.pu rfl rfl trivial (pu_assign rfl) ?_
            refine Go.Sl.L.nil ?_
            refine Gs.then_n ?_
            refine Gs.seq ?_
            refine Gs.reg ?_
            refine Go.Sl.L.pu rfl rfl trivial (pu_move rfl) ?_
            refine Go.Sl.L.pu rfl rfl trivial (pu_fa fa_32_1 rfl) ?_
            refine Go.Sl.L.pu rfl rfl trivial (pu_fa fa_29_0 rfl) ?_
            refine Go.Sl.L.rd rfl rfl trivial (rd_lda ag_25 rfl (Rdc.cl 2 (by repeat constructor) rfl) rfl) ?_
            refine Go.Sl.L.ac rfl rfl trivial (as_call (next18_spec b2 most L (by omega) hnd x.r.key) (by repeat constructor) (by repeat constructor)) ?_
            rintro _ _ ⟨_, ⟨rfl, rfl⟩, rfl⟩
            refine Go.Sl.L.pu rfl rfl trivial (pu_move rfl) ?_
            refine Go.Sl.L.pu rfl rfl trivial (pu_extract rfl rfl) ?_
            refine Go.Sl.L.pu rfl rfl trivial (pu_extract rfl rfl) ?_
            refine Go.Sl.L.ac rfl rfl trivial (ac_alloc zv_29 rfl) ?_
            rintro _ _ ⟨b13, rfl, rfl⟩
            refine Go.Sl.L.ac0 rfl trivial (ac_st sz_29 rfl rfl (by repeat constructor) rfl rfl rfl rfl) ?_
            rintro _ _ rfl
            refine Go.Sl.L.pu rfl rfl trivial (pu_assign rfl) ?_
            refine Go.Sl.L.nil ?_
            refine Gs.then_n ?_
            refine Gs.reg ?_
            refine Go.Sl.L.rd rfl rfl trivial (rd_lda ag_29 rfl (Rdc.cl 5 (by repeat constructor) rfl) rfl) ?_
            refine Go.Sl.L.rd rfl rfl trivial (rd_lda ag_29 rfl (Rdc.cl 5 (by repeat constructor) rfl) rfl) ?_
            refine Go.Sl.L.pu rfl rfl trivial (pu_eqT (a := (look L x.r.key).getD Rec.zero) (b := (look L x.r.key).getD Rec.zero) cmp_29 (by decide) Tryd.eqGuardType29 rfl rfl) ?_
            refine Go.Sl.L.puBt rfl rfl trivial (pu_move rfl) (decide_eq_true rfl) ?_
            refine Go.Sl.L.pu rfl rfl ⟨_, rfl, rfl⟩ (pu_move rfl) ?_
            refine Go.Sl.L.pu rfl rfl ⟨_, rfl, rfl⟩ (pu_move rfl) ?_
            refine Go.Sl.L.pu rfl rfl ⟨_, rfl, rfl⟩ (pu_eqB Tryd.underlying4 rfl rfl) ?_
            rw [show ((look L x.r.key).isSome == (look L x.r.key).isSome) = true by simp]
            refine Go.Sl.L.pu rfl rfl trivial (by first | exact pu_pick_t rfl rfl | exact pu_pick_f rfl rfl) ?_
            refine Go.Sl.L.pu rfl rfl trivial (pu_assign rfl) ?_
            refine Go.Sl.L.nil ?_
            have hmay' := hmay.del x.r.key
            have hlen' : ((delL L x.r.key).length : Int) ≤ most := by
              have : (delL L x.r.key).length ≤ L.length := List.length_filter_le ..
              omega
            generalize delL L x.r.key = L' at hmay' hlen' ⊢
            refine Gs.blk_n ?_
            refine Gs.then_n ?_
            refine Gs.seq ?_
            refine Gs.mpNodup (by repeat constructor) fun hnd' => ?_
            rw [mkeys_ents] at hnd'
            have hkl : (sortK (L'.map Rec.key)).length = L'.length := by rw [sortK_length, List.length_map]
            refine Gs.rhOpen (by repeat constructor) fun a18 c18 => ?_
            refine Gs.reg ?_
            refine Go.Sl.L.pu rfl rfl trivial (pu_move rfl) ?_
            refine Go.Sl.L.ac rfl rfl trivial (as_call (keys_spec b m most L' (by omega)) (by repeat constructor) (by repeat constructor)) ?_
            rintro _ _ ⟨_, ⟨ka, kc, rfl, rfl⟩, rfl⟩
            refine Go.Sl.L.pu rfl rfl trivial (pu_assign rfl) ?_
            refine Go.Sl.L.nil ?_
            refine Gs.then_n ?_
            refine Gs.seq ?_
            refine Gs.seq ?_
            refine Gs.regD mixed (by kernel_rfl) ?_
            refine Rg.pu 0 rfl rfl (by kernel_rfl) trivial (pu_move rfl) ?_
            refine Rg.pu 1 rfl rfl (by kernel_rfl) trivial (pu_not rfl) ?_
            refine Rg.puBf 2 rfl rfl (by kernel_rfl) trivial (pu_move rfl) rfl ?_
            refine Rg.pu 3 rfl rfl (by kernel_rfl) ⟨_, rfl, rfl⟩ (pu_move rfl) ?_
            refine Rg.pu 5 rfl rfl (by kernel_rfl) ⟨_, rfl, rfl⟩ (pu_move rfl) ?_
            refine Rg.pu 6 rfl rfl (by kernel_rfl) ⟨_, rfl, rfl⟩ (by first | exact pu_nil rfl | exact pu_nilF rfl) ?_
            refine Rg.pu 7 rfl rfl (by kernel_rfl) ⟨_, rfl, rfl⟩ (pu_fa fa_38_0 rfl) ?_
            refine Rg.rd 8 rfl rfl (by kernel_rfl) ⟨_, rfl, rfl⟩ (rd_ld na_36 rfl (Rdc.cl1 (by repeat constructor) rfl)) ?_
            refine Rg.pu 9 rfl rfl (by kernel_rfl) ⟨_, rfl, rfl⟩ (pu_len Tryd.underlying36 rfl) ?_
            refine Rg.one (by kernel_rfl) (Stp.acR 4 [8] rfl rfl (by kernel_rfl) ⟨_, rfl, rfl⟩ (as_call (len_spec b m most L') (by repeat constructor) (by repeat constructor)) (by rintro _ _ ⟨_, ⟨rfl, rfl⟩, rfl⟩; exact (Reads.cons rfl rfl rfl ⟨_, rfl, rfl⟩ rfl (rd_ld na_36 rfl (Rdc.cl1 (by repeat constructor) rfl)) Reads.nil)) ?_)
            rintro _ _ ⟨_, ⟨rfl, rfl⟩, rfl⟩
            refine Rg.pu 10 rfl rfl (by kernel_rfl) ⟨_, rfl, rfl⟩ (pu_ne rfl rfl) ?_
            refine Rg.pu 11 rfl rfl (by kernel_rfl) trivial (by first | exact pu_pick_t rfl rfl | exact pu_pick_f rfl rfl) ?_
            refine Rg.puBf 12 rfl rfl (by kernel_rfl) trivial (pu_move rfl) (by simp) ?_
            refine Rg.pu 13 rfl rfl (by kernel_rfl) ⟨_, rfl, rfl⟩ (pu_move rfl) ?_
            refine Rg.pu 14 rfl rfl (by kernel_rfl) ⟨_, rfl, rfl⟩ (pu_move rfl) ?_
            refine Rg.one (by kernel_rfl) (Stp.ac 15 rfl rfl (by kernel_rfl) ⟨_, rfl, rfl⟩ (as_call (keys18_spec b2 most L' (by omega) hnd' a18 c18) (by repeat constructor) (by repeat constructor))  ?_)
            rintro _ _ ⟨_, ⟨qa, qc, rfl, rfl⟩, rfl⟩
            refine Rg.one (by kernel_rfl) (Stp.ac 16 rfl rfl (by kernel_rfl) ⟨_, rfl, rfl⟩ (as_call (sameKeys_spec (a := ka) (b := qa) (xs := sortK (L'.map Rec.key)) (ys := sortK (L'.map Rec.key)) Srd.own Srd.own (by omega)) (by repeat constructor) (by repeat constructor))  ?_)
            rintro _ _ ⟨_, ⟨rfl, rfl⟩, rfl⟩
            refine Rg.pu 17 rfl rfl (by kernel_rfl) ⟨_, rfl, rfl⟩ (pu_not rfl) ?_
            refine Rg.pu 18 rfl rfl (by kernel_rfl) trivial (by first | exact pu_pick_t rfl rfl | exact pu_pick_f rfl rfl) ?_
            refine Rg.end (by kernel_rfl) ?_
            refine Gs.then_n ?_
            refine Gs.cond_ff rfl (by simp) ?_
            refine Gs.skip ?_
            refine Gs.then_n ?_
            refine Gs.rhClose a18 c18 (by repeat constructor) ?_
            refine Gs.reg ?_
            refine Go.Sl.L.pu rfl rfl trivial (pu_move rfl) ?_
            refine Go.Sl.L.ac rfl rfl trivial (as_call (overKeys_spec ka kc (sortK (L'.map Rec.key)) (by omega)) (by repeat constructor) (by repeat constructor)) ?_
            rintro _ _ ⟨_, ⟨rfl, rfl⟩, rfl⟩
            refine Go.Sl.L.nil ?_
            refine Gs.blk_n ?_
            refine Gs.then_n ?_
            refine Gs.reg ?_
            refine Go.Sl.L.pu rfl rfl trivial (pu_move rfl) ?_
            refine Go.Sl.L.pu rfl rfl trivial (by first | exact pu_addI rfl rfl rfl (by omega) (by omega) | exact pu_add rfl rfl) ?_
            refine Go.Sl.L.pu rfl rfl trivial (pu_assign rfl) ?_
            refine Go.Sl.L.nil ?_
            refine Gs.then_n ?_
            exact Gs.again1 (j + 1, L') ⟨by show j + 1 ≤ acts.length; omega, hmay', hlen'⟩ (by show acts.length - (j + 1) < acts.length - j; omega) (by repeat constructor) (by repeat constructor)
          · skip
            refine Gs.seq ?_
            refine Gs.reg ?_
            refine Go.Sl.L.pu rfl rfl trivial (pu_eq rfl rfl) ?_
            refine Go.Sl.L.pu rfl rfl trivial (pu_assign rfl) ?_
            refine Go.Sl.L.nil ?_
            refine Gs.then_n ?_
            refine Gs.cond rfl (fun hc8 => ?_) (fun hc8 => ?_)
            · skip
              refine Gs.seq ?_
              refine Gs.reg ?_
              refine Go.Sl.L.pu rfl rfl trivial (pu_fa fa_32_2 rfl) ?_
              refine Go.Sl.L.rd rfl rfl trivial (rd_ld na_30 rfl (Rdc.cl1 (by repeat constructor) rfl)) ?_
              refine Go.Sl.L.ac rfl rfl trivial (as_call (lendInts_spec (Srd.ro hxw) (by omega)) (by repeat constructor) (by repeat constructor)) ?_
              rintro _ _ ⟨_, ⟨lb, rfl, rfl⟩, rfl⟩
              refine Go.Sl.L.pu rfl rfl trivial (pu_assign rfl) ?_
              refine Go.Sl.L.nil ?_
              refine Gs.then_n ?_
              have hin : Srd (sl 3 1 intC (some ⟨lb, 0, none⟩) (x.ws.length + 3) (x.ws ++ mk3)) 1 intC (some ⟨lb, 0, none⟩) x.ws := fun _ _ _ t => (SlH.own t).pre
              refine Gs.regD mixed (by kernel_rfl) ?_
              refine Rg.pu 0 rfl rfl (by kernel_rfl) trivial (pu_move rfl) ?_
              refine Rg.pu 1 rfl rfl (by kernel_rfl) trivial (pu_move rfl) ?_
              refine Rg.pu 3 rfl rfl (by kernel_rfl) trivial (pu_move rfl) ?_
              refine Rg.pu 4 rfl rfl (by kernel_rfl) trivial (pu_fa fa_32_2 rfl) ?_
              refine Rg.rd 5 rfl rfl (by kernel_rfl) trivial (rd_ld na_30 rfl (Rdc.cl1 (by repeat constructor) rfl)) ?_
              refine Rg.one (by kernel_rfl) (Stp.acR 2 [5] rfl rfl (by kernel_rfl) trivial (as_call (drop_spec b m most L (by omega) hmay.pos hin) (by repeat constructor) (by repeat constructor)) (by rintro _ _ ⟨_, ⟨rfl, rfl⟩, rfl⟩; exact (Reads.cons rfl rfl rfl trivial rfl (rd_ld na_30 rfl (Rdc.cl1 (by repeat constructor) rfl)) Reads.nil)) ?_)
              rintro _ _ ⟨_, ⟨rfl, rfl⟩, rfl⟩
              refine Rg.one (by kernel_rfl) (Stp.ac 6 rfl rfl (by kernel_rfl) trivial (as_call (drop18_spec b2 most L (by omega) hmay.pos (Srd.ro hxw)) (by repeat constructor) (by repeat constructor))  ?_)
              rintro _ _ ⟨_, ⟨rfl, rfl⟩, rfl⟩
              refine Rg.pu 7 rfl rfl (by kernel_rfl) trivial (pu_eq rfl rfl) ?_
              refine Rg.puBt 8 rfl rfl (by kernel_rfl) trivial (pu_move rfl) (decide_eq_true rfl) ?_
              refine Rg.pu 9 rfl rfl (by kernel_rfl) ⟨_, rfl, rfl⟩ (pu_move rfl) ?_
              refine Rg.pu 10 rfl rfl (by kernel_rfl) ⟨_, rfl, rfl⟩ (pu_fa fa_32_2 rfl) ?_
              refine Rg.rd 11 rfl rfl (by kernel_rfl) ⟨_, rfl, rfl⟩ (rd_ld na_30 rfl (Rdc.cl1 (by repeat constructor) rfl)) ?_
              refine Rg.one (by kernel_rfl) (Stp.ac 12 rfl rfl (by kernel_rfl) ⟨_, rfl, rfl⟩ (as_call (keptInts_spec (xs := x.ws) (Srd.ro hxw) (by omega)) (by repeat constructor) (by repeat constructor))  ?_)
              rintro _ _ ⟨_, ⟨rfl, rfl⟩, rfl⟩
              rw [show decide (x.ws = x.ws) = true from decide_eq_true rfl]
              refine Rg.pu 13 rfl rfl (by kernel_rfl) trivial (by first | exact pu_pick_t rfl rfl | exact pu_pick_f rfl rfl) ?_
              refine Rg.pu 14 rfl rfl (by kernel_rfl) trivial (pu_assign rfl) ?_
              refine Rg.end (by kernel_rfl) ?_
              have hmay' := hmay.drop x.ws
              have hlen' : ((dropL x.ws L).length : Int) ≤ most := by
                have := dropL_length x.ws L
                omega
              generalize dropL x.ws L = L' at hmay' hlen' ⊢
              refine Gs.blk_n ?_
              refine Gs.then_n ?_
              refine Gs.seq ?_
              refine Gs.mpNodup (by repeat constructor) fun hnd' => ?_
              rw [mkeys_ents] at hnd'
              have hkl : (sortK (L'.map Rec.key)).length = L'.length := by rw [sortK_length, List.length_map]
              refine Gs.rhOpen (by repeat constructor) fun a18 c18 => ?_
              refine Gs.reg ?_
              refine Go.Sl.L.pu rfl rfl trivial (pu_move rfl) ?_
              refine Go.Sl.L.ac rfl rfl trivial (as_call (keys_spec b m most L' (by omega)) (by repeat constructor) (by repeat constructor)) ?_
              rintro _ _ ⟨_, ⟨ka, kc, rfl, rfl⟩, rfl⟩
              refine Go.Sl.L.pu rfl rfl trivial (pu_assign rfl) ?_
              refine Go.Sl.L.nil ?_
              refine Gs.then_n ?_
              refine Gs.seq ?_
              refine Gs.seq ?_
              refine Gs.regD mixed (by kernel_rfl) ?_
              refine Rg.pu 0 rfl rfl (by kernel_rfl) trivial (pu_move rfl) ?_
              refine Rg.pu 1 rfl rfl (by kernel_rfl) trivial (pu_not rfl) ?_
              refine Rg.puBf 2 rfl rfl (by kernel_rfl) trivial (pu_move rfl) rfl ?_
              refine Rg.pu 3 rfl rfl (by kernel_rfl) ⟨_, rfl, rfl⟩ (pu_move rfl) ?_
              refine Rg.pu 5 rfl rfl (by kernel_rfl) ⟨_, rfl, rfl⟩ (pu_move rfl) ?_
              refine Rg.pu 6 rfl rfl (by kernel_rfl) ⟨_, rfl, rfl⟩ (by first | exact pu_nil rfl | exact pu_nilF rfl) ?_
              refine Rg.pu 7 rfl rfl (by kernel_rfl) ⟨_, rfl, rfl⟩ (pu_fa fa_38_0 rfl) ?_
              refine Rg.rd 8 rfl rfl (by kernel_rfl) ⟨_, rfl, rfl⟩ (rd_ld na_36 rfl (Rdc.cl1 (by repeat constructor) rfl)) ?_
              refine Rg.pu 9 rfl rfl (by kernel_rfl) ⟨_, rfl, rfl⟩ (pu_len Tryd.underlying36 rfl) ?_
              refine Rg.one (by kernel_rfl) (Stp.acR 4 [8] rfl rfl (by kernel_rfl) ⟨_, rfl, rfl⟩ (as_call (len_spec b m most L') (by repeat constructor) (by repeat constructor)) (by rintro _ _ ⟨_, ⟨rfl, rfl⟩, rfl⟩; exact (Reads.cons rfl rfl rfl ⟨_, rfl, rfl⟩ rfl (rd_ld na_36 rfl (Rdc.cl1 (by repeat constructor) rfl)) Reads.nil)) ?_)
              rintro _ _ ⟨_, ⟨rfl, rfl⟩, rfl⟩
              refine Rg.pu 10 rfl rfl (by kernel_rfl) ⟨_, rfl, rfl⟩ (pu_ne rfl rfl) ?_
              refine Rg.pu 11 rfl rfl (by kernel_rfl) trivial (by first | exact pu_pick_t rfl rfl | exact pu_pick_f rfl rfl) ?_
              refine Rg.puBf 12 rfl rfl (by kernel_rfl) trivial (pu_move rfl) (by simp) ?_
              refine Rg.pu 13 rfl rfl (by kernel_rfl) ⟨_, rfl, rfl⟩ (pu_move rfl) ?_
              refine Rg.pu 14 rfl rfl (by kernel_rfl) ⟨_, rfl, rfl⟩ (pu_move rfl) ?_
              refine Rg.one (by kernel_rfl) (Stp.ac 15 rfl rfl (by kernel_rfl) ⟨_, rfl, rfl⟩ (as_call (keys18_spec b2 most L' (by omega) hnd' a18 c18) (by repeat constructor) (by repeat constructor))  ?_)
              rintro _ _ ⟨_, ⟨qa, qc, rfl, rfl⟩, rfl⟩
              refine Rg.one (by kernel_rfl) (Stp.ac 16 rfl rfl (by kernel_rfl) ⟨_, rfl, rfl⟩ (as_call (sameKeys_spec (a := ka) (b := qa) (xs := sortK (L'.map Rec.key)) (ys := sortK (L'.map Rec.key)) Srd.own Srd.own (by omega)) (by repeat constructor) (by repeat constructor))  ?_)
              rintro _ _ ⟨_, ⟨rfl, rfl⟩, rfl⟩
              refine Rg.pu 17 rfl rfl (by kernel_rfl) ⟨_, rfl, rfl⟩ (pu_not rfl) ?_
              refine Rg.pu 18 rfl rfl (by kernel_rfl) trivial (by first | exact pu_pick_t rfl rfl | exact pu_pick_f rfl rfl) ?_
              refine Rg.end (by kernel_rfl) ?_
              refine Gs.then_n ?_
              refine Gs.cond_ff rfl (by simp) ?_
              refine Gs.skip ?_
              refine Gs.then_n ?_
              refine Gs.rhClose a18 c18 (by repeat constructor) ?_
              refine Gs.reg ?_
              refine Go.Sl.L.pu rfl rfl trivial (pu_move rfl) ?_
              refine Go.Sl.L.ac rfl rfl trivial (as_call (overKeys_spec ka kc (sortK (L'.map Rec.key)) (by omega)) (by repeat constructor) (by repeat constructor)) ?_
              rintro _ _ ⟨_, ⟨rfl, rfl⟩, rfl⟩
              refine Go.Sl.L.nil ?_
              refine Gs.blk_n ?_
              refine Gs.then_n ?_
              refine Gs.reg ?_
              refine Go.Sl.L.pu rfl rfl trivial (pu_move rfl) ?_
              refine Go.Sl.L.pu rfl rfl trivial (by first | exact pu_addI rfl rfl rfl (by omega) (by omega) | exact pu_add rfl rfl) ?_
              refine Go.Sl.L.pu rfl rfl trivial (pu_assign rfl) ?_
              refine Go.Sl.L.nil ?_
              refine Gs.then_n ?_
              exact Gs.again1 (j + 1, L') ⟨by show j + 1 ≤ acts.length; omega, hmay', hlen'⟩ (by show acts.length - (j + 1) < acts.length - j; omega) (by repeat constructor) (by repeat constructor)
            · skip
              have hmay' := hmay
              have hlen' := hlen
              generalize L = L' at hmay' hlen' ⊢
              refine Gs.skip ?_
              refine Gs.blk_n ?_
              refine Gs.then_n ?_
              refine Gs.seq ?_
              refine Gs.mpNodup (by repeat constructor) fun hnd' => ?_
              rw [mkeys_ents] at hnd'
              have hkl : (sortK (L'.map Rec.key)).length = L'.length := by rw [sortK_length, List.length_map]
              refine Gs.rhOpen (by repeat constructor) fun a18 c18 => ?_
              refine Gs.reg ?_
              refine Go.Sl.L.pu rfl rfl trivial (pu_move rfl) ?_
              refine Go.Sl.L.ac rfl rfl trivial (as_call (keys_spec b m most L' (by omega)) (by repeat constructor) (by repeat constructor)) ?_
              rintro _ _ ⟨_, ⟨ka, kc, rfl, rfl⟩, rfl⟩
              refine Go.Sl.L.pu rfl rfl trivial (pu_assign rfl) ?_
              refine Go.Sl.L.nil ?_
              refine Gs.then_n ?_
              refine Gs.seq ?_
              refine Gs.seq ?_
              refine Gs.regD mixed (by kernel_rfl) ?_
              refine Rg.pu 0 rfl rfl (by kernel_rfl) trivial (pu_move rfl) ?_
              refine Rg.pu 1 rfl rfl (by kernel_rfl) trivial (pu_not rfl) ?_
              refine Rg.puBf 2 rfl rfl (by kernel_rfl) trivial (pu_move rfl) rfl ?_
              refine Rg.pu 3 rfl rfl (by kernel_rfl) ⟨_, rfl, rfl⟩ (pu_move rfl) ?_
              refine Rg.pu 5 rfl rfl (by kernel_rfl) ⟨_, rfl, rfl⟩ (pu_move rfl) ?_
              refine Rg.pu 6 rfl rfl (by kernel_rfl) ⟨_, rfl, rfl⟩ (by first | exact pu_nil rfl | exact pu_nilF rfl) ?_
              refine Rg.pu 7 rfl rfl (by kernel_rfl) ⟨_, rfl, rfl⟩ (pu_fa fa_38_0 rfl) ?_
              refine Rg.rd 8 rfl rfl (by kernel_rfl) ⟨_, rfl, rfl⟩ (rd_ld na_36 rfl (Rdc.cl1 (by repeat constructor) rfl)) ?_
              refine Rg.pu 9 rfl rfl (by kernel_rfl) ⟨_, rfl, rfl⟩ (pu_len Tryd.underlying36 rfl) ?_
              refine Rg.one (by kernel_rfl) (Stp.acR 4 [8] rfl rfl (by kernel_rfl) ⟨_, rfl, rfl⟩ (as_call (len_spec b m most L') (by repeat constructor) (by repeat constructor)) (by rintro _ _ ⟨_, ⟨rfl, rfl⟩, rfl⟩; exact (Reads.cons rfl rfl rfl ⟨_, rfl, rfl⟩ rfl (rd_ld na_36 rfl (Rdc.cl1 (by repeat constructor) rfl)) Reads.nil)) ?_)
              rintro _ _ ⟨_, ⟨rfl, rfl⟩, rfl⟩
              refine Rg.pu 10 rfl rfl (by kernel_rfl) ⟨_, rfl, rfl⟩ (pu_ne rfl rfl) ?_
              refine Rg.pu 11 rfl rfl (by kernel_rfl) trivial (by first | exact pu_pick_t rfl rfl | exact pu_pick_f rfl rfl) ?_
              refine Rg.puBf 12 rfl rfl (by kernel_rfl) trivial (pu_move rfl) (by simp) ?_
              refine Rg.pu 13 rfl rfl (by kernel_rfl) ⟨_, rfl, rfl⟩ (pu_move rfl) ?_
              refine Rg.pu 14 rfl rfl (by kernel_rfl) ⟨_, rfl, rfl⟩ (pu_move rfl) ?_
              refine Rg.one (by kernel_rfl) (Stp.ac 15 rfl rfl (by kernel_rfl) ⟨_, rfl, rfl⟩ (as_call (keys18_spec b2 most L' (by omega) hnd' a18 c18) (by repeat constructor) (by repeat constructor))  ?_)
              rintro _ _ ⟨_, ⟨qa, qc, rfl, rfl⟩, rfl⟩
              refine Rg.one (by kernel_rfl) (Stp.ac 16 rfl rfl (by kernel_rfl) ⟨_, rfl, rfl⟩ (as_call (sameKeys_spec (a := ka) (b := qa) (xs := sortK (L'.map Rec.key)) (ys := sortK (L'.map Rec.key)) Srd.own Srd.own (by omega)) (by repeat constructor) (by repeat constructor))  ?_)
              rintro _ _ ⟨_, ⟨rfl, rfl⟩, rfl⟩
              refine Rg.pu 17 rfl rfl (by kernel_rfl) ⟨_, rfl, rfl⟩ (pu_not rfl) ?_
              refine Rg.pu 18 rfl rfl (by kernel_rfl) trivial (by first | exact pu_pick_t rfl rfl | exact pu_pick_f rfl rfl) ?_
              refine Rg.end (by kernel_rfl) ?_
              refine Gs.then_n ?_
              refine Gs.cond_ff rfl (by simp) ?_
              refine Gs.skip ?_
              refine Gs.then_n ?_
              refine Gs.rhClose a18 c18 (by repeat constructor) ?_
              refine Gs.reg ?_
              refine Go.Sl.L.pu rfl rfl trivial (pu_move rfl) ?_
              refine Go.Sl.L.ac rfl rfl trivial (as_call (overKeys_spec ka kc (sortK (L'.map Rec.key)) (by omega)) (by repeat constructor) (by repeat constructor)) ?_
              rintro _ _ ⟨_, ⟨rfl, rfl⟩, rfl⟩
              refine Go.Sl.L.nil ?_
              refine Gs.blk_n ?_
              refine Gs.then_n ?_
              refine Gs.reg ?_
              refine Go.Sl.L.pu rfl rfl trivial (pu_move rfl) ?_
              refine Go.Sl.L.pu rfl rfl trivial (by first | exact pu_addI rfl rfl rfl (by omega) (by omega) | exact pu_add rfl rfl) ?_
              refine Go.Sl.L.pu rfl rfl trivial (pu_assign rfl) ?_
              refine Go.Sl.L.nil ?_
              refine Gs.then_n ?_
              exact Gs.again1 (j + 1, L') ⟨by show j + 1 ≤ acts.length; omega, hmay', hlen'⟩ (by show acts.length - (j + 1) < acts.length - j; omega) (by repeat constructor) (by repeat constructor)
      · skip
        refine Gs.exit ?_
        refine Gs.then_x ?_
        refine Gs.then_x ?_
        refine Gs.blk_hit ?_
        refine Gs.then_n ?_
        refine Gs.seq ?_
        have hkl : (sortK (L.map Rec.key)).length = L.length := by rw [sortK_length, List.length_map]
        refine Gs.rhOpen (by repeat constructor) fun a18 c18 => ?_
        refine Gs.reg ?_
        refine Go.Sl.L.pu rfl rfl trivial (pu_move rfl) ?_
        refine Go.Sl.L.ac rfl rfl trivial (as_call (keys_spec b m most L (by omega)) (by repeat constructor) (by repeat constructor)) ?_
        rintro _ _ ⟨_, ⟨ka, kc, rfl, rfl⟩, rfl⟩
        refine Go.Sl.L.pu rfl rfl trivial (pu_move rfl) ?_
        refine Go.Sl.L.ac rfl rfl trivial (as_call (keys18_spec b2 most L (by omega) hnd a18 c18) (by repeat constructor) (by repeat constructor)) ?_
        rintro _ _ ⟨_, ⟨qa, qc, rfl, rfl⟩, rfl⟩
        refine Go.Sl.L.ac rfl rfl trivial (as_call (sameKeys_spec (a := ka) (b := qa) (xs := sortK (L.map Rec.key)) (ys := sortK (L.map Rec.key)) Srd.own Srd.own (by omega)) (by repeat constructor) (by repeat constructor)) ?_
        rintro _ _ ⟨_, ⟨rfl, rfl⟩, rfl⟩
        refine Go.Sl.L.puBt rfl rfl trivial (pu_move rfl) (by simp) ?_
        refine Go.Sl.L.ac rfl rfl ⟨_, rfl, rfl⟩ (as_call (awake_spec T) (by repeat constructor) (by repeat constructor)) ?_
        rintro _ _ ⟨_, ⟨rfl, rfl⟩, rfl⟩
        refine Go.Sl.L.pu rfl rfl trivial (by first | exact pu_pick_t rfl rfl | exact pu_pick_f rfl rfl) ?_
        refine Go.Sl.L.pu rfl rfl trivial (pu_assign rfl) ?_
        refine Go.Sl.L.nil ?_
        refine Gs.then_n ?_
        refine Gs.ret ?_
        exact Gs.fin1 Tryd.results3 rfl _ (⟨rfl, rfl⟩) (by repeat constructor)
theorem heldScript_spec {h0 : Hp} (T : Tabs h0) {aa : Option Addr} {ca : Nat} {acts : List ActV} (hr : slR h0 7 actC aa acts) (hws : ∀ x ∈ acts, slR h0 1 intC x.wa x.ws) (most : Int) :
    Ct Tryd.prog 3 [int most, .slice aa acts.length ca] [ro h0] (fun v hs => v = .bool true ∧ hs = [ro h0]) := by
  by_cases h : most < 0 ∨ 12 < most
  · exact script_bad T hr most h
  · exact script_good T hr hws most (by omega) (by omega)
end Go.Proofs.YthikmfpfbfjbiaaDoor
