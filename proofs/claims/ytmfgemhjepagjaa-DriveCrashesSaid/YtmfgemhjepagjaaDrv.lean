/- Walks: drive. -/
import Derived.Test.YtmfgemhjepagjaaNamed
import Derived.Test.YtmfgemhjepagjaaClone
namespace Go.Proofs.Ytmfgemhjepagjaa
open Go Go.Sl Go.Gv Go.Kv Go.Dv Go.Bst
set_option maxRecDepth 100000
theorem drvNew_spec (most : Int) : Ct Try.prog 9 [int most] [] (fun v hs => ((most < 0 ∨ 1048576 < most) ∧ v = .pointer none ∧ hs = []) ∨
    (0 ≤ most ∧ most ≤ 1048576 ∧ ∃ b, v = ptr b ∧ hs = [drv b most []])) := by
  refine Ct.intro Try.func9 rfl (by kernel_rfl) 13 Try.ntmps9 (Nat.le_of_ble_eq_true rfl) fun w0 R => ?_
  refine Gs.seq ?_
  refine Gs.reg ?_
  refine Go.Sl.L.pu rfl rfl trivial (pu_assign rfl) ?_
  refine Go.Sl.L.nil ?_
  refine Gs.then_n ?_
  refine Gs.seq ?_
  refine Gs.seq ?_
  refine Gs.reg ?_
  refine Go.Sl.L.pu rfl rfl trivial (pu_move rfl) ?_
  refine Go.Sl.L.pu rfl rfl trivial (pu_lt rfl rfl) ?_
  refine Go.Sl.L.puB rfl rfl trivial (pu_move rfl) (fun hg2 => ?_) (fun hg2 => ?_)
  · skip
    have hg2' := of_decide_eq_true hg2
    refine Go.Sl.L.off rfl rfl rfl rfl rfl rfl ?_
    refine Go.Sl.L.off rfl rfl rfl rfl rfl rfl ?_
    refine Go.Sl.L.pu rfl rfl trivial (by first | exact pu_pick_t rfl rfl | exact pu_pick_f rfl rfl) ?_
    refine Go.Sl.L.nil ?_
    refine Gs.then_n ?_
    refine Gs.cond_t rfl ?_
    refine Gs.seq ?_
    refine Gs.reg ?_
    refine Go.Sl.L.pu rfl rfl trivial (pu_assign rfl) ?_
    refine Go.Sl.L.nil ?_
    refine Gs.then_n ?_
    refine Gs.ret ?_
    refine Gs.then_r ?_
    exact Gs.fin1 Try.results9 rfl _ (.inl ⟨by omega, rfl, rfl⟩) (by repeat constructor)
  · skip
    have hg2' := of_decide_eq_false hg2
    refine Go.Sl.L.pu rfl rfl ⟨_, rfl, rfl⟩ (pu_move rfl) ?_
    refine Go.Sl.L.pu rfl rfl ⟨_, rfl, rfl⟩ (pu_gt rfl rfl) ?_
    refine Go.Sl.L.pu rfl rfl trivial (by first | exact pu_pick_t rfl rfl | exact pu_pick_f rfl rfl) ?_
    refine Go.Sl.L.nil ?_
    refine Gs.then_n ?_
    refine Gs.cond rfl (fun hc => ?_) (fun hc => ?_)
    · skip
      have hc' := of_decide_eq_true hc
      refine Gs.seq ?_
      refine Gs.reg ?_
      refine Go.Sl.L.pu rfl rfl trivial (pu_assign rfl) ?_
      refine Go.Sl.L.nil ?_
      refine Gs.then_n ?_
      refine Gs.ret ?_
      refine Gs.then_r ?_
      exact Gs.fin1 Try.results9 rfl _ (.inl ⟨by omega, rfl, rfl⟩) (by repeat constructor)
    · skip
      have hc' := of_decide_eq_false hc
      refine Gs.skip ?_
      refine Gs.then_n ?_
      refine Gs.seq ?_
      refine Gs.reg ?_
      refine Go.Sl.L.pu rfl rfl trivial (pu_move rfl) ?_
      refine Go.Sl.L.ac rfl rfl trivial (ac_mkmap enck_9 encv_53) ?_
      rintro _ _ ⟨m, rfl, rfl⟩
      refine Go.Sl.L.pu rfl rfl trivial (pu_build bd_51 (by repeat constructor) rfl) ?_
      refine Go.Sl.L.ac rfl rfl trivial (ac_box rfl rfl) ?_
      rintro _ _ ⟨b, rfl, rfl⟩
      refine Go.Sl.L.pu rfl rfl trivial (pu_assign rfl) ?_
      refine Go.Sl.L.nil ?_
      refine Gs.then_n ?_
      refine Gs.ret ?_
      refine Gs.filesNil ?_
      refine Gs.drvClose (P := []) (D := []) (by repeat constructor) rfl (Ok.nil (by omega) (by omega)) ?_
      exact Gs.fin1 Try.results9 rfl _ (.inr ⟨by omega, by omega, b, rfl, rfl⟩) (by repeat constructor)
theorem drvNew_ok (most : Int) (h : 0 ≤ most) (h2 : most ≤ 1048576) : Ct Try.prog 9 [int most] [] (fun v hs => ∃ b, v = ptr b ∧ hs = [drv b most []]) :=
  (drvNew_spec most).mono fun v hs h => by
    rcases h with ⟨h, -⟩ | ⟨-, -, h⟩
    · omega
    · exact h
theorem drvNew_bad (most : Int) (h : most < 0 ∨ 1048576 < most) : Ct Try.prog 9 [int most] [] (fun v hs => v = .pointer none ∧ hs = []) :=
  (drvNew_spec most).mono fun v hs h => by
    rcases h with ⟨-, h⟩ | ⟨h, h', -⟩
    · exact h
    · omega
abbrev fpre (b m : Nat) (most : Int) (P : DP) : List HProp := [cl b 51 (driveC most m), mp strV pv m (pairs P)]
theorem find_some {b m : Nat} {most : Int} {P : DP} {n : ByteArray} {p : Nat} (h : mget (pairs P) n = some (some p)) : Ct Try.prog 24 [ptr b, .string n] (fpre b m most P) (fun v hs => v = .tuple #[ptr p, int 0] ∧ hs = fpre b m most P) := by
  refine Ct.intro Try.func24 rfl (by kernel_rfl) 18 Try.ntmps24 (Nat.le_of_ble_eq_true rfl) fun w0 R => ?_
  refine Gs.seq ?_
  refine Gs.reg ?_
  refine Go.Sl.L.pu rfl rfl trivial (pu_assign rfl) ?_
  refine Go.Sl.L.pu rfl rfl trivial (pu_assign rfl) ?_
  refine Go.Sl.L.nil ?_
  refine Gs.then_n ?_
  refine Gs.seq ?_
  refine Gs.seq ?_
  refine Gs.reg ?_
  refine Go.Sl.L.pu rfl rfl trivial (pu_move rfl) ?_
  refine Go.Sl.L.pu rfl rfl trivial (pu_eqN Try.underlying24 rfl rfl) ?_
  refine Go.Sl.L.nil ?_
  refine Gs.then_n ?_
  refine Gs.cond_f rfl ?_
  refine Gs.skip ?_
  refine Gs.then_n ?_
  refine Gs.seq ?_
  refine Gs.seq ?_
  refine Gs.reg ?_
  refine Go.Sl.L.pu rfl rfl trivial (pu_move rfl) ?_
  refine Go.Sl.L.pu rfl rfl trivial (by first | exact pu_nil rfl | exact pu_nilF rfl) ?_
  refine Go.Sl.L.pu rfl rfl trivial (pu_fa fa_51_1 rfl) ?_
  refine Go.Sl.L.rd rfl rfl trivial (rd_ld na_49 rfl (Rdc.cl1 (by repeat constructor) rfl)) ?_
  refine Go.Sl.L.pu rfl rfl trivial (pu_move rfl) ?_
  refine Go.Sl.L.rd rfl rfl trivial (rd_look1 (k := n) Try.underlying49 kt_9 zvk_53 rfl rfl (by repeat constructor)) ?_
  rw [h]
  refine Go.Sl.L.pu rfl rfl trivial (pu_assign rfl) ?_
  refine Go.Sl.L.nil ?_
  refine Gs.then_n ?_
  refine Gs.seq ?_
  refine Gs.reg ?_
  refine Go.Sl.L.pu rfl rfl trivial (pu_move rfl) ?_
  refine Go.Sl.L.pu rfl rfl trivial (pu_neN Try.underlying53 rfl rfl) ?_
  refine Go.Sl.L.nil ?_
  refine Gs.then_n ?_
  refine Gs.cond_t rfl ?_
  refine Gs.seq ?_
  refine Gs.reg ?_
  refine Go.Sl.L.pu rfl rfl trivial (pu_move rfl) ?_
  refine Go.Sl.L.pu rfl rfl trivial (pu_assign rfl) ?_
  refine Go.Sl.L.pu rfl rfl trivial (pu_assign rfl) ?_
  refine Go.Sl.L.nil ?_
  refine Gs.then_n ?_
  refine Gs.ret ?_
  refine Gs.then_r ?_
  exact Gs.fin2 Try.results24 rfl rfl _ (⟨rfl, rfl⟩) (by repeat constructor)
theorem find_none {b m : Nat} {most : Int} {P : DP} {n : ByteArray} (h : mget (pairs P) n = none) : Ct Try.prog 24 [ptr b, .string n] (fpre b m most P) (fun v hs => v = .tuple #[.pointer none, int 13] ∧ hs = fpre b m most P) := by
  refine Ct.intro Try.func24 rfl (by kernel_rfl) 18 Try.ntmps24 (Nat.le_of_ble_eq_true rfl) fun w0 R => ?_
  refine Gs.seq ?_
  refine Gs.reg ?_
  refine Go.Sl.L.pu rfl rfl trivial (pu_assign rfl) ?_
  refine Go.Sl.L.pu rfl rfl trivial (pu_assign rfl) ?_
  refine Go.Sl.L.nil ?_
  refine Gs.then_n ?_
  refine Gs.seq ?_
  refine Gs.seq ?_
  refine Gs.reg ?_
  refine Go.Sl.L.pu rfl rfl trivial (pu_move rfl) ?_
  refine Go.Sl.L.pu rfl rfl trivial (pu_eqN Try.underlying24 rfl rfl) ?_
  refine Go.Sl.L.nil ?_
  refine Gs.then_n ?_
  refine Gs.cond_f rfl ?_
  refine Gs.skip ?_
  refine Gs.then_n ?_
  refine Gs.seq ?_
  refine Gs.seq ?_
  refine Gs.reg ?_
  refine Go.Sl.L.pu rfl rfl trivial (pu_move rfl) ?_
  refine Go.Sl.L.pu rfl rfl trivial (by first | exact pu_nil rfl | exact pu_nilF rfl) ?_
  refine Go.Sl.L.pu rfl rfl trivial (pu_fa fa_51_1 rfl) ?_
  refine Go.Sl.L.rd rfl rfl trivial (rd_ld na_49 rfl (Rdc.cl1 (by repeat constructor) rfl)) ?_
  refine Go.Sl.L.pu rfl rfl trivial (pu_move rfl) ?_
  refine Go.Sl.L.rd rfl rfl trivial (rd_look1 (k := n) Try.underlying49 kt_9 zvk_53 rfl rfl (by repeat constructor)) ?_
  rw [h]
  refine Go.Sl.L.pu rfl rfl trivial (pu_assign rfl) ?_
  refine Go.Sl.L.nil ?_
  refine Gs.then_n ?_
  refine Gs.seq ?_
  refine Gs.reg ?_
  refine Go.Sl.L.pu rfl rfl trivial (pu_move rfl) ?_
  refine Go.Sl.L.pu rfl rfl trivial (pu_neN Try.underlying53 rfl rfl) ?_
  refine Go.Sl.L.nil ?_
  refine Gs.then_n ?_
  refine Gs.cond_f rfl ?_
  refine Gs.skip ?_
  refine Gs.then_n ?_
  refine Gs.seq ?_
  refine Gs.reg ?_
  refine Go.Sl.L.pu rfl rfl trivial (pu_assign rfl) ?_
  refine Go.Sl.L.pu rfl rfl trivial (pu_assign rfl) ?_
  refine Go.Sl.L.nil ?_
  refine Gs.then_n ?_
  refine Gs.ret ?_
  exact Gs.fin2 Try.results24 rfl rfl _ (⟨rfl, rfl⟩) (by repeat constructor)
theorem find_nil (n : ByteArray) : Ct Try.prog 24 [.pointer none, .string n] [] (fun v hs => v = .tuple #[.pointer none, int 1] ∧ hs = []) := by
  refine Ct.intro Try.func24 rfl (by kernel_rfl) 18 Try.ntmps24 (Nat.le_of_ble_eq_true rfl) fun w0 R => ?_
  refine Gs.seq ?_
  refine Gs.reg ?_
  refine Go.Sl.L.pu rfl rfl trivial (pu_assign rfl) ?_
  refine Go.Sl.L.pu rfl rfl trivial (pu_assign rfl) ?_
  refine Go.Sl.L.nil ?_
  refine Gs.then_n ?_
  refine Gs.seq ?_
  refine Gs.seq ?_
  refine Gs.reg ?_
  refine Go.Sl.L.pu rfl rfl trivial (pu_move rfl) ?_
  refine Go.Sl.L.pu rfl rfl trivial (pu_eqN Try.underlying24 rfl rfl) ?_
  refine Go.Sl.L.nil ?_
  refine Gs.then_n ?_
  refine Gs.cond_t rfl ?_
  refine Gs.seq ?_
  refine Gs.reg ?_
  refine Go.Sl.L.pu rfl rfl trivial (pu_assign rfl) ?_
  refine Go.Sl.L.pu rfl rfl trivial (pu_assign rfl) ?_
  refine Go.Sl.L.nil ?_
  refine Gs.then_n ?_
  refine Gs.ret ?_
  refine Gs.then_r ?_
  exact Gs.fin2 Try.results24 rfl rfl _ (⟨rfl, rfl⟩) (by repeat constructor)
end Go.Proofs.Ytmfgemhjepagjaa
