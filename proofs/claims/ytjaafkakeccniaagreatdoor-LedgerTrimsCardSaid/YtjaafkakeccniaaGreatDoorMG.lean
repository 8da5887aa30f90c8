/- Texts that stand in one. -/
import Derived.Test.YtjaafkakeccniaaGreatDoorVal
import Derived.Test.YtjaafkakeccniaaGreatDoorMF
/- Walks: what a record may be (record, stamp, tokens and the second copies). -/
namespace Go.Proofs.YtjaafkakeccniaaGreatDoor
open Go Go.Sl Go.Gv
set_option maxRecDepth 100000

def wallB (i : Int) : Bool := decide (0 ≤ i) && decide (i ≤ 1099511627776)
def inB (i m : Int) : Bool := decide (0 ≤ i) && decide (i ≤ m)
def stampB (w c : Int) : Bool := inB w 1099511627776 && inB c 65535
def textB (s : ByteArray) : Bool := decide ((s.size : Int) ≤ 120) && validS s
def keyB (k : Key) : Bool := decide (0 ≤ k.o) && decide (k.o < 8) && decide (1 ≤ k.q) && decide (k.q ≤ 1023)
def recB (r : Rec) : Bool := keyB r.key && stampB r.w r.c && textB r.t

theorem wall_spec (i : Int) : Ct Tryz.prog 116 [int i] [] (fun v hs => v = .bool (inB i 1099511627776) ∧ hs = []) := by
  refine Ct.intro Tryz.func116 rfl (by kernel_rfl) 9 Tryz.ntmps116 (Nat.le_of_ble_eq_true rfl) fun w0 R => ?_
  refine Gs.seq ?_
  refine Gs.reg ?_
  refine Go.Sl.L.pu rfl rfl trivial (pu_assign rfl) ?_
  refine Go.Sl.L.nil ?_
  refine Gs.then_n ?_
  refine Gs.seq ?_
  refine Gs.reg ?_
  refine Go.Sl.L.pu rfl rfl trivial (pu_move rfl) ?_
  refine Go.Sl.L.pu rfl rfl trivial (pu_ge rfl rfl) ?_
  refine Go.Sl.L.puB rfl rfl trivial (pu_move rfl) (fun hg2 => ?_) (fun hg2 => ?_)
  · skip
    have hg2' := of_decide_eq_true hg2
    refine Go.Sl.L.pu rfl rfl ⟨_, rfl, rfl⟩ (pu_move rfl) ?_
    refine Go.Sl.L.pu rfl rfl ⟨_, rfl, rfl⟩ (pu_le rfl rfl) ?_
    refine Go.Sl.L.pu rfl rfl trivial (by first | exact pu_pick_t rfl rfl | exact pu_pick_f rfl rfl) ?_
    refine Go.Sl.L.pu rfl rfl trivial (pu_assign rfl) ?_
    refine Go.Sl.L.nil ?_
    refine Gs.then_n ?_
    refine Gs.ret ?_
    exact Gs.fin1 Tryz.results116 rfl _ (⟨by simp [inB, hg2'], rfl⟩) (by repeat constructor)
  · skip
    have hg2' := of_decide_eq_false hg2
    refine Go.Sl.L.off rfl rfl rfl rfl rfl rfl ?_
    refine Go.Sl.L.off rfl rfl rfl rfl rfl rfl ?_
    refine Go.Sl.L.pu rfl rfl trivial (by first | exact pu_pick_t rfl rfl | exact pu_pick_f rfl rfl) ?_
    refine Go.Sl.L.pu rfl rfl trivial (pu_assign rfl) ?_
    refine Go.Sl.L.nil ?_
    refine Gs.then_n ?_
    refine Gs.ret ?_
    exact Gs.fin1 Tryz.results116 rfl _ (⟨by simp [inB, hg2'], rfl⟩) (by repeat constructor)
theorem in_spec (i m : Int) : Ct Tryz.prog 94 [int i, int m] [] (fun v hs => v = .bool (inB i m) ∧ hs = []) := by
  refine Ct.intro Tryz.func94 rfl (by kernel_rfl) 12 Tryz.ntmps94 (Nat.le_of_ble_eq_true rfl) fun w0 R => ?_
  refine Gs.seq ?_
  refine Gs.reg ?_
  refine Go.Sl.L.pu rfl rfl trivial (pu_assign rfl) ?_
  refine Go.Sl.L.nil ?_
  refine Gs.then_n ?_
  refine Gs.seq ?_
  refine Gs.reg ?_
  refine Go.Sl.L.pu rfl rfl trivial (pu_move rfl) ?_
  refine Go.Sl.L.pu rfl rfl trivial (pu_ge rfl rfl) ?_
  refine Go.Sl.L.puB rfl rfl trivial (pu_move rfl) (fun hg2 => ?_) (fun hg2 => ?_)
  · skip
    have hg2' := of_decide_eq_true hg2
    refine Go.Sl.L.pu rfl rfl ⟨_, rfl, rfl⟩ (pu_move rfl) ?_
    refine Go.Sl.L.pu rfl rfl ⟨_, rfl, rfl⟩ (pu_move rfl) ?_
    refine Go.Sl.L.pu rfl rfl ⟨_, rfl, rfl⟩ (pu_le rfl rfl) ?_
    refine Go.Sl.L.pu rfl rfl trivial (by first | exact pu_pick_t rfl rfl | exact pu_pick_f rfl rfl) ?_
    refine Go.Sl.L.pu rfl rfl trivial (pu_assign rfl) ?_
    refine Go.Sl.L.nil ?_
    refine Gs.then_n ?_
    refine Gs.ret ?_
    exact Gs.fin1 Tryz.results94 rfl _ (⟨by simp [inB, hg2'], rfl⟩) (by repeat constructor)
  · skip
    have hg2' := of_decide_eq_false hg2
    refine Go.Sl.L.off rfl rfl rfl rfl rfl rfl ?_
    refine Go.Sl.L.off rfl rfl rfl rfl rfl rfl ?_
    refine Go.Sl.L.off rfl rfl rfl rfl rfl rfl ?_
    refine Go.Sl.L.pu rfl rfl trivial (by first | exact pu_pick_t rfl rfl | exact pu_pick_f rfl rfl) ?_
    refine Go.Sl.L.pu rfl rfl trivial (pu_assign rfl) ?_
    refine Go.Sl.L.nil ?_
    refine Gs.then_n ?_
    refine Gs.ret ?_
    exact Gs.fin1 Tryz.results94 rfl _ (⟨by simp [inB, hg2'], rfl⟩) (by repeat constructor)
theorem stampMay_spec (w c : Int) : Ct Tryz.prog 96 [.agg #[int w, int c]] [] (fun v hs => v = .bool (stampB w c) ∧ hs = []) := by
  refine Ct.intro Tryz.func96 rfl (by kernel_rfl) 16 Tryz.ntmps96 (Nat.le_of_ble_eq_true rfl) fun w0 R => ?_
  refine Gs.seq ?_
  refine Gs.reg ?_
  refine Go.Sl.L.ac rfl rfl trivial (ac_box rfl rfl) ?_
  rintro _ _ ⟨b1, rfl, rfl⟩
  refine Go.Sl.L.pu rfl rfl trivial (pu_assign rfl) ?_
  refine Go.Sl.L.nil ?_
  refine Gs.then_n ?_
  refine Gs.seq ?_
  refine Gs.reg ?_
  refine Go.Sl.L.pu rfl rfl trivial (pu_fa fa_39_0 rfl) ?_
  refine Go.Sl.L.rd rfl rfl trivial (rd_ld na_3 rfl (Rdc.cl1 (by repeat constructor) rfl)) ?_
  refine Go.Sl.L.ac rfl rfl trivial (as_call (wall_spec _) (by repeat constructor) (by repeat constructor)) ?_
  rintro _ _ ⟨_, ⟨rfl, rfl⟩, rfl⟩
  refine Go.Sl.L.puB rfl rfl trivial (pu_move rfl) (fun hg3 => ?_) (fun hg3 => ?_)
  · skip
    refine Go.Sl.L.pu rfl rfl ⟨_, rfl, rfl⟩ (pu_fa fa_39_1 rfl) ?_
    refine Go.Sl.L.rd rfl rfl ⟨_, rfl, rfl⟩ (rd_ld na_3 rfl (Rdc.cl1 (by repeat constructor) rfl)) ?_
    refine Go.Sl.L.pu rfl rfl ⟨_, rfl, rfl⟩ (pu_ge rfl rfl) ?_
    refine Go.Sl.L.pu rfl rfl trivial (by first | exact pu_pick_t rfl rfl | exact pu_pick_f rfl rfl) ?_
    refine Go.Sl.L.puB rfl rfl trivial (pu_move rfl) (fun hg8 => ?_) (fun hg8 => ?_)
    · skip
      refine Go.Sl.L.pu rfl rfl ⟨_, rfl, rfl⟩ (pu_fa fa_39_1 rfl) ?_
      refine Go.Sl.L.rd rfl rfl ⟨_, rfl, rfl⟩ (rd_ld na_3 rfl (Rdc.cl1 (by repeat constructor) rfl)) ?_
      refine Go.Sl.L.pu rfl rfl ⟨_, rfl, rfl⟩ (pu_le rfl rfl) ?_
      refine Go.Sl.L.pu rfl rfl trivial (by first | exact pu_pick_t rfl rfl | exact pu_pick_f rfl rfl) ?_
      refine Go.Sl.L.pu rfl rfl trivial (pu_assign rfl) ?_
      refine Go.Sl.L.nil ?_
      refine Gs.then_n ?_
      refine Gs.ret ?_
      exact Gs.fin1 Tryz.results96 rfl _ (⟨by grind [stampB, inB], rfl⟩) (by repeat constructor)
    · skip
      refine Go.Sl.L.off rfl rfl rfl rfl rfl rfl ?_
      refine Go.Sl.L.off rfl rfl rfl rfl rfl rfl ?_
      refine Go.Sl.L.off rfl rfl rfl rfl rfl rfl ?_
      refine Go.Sl.L.pu rfl rfl trivial (by first | exact pu_pick_t rfl rfl | exact pu_pick_f rfl rfl) ?_
      refine Go.Sl.L.pu rfl rfl trivial (pu_assign rfl) ?_
      refine Go.Sl.L.nil ?_
      refine Gs.then_n ?_
      refine Gs.ret ?_
      exact Gs.fin1 Tryz.results96 rfl _ (⟨by grind [stampB, inB], rfl⟩) (by repeat constructor)
  · skip
    refine Go.Sl.L.off rfl rfl rfl rfl rfl rfl ?_
    refine Go.Sl.L.off rfl rfl rfl rfl rfl rfl ?_
    refine Go.Sl.L.off rfl rfl rfl rfl rfl rfl ?_
    refine Go.Sl.L.pu rfl rfl trivial (by first | exact pu_pick_t rfl rfl | exact pu_pick_f rfl rfl) ?_
    refine Go.Sl.L.pu rfl rfl trivial (pu_move rfl) ?_
    refine Go.Sl.L.off rfl rfl rfl rfl rfl rfl ?_
    refine Go.Sl.L.off rfl rfl rfl rfl rfl rfl ?_
    refine Go.Sl.L.off rfl rfl rfl rfl rfl rfl ?_
    refine Go.Sl.L.pu rfl rfl trivial (by first | exact pu_pick_t rfl rfl | exact pu_pick_f rfl rfl) ?_
    refine Go.Sl.L.pu rfl rfl trivial (pu_assign rfl) ?_
    refine Go.Sl.L.nil ?_
    refine Gs.then_n ?_
    refine Gs.ret ?_
    exact Gs.fin1 Tryz.results96 rfl _ (⟨by grind [stampB, inB], rfl⟩) (by repeat constructor)
theorem stampMay2_spec (w c : Int) : Ct Tryz.prog 65 [.agg #[int w, int c]] [] (fun v hs => v = .bool (stampB w c) ∧ hs = []) := by
  refine Ct.intro Tryz.func65 rfl (by kernel_rfl) 11 Tryz.ntmps65 (Nat.le_of_ble_eq_true rfl) fun w0 R => ?_
  refine Gs.seq ?_
  refine Gs.reg ?_
  refine Go.Sl.L.ac rfl rfl trivial (ac_box rfl rfl) ?_
  rintro _ _ ⟨b1, rfl, rfl⟩
  refine Go.Sl.L.pu rfl rfl trivial (pu_assign rfl) ?_
  refine Go.Sl.L.nil ?_
  refine Gs.then_n ?_
  refine Gs.seq ?_
  refine Gs.reg ?_
  refine Go.Sl.L.pu rfl rfl trivial (pu_fa fa_39_0 rfl) ?_
  refine Go.Sl.L.rd rfl rfl trivial (rd_ld na_3 rfl (Rdc.cl1 (by repeat constructor) rfl)) ?_
  refine Go.Sl.L.ac rfl rfl trivial (as_call (in_spec _ _) (by repeat constructor) (by repeat constructor)) ?_
  rintro _ _ ⟨_, ⟨rfl, rfl⟩, rfl⟩
  refine Go.Sl.L.puB rfl rfl trivial (pu_move rfl) (fun hg3 => ?_) (fun hg3 => ?_)
  · skip
    refine Go.Sl.L.pu rfl rfl ⟨_, rfl, rfl⟩ (pu_fa fa_39_1 rfl) ?_
    refine Go.Sl.L.rd rfl rfl ⟨_, rfl, rfl⟩ (rd_ld na_3 rfl (Rdc.cl1 (by repeat constructor) rfl)) ?_
    refine Go.Sl.L.ac rfl rfl ⟨_, rfl, rfl⟩ (as_call (in_spec _ _) (by repeat constructor) (by repeat constructor)) ?_
    rintro _ _ ⟨_, ⟨rfl, rfl⟩, rfl⟩
    refine Go.Sl.L.pu rfl rfl trivial (by first | exact pu_pick_t rfl rfl | exact pu_pick_f rfl rfl) ?_
    refine Go.Sl.L.pu rfl rfl trivial (pu_assign rfl) ?_
    refine Go.Sl.L.nil ?_
    refine Gs.then_n ?_
    refine Gs.ret ?_
    exact Gs.fin1 Tryz.results65 rfl _ (⟨by grind [stampB], rfl⟩) (by repeat constructor)
  · skip
    refine Go.Sl.L.off rfl rfl rfl rfl rfl rfl ?_
    refine Go.Sl.L.off rfl rfl rfl rfl rfl rfl ?_
    refine Go.Sl.L.off rfl rfl rfl rfl rfl rfl ?_
    refine Go.Sl.L.pu rfl rfl trivial (by first | exact pu_pick_t rfl rfl | exact pu_pick_f rfl rfl) ?_
    refine Go.Sl.L.pu rfl rfl trivial (pu_assign rfl) ?_
    refine Go.Sl.L.nil ?_
    refine Gs.then_n ?_
    refine Gs.ret ?_
    exact Gs.fin1 Tryz.results65 rfl _ (⟨by grind [stampB], rfl⟩) (by repeat constructor)
theorem textMay_spec {h0 : Hp} (T : Tabs h0) (s : ByteArray) : Ct Tryz.prog 97 [.string s] [ro h0] (fun v hs => v = .bool (textB s) ∧ hs = [ro h0]) := by
  refine Ct.intro Tryz.func97 rfl (by kernel_rfl) 10 Tryz.ntmps97 (Nat.le_of_ble_eq_true rfl) fun w0 R => ?_
  refine Gs.seq ?_
  refine Gs.reg ?_
  refine Go.Sl.L.pu rfl rfl trivial (pu_assign rfl) ?_
  refine Go.Sl.L.nil ?_
  refine Gs.then_n ?_
  refine Gs.seq ?_
  refine Gs.reg ?_
  refine Go.Sl.L.pu rfl rfl trivial (pu_move rfl) ?_
  refine Go.Sl.L.pu rfl rfl trivial (pu_lenS Tryz.underlying9 rfl) ?_
  refine Go.Sl.L.pu rfl rfl trivial (pu_le rfl rfl) ?_
  refine Go.Sl.L.puB rfl rfl trivial (pu_move rfl) (fun hg3 => ?_) (fun hg3 => ?_)
  · skip
    have hg := of_decide_eq_true hg3
    refine Go.Sl.L.pu rfl rfl ⟨_, rfl, rfl⟩ (pu_move rfl) ?_
    refine Go.Sl.L.ac rfl rfl ⟨_, rfl, rfl⟩ (as_call (valid_spec T s (by omega)) (by repeat constructor) (by repeat constructor)) ?_
    rintro _ _ ⟨_, ⟨rfl, rfl⟩, rfl⟩
    refine Go.Sl.L.pu rfl rfl trivial (by first | exact pu_pick_t rfl rfl | exact pu_pick_f rfl rfl) ?_
    refine Go.Sl.L.pu rfl rfl trivial (pu_assign rfl) ?_
    refine Go.Sl.L.nil ?_
    refine Gs.then_n ?_
    refine Gs.ret ?_
    exact Gs.fin1 Tryz.results97 rfl _ (⟨by simp [textB, hg], rfl⟩) (by repeat constructor)
  · skip
    have hg := of_decide_eq_false hg3
    refine Go.Sl.L.off rfl rfl rfl rfl rfl rfl ?_
    refine Go.Sl.L.off rfl rfl rfl rfl rfl rfl ?_
    refine Go.Sl.L.pu rfl rfl trivial (by first | exact pu_pick_t rfl rfl | exact pu_pick_f rfl rfl) ?_
    refine Go.Sl.L.pu rfl rfl trivial (pu_assign rfl) ?_
    refine Go.Sl.L.nil ?_
    refine Gs.then_n ?_
    refine Gs.ret ?_
    exact Gs.fin1 Tryz.results97 rfl _ (⟨by simp [textB, hg], rfl⟩) (by repeat constructor)
theorem textMay1_spec {h0 : Hp} (T : Tabs h0) (s : ByteArray) : Ct Tryz.prog 66 [.string s] [ro h0] (fun v hs => v = .bool (textB s) ∧ hs = [ro h0]) := by
  refine Ct.intro Tryz.func66 rfl (by kernel_rfl) 10 Tryz.ntmps66 (Nat.le_of_ble_eq_true rfl) fun w0 R => ?_
  refine Gs.seq ?_
  refine Gs.reg ?_
  refine Go.Sl.L.pu rfl rfl trivial (pu_assign rfl) ?_
  refine Go.Sl.L.nil ?_
  refine Gs.then_n ?_
  refine Gs.seq ?_
  refine Gs.reg ?_
  refine Go.Sl.L.pu rfl rfl trivial (pu_move rfl) ?_
  refine Go.Sl.L.pu rfl rfl trivial (pu_lenS Tryz.underlying9 rfl) ?_
  refine Go.Sl.L.pu rfl rfl trivial (pu_le rfl rfl) ?_
  refine Go.Sl.L.puB rfl rfl trivial (pu_move rfl) (fun hg3 => ?_) (fun hg3 => ?_)
  · skip
    have hg := of_decide_eq_true hg3
    refine Go.Sl.L.pu rfl rfl ⟨_, rfl, rfl⟩ (pu_move rfl) ?_
    refine Go.Sl.L.ac rfl rfl ⟨_, rfl, rfl⟩ (as_call (valid_spec T s (by omega)) (by repeat constructor) (by repeat constructor)) ?_
    rintro _ _ ⟨_, ⟨rfl, rfl⟩, rfl⟩
    refine Go.Sl.L.pu rfl rfl trivial (by first | exact pu_pick_t rfl rfl | exact pu_pick_f rfl rfl) ?_
    refine Go.Sl.L.pu rfl rfl trivial (pu_assign rfl) ?_
    refine Go.Sl.L.nil ?_
    refine Gs.then_n ?_
    refine Gs.ret ?_
    exact Gs.fin1 Tryz.results66 rfl _ (⟨by simp [textB, hg], rfl⟩) (by repeat constructor)
  · skip
    have hg := of_decide_eq_false hg3
    refine Go.Sl.L.off rfl rfl rfl rfl rfl rfl ?_
    refine Go.Sl.L.off rfl rfl rfl rfl rfl rfl ?_
    refine Go.Sl.L.pu rfl rfl trivial (by first | exact pu_pick_t rfl rfl | exact pu_pick_f rfl rfl) ?_
    refine Go.Sl.L.pu rfl rfl trivial (pu_assign rfl) ?_
    refine Go.Sl.L.nil ?_
    refine Gs.then_n ?_
    refine Gs.ret ?_
    exact Gs.fin1 Tryz.results66 rfl _ (⟨by simp [textB, hg], rfl⟩) (by repeat constructor)
theorem keyMay_spec (k : Key) : Ct Tryz.prog 64 [keyV k] [] (fun v hs => v = .bool (keyB k) ∧ hs = []) := by
  refine Ct.intro Tryz.func64 rfl (by kernel_rfl) 21 Tryz.ntmps64 (Nat.le_of_ble_eq_true rfl) fun w0 R => ?_
  refine Gs.seq ?_
  refine Gs.reg ?_
  refine Go.Sl.L.ac rfl rfl trivial (ac_box rfl rfl) ?_
  rintro _ _ ⟨b1, rfl, rfl⟩
  refine Go.Sl.L.pu rfl rfl trivial (pu_assign rfl) ?_
  refine Go.Sl.L.nil ?_
  refine Gs.then_n ?_
  refine Gs.seq ?_
  refine Gs.reg ?_
  refine Go.Sl.L.pu rfl rfl trivial (pu_fa fa_37_0 rfl) ?_
  refine Go.Sl.L.rd rfl rfl trivial (rd_ld na_3 rfl (Rdc.cl1 (by repeat constructor) rfl)) ?_
  refine Go.Sl.L.pu rfl rfl trivial (pu_ge rfl rfl) ?_
  refine Go.Sl.L.puB rfl rfl trivial (pu_move rfl) (fun hg3 => ?_) (fun hg3 => ?_)
  · skip
    refine Go.Sl.L.pu rfl rfl ⟨_, rfl, rfl⟩ (pu_fa fa_37_0 rfl) ?_
    refine Go.Sl.L.rd rfl rfl ⟨_, rfl, rfl⟩ (rd_ld na_3 rfl (Rdc.cl1 (by repeat constructor) rfl)) ?_
    refine Go.Sl.L.pu rfl rfl ⟨_, rfl, rfl⟩ (pu_lt rfl rfl) ?_
    refine Go.Sl.L.pu rfl rfl trivial (by first | exact pu_pick_t rfl rfl | exact pu_pick_f rfl rfl) ?_
    refine Go.Sl.L.puB rfl rfl trivial (pu_move rfl) (fun hg8 => ?_) (fun hg8 => ?_)
    · skip
      refine Go.Sl.L.pu rfl rfl ⟨_, rfl, rfl⟩ (pu_fa fa_37_1 rfl) ?_
      refine Go.Sl.L.rd rfl rfl ⟨_, rfl, rfl⟩ (rd_ld na_3 rfl (Rdc.cl1 (by repeat constructor) rfl)) ?_
      refine Go.Sl.L.pu rfl rfl ⟨_, rfl, rfl⟩ (pu_ge rfl rfl) ?_
      refine Go.Sl.L.pu rfl rfl trivial (by first | exact pu_pick_t rfl rfl | exact pu_pick_f rfl rfl) ?_
      refine Go.Sl.L.puB rfl rfl trivial (pu_move rfl) (fun hg13 => ?_) (fun hg13 => ?_)
      · skip
        refine Go.Sl.L.pu rfl rfl ⟨_, rfl, rfl⟩ (pu_fa fa_37_1 rfl) ?_
        refine Go.Sl.L.rd rfl rfl ⟨_, rfl, rfl⟩ (rd_ld na_3 rfl (Rdc.cl1 (by repeat constructor) rfl)) ?_
        refine Go.Sl.L.pu rfl rfl ⟨_, rfl, rfl⟩ (pu_le rfl rfl) ?_
        refine Go.Sl.L.pu rfl rfl trivial (by first | exact pu_pick_t rfl rfl | exact pu_pick_f rfl rfl) ?_
        refine Go.Sl.L.pu rfl rfl trivial (pu_assign rfl) ?_
        refine Go.Sl.L.nil ?_
        refine Gs.then_n ?_
        refine Gs.ret ?_
        exact Gs.fin1 Tryz.results64 rfl _ (⟨by grind [keyB], rfl⟩) (by repeat constructor)
      · skip
        refine Go.Sl.L.off rfl rfl rfl rfl rfl rfl ?_
        refine Go.Sl.L.off rfl rfl rfl rfl rfl rfl ?_
        refine Go.Sl.L.off rfl rfl rfl rfl rfl rfl ?_
        refine Go.Sl.L.pu rfl rfl trivial (by first | exact pu_pick_t rfl rfl | exact pu_pick_f rfl rfl) ?_
        refine Go.Sl.L.pu rfl rfl trivial (pu_assign rfl) ?_
        refine Go.Sl.L.nil ?_
        refine Gs.then_n ?_
        refine Gs.ret ?_
        exact Gs.fin1 Tryz.results64 rfl _ (⟨by grind [keyB], rfl⟩) (by repeat constructor)
    · skip
      refine Go.Sl.L.off rfl rfl rfl rfl rfl rfl ?_
      refine Go.Sl.L.off rfl rfl rfl rfl rfl rfl ?_
      refine Go.Sl.L.off rfl rfl rfl rfl rfl rfl ?_
      refine Go.Sl.L.pu rfl rfl trivial (by first | exact pu_pick_t rfl rfl | exact pu_pick_f rfl rfl) ?_
      refine Go.Sl.L.pu rfl rfl trivial (pu_move rfl) ?_
      refine Go.Sl.L.off rfl rfl rfl rfl rfl rfl ?_
      refine Go.Sl.L.off rfl rfl rfl rfl rfl rfl ?_
      refine Go.Sl.L.off rfl rfl rfl rfl rfl rfl ?_
      refine Go.Sl.L.pu rfl rfl trivial (by first | exact pu_pick_t rfl rfl | exact pu_pick_f rfl rfl) ?_
      refine Go.Sl.L.pu rfl rfl trivial (pu_assign rfl) ?_
      refine Go.Sl.L.nil ?_
      refine Gs.then_n ?_
      refine Gs.ret ?_
      exact Gs.fin1 Tryz.results64 rfl _ (⟨by grind [keyB], rfl⟩) (by repeat constructor)
  · skip
    refine Go.Sl.L.off rfl rfl rfl rfl rfl rfl ?_
    refine Go.Sl.L.off rfl rfl rfl rfl rfl rfl ?_
    refine Go.Sl.L.off rfl rfl rfl rfl rfl rfl ?_
    refine Go.Sl.L.pu rfl rfl trivial (by first | exact pu_pick_t rfl rfl | exact pu_pick_f rfl rfl) ?_
    refine Go.Sl.L.pu rfl rfl trivial (pu_move rfl) ?_
    refine Go.Sl.L.off rfl rfl rfl rfl rfl rfl ?_
    refine Go.Sl.L.off rfl rfl rfl rfl rfl rfl ?_
    refine Go.Sl.L.off rfl rfl rfl rfl rfl rfl ?_
    refine Go.Sl.L.pu rfl rfl trivial (by first | exact pu_pick_t rfl rfl | exact pu_pick_f rfl rfl) ?_
    refine Go.Sl.L.pu rfl rfl trivial (pu_move rfl) ?_
    refine Go.Sl.L.off rfl rfl rfl rfl rfl rfl ?_
    refine Go.Sl.L.off rfl rfl rfl rfl rfl rfl ?_
    refine Go.Sl.L.off rfl rfl rfl rfl rfl rfl ?_
    refine Go.Sl.L.pu rfl rfl trivial (by first | exact pu_pick_t rfl rfl | exact pu_pick_f rfl rfl) ?_
    refine Go.Sl.L.pu rfl rfl trivial (pu_assign rfl) ?_
    refine Go.Sl.L.nil ?_
    refine Gs.then_n ?_
    refine Gs.ret ?_
    exact Gs.fin1 Tryz.results64 rfl _ (⟨by grind [keyB], rfl⟩) (by repeat constructor)
theorem recMay_spec {h0 : Hp} (T : Tabs h0) (r : Rec) : Ct Tryz.prog 67 [recV r] [ro h0] (fun v hs => v = .bool (recB r) ∧ hs = [ro h0]) := by
  refine Ct.intro Tryz.func67 rfl (by kernel_rfl) 35 Tryz.ntmps67 (Nat.le_of_ble_eq_true rfl) fun w0 R => ?_
  refine Gs.seq ?_
  refine Gs.reg ?_
  refine Go.Sl.L.ac rfl rfl trivial (ac_box rfl rfl) ?_
  rintro _ _ ⟨b1, rfl, rfl⟩
  refine Go.Sl.L.pu rfl rfl trivial (pu_assign rfl) ?_
  refine Go.Sl.L.nil ?_
  refine Gs.then_n ?_
  refine Gs.seq ?_
  refine Gs.reg ?_
  refine Go.Sl.L.pu rfl rfl trivial (pu_fa fa_41_0 rfl) ?_
  refine Go.Sl.L.pu rfl rfl trivial (pu_fa fa_37_0 rfl) ?_
  refine Go.Sl.L.rd rfl rfl trivial (rd_ld na_3 rfl (Rdc.cl1 (by repeat constructor) rfl)) ?_
  refine Go.Sl.L.pu rfl rfl trivial (pu_ge rfl rfl) ?_
  refine Go.Sl.L.puB rfl rfl trivial (pu_move rfl) (fun hg4 => ?_) (fun hg4 => ?_)
  · skip
    refine Go.Sl.L.pu rfl rfl ⟨_, rfl, rfl⟩ (pu_fa fa_41_0 rfl) ?_
    refine Go.Sl.L.pu rfl rfl ⟨_, rfl, rfl⟩ (pu_fa fa_37_0 rfl) ?_
    refine Go.Sl.L.rd rfl rfl ⟨_, rfl, rfl⟩ (rd_ld na_3 rfl (Rdc.cl1 (by repeat constructor) rfl)) ?_
    refine Go.Sl.L.pu rfl rfl ⟨_, rfl, rfl⟩ (pu_lt rfl rfl) ?_
    refine Go.Sl.L.pu rfl rfl trivial (by first | exact pu_pick_t rfl rfl | exact pu_pick_f rfl rfl) ?_
    refine Go.Sl.L.puB rfl rfl trivial (pu_move rfl) (fun hg10 => ?_) (fun hg10 => ?_)
    · skip
      refine Go.Sl.L.pu rfl rfl ⟨_, rfl, rfl⟩ (pu_fa fa_41_0 rfl) ?_
      refine Go.Sl.L.pu rfl rfl ⟨_, rfl, rfl⟩ (pu_fa fa_37_1 rfl) ?_
      refine Go.Sl.L.rd rfl rfl ⟨_, rfl, rfl⟩ (rd_ld na_3 rfl (Rdc.cl1 (by repeat constructor) rfl)) ?_
      refine Go.Sl.L.pu rfl rfl ⟨_, rfl, rfl⟩ (pu_ge rfl rfl) ?_
      refine Go.Sl.L.pu rfl rfl trivial (by first | exact pu_pick_t rfl rfl | exact pu_pick_f rfl rfl) ?_
      refine Go.Sl.L.puB rfl rfl trivial (pu_move rfl) (fun hg16 => ?_) (fun hg16 => ?_)
      · skip
        refine Go.Sl.L.pu rfl rfl ⟨_, rfl, rfl⟩ (pu_fa fa_41_0 rfl) ?_
        refine Go.Sl.L.pu rfl rfl ⟨_, rfl, rfl⟩ (pu_fa fa_37_1 rfl) ?_
        refine Go.Sl.L.rd rfl rfl ⟨_, rfl, rfl⟩ (rd_ld na_3 rfl (Rdc.cl1 (by repeat constructor) rfl)) ?_
        refine Go.Sl.L.pu rfl rfl ⟨_, rfl, rfl⟩ (pu_le rfl rfl) ?_
        refine Go.Sl.L.pu rfl rfl trivial (by first | exact pu_pick_t rfl rfl | exact pu_pick_f rfl rfl) ?_
        refine Go.Sl.L.puB rfl rfl trivial (pu_move rfl) (fun hg22 => ?_) (fun hg22 => ?_)
        · skip
          refine Go.Sl.L.pu rfl rfl ⟨_, rfl, rfl⟩ (pu_fa fa_41_1 rfl) ?_
          refine Go.Sl.L.rd rfl rfl ⟨_, rfl, rfl⟩ (rd_lda ag_39 rfl (Rdc.cl 2 (by repeat constructor) rfl) rfl) ?_
          refine Go.Sl.L.ac rfl rfl ⟨_, rfl, rfl⟩ (as_call (stampMay_spec _ _) (by repeat constructor) (by repeat constructor)) ?_
          rintro _ _ ⟨_, ⟨rfl, rfl⟩, rfl⟩
          refine Go.Sl.L.pu rfl rfl trivial (by first | exact pu_pick_t rfl rfl | exact pu_pick_f rfl rfl) ?_
          refine Go.Sl.L.puB rfl rfl trivial (pu_move rfl) (fun hg27 => ?_) (fun hg27 => ?_)
          · skip
            refine Go.Sl.L.pu rfl rfl ⟨_, rfl, rfl⟩ (pu_fa fa_41_2 rfl) ?_
            refine Go.Sl.L.rd rfl rfl ⟨_, rfl, rfl⟩ (rd_ld na_9 rfl (Rdc.cl1 (by repeat constructor) rfl)) ?_
            refine Go.Sl.L.ac rfl rfl ⟨_, rfl, rfl⟩ (as_call (textMay_spec T _) (by repeat constructor) (by repeat constructor)) ?_
            rintro _ _ ⟨_, ⟨rfl, rfl⟩, rfl⟩
            refine Go.Sl.L.pu rfl rfl trivial (by first | exact pu_pick_t rfl rfl | exact pu_pick_f rfl rfl) ?_
            refine Go.Sl.L.pu rfl rfl trivial (pu_assign rfl) ?_
            refine Go.Sl.L.nil ?_
            refine Gs.then_n ?_
            refine Gs.ret ?_
            exact Gs.fin1 Tryz.results67 rfl _ (⟨by grind [recB, keyB, Rec.key], rfl⟩) (by repeat constructor)
          · skip
            refine Go.Sl.L.off rfl rfl rfl rfl rfl rfl ?_
            refine Go.Sl.L.off rfl rfl rfl rfl rfl rfl ?_
            refine Go.Sl.L.off rfl rfl rfl rfl rfl rfl ?_
            refine Go.Sl.L.pu rfl rfl trivial (by first | exact pu_pick_t rfl rfl | exact pu_pick_f rfl rfl) ?_
            refine Go.Sl.L.pu rfl rfl trivial (pu_assign rfl) ?_
            refine Go.Sl.L.nil ?_
            refine Gs.then_n ?_
            refine Gs.ret ?_
            exact Gs.fin1 Tryz.results67 rfl _ (⟨by grind [recB, keyB, Rec.key], rfl⟩) (by repeat constructor)
        · skip
          refine Go.Sl.L.off rfl rfl rfl rfl rfl rfl ?_
          refine Go.Sl.L.off rfl rfl rfl rfl rfl rfl ?_
          refine Go.Sl.L.off rfl rfl rfl rfl rfl rfl ?_
          refine Go.Sl.L.pu rfl rfl trivial (by first | exact pu_pick_t rfl rfl | exact pu_pick_f rfl rfl) ?_
          refine Go.Sl.L.pu rfl rfl trivial (pu_move rfl) ?_
          refine Go.Sl.L.off rfl rfl rfl rfl rfl rfl ?_
          refine Go.Sl.L.off rfl rfl rfl rfl rfl rfl ?_
          refine Go.Sl.L.off rfl rfl rfl rfl rfl rfl ?_
          refine Go.Sl.L.pu rfl rfl trivial (by first | exact pu_pick_t rfl rfl | exact pu_pick_f rfl rfl) ?_
          refine Go.Sl.L.pu rfl rfl trivial (pu_assign rfl) ?_
          refine Go.Sl.L.nil ?_
          refine Gs.then_n ?_
          refine Gs.ret ?_
          exact Gs.fin1 Tryz.results67 rfl _ (⟨by grind [recB, keyB, Rec.key], rfl⟩) (by repeat constructor)
      · skip
        refine Go.Sl.L.off rfl rfl rfl rfl rfl rfl ?_
        refine Go.Sl.L.off rfl rfl rfl rfl rfl rfl ?_
        refine Go.Sl.L.off rfl rfl rfl rfl rfl rfl ?_
        refine Go.Sl.L.off rfl rfl rfl rfl rfl rfl ?_
        refine Go.Sl.L.pu rfl rfl trivial (by first | exact pu_pick_t rfl rfl | exact pu_pick_f rfl rfl) ?_
        refine Go.Sl.L.pu rfl rfl trivial (pu_move rfl) ?_
        refine Go.Sl.L.off rfl rfl rfl rfl rfl rfl ?_
        refine Go.Sl.L.off rfl rfl rfl rfl rfl rfl ?_
        refine Go.Sl.L.off rfl rfl rfl rfl rfl rfl ?_
        refine Go.Sl.L.pu rfl rfl trivial (by first | exact pu_pick_t rfl rfl | exact pu_pick_f rfl rfl) ?_
        refine Go.Sl.L.pu rfl rfl trivial (pu_move rfl) ?_
        refine Go.Sl.L.off rfl rfl rfl rfl rfl rfl ?_
        refine Go.Sl.L.off rfl rfl rfl rfl rfl rfl ?_
        refine Go.Sl.L.off rfl rfl rfl rfl rfl rfl ?_
        refine Go.Sl.L.pu rfl rfl trivial (by first | exact pu_pick_t rfl rfl | exact pu_pick_f rfl rfl) ?_
        refine Go.Sl.L.pu rfl rfl trivial (pu_assign rfl) ?_
        refine Go.Sl.L.nil ?_
        refine Gs.then_n ?_
        refine Gs.ret ?_
        exact Gs.fin1 Tryz.results67 rfl _ (⟨by grind [recB, keyB, Rec.key], rfl⟩) (by repeat constructor)
    · skip
      refine Go.Sl.L.off rfl rfl rfl rfl rfl rfl ?_
      refine Go.Sl.L.off rfl rfl rfl rfl rfl rfl ?_
      refine Go.Sl.L.off rfl rfl rfl rfl rfl rfl ?_
      refine Go.Sl.L.off rfl rfl rfl rfl rfl rfl ?_
      refine Go.Sl.L.pu rfl rfl trivial (by first | exact pu_pick_t rfl rfl | exact pu_pick_f rfl rfl) ?_
      refine Go.Sl.L.pu rfl rfl trivial (pu_move rfl) ?_
      refine Go.Sl.L.off rfl rfl rfl rfl rfl rfl ?_
      refine Go.Sl.L.off rfl rfl rfl rfl rfl rfl ?_
      refine Go.Sl.L.off rfl rfl rfl rfl rfl rfl ?_
      refine Go.Sl.L.off rfl rfl rfl rfl rfl rfl ?_
      refine Go.Sl.L.pu rfl rfl trivial (by first | exact pu_pick_t rfl rfl | exact pu_pick_f rfl rfl) ?_
      refine Go.Sl.L.pu rfl rfl trivial (pu_move rfl) ?_
      refine Go.Sl.L.off rfl rfl rfl rfl rfl rfl ?_
      refine Go.Sl.L.off rfl rfl rfl rfl rfl rfl ?_
      refine Go.Sl.L.off rfl rfl rfl rfl rfl rfl ?_
      refine Go.Sl.L.pu rfl rfl trivial (by first | exact pu_pick_t rfl rfl | exact pu_pick_f rfl rfl) ?_
      refine Go.Sl.L.pu rfl rfl trivial (pu_move rfl) ?_
      refine Go.Sl.L.off rfl rfl rfl rfl rfl rfl ?_
      refine Go.Sl.L.off rfl rfl rfl rfl rfl rfl ?_
      refine Go.Sl.L.off rfl rfl rfl rfl rfl rfl ?_
      refine Go.Sl.L.pu rfl rfl trivial (by first | exact pu_pick_t rfl rfl | exact pu_pick_f rfl rfl) ?_
      refine Go.Sl.L.pu rfl rfl trivial (pu_assign rfl) ?_
      refine Go.Sl.L.nil ?_
      refine Gs.then_n ?_
      refine Gs.ret ?_
      exact Gs.fin1 Tryz.results67 rfl _ (⟨by grind [recB, keyB, Rec.key], rfl⟩) (by repeat constructor)
  · skip
    refine Go.Sl.L.off rfl rfl rfl rfl rfl rfl ?_
    refine Go.Sl.L.off rfl rfl rfl rfl rfl rfl ?_
    refine Go.Sl.L.off rfl rfl rfl rfl rfl rfl ?_
    refine Go.Sl.L.off rfl rfl rfl rfl rfl rfl ?_
    refine Go.Sl.L.pu rfl rfl trivial (by first | exact pu_pick_t rfl rfl | exact pu_pick_f rfl rfl) ?_
    refine Go.Sl.L.pu rfl rfl trivial (pu_move rfl) ?_
    refine Go.Sl.L.off rfl rfl rfl rfl rfl rfl ?_
    refine Go.Sl.L.off rfl rfl rfl rfl rfl rfl ?_
    refine Go.Sl.L.off rfl rfl rfl rfl rfl rfl ?_
    refine Go.Sl.L.off rfl rfl rfl rfl rfl rfl ?_
    refine Go.Sl.L.pu rfl rfl trivial (by first | exact pu_pick_t rfl rfl | exact pu_pick_f rfl rfl) ?_
    refine Go.Sl.L.pu rfl rfl trivial (pu_move rfl) ?_
    refine Go.Sl.L.off rfl rfl rfl rfl rfl rfl ?_
    refine Go.Sl.L.off rfl rfl rfl rfl rfl rfl ?_
    refine Go.Sl.L.off rfl rfl rfl rfl rfl rfl ?_
    refine Go.Sl.L.off rfl rfl rfl rfl rfl rfl ?_
    refine Go.Sl.L.pu rfl rfl trivial (by first | exact pu_pick_t rfl rfl | exact pu_pick_f rfl rfl) ?_
    refine Go.Sl.L.pu rfl rfl trivial (pu_move rfl) ?_
    refine Go.Sl.L.off rfl rfl rfl rfl rfl rfl ?_
    refine Go.Sl.L.off rfl rfl rfl rfl rfl rfl ?_
    refine Go.Sl.L.off rfl rfl rfl rfl rfl rfl ?_
    refine Go.Sl.L.pu rfl rfl trivial (by first | exact pu_pick_t rfl rfl | exact pu_pick_f rfl rfl) ?_
    refine Go.Sl.L.pu rfl rfl trivial (pu_move rfl) ?_
    refine Go.Sl.L.off rfl rfl rfl rfl rfl rfl ?_
    refine Go.Sl.L.off rfl rfl rfl rfl rfl rfl ?_
    refine Go.Sl.L.off rfl rfl rfl rfl rfl rfl ?_
    refine Go.Sl.L.pu rfl rfl trivial (by first | exact pu_pick_t rfl rfl | exact pu_pick_f rfl rfl) ?_
    refine Go.Sl.L.pu rfl rfl trivial (pu_assign rfl) ?_
    refine Go.Sl.L.nil ?_
    refine Gs.then_n ?_
    refine Gs.ret ?_
    exact Gs.fin1 Tryz.results67 rfl _ (⟨by grind [recB, keyB, Rec.key], rfl⟩) (by repeat constructor)
theorem recMay4_spec {h0 : Hp} (T : Tabs h0) (r : Rec) : Ct Tryz.prog 38 [recV r] [ro h0] (fun v hs => v = .bool (recB r) ∧ hs = [ro h0]) := by
  refine Ct.intro Tryz.func38 rfl (by kernel_rfl) 16 Tryz.ntmps38 (Nat.le_of_ble_eq_true rfl) fun w0 R => ?_
  refine Gs.seq ?_
  refine Gs.reg ?_
  refine Go.Sl.L.ac rfl rfl trivial (ac_box rfl rfl) ?_
  rintro _ _ ⟨b1, rfl, rfl⟩
  refine Go.Sl.L.pu rfl rfl trivial (pu_assign rfl) ?_
  refine Go.Sl.L.nil ?_
  refine Gs.then_n ?_
  refine Gs.seq ?_
  refine Gs.reg ?_
  refine Go.Sl.L.pu rfl rfl trivial (pu_fa fa_41_0 rfl) ?_
  refine Go.Sl.L.rd rfl rfl trivial (rd_lda ag_37 rfl (Rdc.cl 2 (by repeat constructor) rfl) rfl) ?_
  refine Go.Sl.L.ac rfl rfl trivial (as_call (keyMay_spec ⟨_, _⟩) (by repeat constructor) (by repeat constructor)) ?_
  rintro _ _ ⟨_, ⟨rfl, rfl⟩, rfl⟩
  refine Go.Sl.L.puB rfl rfl trivial (pu_move rfl) (fun hg3 => ?_) (fun hg3 => ?_)
  · skip
    refine Go.Sl.L.pu rfl rfl ⟨_, rfl, rfl⟩ (pu_fa fa_41_1 rfl) ?_
    refine Go.Sl.L.rd rfl rfl ⟨_, rfl, rfl⟩ (rd_lda ag_39 rfl (Rdc.cl 2 (by repeat constructor) rfl) rfl) ?_
    refine Go.Sl.L.ac rfl rfl ⟨_, rfl, rfl⟩ (as_call (stampMay2_spec _ _) (by repeat constructor) (by repeat constructor)) ?_
    rintro _ _ ⟨_, ⟨rfl, rfl⟩, rfl⟩
    refine Go.Sl.L.pu rfl rfl trivial (by first | exact pu_pick_t rfl rfl | exact pu_pick_f rfl rfl) ?_
    refine Go.Sl.L.puB rfl rfl trivial (pu_move rfl) (fun hg8 => ?_) (fun hg8 => ?_)
    · skip
      refine Go.Sl.L.pu rfl rfl ⟨_, rfl, rfl⟩ (pu_fa fa_41_2 rfl) ?_
      refine Go.Sl.L.rd rfl rfl ⟨_, rfl, rfl⟩ (rd_ld na_9 rfl (Rdc.cl1 (by repeat constructor) rfl)) ?_
      refine Go.Sl.L.ac rfl rfl ⟨_, rfl, rfl⟩ (as_call (textMay1_spec T _) (by repeat constructor) (by repeat constructor)) ?_
      rintro _ _ ⟨_, ⟨rfl, rfl⟩, rfl⟩
      refine Go.Sl.L.pu rfl rfl trivial (by first | exact pu_pick_t rfl rfl | exact pu_pick_f rfl rfl) ?_
      refine Go.Sl.L.pu rfl rfl trivial (pu_assign rfl) ?_
      refine Go.Sl.L.nil ?_
      refine Gs.then_n ?_
      refine Gs.ret ?_
      exact Gs.fin1 Tryz.results38 rfl _ (⟨by grind [recB, Rec.key], rfl⟩) (by repeat constructor)
    · skip
      refine Go.Sl.L.off rfl rfl rfl rfl rfl rfl ?_
      refine Go.Sl.L.off rfl rfl rfl rfl rfl rfl ?_
      refine Go.Sl.L.off rfl rfl rfl rfl rfl rfl ?_
      refine Go.Sl.L.pu rfl rfl trivial (by first | exact pu_pick_t rfl rfl | exact pu_pick_f rfl rfl) ?_
      refine Go.Sl.L.pu rfl rfl trivial (pu_assign rfl) ?_
      refine Go.Sl.L.nil ?_
      refine Gs.then_n ?_
      refine Gs.ret ?_
      exact Gs.fin1 Tryz.results38 rfl _ (⟨by grind [recB, Rec.key], rfl⟩) (by repeat constructor)
  · skip
    refine Go.Sl.L.off rfl rfl rfl rfl rfl rfl ?_
    refine Go.Sl.L.off rfl rfl rfl rfl rfl rfl ?_
    refine Go.Sl.L.off rfl rfl rfl rfl rfl rfl ?_
    refine Go.Sl.L.pu rfl rfl trivial (by first | exact pu_pick_t rfl rfl | exact pu_pick_f rfl rfl) ?_
    refine Go.Sl.L.pu rfl rfl trivial (pu_move rfl) ?_
    refine Go.Sl.L.off rfl rfl rfl rfl rfl rfl ?_
    refine Go.Sl.L.off rfl rfl rfl rfl rfl rfl ?_
    refine Go.Sl.L.off rfl rfl rfl rfl rfl rfl ?_
    refine Go.Sl.L.pu rfl rfl trivial (by first | exact pu_pick_t rfl rfl | exact pu_pick_f rfl rfl) ?_
    refine Go.Sl.L.pu rfl rfl trivial (pu_assign rfl) ?_
    refine Go.Sl.L.nil ?_
    refine Gs.then_n ?_
    refine Gs.ret ?_
    exact Gs.fin1 Tryz.results38 rfl _ (⟨by grind [recB, Rec.key], rfl⟩) (by repeat constructor)
end Go.Proofs.YtjaafkakeccniaaGreatDoor

/- Walks: record.Lay, and its second copy. -/
namespace Go.Proofs.YtjaafkakeccniaaGreatDoor
open Go Go.Sl Go.Gv
set_option maxRecDepth 100000
def byteN (n : Int) (k : Nat) : UInt8 := cutB (shrK .i64 n ((8 * k : Nat) : Int))
/-- The bytes of a number, the highest first. -/
def numB (n : Int) : Nat → List UInt8
  | 0 => []
  | k + 1 => byteN n k :: numB n k
theorem numB_length (n : Int) : ∀ k, (numB n k).length = k
  | 0 => rfl
  | k + 1 => by simp [numB, numB_length n k]
theorem put_spec (a : Option Addr) (c : Nat) (xs : List UInt8) (n : Int) (k : Nat) (hl : xs.length ≤ 100000) (hk : k ≤ 8) :
    Ct Tryz.prog 83 [.slice a xs.length c, int n, int k] [sl 5 1 byteC a c xs] (fun v hs => ∃ a' c', v = .slice a' (xs ++ numB n k).length c' ∧ hs = [sl 5 1 byteC a' c' (xs ++ numB n k)]) := by
  refine Ct.intro Tryz.func83 rfl (by kernel_rfl) 20 Tryz.ntmps83 (Nat.le_of_ble_eq_true rfl) fun w0 R => ?_
  refine Gs.seq ?_
  refine Gs.reg ?_
  refine Go.Sl.L.pu rfl rfl trivial (pu_assign rfl) ?_
  refine Go.Sl.L.nil ?_
  refine Gs.then_n ?_
  refine Gs.seq ?_
  refine Gs.block ?_
  refine Gs.loop1 (fun s : Nat × Option Addr × Nat × List UInt8 => s.2.2.2 ++ numB n s.1 = xs ++ numB n k ∧ s.1 ≤ k) (fun s => [(0, .slice s.2.1 s.2.2.2.length s.2.2.1), (1, int n), (2, int s.1)]) (fun s => [sl 5 1 byteC s.2.1 s.2.2.1 s.2.2.2] ++ R) (fun s => s.1) (k, a, c, xs) (⟨rfl, Nat.le_refl _⟩) (by repeat constructor) (by repeat constructor) (fun s hs => ?_)
  obtain ⟨j, ca, cc, l⟩ := s
  obtain ⟨hl1, hj⟩ := hs
  dsimp only at hj hl1 ⊢
  have hll : l.length ≤ 100008 := by have := congrArg List.length hl1; simp only [List.length_append, numB_length] at this; omega
  refine Gs.seq ?_
  refine Gs.seq ?_
  refine Gs.reg ?_
  refine Go.Sl.L.pu rfl rfl trivial (pu_move rfl) ?_
  refine Go.Sl.L.pu rfl rfl trivial (pu_gt rfl rfl) ?_
  refine Go.Sl.L.nil ?_
  refine Gs.then_n ?_
  refine Gs.cond rfl (fun hc0 => ?_) (fun hc0 => ?_)
  · skip
    obtain ⟨i, rfl⟩ : ∃ i, j = i + 1 := ⟨j - 1, by have := of_decide_eq_true hc0; omega⟩
    have hl2 : (l ++ [byteN n i]) ++ numB n i = xs ++ numB n k := by rw [← hl1]; simp [numB]
    refine Gs.skip ?_
    refine Gs.then_n ?_
    refine Gs.block ?_
    refine Gs.seq ?_
    refine Gs.reg ?_
    refine Go.Sl.L.pu rfl rfl trivial (pu_move rfl) ?_
    refine Go.Sl.L.pu rfl rfl trivial (pu_subI (z := (i : Int)) rfl rfl (by omega) (by omega) (by omega)) ?_
    refine Go.Sl.L.pu rfl rfl trivial (pu_assign rfl) ?_
    refine Go.Sl.L.nil ?_
    refine Gs.then_n ?_
    refine Gs.reg ?_
    refine Go.Sl.L.pu rfl rfl trivial (pu_move rfl) ?_
    refine Go.Sl.L.pu rfl rfl trivial (pu_move rfl) ?_
    refine Go.Sl.L.pu rfl rfl trivial (pu_move rfl) ?_
    refine Go.Sl.L.pu rfl rfl trivial (pu_mulI (z := ((8 * i : Nat) : Int)) rfl rfl (by omega) (by omega) (by omega)) ?_
    refine Go.Sl.L.pu rfl rfl trivial (pu_shr rfl rfl (by omega)) ?_
    refine Go.Sl.L.pu rfl rfl trivial (pu_conv Tryz.underlying3 Tryz.underlying5 rfl) ?_
    rw [cutB_eq]
    refine Go.Sl.L.ac rfl rfl trivial (ac_lit encC_5 ([byteN n i]) et_75 ek_5 rfl (by repeat constructor) rfl rfl (by decide)) ?_
    rintro _ _ ⟨a17, rfl, rfl⟩
    refine Go.Sl.L.ac rfl rfl trivial (ac_append et_75 ek_5 rfl rfl (by repeat constructor) (SrcH.sl Tryz.underlying75 ek_5 (SlH.own (by repeat constructor))) (by first | omega | (simp; omega)) (by first | omega | (simp; omega))) ?_
    rintro _ _ ⟨a18, c18, rfl, rfl⟩
    refine Go.Sl.L.pu rfl rfl trivial (pu_assign rfl) ?_
    refine Go.Sl.L.nil ?_
    refine Gs.blk_n ?_
    refine Gs.then_n ?_
    exact Gs.again1 (i, a18, c18, l ++ [byteN n i]) ⟨hl2, by show i ≤ k; omega⟩ (by show i < i + 1; omega) (by repeat constructor) (by repeat constructor)
  · skip
    have hge : j = 0 := by have := of_decide_eq_false hc0; omega
    subst hge
    rw [show l = xs ++ numB n k by rw [← hl1]; simp [numB]]
    refine Gs.exit ?_
    refine Gs.then_x ?_
    refine Gs.then_x ?_
    refine Gs.blk_hit ?_
    refine Gs.then_n ?_
    refine Gs.seq ?_
    refine Gs.reg ?_
    refine Go.Sl.L.pu rfl rfl trivial (pu_move rfl) ?_
    refine Go.Sl.L.pu rfl rfl trivial (pu_assign rfl) ?_
    refine Go.Sl.L.nil ?_
    refine Gs.then_n ?_
    refine Gs.ret ?_
    exact Gs.fin1 Tryz.results83 rfl _ (⟨ca, cc, rfl, rfl⟩) (by repeat constructor)
/-- A record's bytes. -/
def layB (r : Rec) : List UInt8 := ((((([] ++ numB r.o 1) ++ numB r.q 2) ++ numB r.w 6) ++ numB r.c 2) ++ numB (r.t.size : Int) 1) ++ r.t.data.toList
theorem recB_text {r : Rec} (h : recB r = true) : r.t.data.toList.length ≤ 120 := by
  have h1 : textB r.t = true := by simp only [recB, Bool.and_eq_true] at h; exact h.2
  have h2 : (r.t.size : Int) ≤ 120 := by simp only [textB, Bool.and_eq_true, decide_eq_true_eq] at h1; exact h1.1
  have h3 : r.t.data.toList.length = r.t.size := by rw [Array.length_toList]; rfl
  omega
theorem layB_length (r : Rec) : (layB r).length = 12 + r.t.data.toList.length := by simp [layB, numB_length]; omega
theorem layR_ok {h0 : Hp} (T : Tabs h0) (r : Rec) (hr : recB r = true) : Ct Tryz.prog 59 [recV r] [ro h0] (fun v hs => ∃ a c, v = .tuple #[.slice a (layB r).length c, int 0] ∧ hs = [ro h0, sl 5 1 byteC a c (layB r)]) := by
  have ht : r.t.data.toList.length ≤ 120 := recB_text hr
  have htl : (r.t.size : Int) = r.t.data.toList.length := by rw [Array.length_toList]; rfl
  obtain ⟨l1, hl1⟩ : ∃ l, l = [] ++ numB r.o 1 := ⟨_, rfl⟩
  obtain ⟨l2, hl2⟩ : ∃ l, l = l1 ++ numB r.q 2 := ⟨_, rfl⟩
  obtain ⟨l3, hl3⟩ : ∃ l, l = l2 ++ numB r.w 6 := ⟨_, rfl⟩
  obtain ⟨l4, hl4⟩ : ∃ l, l = l3 ++ numB r.c 2 := ⟨_, rfl⟩
  obtain ⟨l5, hl5⟩ : ∃ l, l = l4 ++ numB (r.t.size : Int) 1 := ⟨_, rfl⟩
  have hlay : layB r = l5 ++ r.t.data.toList := by rw [hl5, hl4, hl3, hl2, hl1]; rfl
  have k1 : l1.length = 1 := by rw [hl1]; simp [numB_length]
  have k2 : l2.length = 3 := by rw [hl2, List.length_append, numB_length, k1]
  have k3 : l3.length = 9 := by rw [hl3, List.length_append, numB_length, k2]
  have k4 : l4.length = 11 := by rw [hl4, List.length_append, numB_length, k3]
  have k5 : l5.length = 12 := by rw [hl5, List.length_append, numB_length, k4]
  refine Ct.intro Tryz.func59 rfl (by kernel_rfl) 33 Tryz.ntmps59 (Nat.le_of_ble_eq_true rfl) fun w0 R => ?_
  refine Gs.seq ?_
  refine Gs.reg ?_
  refine Go.Sl.L.ac rfl rfl trivial (ac_box rfl rfl) ?_
  rintro _ _ ⟨b1, rfl, rfl⟩
  refine Go.Sl.L.pu rfl rfl trivial (pu_assign rfl) ?_
  refine Go.Sl.L.pu rfl rfl trivial (pu_assign rfl) ?_
  refine Go.Sl.L.nil ?_
  refine Gs.then_n ?_
  refine Gs.seq ?_
  refine Gs.seq ?_
  refine Gs.reg ?_
  refine Go.Sl.L.rd rfl rfl trivial (rd_lda ag_41 rfl (Rdc.cl 5 (by repeat constructor) rfl) rfl) ?_
  refine Go.Sl.L.ac rfl rfl trivial (as_call (recMay_spec T r) (by repeat constructor) (by repeat constructor)) ?_
  rintro _ _ ⟨_, ⟨rfl, rfl⟩, rfl⟩
  refine Go.Sl.L.pu rfl rfl trivial (pu_not rfl) ?_
  refine Go.Sl.L.nil ?_
  refine Gs.then_n ?_
  refine Gs.cond_ff rfl (by simp [hr]) ?_
  refine Gs.skip ?_
  refine Gs.then_n ?_
  refine Gs.seq ?_
  refine Gs.slNil 5 1 byteC ?_
  refine Gs.regD mixed (by kernel_rfl) ?_
  refine Rg.pu 0 rfl rfl (by kernel_rfl) trivial (pu_fa fa_41_0 rfl) ?_
  refine Rg.pu 1 rfl rfl (by kernel_rfl) trivial (pu_fa fa_37_0 rfl) ?_
  refine Rg.rd 2 rfl rfl (by kernel_rfl) trivial (rd_ld na_3 rfl (Rdc.cl1 (by repeat constructor) rfl)) ?_
  refine Rg.pu 4 rfl rfl (by kernel_rfl) trivial (pu_fa fa_41_0 rfl) ?_
  refine Rg.pu 5 rfl rfl (by kernel_rfl) trivial (pu_fa fa_37_1 rfl) ?_
  refine Rg.rd 6 rfl rfl (by kernel_rfl) trivial (rd_ld na_3 rfl (Rdc.cl1 (by repeat constructor) rfl)) ?_
  refine Rg.one (by kernel_rfl) (Stp.acR 3 [6] rfl rfl (by kernel_rfl) trivial (as_call (put_spec none 0 [] r.o 1 (by decide) (by decide)) (by repeat constructor) (by repeat constructor)) (by rintro _ _ ⟨_, ⟨ba1, bc1, rfl, rfl⟩, rfl⟩; exact (Reads.cons rfl rfl rfl trivial rfl (rd_ld na_3 rfl (Rdc.cl1 (by repeat constructor) rfl)) Reads.nil)) ?_)
  rintro _ _ ⟨_, ⟨ba1, bc1, rfl, rfl⟩, rfl⟩
  rw [← hl1]
  refine Rg.one (by kernel_rfl) (Stp.ac 7 rfl rfl (by kernel_rfl) trivial (as_call (put_spec ba1 bc1 l1 r.q 2 (by omega) (by decide)) (by repeat constructor) (by repeat constructor))  ?_)
  rintro _ _ ⟨_, ⟨ba2, bc2, rfl, rfl⟩, rfl⟩
  rw [← hl2]
  refine Rg.pu 8 rfl rfl (by kernel_rfl) trivial (pu_assign rfl) ?_
  refine Rg.end (by kernel_rfl) ?_
  refine Gs.then_n ?_
  refine Gs.seq ?_
  refine Gs.regD mixed (by kernel_rfl) ?_
  refine Rg.pu 0 rfl rfl (by kernel_rfl) trivial (pu_move rfl) ?_
  refine Rg.pu 1 rfl rfl (by kernel_rfl) trivial (pu_fa fa_41_1 rfl) ?_
  refine Rg.pu 2 rfl rfl (by kernel_rfl) trivial (pu_fa fa_39_0 rfl) ?_
  refine Rg.rd 3 rfl rfl (by kernel_rfl) trivial (rd_ld na_3 rfl (Rdc.cl1 (by repeat constructor) rfl)) ?_
  refine Rg.pu 5 rfl rfl (by kernel_rfl) trivial (pu_fa fa_41_1 rfl) ?_
  refine Rg.pu 6 rfl rfl (by kernel_rfl) trivial (pu_fa fa_39_1 rfl) ?_
  refine Rg.rd 7 rfl rfl (by kernel_rfl) trivial (rd_ld na_3 rfl (Rdc.cl1 (by repeat constructor) rfl)) ?_
  refine Rg.pu 9 rfl rfl (by kernel_rfl) trivial (pu_fa fa_41_2 rfl) ?_
  refine Rg.rd 10 rfl rfl (by kernel_rfl) trivial (rd_ld na_9 rfl (Rdc.cl1 (by repeat constructor) rfl)) ?_
  refine Rg.pu 11 rfl rfl (by kernel_rfl) trivial (pu_lenS Tryz.underlying9 rfl) ?_
  refine Rg.one (by kernel_rfl) (Stp.acR 4 [7, 10] rfl rfl (by kernel_rfl) trivial (as_call (put_spec ba2 bc2 l2 r.w 6 (by omega) (by decide)) (by repeat constructor) (by repeat constructor)) (by rintro _ _ ⟨_, ⟨ba3, bc3, rfl, rfl⟩, rfl⟩; exact (Reads.cons rfl rfl rfl trivial rfl (rd_ld na_3 rfl (Rdc.cl1 (by repeat constructor) rfl)) (Reads.cons rfl rfl rfl trivial rfl (rd_ld na_9 rfl (Rdc.cl1 (by repeat constructor) rfl)) Reads.nil))) ?_)
  rintro _ _ ⟨_, ⟨ba3, bc3, rfl, rfl⟩, rfl⟩
  rw [← hl3]
  refine Rg.one (by kernel_rfl) (Stp.acR 8 [10] rfl rfl (by kernel_rfl) trivial (as_call (put_spec ba3 bc3 l3 r.c 2 (by omega) (by decide)) (by repeat constructor) (by repeat constructor)) (by rintro _ _ ⟨_, ⟨ba4, bc4, rfl, rfl⟩, rfl⟩; exact (Reads.cons rfl rfl rfl trivial rfl (rd_ld na_9 rfl (Rdc.cl1 (by repeat constructor) rfl)) Reads.nil)) ?_)
  rintro _ _ ⟨_, ⟨ba4, bc4, rfl, rfl⟩, rfl⟩
  rw [← hl4]
  refine Rg.one (by kernel_rfl) (Stp.ac 12 rfl rfl (by kernel_rfl) trivial (as_call (put_spec ba4 bc4 l4 (r.t.size : Int) 1 (by omega) (by decide)) (by repeat constructor) (by repeat constructor))  ?_)
  rintro _ _ ⟨_, ⟨ba5, bc5, rfl, rfl⟩, rfl⟩
  rw [← hl5]
  refine Rg.pu 13 rfl rfl (by kernel_rfl) trivial (pu_assign rfl) ?_
  refine Rg.end (by kernel_rfl) ?_
  refine Gs.then_n ?_
  refine Gs.seq ?_
  refine Gs.reg ?_
  refine Go.Sl.L.pu rfl rfl trivial (pu_move rfl) ?_
  refine Go.Sl.L.pu rfl rfl trivial (pu_fa fa_41_2 rfl) ?_
  refine Go.Sl.L.rd rfl rfl trivial (rd_ld na_9 rfl (Rdc.cl1 (by repeat constructor) rfl)) ?_
  refine Go.Sl.L.ac rfl rfl trivial (ac_append et_75 ek_5 rfl rfl (by repeat constructor) (SrcH.strB Tryz.underlying9 r.t) (by first | omega | (simp; omega)) (by first | omega | (simp; omega))) ?_
  rintro _ _ ⟨a32, c32, rfl, rfl⟩
  refine Go.Sl.L.pu rfl rfl trivial (pu_assign rfl) ?_
  refine Go.Sl.L.pu rfl rfl trivial (pu_assign rfl) ?_
  refine Go.Sl.L.nil ?_
  refine Gs.then_n ?_
  refine Gs.ret ?_
  exact Gs.fin2 Tryz.results59 rfl rfl _ (⟨_, _, by rw [hlay], by rw [hlay]⟩) (by repeat constructor)
theorem layR_bad {h0 : Hp} (T : Tabs h0) (r : Rec) (hr : recB r = false) : Ct Tryz.prog 59 [recV r] [ro h0] (fun v hs => v = .tuple #[.slice none 0 0, int 2] ∧ hs = [ro h0]) := by
  refine Ct.intro Tryz.func59 rfl (by kernel_rfl) 33 Tryz.ntmps59 (Nat.le_of_ble_eq_true rfl) fun w0 R => ?_
  refine Gs.seq ?_
  refine Gs.reg ?_
  refine Go.Sl.L.ac rfl rfl trivial (ac_box rfl rfl) ?_
  rintro _ _ ⟨b1, rfl, rfl⟩
  refine Go.Sl.L.pu rfl rfl trivial (pu_assign rfl) ?_
  refine Go.Sl.L.pu rfl rfl trivial (pu_assign rfl) ?_
  refine Go.Sl.L.nil ?_
  refine Gs.then_n ?_
  refine Gs.seq ?_
  refine Gs.seq ?_
  refine Gs.reg ?_
  refine Go.Sl.L.rd rfl rfl trivial (rd_lda ag_41 rfl (Rdc.cl 5 (by repeat constructor) rfl) rfl) ?_
  refine Go.Sl.L.ac rfl rfl trivial (as_call (recMay_spec T r) (by repeat constructor) (by repeat constructor)) ?_
  rintro _ _ ⟨_, ⟨rfl, rfl⟩, rfl⟩
  refine Go.Sl.L.pu rfl rfl trivial (pu_not rfl) ?_
  refine Go.Sl.L.nil ?_
  refine Gs.then_n ?_
  refine Gs.cond_tt rfl (by simp [hr]) ?_
  refine Gs.seq ?_
  refine Gs.reg ?_
  refine Go.Sl.L.pu rfl rfl trivial (pu_assign rfl) ?_
  refine Go.Sl.L.pu rfl rfl trivial (pu_assign rfl) ?_
  refine Go.Sl.L.nil ?_
  refine Gs.then_n ?_
  refine Gs.ret ?_
  refine Gs.then_r ?_
  exact Gs.fin2 Tryz.results59 rfl rfl _ (⟨rfl, rfl⟩) (by repeat constructor)
end Go.Proofs.YtjaafkakeccniaaGreatDoor

/- Records as bytes. Plain. -/
namespace Go.Proofs.YtjaafkakeccniaaGreatDoor
open Go Go.Sl Go.Gv
def valF (a : Int) (l : List UInt8) : Int := l.foldl (fun n x => 256 * n + x.toNat) a
abbrev valB (l : List UInt8) : Int := valF 0 l
theorem byte_at (n : Nat) (s : Nat) (hs : s ≤ 7) : (cutB (shrK .i64 (n : Int) ((8 * s : Nat) : Int))).toNat = n / 256 ^ s % 256 := by
  have e : shrK .i64 (n : Int) ((8 * s : Nat) : Int) = ((n / 256 ^ s : Nat) : Int) := by
    unfold shrK
    have h1 : min ((8 * s : Nat) : Int).toNat IntKind.i64.bits = 8 * s := by
      rw [Int.toNat_natCast, Nat.min_def, if_pos]
      show 8 * s ≤ 64; omega
    rw [h1]
    have h2 : (2 : Int) ^ (8 * s) = ((256 ^ s : Nat) : Int) := by rw [Int.pow_mul]; norm_cast
    rw [h2, Int.fdiv_eq_ediv_of_nonneg _ (Int.natCast_nonneg _)]; norm_cast
  rw [e]
  have := cutB_eq ((n / 256 ^ s : Nat) : Int)
  have h : IntKind.u8.wrap ((n / 256 ^ s : Nat) : Int) = ((n / 256 ^ s % 256 : Nat) : Int) := by simp [IntKind.wrap, IntKind.bits, IntKind.signed]
  rw [h] at this
  exact (Int.ofNat.inj this).symm
theorem val_be (n : Nat) : ∀ (s : Nat) (a : Nat), s ≤ 8 → valF (a : Int) (numB (n : Int) s) = ((a * 256 ^ s + n % 256 ^ s : Nat) : Int)
  | 0, a, _ => by
    show (a : Int) = _
    rw [Nat.pow_zero, Nat.mod_one, Nat.mul_one, Nat.add_zero]
  | s + 1, a, h => by
    have e : valF (a : Int) (numB (n : Int) (s + 1)) = valF ((256 * a + n / 256 ^ s % 256 : Nat) : Int) (numB (n : Int) s) := by
      show valF (256 * (a : Int) + (byteN (n : Int) s).toNat) (numB (n : Int) s) = _
      rw [show (byteN (n : Int) s).toNat = n / 256 ^ s % 256 from byte_at n s (by omega)]
      refine congrArg (fun z => valF z (numB (n : Int) s)) ?_
      rw [Int.natCast_add, Int.natCast_mul]; rfl
    rw [e, val_be n s _ (by omega)]
    have h2 : n % 256 ^ (s + 1) = n % 256 ^ s + 256 ^ s * (n / 256 ^ s % 256) := by rw [Nat.pow_succ, Nat.mod_mul]
    rw [h2]
    refine congrArg Nat.cast ?_
    rw [Nat.pow_succ, Nat.add_mul, Nat.mul_assoc, Nat.mul_comm 256 (a * 256 ^ s)]
    rw [Nat.mul_comm (n / 256 ^ s % 256) (256 ^ s), Nat.mul_assoc, Nat.add_assoc, Nat.add_comm (256 ^ s * _) (n % 256 ^ s)]
theorem val_be0 {n : Int} {s : Nat} (hs : s ≤ 8) (h0 : 0 ≤ n) (h1 : n < 256 ^ s) : valB (numB n s) = n := by
  obtain ⟨m, rfl⟩ := Int.eq_ofNat_of_zero_le h0
  have h := val_be m s 0 hs
  have hm : m < 256 ^ s := by
    have e : ((256 : Int) ^ s) = ((256 ^ s : Nat) : Int) := (Int.natCast_pow 256 s).symm
    rw [e] at h1; exact Int.ofNat_lt.1 h1
  rw [Nat.zero_mul, Nat.zero_add, Nat.mod_eq_of_lt hm] at h
  exact h
theorem layR_len (r : Rec) : (layB r).length = 12 + r.t.size := by rw [layB_length]; simp
/-- The record that bytes begin with, and its length. -/
def readR (x : List UInt8) : Option (Rec × Nat) :=
  if x.length < 12 then none
  else if x.length - 12 < (x.getD 11 0).toNat then none
  else
    let r : Rec := ⟨(x.getD 0 0).toNat, valB ((x.take 3).drop 1), valB ((x.take 9).drop 3), valB ((x.take 11).drop 9), ⟨((x.take (12 + (x.getD 11 0).toNat)).drop 12).toArray⟩⟩
    if recB r then some (r, 12 + (x.getD 11 0).toNat) else none
theorem cut_mid {α : Type} (a b c : List α) {i j : Nat} (hi : a.length = i) (hj : a.length + b.length = j) : ((a ++ b ++ c).take j).drop i = b := by
  subst hi; subst hj
  rw [List.append_assoc, List.take_append, List.drop_append]
  simp
theorem read_lay {r : Rec} (h : recB r = true) (rest : List UInt8) : readR (layB r ++ rest) = some (r, (layB r).length) := by
  have hb := h
  simp only [recB, keyB, stampB, inB, textB, Rec.key, Bool.and_eq_true, decide_eq_true_eq] at hb
  obtain ⟨⟨⟨⟨⟨o1, o2⟩, q1⟩, q2⟩, ⟨⟨w1, w2⟩, c1, c2⟩⟩, t1, -⟩ := hb
  have o1 : 0 ≤ r.o := of_decide_eq_true o1
  have o2 : r.o < 8 := of_decide_eq_true o2
  have q1 : 1 ≤ r.q := of_decide_eq_true q1
  have q2 : r.q ≤ 1023 := of_decide_eq_true q2
  have hlen := layR_len r
  have e0 : (layB r ++ rest).getD 0 0 = cutB (shrK .i64 r.o ((8 * 0 : Nat) : Int)) := rfl
  have e11 : (layB r ++ rest).getD 11 0 = cutB (shrK .i64 (r.t.size : Int) ((8 * 0 : Nat) : Int)) := rfl
  have v0 : ((layB r ++ rest).getD 0 0).toNat = r.o.toNat := by
    obtain ⟨m, hm⟩ := Int.eq_ofNat_of_zero_le o1
    rw [e0, hm, byte_at m 0 (by omega)]
    simp; omega
  have v11 : ((layB r ++ rest).getD 11 0).toNat = r.t.size := by
    rw [e11, byte_at r.t.size 0 (by omega)]; simp; omega
  have p1 : ((layB r ++ rest).take 3).drop 1 = numB r.q 2 := by
    have := cut_mid (numB r.o 1) (numB r.q 2) (numB r.w 6 ++ numB r.c 2 ++ numB (r.t.size : Int) 1 ++ r.t.data.toList ++ rest) (i := 1) (j := 3) (by rw [numB_length]) (by rw [numB_length, numB_length])
    rw [← this]; unfold layB; simp only [List.append_assoc, List.nil_append]
  have p2 : ((layB r ++ rest).take 9).drop 3 = numB r.w 6 := by
    have := cut_mid (numB r.o 1 ++ numB r.q 2) (numB r.w 6) (numB r.c 2 ++ numB (r.t.size : Int) 1 ++ r.t.data.toList ++ rest) (i := 3) (j := 9) (by simp [numB_length]) (by simp [numB_length])
    rw [← this]; unfold layB; simp only [List.append_assoc, List.nil_append]
  have p3 : ((layB r ++ rest).take 11).drop 9 = numB r.c 2 := by
    have := cut_mid (numB r.o 1 ++ numB r.q 2 ++ numB r.w 6) (numB r.c 2) (numB (r.t.size : Int) 1 ++ r.t.data.toList ++ rest) (i := 9) (j := 11) (by simp [numB_length]) (by simp [numB_length])
    rw [← this]; unfold layB; simp only [List.append_assoc, List.nil_append]
  have p4 : ((layB r ++ rest).take (12 + r.t.size)).drop 12 = r.t.data.toList := by
    have := cut_mid (numB r.o 1 ++ numB r.q 2 ++ numB r.w 6 ++ numB r.c 2 ++ numB (r.t.size : Int) 1) r.t.data.toList rest (i := 12) (j := 12 + r.t.size) (by simp [numB_length]) (by simp [numB_length])
    rw [← this]; unfold layB; simp only [List.append_assoc, List.nil_append]
  unfold readR
  rw [if_neg (by rw [List.length_append]; omega), v11, if_neg (by rw [List.length_append]; omega), v0, p1, p2, p3, p4, val_be0 (by omega) (by omega) (by omega), val_be0 (by omega) (by omega) (by omega), val_be0 (by omega) (by omega) (by omega)]
  have er : (⟨(r.o.toNat : Int), r.q, r.w, r.c, ⟨r.t.data.toList.toArray⟩⟩ : Rec) = r := by
    obtain ⟨o, q, w, c, t⟩ := r
    cases t
    simp only [Rec.mk.injEq, and_true]
    exact Int.toNat_of_nonneg o1
  simp only
  rw [er, if_pos h, hlen]
end Go.Proofs.YtjaafkakeccniaaGreatDoor

/- Entries of a log as bytes; what a segment reads as. Plain. -/
namespace Go.Proofs.YtjaafkakeccniaaGreatDoor
open Go Go.Sl Go.Gv
structure EntP where
  kind : Int
  v : List Int
  w : List Int
  r : Rec
  deriving DecidableEq
def vecB (v : List Int) (n : Int) : Bool := decide (1 ≤ n) && decide (n ≤ 8) && decide ((v.length : Int) = n) && v.all fun x => decide (0 ≤ x) && decide (x ≤ 1023)
def belowB : List Int → List Int → Bool
  | [], [] => true
  | a :: x, b :: y => decide (a ≤ b) && belowB x y
  | _, _ => false
/-- May an entry be, for so many origins? -/
def mayE (e : EntP) (n : Int) : Bool :=
  if e.kind = 1 then decide (e.r = Rec.zero) && vecB e.v n && vecB e.w n && belowB e.w e.v
  else if e.kind = 3 then decide (e.r = Rec.zero) && decide (e.v = []) && vecB e.w n
  else if e.kind = 2 then decide (e.v = []) && decide (e.w = []) && decide (1 ≤ n) && decide (n ≤ 8) && decide (e.r.o < n) && recB e.r
  else false
def twoB (x : Int) : List UInt8 := [cutB (shrK .i64 x 8), cutB x]
def numsB (v : List Int) : List UInt8 := UInt8.ofNat v.length :: v.flatMap twoB
def bodyE (e : EntP) : List UInt8 := if e.kind = 1 then numsB e.v ++ numsB e.w else if e.kind = 3 then numsB e.w else layB e.r
def layE (e : EntP) : List UInt8 := frB e.kind.toNat (bodyE e)
/-- A vector that bytes begin with, and what is left. -/
def readV (b : List UInt8) : Option (List Int × List UInt8) :=
  if b = [] ∨ (b.length - 1) / 2 < (b.getD 0 0).toNat then none
  else some ((List.range (b.getD 0 0).toNat).map fun i => (((b.getD (1 + 2 * i) 0).toNat * 256 + (b.getD (2 + 2 * i) 0).toNat : Nat) : Int), b.drop (1 + 2 * (b.getD 0 0).toNat))
def readEn (k : Nat) (b : List UInt8) : Option EntP :=
  if k = 1 then
    match readV b with
    | none => none
    | some (v, l) => match readV l with
      | some (w, []) => some ⟨1, v, w, Rec.zero⟩
      | _ => none
  else if k = 3 then
    match readV b with
    | some (w, []) => some ⟨3, [], w, Rec.zero⟩
    | _ => none
  else if k = 2 then
    match readR b with
    | none => none
    | some (r, m) => if b.drop m = [] then some ⟨2, [], [], r⟩ else none
  else none
/-- What a segment reads as: its entries, and how many bytes these have. -/
def readS (n : Int) : Nat → Bool → List UInt8 → List EntP × Nat
  | 0, _, _ => ([], 0)
  | f + 1, first, x => match nextB x with
    | none => ([], 0)
    | some (k, b, len) =>
      if decide (k = 1) ≠ first then ([], 0)
      else match readEn k b with
        | none => ([], 0)
        | some e => if mayE e n then (e :: (readS n f false (x.drop len)).1, len + (readS n f false (x.drop len)).2) else ([], 0)
theorem two_len (v : List Int) : (v.flatMap twoB).length = 2 * v.length := by
  induction v with
  | nil => rfl
  | cons x v ih => rw [List.flatMap_cons, List.length_append, ih]; show 2 + _ = 2 * (v.length + 1); omega
theorem two_get {v : List Int} {i : Nat} {x : Int} (rest : List UInt8) (h : v[i]? = some x) : (v.flatMap twoB ++ rest).getD (2 * i) 0 = cutB (shrK .i64 x 8) ∧ (v.flatMap twoB ++ rest).getD (2 * i + 1) 0 = cutB x := by
  induction v generalizing i with
  | nil => cases h
  | cons y v ih =>
    cases i with
    | zero => cases h; exact ⟨rfl, rfl⟩
    | succ i =>
      have := ih (i := i) (by simpa using h)
      rw [List.flatMap_cons, List.append_assoc]
      exact this
theorem cut_small {x : Int} (h0 : 0 ≤ x) (h1 : x ≤ 1023) : ((cutB (shrK .i64 x 8)).toNat * 256 + (cutB x).toNat : Nat) = x.toNat := by
  obtain ⟨m, rfl⟩ := Int.eq_ofNat_of_zero_le h0
  have e1 := byte_at m 1 (by omega)
  have e0 := byte_at m 0 (by omega)
  have ez : shrK .i64 (m : Int) ((8 * 0 : Nat) : Int) = (m : Int) := by unfold shrK; simp
  rw [ez] at e0
  have e1' : (cutB (shrK .i64 (m : Int) 8)).toNat = m / 256 ^ 1 % 256 := e1
  rw [e1', e0]
  simp only [Nat.pow_one, Nat.pow_zero, Nat.div_one, Int.toNat_natCast]
  omega
theorem readV_nums {v : List Int} {n : Int} (hv : vecB v n = true) (rest : List UInt8) : readV (numsB v ++ rest) = some (v, rest) := by
  unfold vecB at hv
  simp only [Bool.and_eq_true, decide_eq_true_eq, List.all_eq_true] at hv
  obtain ⟨⟨⟨n1, n8⟩, hl⟩, hx⟩ := hv
  have hl8 : v.length ≤ 8 := by omega
  have h0 : (numsB v ++ rest).getD 0 0 = UInt8.ofNat v.length := rfl
  have h0n : ((numsB v ++ rest).getD 0 0).toNat = v.length := by rw [h0, UInt8.toNat_ofNat']; omega
  have hlen : (numsB v ++ rest).length = 1 + 2 * v.length + rest.length := by
    unfold numsB; rw [List.length_append, List.length_cons, two_len]; omega
  unfold readV
  rw [h0n, if_neg (by
    rintro (h | h)
    · exact absurd (congrArg List.length h) (by rw [hlen, List.length_nil]; omega)
    · rw [hlen] at h; omega)]
  refine congrArg some (Prod.ext ?_ ?_)
  · refine List.ext_getElem? fun i => ?_
    rw [List.getElem?_map]
    by_cases hi : i < v.length
    · have hvi : v[i]? = some v[i] := by simp [hi]
      rw [List.getElem?_range hi, hvi]
      obtain ⟨g1, g2⟩ := two_get rest hvi
      have e1 : (numsB v ++ rest).getD (1 + 2 * i) 0 = cutB (shrK .i64 v[i] 8) := by rw [← g1, Nat.add_comm]; rfl
      have e2 : (numsB v ++ rest).getD (2 + 2 * i) 0 = cutB v[i] := by rw [← g2, show 2 + 2 * i = (2 * i + 1) + 1 by omega]; rfl
      rw [Option.map_some, e1, e2]
      have hb := hx v[i] (List.getElem_mem hi)
      have := cut_small hb.1 hb.2
      rw [this, Int.toNat_of_nonneg hb.1]
    · rw [List.getElem?_eq_none (by rw [List.length_range]; omega), List.getElem?_eq_none (by show v.length ≤ i; omega)]; rfl
  · show (numsB v ++ rest).drop (1 + 2 * v.length) = rest
    have : (numsB v).length = 1 + 2 * v.length := by unfold numsB; rw [List.length_cons, two_len]; omega
    rw [← this, List.drop_left]
theorem read_body {e : EntP} {n : Int} (h : mayE e n = true) : readEn e.kind.toNat (bodyE e) = some e := by
  obtain ⟨k, v, w, r⟩ := e
  unfold mayE at h
  unfold bodyE readEn
  simp only at h ⊢
  by_cases h1 : k = 1
  · subst h1
    simp only [if_true, Bool.and_eq_true, decide_eq_true_eq] at h
    obtain ⟨⟨⟨hr, hv⟩, hw⟩, -⟩ := h
    rw [if_pos rfl, if_pos (show (1 : Int).toNat = 1 from rfl), readV_nums hv]
    have := readV_nums hw []
    rw [List.append_nil] at this
    simp only [this, hr]
  · rw [if_neg h1] at h
    have k1 : ¬ k.toNat = 1 := fun e => h1 (by omega)
    rw [if_neg h1, if_neg k1]
    by_cases h3 : k = 3
    · subst h3
      simp only [if_true, Bool.and_eq_true, decide_eq_true_eq] at h
      obtain ⟨⟨hr, hv⟩, hw⟩ := h
      rw [if_pos rfl, if_pos (show (3 : Int).toNat = 3 from rfl)]
      have := readV_nums hw []
      rw [List.append_nil] at this
      simp only [this, hr, hv]
    · rw [if_neg h3] at h
      have k3 : ¬ k.toNat = 3 := fun e => h3 (by omega)
      rw [if_neg h3, if_neg k3]
      by_cases h2 : k = 2
      · subst h2
        simp only [if_true, Bool.and_eq_true, decide_eq_true_eq] at h
        obtain ⟨⟨⟨⟨⟨hv, hw⟩, -⟩, -⟩, -⟩, hr⟩ := h
        rw [if_pos (show (2 : Int).toNat = 2 from rfl)]
        have := read_lay hr []
        rw [List.append_nil] at this
        simp only [this, List.drop_length, if_true, hv, hw]
      · rw [if_neg h2] at h; cases h
theorem may_kind {e : EntP} {n : Int} (h : mayE e n = true) : e.kind = 1 ∨ e.kind = 2 ∨ e.kind = 3 := by
  unfold mayE at h
  by_cases h1 : e.kind = 1
  · exact .inl h1
  · rw [if_neg h1] at h
    by_cases h3 : e.kind = 3
    · exact .inr (.inr h3)
    · rw [if_neg h3] at h
      by_cases h2 : e.kind = 2
      · exact .inr (.inl h2)
      · rw [if_neg h2] at h; cases h
theorem vec_len {v : List Int} {n : Int} (h : vecB v n = true) : v.length ≤ 8 := by
  unfold vecB at h
  simp only [Bool.and_eq_true, decide_eq_true_eq] at h
  omega
theorem nums_len (v : List Int) : (numsB v).length = 1 + 2 * v.length := by unfold numsB; rw [List.length_cons, two_len]; omega
theorem body_len {e : EntP} {n : Int} (h : mayE e n = true) : (bodyE e).length ≤ 132 := by
  obtain ⟨k, v, w, r⟩ := e
  unfold mayE at h
  unfold bodyE
  simp only at h ⊢
  by_cases h1 : k = 1
  · rw [if_pos h1] at h ⊢
    simp only [Bool.and_eq_true] at h
    have a := vec_len h.1.1.2
    have b := vec_len h.1.2
    rw [List.length_append, nums_len, nums_len]; omega
  · rw [if_neg h1] at h ⊢
    by_cases h3 : k = 3
    · rw [if_pos h3] at h ⊢
      simp only [Bool.and_eq_true] at h
      have a := vec_len h.2
      rw [nums_len]; omega
    · rw [if_neg h3] at h ⊢
      by_cases h2 : k = 2
      · rw [if_pos h2] at h
        simp only [Bool.and_eq_true] at h
        have hr := h.2
        have hs : (r.t.size : Int) ≤ 120 := by
          simp only [recB, textB, Bool.and_eq_true] at hr
          exact of_decide_eq_true hr.2.1
        rw [layR_len]; omega
      · rw [if_neg h2] at h; cases h
/-- A segment's bytes. -/
def layS (es : List EntP) : List UInt8 := es.flatMap layE
theorem next_ent {e : EntP} {n : Int} (h : mayE e n = true) (rest : List UInt8) : nextB (layE e ++ rest) = some (e.kind.toNat, bodyE e, (layE e).length) := by
  have hb := body_len h
  have hk := may_kind h
  unfold layE
  rw [frB_len]
  exact next_fr _ _ _ (by omega) (by omega) (by omega)
theorem readS_none {n : Int} {f : Nat} {first : Bool} {x : List UInt8} (h : nextB x = none) : readS n f first x = ([], 0) := by
  cases f with
  | zero => rfl
  | succ f => rw [readS, h]
/-- Entries that may be, a base in front of others, read as they were laid; behind them nothing that reads. -/
theorem readS_lay {n : Int} : ∀ (es : List EntP) (f : Nat) (first : Bool) (junk : List UInt8), es.length ≤ f → (∀ e ∈ es, mayE e n = true) → (∀ (i : Nat) (e : EntP), es[i]? = some e → (decide (e.kind = 1) = (first && decide (i = 0)))) → nextB junk = none →
    readS n f first (layS es ++ junk) = (es, (layS es).length)
  | [], f, first, junk, _, _, _, hj => by rw [show layS [] ++ junk = junk from rfl, readS_none hj]; rfl
  | e :: es, 0, _, _, hf, _, _, _ => by simp at hf
  | e :: es, f + 1, first, junk, hf, hm, hb, hj => by
    have he := hm e List.mem_cons_self
    have hk := may_kind he
    have hb0 := hb 0 e rfl
    have e1 : layS (e :: es) ++ junk = layE e ++ (layS es ++ junk) := by unfold layS; rw [List.flatMap_cons, List.append_assoc]
    have hkk : decide (e.kind.toNat = 1) = first := by
      rw [show decide (e.kind.toNat = 1) = decide (e.kind = 1) from decide_eq_decide.2 ⟨fun h => by omega, fun h => by omega⟩, hb0]; simp
    have ih := readS_lay es f false junk (by simpa using hf) (fun x hx => hm x (List.mem_cons_of_mem _ hx)) (fun i x hx => by
      have := hb (i + 1) x (by simpa using hx)
      rw [this]; simp) hj
    rw [e1, readS, next_ent he]
    simp only
    rw [if_neg (by rw [hkk]; exact fun h => h rfl), read_body he]
    simp only
    rw [if_pos he, List.drop_left, ih]
    refine Prod.ext rfl ?_
    show (layE e).length + (layS es).length = (layS (e :: es)).length
    unfold layS; rw [List.flatMap_cons, List.length_append]
end Go.Proofs.YtjaafkakeccniaaGreatDoor

/- A segment that lost its end: what of it reads. Plain. -/
namespace Go.Proofs.YtjaafkakeccniaaGreatDoor
open Go Go.Sl Go.Gv
theorem layE_pos (e : EntP) : 12 ≤ (layE e).length := by
  unfold layE; rw [frB_len]; omega
theorem layS_cons (e : EntP) (es : List EntP) : layS (e :: es) = layE e ++ layS es := by unfold layS; rw [List.flatMap_cons]
theorem layS_app (a b : List EntP) : layS (a ++ b) = layS a ++ layS b := by unfold layS; rw [List.flatMap_append]
/-- How many entries stand whole in so many bytes. -/
def wholeN : List EntP → Nat → Nat
  | [], _ => 0
  | e :: es, m => if (layE e).length ≤ m then wholeN es (m - (layE e).length) + 1 else 0
theorem whole_le : ∀ (es : List EntP) (m : Nat), wholeN es m ≤ es.length
  | [], _ => Nat.le_refl _
  | e :: es, m => by
    unfold wholeN; split
    · have := whole_le es (m - (layE e).length); simp; omega
    · exact Nat.zero_le _
theorem whole_all : ∀ (es : List EntP) (m : Nat), (layS es).length ≤ m → wholeN es m = es.length
  | [], _, _ => rfl
  | e :: es, m, h => by
    rw [layS_cons, List.length_append] at h
    unfold wholeN
    rw [if_pos (by omega), whole_all es _ (by omega)]; rfl
theorem whole_mono : ∀ (es : List EntP) (m m' : Nat), m ≤ m' → wholeN es m ≤ wholeN es m'
  | [], _, _, _ => Nat.le_refl _
  | e :: es, m, m', h => by
    unfold wholeN
    by_cases h1 : (layE e).length ≤ m
    · rw [if_pos h1, if_pos (by omega)]
      have := whole_mono es (m - (layE e).length) (m' - (layE e).length) (by omega)
      omega
    · rw [if_neg h1]; exact Nat.zero_le _
/-- So many bytes are whole entries, and a beginning of one that does not read. -/
theorem take_whole {n : Int} : ∀ (es : List EntP) (m : Nat), (∀ e ∈ es, mayE e n = true) → ∃ junk, (layS es).take m = layS (es.take (wholeN es m)) ++ junk ∧ nextB junk = none
  | [], m, _ => ⟨[], by simp [layS, wholeN], rfl⟩
  | e :: es, m, h => by
    have he := h e List.mem_cons_self
    have hb := body_len he
    rw [layS_cons]
    by_cases hm : (layE e).length ≤ m
    · obtain ⟨junk, h1, h2⟩ := take_whole es (m - (layE e).length) fun x hx => h x (List.mem_cons_of_mem _ hx)
      refine ⟨junk, ?_, h2⟩
      unfold wholeN
      rw [if_pos hm, List.take_append, List.take_of_length_le hm, h1, List.take_succ_cons, layS_cons, List.append_assoc]
    · refine ⟨(layE e).take m, ?_, ?_⟩
      · unfold wholeN
        rw [if_neg hm, List.take_append_of_le_length (by omega)]; rfl
      · unfold layE at hm ⊢
        exact next_cut _ _ _ (by omega) (by omega)
theorem base_take {es : List EntP} {first : Bool} (h : ∀ (i : Nat) (e : EntP), es[i]? = some e → decide (e.kind = 1) = (first && decide (i = 0))) (k : Nat) : ∀ (i : Nat) (e : EntP), (es.take k)[i]? = some e → decide (e.kind = 1) = (first && decide (i = 0)) := fun i e hi => by
  rw [List.getElem?_take] at hi
  split at hi
  · exact h i e hi
  · cases hi
/-- Of a segment that lost its end the entries read that stand whole. -/
theorem readS_cut {n : Int} {es : List EntP} (hm : ∀ e ∈ es, mayE e n = true) (hb : ∀ (i : Nat) (e : EntP), es[i]? = some e → decide (e.kind = 1) = decide (i = 0)) (m f : Nat) (hf : es.length ≤ f) :
    readS n f true ((layS es).take m) = (es.take (wholeN es m), (layS (es.take (wholeN es m))).length) := by
  obtain ⟨junk, h1, h2⟩ := take_whole es m hm
  rw [h1]
  refine readS_lay _ f true junk (by rw [List.length_take]; omega) (fun e he => hm e (List.mem_of_mem_take he)) (base_take (first := true) (fun i e hi => by rw [hb i e hi]; simp) _) h2
end Go.Proofs.YtjaafkakeccniaaGreatDoor

