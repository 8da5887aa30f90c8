/- Walks: grapevinelaw13.both, one, awake. -/
import Derived.Test.YthlnjkfahmebjaaDoorPl13
namespace Go.Proofs.YthlnjkfahmebjaaDoor
open Go Go.Sl Go.Gv Go.Kv
set_option maxRecDepth 100000
theorem cmp_49 : CmpT Tryd.prog 49 partV 2 :=
  CmpT.of (fun k : Part => (k.o, k.l, k.i)) (fun a b => by cases a; cases b; simp) (fun _ => rfl)
    (cmp_iii Tryd.underlying49 Tryd.stoodInHeld49 ⟨by decide, by decide, by decide⟩ ⟨⟨rfl, rfl, rfl⟩, rfl, rfl, rfl⟩ Tryd.underlying3 na_3)
def rec1 : Rec := ⟨0, 5, 0, 0, ⟨#[97]⟩⟩
theorem one_spec : Ct Tryd.prog 27 [] [] (fun v hs => v = recV rec1 ∧ hs = []) := by
  refine Ct.intro Tryd.func27 rfl (by kernel_rfl) 3 Tryd.ntmps27 (Nat.le_of_ble_eq_true rfl) fun w0 R => ?_
  refine Gs.seq ?_
  refine Gs.reg ?_
  refine Go.Sl.L.ac rfl rfl trivial (ac_alloc zv_42 rfl) ?_
  rintro _ _ ⟨b, rfl, rfl⟩
  refine Go.Sl.L.nil ?_
  refine Gs.then_n ?_
  refine Gs.seq ?_
  refine Gs.reg ?_
  refine Go.Sl.L.pu rfl rfl trivial (pu_build bd_38 (by repeat constructor) rfl) ?_
  refine Go.Sl.L.pu rfl rfl trivial (pu_build bd_42 (by repeat constructor) rfl) ?_
  refine Go.Sl.L.ac0 rfl trivial (ac_st sz_42 rfl rfl (by repeat constructor) rfl rfl rfl rfl) ?_
  rintro _ _ rfl
  refine Go.Sl.L.nil ?_
  refine Gs.then_n ?_
  refine Gs.ret ?_
  exact Gs.finc1 Tryd.results27 ag_42 rfl (Rdc.cl 5 (by repeat constructor) rfl) rfl _ (⟨rfl, rfl⟩) (by repeat constructor)
theorem both_spec {h0 : Hp} (T : Tabs h0) {a : Option Addr} {c : Nat} {rs : List Rec} (hS : slR h0 5 recC a rs) (hl : rs.length ≤ 25) :
    Ct Tryd.prog 10 [.slice a rs.length c] [ro h0] (fun v hs => ∃ b1 b2, v = .tuple #[ptr b1, ptr b2] ∧ hs = [ro h0, tre b1 (putAll [] rs), rt b2 (putAll [] rs)]) := by
  refine Ct.intro Tryd.func10 rfl (by kernel_rfl) 32 Tryd.ntmps10 (Nat.le_of_ble_eq_true rfl) fun w0 R => ?_
  refine Gs.slAddr (SlH.ro (by repeat constructor) hS) fun ab ao ha => ?_
  refine Gs.seq ?_
  refine Gs.reg ?_
  refine Go.Sl.L.pu rfl rfl trivial (pu_assign rfl) ?_
  refine Go.Sl.L.pu rfl rfl trivial (pu_assign rfl) ?_
  refine Go.Sl.L.nil ?_
  refine Gs.then_n ?_
  refine Gs.seq ?_
  refine Gs.reg ?_
  refine Go.Sl.L.ac rfl rfl trivial (as_call (treNew_spec) (by repeat constructor) (by repeat constructor)) ?_
  rintro _ _ ⟨_, ⟨tb, rfl, rfl⟩, rfl⟩
  refine Go.Sl.L.pu rfl rfl trivial (pu_build bd_35 (by repeat constructor) rfl) ?_
  refine Go.Sl.L.ac rfl rfl trivial (ac_box rfl rfl) ?_
  rintro _ _ ⟨rb, rfl, rfl⟩
  refine Go.Sl.L.pu rfl rfl trivial (pu_assign rfl) ?_
  refine Go.Sl.L.pu rfl rfl trivial (pu_assign rfl) ?_
  refine Go.Sl.L.nil ?_
  refine Gs.slNil 42 5 recC (Gs.rtClose (L := []) none 0 (by repeat constructor) ?_)
  refine Gs.then_n ?_
  refine Gs.seq ?_
  refine Gs.seq ?_
  refine Gs.reg ?_
  refine Go.Sl.L.pu rfl rfl trivial (pu_assign rfl) ?_
  refine Go.Sl.L.nil ?_
  refine Gs.then_n ?_
  refine Gs.block ?_
  refine Gs.loop1 (fun s : Nat × List Rec => s.1 ≤ rs.length ∧ s.2 = putAll [] (rs.take s.1)) (fun s => [(0, .slice a rs.length c), (4, ptr tb), (5, ptr rb), (6, int s.1)]) (fun s => [ro h0, tre tb s.2, rt rb s.2] ++ R) (fun s => rs.length - s.1) (0, []) (⟨Nat.zero_le _, rfl⟩) (by repeat constructor) (by repeat constructor) (fun s hs => ?_)
  obtain ⟨i, K⟩ := s
  obtain ⟨hi, hK⟩ := hs
  dsimp only at hi hK ⊢
  have hKl : K.length ≤ i := by rw [hK]; have := (putAll_length [] (rs.take i)).2; rw [List.length_take] at this; simp at this; omega
  refine Gs.seq ?_
  refine Gs.seq ?_
  refine Gs.reg ?_
  refine Go.Sl.L.pu rfl rfl trivial (pu_move rfl) ?_
  refine Go.Sl.L.pu rfl rfl trivial (pu_move rfl) ?_
  refine Go.Sl.L.pu rfl rfl trivial (pu_len Tryd.underlying22 rfl) ?_
  refine Go.Sl.L.pu rfl rfl trivial (pu_lt rfl rfl) ?_
  refine Go.Sl.L.nil ?_
  refine Gs.then_n ?_
  refine Gs.cond rfl (fun hc0 => ?_) (fun hc0 => ?_)
  · skip
    have hlt : i < rs.length := by have := of_decide_eq_true hc0; omega
    obtain ⟨r, hr⟩ : ∃ x, rs[i]? = some x := ⟨rs[i], by simp [hlt]⟩
    obtain rfl := ha (by rintro rfl; simp at hlt)
    have hstep := putAll_take (L := []) hr
    rw [← hK] at hstep
    refine Gs.skip ?_
    refine Gs.then_n ?_
    refine Gs.seq ?_
    refine Gs.block ?_
    refine Gs.seq ?_
    refine Gs.reg ?_
    refine Go.Sl.L.pu rfl rfl trivial (pu_move rfl) ?_
    refine Go.Sl.L.pu rfl rfl trivial (pu_move rfl) ?_
    refine Go.Sl.L.pu rfl rfl trivial (pu_move rfl) ?_
    refine Go.Sl.L.pu rfl rfl trivial (pu_ia se_22 rfl rfl (by omega) (by omega)) ?_
    refine Go.Sl.L.rd rfl rfl trivial (rd_lda ag_42 rfl (Rdc.el0 (SlH.ro (by repeat constructor) hS) hr rfl rfl) rfl) ?_
    refine Go.Sl.L.ac rfl rfl trivial (ac_lit encC_42 ([r]) et_22 ek_42 rfl (by repeat constructor) rfl rfl (by decide)) ?_
    rintro _ _ ⟨a21, rfl, rfl⟩
    refine Go.Sl.L.ac rfl rfl trivial (as_call (treePut_spec (S := sl 42 5 recC (some ⟨a21, 0, none⟩) 1 [r]) (rs := [r]) T tb K Srd.own (by simp) (by simp; omega)) (by repeat constructor) (by repeat constructor)) ?_
    rintro _ _ ⟨_, ⟨rfl, rfl⟩, rfl⟩
    refine Go.Sl.L.nil ?_
    refine Gs.then_n ?_
    refine Gs.reg ?_
    refine Go.Sl.L.pu rfl rfl trivial (pu_move rfl) ?_
    refine Go.Sl.L.pu rfl rfl trivial (pu_move rfl) ?_
    refine Go.Sl.L.pu rfl rfl trivial (pu_move rfl) ?_
    refine Go.Sl.L.pu rfl rfl trivial (pu_ia se_22 rfl rfl (by omega) (by omega)) ?_
    refine Go.Sl.L.rd rfl rfl trivial (rd_lda ag_42 rfl (Rdc.el0 (SlH.ro (by repeat constructor) hS) hr rfl rfl) rfl) ?_
    refine Go.Sl.L.ac rfl rfl trivial (ac_lit encC_42 ([r]) et_22 ek_42 rfl (by repeat constructor) rfl rfl (by decide)) ?_
    rintro _ _ ⟨a28, rfl, rfl⟩
    refine Go.Sl.L.ac rfl rfl trivial (as_call (put12_spec (S := sl 42 5 recC (some ⟨a28, 0, none⟩) 1 [r]) (rs := [r]) T rb K Srd.own (by simp; omega)) (by repeat constructor) (by repeat constructor)) ?_
    rintro _ _ ⟨_, ⟨⟨z, rfl⟩, rfl⟩, rfl⟩
    refine Go.Sl.L.nil ?_
    refine Gs.blk_n ?_
    refine Gs.then_n ?_
    refine Gs.reg ?_
    refine Go.Sl.L.pu rfl rfl trivial (pu_move rfl) ?_
    refine Go.Sl.L.pu rfl rfl trivial (by first | exact pu_addI rfl rfl rfl (by omega) (by omega) | exact pu_add rfl rfl) ?_
    refine Go.Sl.L.pu rfl rfl trivial (pu_assign rfl) ?_
    refine Go.Sl.L.nil ?_
    refine Gs.then_n ?_
    exact Gs.again1 (i + 1, putOne K r) ⟨by show i + 1 ≤ rs.length; omega, hstep.symm⟩ (by show rs.length - (i + 1) < rs.length - i; omega) (by repeat constructor) (by repeat constructor)
  · skip
    have hge : i = rs.length := by have := of_decide_eq_false hc0; omega
    rw [hge, List.take_length] at hK
    subst hK
    refine Gs.exit ?_
    refine Gs.then_x ?_
    refine Gs.then_x ?_
    refine Gs.blk_hit ?_
    refine Gs.then_n ?_
    refine Gs.seq ?_
    refine Gs.reg ?_
    refine Go.Sl.L.pu rfl rfl trivial (pu_move rfl) ?_
    refine Go.Sl.L.pu rfl rfl trivial (pu_move rfl) ?_
    refine Go.Sl.L.pu rfl rfl trivial (pu_assign rfl) ?_
    refine Go.Sl.L.pu rfl rfl trivial (pu_assign rfl) ?_
    refine Go.Sl.L.nil ?_
    refine Gs.then_n ?_
    refine Gs.ret ?_
    exact Gs.fin2 Tryd.results10 rfl rfl _ (⟨_, _, rfl, rfl⟩) (by repeat constructor)
theorem put_one : putAll [] [rec1] = [rec1] := by decide +kernel
theorem find_one : sortK (findK [rec1] [] 3) = [⟨0, 5⟩] := by decide +kernel
theorem ask_one : askN [rec1] [] 3 = 23 := by decide +kernel
theorem step_one : stepP [rec1] [] ⟨0, 0, 0⟩ = [⟨0, 1, 0⟩] := by decide +kernel
theorem clash_one : clashN [rec1] [] 3 = false := by decide +kernel
end Go.Proofs.YthlnjkfahmebjaaDoor
