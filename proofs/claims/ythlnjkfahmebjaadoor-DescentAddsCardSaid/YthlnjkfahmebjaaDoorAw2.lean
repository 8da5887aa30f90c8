/- Walks: grapevinelaw13.awake. -/
import Derived.Test.YthlnjkfahmebjaaDoorAw
namespace Go.Proofs.YthlnjkfahmebjaaDoor
open Go Go.Sl Go.Gv Go.Kv
set_option maxRecDepth 100000
theorem awake_spec {h0 : Hp} (T : Tabs h0) : Ct Tryd.prog 9 [] [ro h0] (fun v hs => v = .bool true ∧ hs = [ro h0]) := by
  have e1 : findK [] [] 3 = [] := findK_ext (fun _ => rfl) 3
  have e2 : askN [] [] 3 = 3 := askN_ext (fun _ => rfl) 3
  refine Ct.intro Tryd.func9 rfl (by kernel_rfl) 71 Tryd.ntmps9 (Nat.le_of_ble_eq_true rfl) fun w0 R => ?_
  refine Gs.seq ?_
  refine Gs.reg ?_
  refine Go.Sl.L.pu rfl rfl trivial (pu_assign rfl) ?_
  refine Go.Sl.L.nil ?_
  refine Gs.then_n ?_
  refine Gs.seq ?_
  refine Gs.reg ?_
  refine Go.Sl.L.ac rfl rfl trivial (as_call (treNew_spec) (by repeat constructor) (by repeat constructor)) ?_
  rintro _ _ ⟨_, ⟨b1, rfl, rfl⟩, rfl⟩
  refine Go.Sl.L.ac rfl rfl trivial (as_call (treNew_spec) (by repeat constructor) (by repeat constructor)) ?_
  rintro _ _ ⟨_, ⟨b2, rfl, rfl⟩, rfl⟩
  refine Go.Sl.L.pu rfl rfl trivial (pu_assign rfl) ?_
  refine Go.Sl.L.pu rfl rfl trivial (pu_assign rfl) ?_
  refine Go.Sl.L.nil ?_
  refine Gs.then_n ?_
  refine Gs.seq ?_
  refine Gs.seq ?_
  refine Gs.reg ?_
  refine Go.Sl.L.pu rfl rfl trivial (pu_move rfl) ?_
  refine Go.Sl.L.pu rfl rfl trivial (pu_eqN Tryd.underlying25 rfl rfl) ?_
  refine Go.Sl.L.puBf rfl rfl trivial (pu_move rfl) rfl ?_
  refine Go.Sl.L.pu rfl rfl ⟨_, rfl, rfl⟩ (pu_move rfl) ?_
  refine Go.Sl.L.pu rfl rfl ⟨_, rfl, rfl⟩ (pu_eqN Tryd.underlying25 rfl rfl) ?_
  refine Go.Sl.L.pu rfl rfl trivial (by first | exact pu_pick_t rfl rfl | exact pu_pick_f rfl rfl) ?_
  refine Go.Sl.L.nil ?_
  refine Gs.then_n ?_
  refine Gs.cond_f rfl ?_
  refine Gs.skip ?_
  refine Gs.then_n ?_
  refine Gs.seq ?_
  refine Gs.reg ?_
  refine Go.Sl.L.pu rfl rfl trivial (pu_move rfl) ?_
  refine Go.Sl.L.ac rfl rfl trivial (as_call (one_spec) (by repeat constructor) (by repeat constructor)) ?_
  rintro _ _ ⟨_, ⟨rfl, rfl⟩, rfl⟩
  refine Go.Sl.L.ac rfl rfl trivial (ac_lit encC_42 ([rec1]) et_22 ek_42 rfl (by repeat constructor) rfl rfl (by decide)) ?_
  rintro _ _ ⟨a18, rfl, rfl⟩
  refine Go.Sl.L.ac rfl rfl trivial (as_call (treePut_spec (S := sl 42 5 recC (some ⟨a18, 0, none⟩) 1 [rec1]) (rs := [rec1]) T b1 [] Srd.own (by simp) (by simp)) (by repeat constructor) (by repeat constructor)) ?_
  rintro _ _ ⟨_, ⟨rfl, rfl⟩, rfl⟩
  refine Go.Sl.L.nil ?_
  rw [put_one]
  refine Gs.takes (As := [tre b1 [rec1], tre b2 []]) (by repeat constructor) (Gs.toTwo ?_)
  refine Gs.then_n ?_
  refine Gs.seq ?_
  refine Gs.reg ?_
  refine Go.Sl.L.pu rfl rfl trivial (pu_move rfl) ?_
  refine Go.Sl.L.pu rfl rfl trivial (pu_move rfl) ?_
  refine Go.Sl.L.ac rfl rfl trivial (as_call (find_spec (TrR.own b1 [rec1]).left (TrR.own b2 []).right 3 (by decide)) (by repeat constructor) (by repeat constructor)) ?_
  rintro _ _ ⟨_, ⟨ka, kc, rfl, rfl⟩, rfl⟩
  rw [find_one, ask_one]
  refine Go.Sl.L.pu rfl rfl trivial (pu_move rfl) ?_
  refine Go.Sl.L.pu rfl rfl trivial (pu_extract rfl rfl) ?_
  refine Go.Sl.L.pu rfl rfl trivial (pu_extract rfl rfl) ?_
  refine Go.Sl.L.pu rfl rfl trivial (pu_assign rfl) ?_
  refine Go.Sl.L.pu rfl rfl trivial (pu_assign rfl) ?_
  refine Go.Sl.L.nil ?_
  refine Gs.then_n ?_
  refine Gs.seq ?_
  refine Gs.reg ?_
  refine Go.Sl.L.pu rfl rfl trivial (pu_move rfl) ?_
  refine Go.Sl.L.pu rfl rfl trivial (pu_move rfl) ?_
  refine Go.Sl.L.ac rfl rfl trivial (as_call (find_spec (S := two (tre b1 [rec1]) (tre b2 [])) (TrR.own b2 []).right (TrR.own b2 []).right 3 (by decide)) (by repeat constructor) (by repeat constructor)) ?_
  rintro _ _ ⟨_, ⟨ka2, kc2, rfl, rfl⟩, rfl⟩
  rw [e1, e2]
  refine Go.Sl.L.pu rfl rfl trivial (pu_move rfl) ?_
  refine Go.Sl.L.pu rfl rfl trivial (pu_extract rfl rfl) ?_
  refine Go.Sl.L.pu rfl rfl trivial (pu_extract rfl rfl) ?_
  refine Go.Sl.L.pu rfl rfl trivial (pu_assign rfl) ?_
  refine Go.Sl.L.pu rfl rfl trivial (pu_assign rfl) ?_
  refine Go.Sl.L.nil ?_
  refine Gs.then_n ?_
  refine Gs.seq ?_
  refine Gs.reg ?_
  refine Go.Sl.L.pu rfl rfl trivial (pu_move rfl) ?_
  refine Go.Sl.L.pu rfl rfl trivial (pu_move rfl) ?_
  refine Go.Sl.L.pu rfl rfl trivial (pu_build bd_49 (by repeat constructor) rfl) ?_
  refine Go.Sl.L.ac rfl rfl trivial (as_call (step_spec (S := two (tre b1 [rec1]) (tre b2 [])) (TrR.own b1 [rec1]).left (TrR.own b2 []).right ⟨0, 0, 0⟩) (by repeat constructor) (by repeat constructor)) ?_
  rintro _ _ ⟨_, ⟨sa, sc, rfl, rfl⟩, rfl⟩
  rw [step_one]
  refine Gs.slAddr (xs := [(⟨0, 1, 0⟩ : Part)]) (SlH.own (E := 49) (enc := partC) (by repeat constructor)) fun ab ao ha => ?_
  obtain rfl := ha (by simp)
  refine Go.Sl.L.pu rfl rfl trivial (pu_assign rfl) ?_
  refine Go.Sl.L.nil ?_
  refine Gs.then_n ?_
  refine Gs.seq ?_
  refine Gs.reg ?_
  refine Go.Sl.L.pu rfl rfl trivial (pu_move rfl) ?_
  refine Go.Sl.L.ac rfl rfl trivial (as_call (one_spec) (by repeat constructor) (by repeat constructor)) ?_
  rintro _ _ ⟨_, ⟨rfl, rfl⟩, rfl⟩
  refine Go.Sl.L.pu rfl rfl trivial (pu_fg fg_42_0 rfl rfl) ?_
  refine Go.Sl.L.ac rfl rfl trivial (ac_lit encC_38 ([(⟨0, 5⟩ : Key)]) et_30 ek_38 rfl (by repeat constructor) rfl rfl (by decide)) ?_
  rintro _ _ ⟨a39, rfl, rfl⟩
  refine Go.Sl.L.ac rfl rfl trivial (as_call (sameKeys_spec (S := sl 38 2 keyC ka kc [⟨0, 5⟩]) (U := sl 38 2 keyC (some ⟨a39, 0, none⟩) 1 [⟨0, 5⟩]) (xs := [⟨0, 5⟩]) (ys := [⟨0, 5⟩]) Srd.own Srd.own (by decide)) (by repeat constructor) (by repeat constructor)) ?_
  rintro _ _ ⟨_, ⟨rfl, rfl⟩, rfl⟩
  refine Go.Sl.L.puBt rfl rfl trivial (pu_move rfl) (by decide) ?_
  refine Go.Sl.L.pu rfl rfl ⟨_, rfl, rfl⟩ (pu_move rfl) ?_
  refine Go.Sl.L.pu rfl rfl ⟨_, rfl, rfl⟩ (pu_eq rfl rfl) ?_
  refine Go.Sl.L.pu rfl rfl trivial (by first | exact pu_pick_t rfl rfl | exact pu_pick_f rfl rfl) ?_
  refine Go.Sl.L.puBt rfl rfl trivial (pu_move rfl) rfl ?_
  refine Go.Sl.L.pu rfl rfl ⟨_, rfl, rfl⟩ (pu_move rfl) ?_
  refine Go.Sl.L.pu rfl rfl ⟨_, rfl, rfl⟩ (pu_eq rfl rfl) ?_
  refine Go.Sl.L.pu rfl rfl trivial (by first | exact pu_pick_t rfl rfl | exact pu_pick_f rfl rfl) ?_
  refine Go.Sl.L.puBt rfl rfl trivial (pu_move rfl) rfl ?_
  refine Go.Sl.L.pu rfl rfl ⟨_, rfl, rfl⟩ (pu_move rfl) ?_
  refine Go.Sl.L.pu rfl rfl ⟨_, rfl, rfl⟩ (pu_len Tryd.underlying50 rfl) ?_
  refine Go.Sl.L.pu rfl rfl ⟨_, rfl, rfl⟩ (pu_eq rfl rfl) ?_
  refine Go.Sl.L.pu rfl rfl trivial (by first | exact pu_pick_t rfl rfl | exact pu_pick_f rfl rfl) ?_
  refine Go.Sl.L.puBt rfl rfl trivial (pu_move rfl) rfl ?_
  refine Go.Sl.L.pu rfl rfl ⟨_, rfl, rfl⟩ (pu_move rfl) ?_
  refine Go.Sl.L.pu rfl rfl ⟨_, rfl, rfl⟩ (pu_ia se_50 rfl rfl (by decide) (by decide)) ?_
  refine Go.Sl.L.rd rfl rfl ⟨_, rfl, rfl⟩ (rd_lda ag_49 rfl (Rdc.el0 (i := 0) (x := (⟨0, 1, 0⟩ : Part)) (xs := [(⟨0, 1, 0⟩ : Part)]) (enc := partC) (sz := 3) (SlH.own (E := 49) (c := sc) (by repeat constructor)) rfl rfl rfl) rfl) ?_
  refine Go.Sl.L.pu rfl rfl ⟨_, rfl, rfl⟩ (pu_build bd_49 (by repeat constructor) rfl) ?_
  refine Go.Sl.L.pu rfl rfl ⟨_, rfl, rfl⟩ (pu_eqT (a := (⟨0, 1, 0⟩ : Part)) (b := (⟨0, 1, 0⟩ : Part)) cmp_49 (by decide) Tryd.eqGuardType49 rfl rfl) ?_
  refine Go.Sl.L.pu rfl rfl trivial (by first | exact pu_pick_t rfl rfl | exact pu_pick_f rfl rfl) ?_
  refine Go.Sl.L.puBt rfl rfl trivial (pu_move rfl) (by decide) ?_
  refine Go.Sl.L.pu rfl rfl ⟨_, rfl, rfl⟩ (pu_move rfl) ?_
  refine Go.Sl.L.pu rfl rfl ⟨_, rfl, rfl⟩ (pu_move rfl) ?_
  refine Go.Sl.L.ac rfl rfl ⟨_, rfl, rfl⟩ (as_call (clashN_spec (S := two (tre b1 [rec1]) (tre b2 [])) (TrR.own b1 [rec1]).left (TrR.own b2 []).right 3 (by decide)) (by repeat constructor) (by repeat constructor)) ?_
  rintro _ _ ⟨_, ⟨rfl, rfl⟩, rfl⟩
  rw [clash_one]
  refine Go.Sl.L.pu rfl rfl ⟨_, rfl, rfl⟩ (pu_not rfl) ?_
  refine Go.Sl.L.pu rfl rfl trivial (by first | exact pu_pick_t rfl rfl | exact pu_pick_f rfl rfl) ?_
  refine Go.Sl.L.puBt rfl rfl trivial (pu_move rfl) rfl ?_
  refine Go.Sl.L.ac rfl rfl ⟨_, rfl, rfl⟩ (as_call (bound_spec 2 (by decide)) (by repeat constructor) (by repeat constructor)) ?_
  rintro _ _ ⟨_, ⟨rfl, rfl⟩, rfl⟩
  refine Go.Sl.L.pu rfl rfl ⟨_, rfl, rfl⟩ (pu_eq rfl rfl) ?_
  refine Go.Sl.L.pu rfl rfl trivial (by first | exact pu_pick_t rfl rfl | exact pu_pick_f rfl rfl) ?_
  refine Go.Sl.L.pu rfl rfl trivial (pu_assign rfl) ?_
  refine Go.Sl.L.nil ?_
  refine Gs.then_n ?_
  refine Gs.ret ?_
  exact Gs.fin1 Tryd.results9 rfl _ (⟨rfl, rfl⟩) (by repeat constructor)
end Go.Proofs.YthlnjkfahmebjaaDoor
