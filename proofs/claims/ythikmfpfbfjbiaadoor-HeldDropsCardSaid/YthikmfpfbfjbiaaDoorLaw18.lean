/- Walks: grapevinelaw18: awake, HeldAll. -/
import Derived.Test.YthikmfpfbfjbiaaDoorL0
import Derived.Test.YthikmfpfbfjbiaaDoorRef18b
namespace Go.Proofs.YthikmfpfbfjbiaaDoor
open Go Go.Sl Go.Gv Go.Kv
set_option maxRecDepth 100000

theorem new_ok (most : Int) (h : 0 ≤ most) (h2 : most ≤ 12) : Ct Tryd.prog 7 [int most] [] (fun v hs => ∃ b m, v = ptr b ∧ hs = [cl b 61 (heldC most m), mp keyV recV m (ents [])]) :=
  (new_spec most).mono fun v hs h => by
    rcases h with ⟨h, -⟩ | ⟨-, -, h⟩
    · omega
    · exact h
theorem new_bad (most : Int) (h : most < 0 ∨ 12 < most) : Ct Tryd.prog 7 [int most] [] (fun v hs => v = .pointer none ∧ hs = []) :=
  (new_spec most).mono fun v hs h => by
    rcases h with ⟨-, h⟩ | ⟨h, h', -⟩
    · exact h
    · omega
def recN (n : Int) : Rec := ⟨1, n, 0, 0, ⟨#[]⟩⟩
theorem recN_ok {n : Int} (h : 1 ≤ n) (h2 : n ≤ 1023) : recB (recN n) = true := by
  have : textB ⟨#[]⟩ = true := by unfold textB; rw [validS_nil]; rfl
  simp [recB, keyB, stampB, inB, recN, Rec.key, h, h2, this]
theorem rec_spec (n : Int) : Ct Tryd.prog 23 [int n] [] (fun v hs => v = recV (recN n) ∧ hs = []) := by
  refine Ct.intro Tryd.func23 rfl (by kernel_rfl) 6 Tryd.ntmps23 (Nat.le_of_ble_eq_true rfl) fun w0 R => ?_
  refine Gs.seq ?_
  refine Gs.reg ?_
  refine Go.Sl.L.ac rfl rfl trivial (ac_alloc zv_29 rfl) ?_
  rintro _ _ ⟨b2, rfl, rfl⟩
  refine Go.Sl.L.nil ?_
  refine Gs.then_n ?_
  refine Gs.seq ?_
  refine Gs.reg ?_
  refine Go.Sl.L.pu rfl rfl trivial (pu_move rfl) ?_
  refine Go.Sl.L.pu rfl rfl trivial (pu_build bd_25 (by repeat constructor) rfl) ?_
  refine Go.Sl.L.pu rfl rfl trivial (pu_build bd_29 (by repeat constructor) rfl) ?_
  refine Go.Sl.L.ac0 rfl trivial (ac_st sz_29 rfl rfl (by repeat constructor) rfl rfl rfl rfl) ?_
  rintro _ _ rfl
  refine Go.Sl.L.nil ?_
  refine Gs.then_n ?_
  refine Gs.ret ?_
  exact Gs.finc1 Tryd.results23 ag_29 rfl (Rdc.cl 5 (by repeat constructor) rfl) rfl _ (⟨rfl, rfl⟩) (by repeat constructor)
theorem putE_ok {most : Int} {L : List Rec} {r : Rec} (h : recB r = true) (h2 : look L r.key = none) (h3 : ¬ most ≤ L.length) : putE most L r = 0 := by simp [putE, h, h2, h3]
theorem putE_full {most : Int} {L : List Rec} {r : Rec} (h : recB r = true) (h2 : look L r.key = none) (h3 : most ≤ L.length) : putE most L r = 9 := by simp [putE, h, h2, h3]
theorem awake_spec {h0 : Hp} (T : Tabs h0) : Ct Tryd.prog 6 [] [ro h0] (fun v hs => v = .bool true ∧ hs = [ro h0]) := by
  have e1 : putE 1 [] (recN 3) = 0 := putE_ok (recN_ok (by decide) (by decide)) rfl (by decide)
  have e2 : putL 1 [] (recN 3) = [recN 3] := by simp [putL, e1]
  have e3 : putE 1 [recN 3] (recN 4) = 9 := putE_full (recN_ok (by decide) (by decide)) (by decide) (by decide)
  have e4 : putL 1 [recN 3] (recN 4) = [recN 3] := by simp [putL, e3]
  have e5 : look [recN 3] (recN 3).key = some (recN 3) := by decide
  have e6 : delL [recN 3] (recN 3).key = [] := by decide
  refine Ct.intro Tryd.func6 rfl (by kernel_rfl) 52 Tryd.ntmps6 (Nat.le_of_ble_eq_true rfl) fun w0 R => ?_
  refine Gs.seq ?_
  refine Gs.reg ?_
  refine Go.Sl.L.pu rfl rfl trivial (pu_assign rfl) ?_
  refine Go.Sl.L.nil ?_
  refine Gs.then_n ?_
  refine Gs.seq ?_
  refine Gs.reg ?_
  refine Go.Sl.L.ac rfl rfl trivial (as_call (new_ok 1 (by decide) (by decide)) (by repeat constructor) (by repeat constructor)) ?_
  rintro _ _ ⟨_, ⟨b, m, rfl, rfl⟩, rfl⟩
  refine Go.Sl.L.pu rfl rfl trivial (pu_assign rfl) ?_
  refine Go.Sl.L.nil ?_
  refine Gs.then_n ?_
  refine Gs.seq ?_
  refine Gs.seq ?_
  refine Gs.reg ?_
  refine Go.Sl.L.pu rfl rfl trivial (pu_move rfl) ?_
  refine Go.Sl.L.pu rfl rfl trivial (pu_eqN Tryd.underlying33 rfl rfl) ?_
  refine Go.Sl.L.nil ?_
  refine Gs.then_n ?_
  refine Gs.cond_f rfl ?_
  refine Gs.skip ?_
  refine Gs.then_n ?_
  refine Gs.seq ?_
  refine Gs.reg ?_
  refine Go.Sl.L.pu rfl rfl trivial (pu_move rfl) ?_
  refine Go.Sl.L.ac rfl rfl trivial (as_call (rec_spec _) (by repeat constructor) (by repeat constructor)) ?_
  rintro _ _ ⟨_, ⟨rfl, rfl⟩, rfl⟩
  refine Go.Sl.L.ac rfl rfl trivial (as_call (put_spec T b m 1 [] (recN 3)) (by repeat constructor) (by repeat constructor)) ?_
  rintro _ _ ⟨_, ⟨rfl, rfl⟩, rfl⟩
  rw [e1, e2]
  refine Go.Sl.L.pu rfl rfl trivial (pu_move rfl) ?_
  refine Go.Sl.L.ac rfl rfl trivial (as_call (rec_spec _) (by repeat constructor) (by repeat constructor)) ?_
  rintro _ _ ⟨_, ⟨rfl, rfl⟩, rfl⟩
  refine Go.Sl.L.ac rfl rfl trivial (as_call (put_spec T b m 1 [recN 3] (recN 4)) (by repeat constructor) (by repeat constructor)) ?_
  rintro _ _ ⟨_, ⟨rfl, rfl⟩, rfl⟩
  rw [e3, e4]
  refine Go.Sl.L.pu rfl rfl trivial (pu_assign rfl) ?_
  refine Go.Sl.L.pu rfl rfl trivial (pu_assign rfl) ?_
  refine Go.Sl.L.nil ?_
  refine Gs.then_n ?_
  refine Gs.seq ?_
  refine Gs.reg ?_
  refine Go.Sl.L.pu rfl rfl trivial (pu_move rfl) ?_
  refine Go.Sl.L.ac rfl rfl trivial (as_call (len_spec b m 1 [recN 3]) (by repeat constructor) (by repeat constructor)) ?_
  rintro _ _ ⟨_, ⟨rfl, rfl⟩, rfl⟩
  refine Go.Sl.L.pu rfl rfl trivial (pu_assign rfl) ?_
  refine Go.Sl.L.nil ?_
  refine Gs.then_n ?_
  refine Gs.seq ?_
  refine Gs.reg ?_
  refine Go.Sl.L.pu rfl rfl trivial (pu_move rfl) ?_
  refine Go.Sl.L.ac rfl rfl trivial (as_call (rec_spec _) (by repeat constructor) (by repeat constructor)) ?_
  rintro _ _ ⟨_, ⟨rfl, rfl⟩, rfl⟩
  refine Go.Sl.L.pu rfl rfl trivial (pu_fg fg_29_0 rfl rfl) ?_
  refine Go.Sl.L.ac rfl rfl trivial (as_call (next_spec b m 1 [recN 3] (recN 3).key) (by repeat constructor) (by repeat constructor)) ?_
  rintro _ _ ⟨_, ⟨rfl, rfl⟩, rfl⟩
  rw [e5, e6]
  refine Go.Sl.L.pu rfl rfl trivial (pu_move rfl) ?_
  refine Go.Sl.L.pu rfl rfl trivial (pu_extract rfl rfl) ?_
  refine Go.Sl.L.pu rfl rfl trivial (pu_extract rfl rfl) ?_
  refine Go.Sl.L.ac rfl rfl trivial (ac_alloc zv_29 rfl) ?_
  rintro _ _ ⟨b5, rfl, rfl⟩
  refine Go.Sl.L.ac0 rfl trivial (ac_st sz_29 rfl rfl (by repeat constructor) rfl rfl rfl rfl) ?_
  rintro _ _ rfl
  refine Go.Sl.L.pu rfl rfl trivial (pu_assign rfl) ?_
  refine Go.Sl.L.nil ?_
  refine Gs.then_n ?_
  refine Gs.seq ?_
  refine Gs.regD mixed (by kernel_rfl) ?_
  refine Rg.pu 0 rfl rfl (by kernel_rfl) trivial (pu_move rfl) ?_
  refine Rg.pu 1 rfl rfl (by kernel_rfl) trivial (pu_eq rfl rfl) ?_
  refine Rg.puBt 2 rfl rfl (by kernel_rfl) trivial (pu_move rfl) rfl ?_
  refine Rg.pu 3 rfl rfl (by kernel_rfl) ⟨_, rfl, rfl⟩ (pu_move rfl) ?_
  refine Rg.pu 4 rfl rfl (by kernel_rfl) ⟨_, rfl, rfl⟩ (pu_eq rfl rfl) ?_
  refine Rg.pu 5 rfl rfl (by kernel_rfl) trivial (by first | exact pu_pick_t rfl rfl | exact pu_pick_f rfl rfl) ?_
  refine Rg.puBt 6 rfl rfl (by kernel_rfl) trivial (pu_move rfl) rfl ?_
  refine Rg.pu 7 rfl rfl (by kernel_rfl) ⟨_, rfl, rfl⟩ (pu_move rfl) ?_
  refine Rg.pu 8 rfl rfl (by kernel_rfl) ⟨_, rfl, rfl⟩ (pu_eq rfl rfl) ?_
  refine Rg.pu 9 rfl rfl (by kernel_rfl) trivial (by first | exact pu_pick_t rfl rfl | exact pu_pick_f rfl rfl) ?_
  refine Rg.puBt 10 rfl rfl (by kernel_rfl) trivial (pu_move rfl) rfl ?_
  refine Rg.rd 11 rfl rfl (by kernel_rfl) ⟨_, rfl, rfl⟩ (rd_lda ag_29 rfl (Rdc.cl 5 (by repeat constructor) rfl) rfl) ?_
  refine Rg.one (by kernel_rfl) (Stp.acR 12 [11] rfl rfl (by kernel_rfl) ⟨_, rfl, rfl⟩ (as_call (rec_spec _) (by repeat constructor) (by repeat constructor)) (by rintro _ _ ⟨_, ⟨rfl, rfl⟩, rfl⟩; exact (Reads.cons rfl rfl rfl ⟨_, rfl, rfl⟩ rfl (rd_lda ag_29 rfl (Rdc.cl 5 (by repeat constructor) rfl) rfl) Reads.nil)) ?_)
  rintro _ _ ⟨_, ⟨rfl, rfl⟩, rfl⟩
  refine Rg.pu 13 rfl rfl (by kernel_rfl) ⟨_, rfl, rfl⟩ (pu_eqT (a := recN 3) (b := recN 3) cmp_29 (by decide) Tryd.eqGuardType29 rfl rfl) ?_
  refine Rg.pu 14 rfl rfl (by kernel_rfl) trivial (by first | exact pu_pick_t rfl rfl | exact pu_pick_f rfl rfl) ?_
  refine Rg.puBt 15 rfl rfl (by kernel_rfl) trivial (pu_move rfl) (by simp) ?_
  refine Rg.pu 16 rfl rfl (by kernel_rfl) ⟨_, rfl, rfl⟩ (pu_move rfl) ?_
  refine Rg.pu 17 rfl rfl (by kernel_rfl) trivial (by first | exact pu_pick_t rfl rfl | exact pu_pick_f rfl rfl) ?_
  refine Rg.puBt 18 rfl rfl (by kernel_rfl) trivial (pu_move rfl) rfl ?_
  refine Rg.pu 19 rfl rfl (by kernel_rfl) ⟨_, rfl, rfl⟩ (pu_move rfl) ?_
  refine Rg.one (by kernel_rfl) (Stp.ac 20 rfl rfl (by kernel_rfl) ⟨_, rfl, rfl⟩ (as_call (len_spec b m 1 []) (by repeat constructor) (by repeat constructor))  ?_)
  rintro _ _ ⟨_, ⟨rfl, rfl⟩, rfl⟩
  refine Rg.pu 21 rfl rfl (by kernel_rfl) ⟨_, rfl, rfl⟩ (pu_eq rfl rfl) ?_
  refine Rg.pu 22 rfl rfl (by kernel_rfl) trivial (by first | exact pu_pick_t rfl rfl | exact pu_pick_f rfl rfl) ?_
  refine Rg.puBt 23 rfl rfl (by kernel_rfl) trivial (pu_move rfl) rfl ?_
  refine Rg.one (by kernel_rfl) (Stp.ac 24 rfl rfl (by kernel_rfl) ⟨_, rfl, rfl⟩ (as_call (new_bad (-1) (by decide)) (by repeat constructor) (by repeat constructor))  ?_)
  rintro _ _ ⟨_, ⟨rfl, rfl⟩, rfl⟩
  refine Rg.pu 25 rfl rfl (by kernel_rfl) ⟨_, rfl, rfl⟩ (pu_eqN Tryd.underlying33 rfl rfl) ?_
  refine Rg.pu 26 rfl rfl (by kernel_rfl) trivial (by first | exact pu_pick_t rfl rfl | exact pu_pick_f rfl rfl) ?_
  refine Rg.pu 27 rfl rfl (by kernel_rfl) trivial (pu_assign rfl) ?_
  refine Rg.end (by kernel_rfl) ?_
  refine Gs.then_n ?_
  refine Gs.ret ?_
  exact Gs.fin1 Tryd.results6 rfl _ (⟨rfl, rfl⟩) (by repeat constructor)
end Go.Proofs.YthikmfpfbfjbiaaDoor
