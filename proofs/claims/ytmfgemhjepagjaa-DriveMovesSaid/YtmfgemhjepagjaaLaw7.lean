/- Walks: grapevinelaw7: awake, DriveNone. -/
import Derived.Test.YtmfgemhjepagjaaDrv5
import Derived.Test.YtmfgemhjepagjaaLow
namespace Go.Proofs.Ytmfgemhjepagjaa
open Go Go.Sl Go.Gv Go.Kv Go.Dv Go.Bst
set_option maxRecDepth 100000
abbrev nA : ByteArray := ⟨#[97]⟩
abbrev nB : ByteArray := ⟨#[98]⟩
abbrev nC : ByteArray := ⟨#[99]⟩
abbrev nF : ByteArray := ⟨#[102]⟩
abbrev at0 (b : Nat) : Option Addr := some ⟨b, 0, none⟩
theorem sort_one (n : ByteArray) : sortB [n] = [n] := by cases n; simp [sortB]
theorem awake7_spec : Ct Try.prog 8 [] [] (fun v hs => v = .bool true ∧ hs = []) := by
  have e1 : appE 10 [] nA [1, 2] = 0 := by decide
  have e2 : appL 10 [] nA [1, 2] = [⟨nA, [1, 2], 0⟩] := rfl
  have e3 : syncE [⟨nA, [1, 2], 0⟩] [nA] = 0 := by decide
  have e4 : syncL [⟨nA, [1, 2], 0⟩] [nA] = [⟨nA, [1, 2], 2⟩] := rfl
  have e5 : appE 10 [⟨nA, [1, 2], 2⟩] nA [3, 4] = 0 := by decide
  have e6 : appL 10 [⟨nA, [1, 2], 2⟩] nA [3, 4] = [⟨nA, [1, 2, 3, 4], 2⟩] := rfl
  have e7 : looseD [⟨nA, [1, 2, 3, 4], 2⟩] nA = 2 := by decide
  have e8 : crashL 1 [⟨nA, [1, 2, 3, 4], 2⟩] = [⟨nA, [1, 2, 3], 3⟩] := by unfold crashL; rw [show names [⟨nA, [1, 2, 3, 4], 2⟩] = [nA] from rfl, sort_one]; rfl
  have e9 : readL [⟨nA, [1, 2, 3], 3⟩] nA = [1, 2, 3] := by decide
  have e10 : readE [⟨nA, [1, 2, 3], 3⟩] nA = 0 := by decide
  have e11 : appE 10 [⟨nA, [1, 2, 3], 3⟩] nB (List.replicate 8 0) = 8 := by decide
  have e12 : appL 10 [⟨nA, [1, 2, 3], 3⟩] nB (List.replicate 8 0) = [⟨nA, [1, 2, 3], 3⟩] := rfl
  refine Ct.intro Try.func8 rfl (by kernel_rfl) 67 Try.ntmps8 (Nat.le_of_ble_eq_true rfl) fun w0 R => ?_
  refine Gs.seq ?_
  refine Gs.reg ?_
  refine Go.Sl.L.pu rfl rfl trivial (pu_assign rfl) ?_
  refine Go.Sl.L.nil ?_
  refine Gs.then_n ?_
  refine Gs.seq ?_
  refine Gs.reg ?_
  refine Go.Sl.L.ac rfl rfl trivial (as_call (drvNew_ok 10 (by decide) (by decide)) (by repeat constructor) (by repeat constructor)) ?_
  rintro _ _ ⟨_, ⟨b, rfl, rfl⟩, rfl⟩
  refine Go.Sl.L.pu rfl rfl trivial (pu_assign rfl) ?_
  refine Go.Sl.L.nil ?_
  refine Gs.then_n ?_
  refine Gs.seq ?_
  refine Gs.seq ?_
  refine Gs.reg ?_
  refine Go.Sl.L.pu rfl rfl trivial (pu_move rfl) ?_
  refine Go.Sl.L.pu rfl rfl trivial (pu_eqN Try.underlying24 rfl rfl) ?_
  refine Go.Sl.L.nil ?_
  refine Gs.then_n ?_
  refine Gs.cond_f rfl ?_
  refine Gs.skip ?_
  refine Gs.then_n ?_
  refine Gs.seq ?_
  refine Gs.reg ?_
  refine Go.Sl.L.pu rfl rfl trivial (pu_move rfl) ?_
  refine Go.Sl.L.ac rfl rfl trivial (ac_lit encC_5 ([1, 2]) et_22 ek_5 rfl (by repeat constructor) rfl rfl (by decide)) ?_
  rintro _ _ ⟨a12, rfl, rfl⟩
  refine Go.Sl.L.ac rfl rfl trivial (as_call (append_spec (S := sl 5 1 byteC (at0 a12) 2 [1, 2]) b 10 [] nA (by decide) (by decide) Srd.own (by decide) (by decide)) (by repeat constructor) (by repeat constructor)) ?_
  rintro _ _ ⟨_, ⟨rfl, rfl⟩, rfl⟩
  rw [e1, e2]
  refine Go.Sl.L.pu rfl rfl trivial (pu_move rfl) ?_
  refine Go.Sl.L.ac rfl rfl trivial (ac_lit encC_9 ([nA]) et_37 ek_9 rfl (by repeat constructor) rfl rfl (by decide)) ?_
  rintro _ _ ⟨a15, rfl, rfl⟩
  refine Go.Sl.L.ac rfl rfl trivial (as_call (sync_spec (S := sl 9 1 strC (at0 a15) 1 [nA]) b 10 _ Srd.own (by decide)) (by repeat constructor) (by repeat constructor)) ?_
  rintro _ _ ⟨_, ⟨rfl, rfl⟩, rfl⟩
  rw [e3, if_pos rfl, e4]
  refine Go.Sl.L.pu rfl rfl trivial (pu_move rfl) ?_
  refine Go.Sl.L.ac rfl rfl trivial (ac_lit encC_5 ([3, 4]) et_22 ek_5 rfl (by repeat constructor) rfl rfl (by decide)) ?_
  rintro _ _ ⟨a18, rfl, rfl⟩
  refine Go.Sl.L.ac rfl rfl trivial (as_call (append_spec (S := sl 5 1 byteC (at0 a18) 2 [3, 4]) b 10 [⟨nA, [1, 2], 2⟩] nA (by decide) (by decide) Srd.own (by decide) (by decide)) (by repeat constructor) (by repeat constructor)) ?_
  rintro _ _ ⟨_, ⟨rfl, rfl⟩, rfl⟩
  rw [e5, e6]
  refine Go.Sl.L.pu rfl rfl trivial (pu_assign rfl) ?_
  refine Go.Sl.L.pu rfl rfl trivial (pu_assign rfl) ?_
  refine Go.Sl.L.pu rfl rfl trivial (pu_assign rfl) ?_
  refine Go.Sl.L.nil ?_
  refine Gs.then_n ?_
  refine Gs.seq ?_
  refine Gs.reg ?_
  refine Go.Sl.L.pu rfl rfl trivial (pu_move rfl) ?_
  refine Go.Sl.L.ac rfl rfl trivial (as_call (loose_spec b 10 _ nA) (by repeat constructor) (by repeat constructor)) ?_
  rintro _ _ ⟨_, ⟨rfl, rfl⟩, rfl⟩
  rw [e7]
  refine Go.Sl.L.pu rfl rfl trivial (pu_assign rfl) ?_
  refine Go.Sl.L.nil ?_
  refine Gs.then_n ?_
  refine Gs.seq ?_
  refine Gs.reg ?_
  refine Go.Sl.L.pu rfl rfl trivial (pu_move rfl) ?_
  refine Go.Sl.L.ac rfl rfl trivial (as_call (crash_spec b 10 [⟨nA, [1, 2, 3, 4], 2⟩] 1 (by decide) (by decide) (by decide)) (by repeat constructor) (by repeat constructor)) ?_
  rintro _ _ ⟨_, ⟨rfl, rfl⟩, rfl⟩
  rw [e8]
  refine Go.Sl.L.nil ?_
  refine Gs.then_n ?_
  refine Gs.seq ?_
  refine Gs.reg ?_
  refine Go.Sl.L.pu rfl rfl trivial (pu_move rfl) ?_
  refine Go.Sl.L.ac rfl rfl trivial (as_call (read_spec b 10 _ nA) (by repeat constructor) (by repeat constructor)) ?_
  rintro _ _ ⟨_, ⟨ra, rc, rfl, rfl⟩, rfl⟩
  rw [e9, e10]
  refine Go.Sl.L.pu rfl rfl trivial (pu_move rfl) ?_
  refine Go.Sl.L.pu rfl rfl trivial (pu_extract rfl rfl) ?_
  refine Go.Sl.L.pu rfl rfl trivial (pu_extract rfl rfl) ?_
  refine Go.Sl.L.pu rfl rfl trivial (pu_assign rfl) ?_
  refine Go.Sl.L.pu rfl rfl trivial (pu_assign rfl) ?_
  refine Go.Sl.L.nil ?_
  refine Gs.then_n ?_
  refine Gs.seq ?_
  refine Gs.reg ?_
  refine Go.Sl.L.pu rfl rfl trivial (pu_move rfl) ?_
  refine Go.Sl.L.pu rfl rfl trivial (pu_eq rfl rfl) ?_
  refine Go.Sl.L.puBt rfl rfl trivial (pu_move rfl) rfl ?_
  refine Go.Sl.L.pu rfl rfl ⟨_, rfl, rfl⟩ (pu_move rfl) ?_
  refine Go.Sl.L.pu rfl rfl ⟨_, rfl, rfl⟩ (pu_eq rfl rfl) ?_
  refine Go.Sl.L.pu rfl rfl trivial (by first | exact pu_pick_t rfl rfl | exact pu_pick_f rfl rfl) ?_
  refine Go.Sl.L.puBt rfl rfl trivial (pu_move rfl) rfl ?_
  refine Go.Sl.L.pu rfl rfl ⟨_, rfl, rfl⟩ (pu_move rfl) ?_
  refine Go.Sl.L.pu rfl rfl ⟨_, rfl, rfl⟩ (pu_eq rfl rfl) ?_
  refine Go.Sl.L.pu rfl rfl trivial (by first | exact pu_pick_t rfl rfl | exact pu_pick_f rfl rfl) ?_
  refine Go.Sl.L.puBt rfl rfl trivial (pu_move rfl) rfl ?_
  refine Go.Sl.L.pu rfl rfl ⟨_, rfl, rfl⟩ (pu_move rfl) ?_
  refine Go.Sl.L.pu rfl rfl ⟨_, rfl, rfl⟩ (pu_eq rfl rfl) ?_
  refine Go.Sl.L.pu rfl rfl trivial (by first | exact pu_pick_t rfl rfl | exact pu_pick_f rfl rfl) ?_
  refine Go.Sl.L.puBt rfl rfl trivial (pu_move rfl) rfl ?_
  refine Go.Sl.L.pu rfl rfl ⟨_, rfl, rfl⟩ (pu_move rfl) ?_
  refine Go.Sl.L.ac rfl rfl ⟨_, rfl, rfl⟩ (ac_lit encC_5 ([1, 2, 3]) et_22 ek_5 rfl (by repeat constructor) rfl rfl (by decide)) ?_
  rintro _ _ ⟨a45, rfl, rfl⟩
  refine Go.Sl.L.ac rfl rfl ⟨_, rfl, rfl⟩ (as_call (sameBytes_spec (S := sl 5 1 byteC ra rc [1, 2, 3]) (U := sl 5 1 byteC (at0 a45) 3 [1, 2, 3]) Srd.own Srd.own (by decide)) (by repeat constructor) (by repeat constructor)) ?_
  rintro _ _ ⟨_, ⟨rfl, rfl⟩, rfl⟩
  refine Go.Sl.L.pu rfl rfl trivial (by first | exact pu_pick_t rfl rfl | exact pu_pick_f rfl rfl) ?_
  refine Go.Sl.L.puBt rfl rfl trivial (pu_move rfl) (by decide) ?_
  refine Go.Sl.L.pu rfl rfl ⟨_, rfl, rfl⟩ (pu_move rfl) ?_
  refine Go.Sl.L.pu rfl rfl ⟨_, rfl, rfl⟩ (pu_eq rfl rfl) ?_
  refine Go.Sl.L.pu rfl rfl trivial (by first | exact pu_pick_t rfl rfl | exact pu_pick_f rfl rfl) ?_
  refine Go.Sl.L.puBt rfl rfl trivial (pu_move rfl) rfl ?_
  refine Go.Sl.L.pu rfl rfl ⟨_, rfl, rfl⟩ (pu_move rfl) ?_
  refine Go.Sl.L.ac rfl rfl ⟨_, rfl, rfl⟩ (as_call (used_spec b 10 [⟨nA, [1, 2, 3], 3⟩] (by decide)) (by repeat constructor) (by repeat constructor)) ?_
  rintro _ _ ⟨_, ⟨rfl, rfl⟩, rfl⟩
  refine Go.Sl.L.pu rfl rfl ⟨_, rfl, rfl⟩ (pu_eq rfl rfl) ?_
  refine Go.Sl.L.pu rfl rfl trivial (by first | exact pu_pick_t rfl rfl | exact pu_pick_f rfl rfl) ?_
  refine Go.Sl.L.puBt rfl rfl trivial (pu_move rfl) rfl ?_
  refine Go.Sl.L.pu rfl rfl ⟨_, rfl, rfl⟩ (pu_move rfl) ?_
  refine Go.Sl.L.ac rfl rfl ⟨_, rfl, rfl⟩ (ac_make byteC 0 et_22 ek_5 zv_5 rfl rfl rfl (by omega) (by omega) (by omega) (by omega)) ?_
  rintro _ _ ⟨mb, rfl, rfl⟩
  refine Go.Sl.L.ac rfl rfl ⟨_, rfl, rfl⟩ (as_call (append_spec (S := sl 5 1 byteC (at0 mb) 8 (List.replicate 8 0)) b 10 [⟨nA, [1, 2, 3], 3⟩] nB (by decide) (by decide) Srd.own (by decide) (by decide)) (by repeat constructor) (by repeat constructor)) ?_
  rintro _ _ ⟨_, ⟨rfl, rfl⟩, rfl⟩
  rw [e11, e12]
  refine Go.Sl.L.pu rfl rfl ⟨_, rfl, rfl⟩ (pu_eq rfl rfl) ?_
  refine Go.Sl.L.pu rfl rfl trivial (by first | exact pu_pick_t rfl rfl | exact pu_pick_f rfl rfl) ?_
  refine Go.Sl.L.puBt rfl rfl trivial (pu_move rfl) rfl ?_
  refine Go.Sl.L.ac rfl rfl ⟨_, rfl, rfl⟩ (as_call (drvNew_bad (-1) (by decide)) (by repeat constructor) (by repeat constructor)) ?_
  rintro _ _ ⟨_, ⟨rfl, rfl⟩, rfl⟩
  refine Go.Sl.L.pu rfl rfl ⟨_, rfl, rfl⟩ (pu_eqN Try.underlying24 rfl rfl) ?_
  refine Go.Sl.L.pu rfl rfl trivial (by first | exact pu_pick_t rfl rfl | exact pu_pick_f rfl rfl) ?_
  refine Go.Sl.L.pu rfl rfl trivial (pu_assign rfl) ?_
  refine Go.Sl.L.nil ?_
  refine Gs.then_n ?_
  refine Gs.ret ?_
  exact Gs.fin1 Try.results8 rfl _ (⟨rfl, rfl⟩) (by repeat constructor)
theorem driveNone_spec (n : Int) : Ct Try.prog 7 [int n] [] (fun v hs => v = .bool true ∧ hs = []) := by
  refine Ct.intro Try.func7 rfl (by kernel_rfl) 67 Try.ntmps7 (Nat.le_of_ble_eq_true rfl) fun w0 R => ?_
  refine Gs.seq ?_
  refine Gs.reg ?_
  refine Go.Sl.L.pu rfl rfl trivial (pu_assign rfl) ?_
  refine Go.Sl.L.nil ?_
  refine Gs.then_n ?_
  refine Gs.seq ?_
  refine Gs.reg ?_
  refine Go.Sl.L.pu rfl rfl trivial (pu_assign rfl) ?_
  refine Go.Sl.L.nil ?_
  refine Gs.then_n ?_
  refine Gs.seq ?_
  refine Gs.reg ?_
  refine Go.Sl.L.pu rfl rfl trivial (pu_move rfl) ?_
  refine Go.Sl.L.pu rfl rfl trivial (pu_move rfl) ?_
  refine Go.Sl.L.ac rfl rfl trivial (as_call (crashNil_spec n) (by repeat constructor) (by repeat constructor)) ?_
  rintro _ _ ⟨_, ⟨rfl, rfl⟩, rfl⟩
  refine Go.Sl.L.nil ?_
  refine Gs.then_n ?_
  refine Gs.seq ?_
  refine Gs.reg ?_
  refine Go.Sl.L.pu rfl rfl trivial (pu_move rfl) ?_
  refine Go.Sl.L.ac rfl rfl trivial (as_call (readNil_spec nA) (by repeat constructor) (by repeat constructor)) ?_
  rintro _ _ ⟨_, ⟨rfl, rfl⟩, rfl⟩
  refine Go.Sl.L.pu rfl rfl trivial (pu_move rfl) ?_
  refine Go.Sl.L.pu rfl rfl trivial (pu_extract rfl rfl) ?_
  refine Go.Sl.L.pu rfl rfl trivial (pu_extract rfl rfl) ?_
  refine Go.Sl.L.pu rfl rfl trivial (pu_assign rfl) ?_
  refine Go.Sl.L.pu rfl rfl trivial (pu_assign rfl) ?_
  refine Go.Sl.L.nil ?_
  refine Gs.then_n ?_
  refine Gs.seq ?_
  refine Gs.reg ?_
  refine Go.Sl.L.pu rfl rfl trivial (pu_move rfl) ?_
  refine Go.Sl.L.ac rfl rfl trivial (as_call (appendNil_spec nA none 0 0) (by repeat constructor) (by repeat constructor)) ?_
  rintro _ _ ⟨_, ⟨rfl, rfl⟩, rfl⟩
  refine Go.Sl.L.pu rfl rfl trivial (pu_eq rfl rfl) ?_
  refine Go.Sl.L.puBt rfl rfl trivial (pu_move rfl) rfl ?_
  refine Go.Sl.L.pu rfl rfl ⟨_, rfl, rfl⟩ (pu_move rfl) ?_
  refine Go.Sl.L.ac rfl rfl ⟨_, rfl, rfl⟩ (ac_lit encC_9 ([nA]) et_37 ek_9 rfl (by repeat constructor) rfl rfl (by decide)) ?_
  rintro _ _ ⟨a19, rfl, rfl⟩
  refine Go.Sl.L.ac rfl rfl ⟨_, rfl, rfl⟩ (as_call (syncNil_spec _ _ _) (by repeat constructor) (by repeat constructor)) ?_
  rintro _ _ ⟨_, ⟨rfl, rfl⟩, rfl⟩
  refine Go.Sl.L.pu rfl rfl ⟨_, rfl, rfl⟩ (pu_eq rfl rfl) ?_
  refine Go.Sl.L.pu rfl rfl trivial (by first | exact pu_pick_t rfl rfl | exact pu_pick_f rfl rfl) ?_
  refine Go.Sl.L.puBt rfl rfl trivial (pu_move rfl) rfl ?_
  refine Go.Sl.L.pu rfl rfl ⟨_, rfl, rfl⟩ (pu_move rfl) ?_
  refine Go.Sl.L.pu rfl rfl ⟨_, rfl, rfl⟩ (pu_move rfl) ?_
  refine Go.Sl.L.ac rfl rfl ⟨_, rfl, rfl⟩ (as_call (cutNil_spec nA n) (by repeat constructor) (by repeat constructor)) ?_
  rintro _ _ ⟨_, ⟨rfl, rfl⟩, rfl⟩
  refine Go.Sl.L.pu rfl rfl ⟨_, rfl, rfl⟩ (pu_eq rfl rfl) ?_
  refine Go.Sl.L.pu rfl rfl trivial (by first | exact pu_pick_t rfl rfl | exact pu_pick_f rfl rfl) ?_
  refine Go.Sl.L.puBt rfl rfl trivial (pu_move rfl) rfl ?_
  refine Go.Sl.L.pu rfl rfl ⟨_, rfl, rfl⟩ (pu_move rfl) ?_
  refine Go.Sl.L.ac rfl rfl ⟨_, rfl, rfl⟩ (as_call (renameNil_spec nA nB) (by repeat constructor) (by repeat constructor)) ?_
  rintro _ _ ⟨_, ⟨rfl, rfl⟩, rfl⟩
  refine Go.Sl.L.pu rfl rfl ⟨_, rfl, rfl⟩ (pu_eq rfl rfl) ?_
  refine Go.Sl.L.pu rfl rfl trivial (by first | exact pu_pick_t rfl rfl | exact pu_pick_f rfl rfl) ?_
  refine Go.Sl.L.puBt rfl rfl trivial (pu_move rfl) rfl ?_
  refine Go.Sl.L.pu rfl rfl ⟨_, rfl, rfl⟩ (pu_move rfl) ?_
  refine Go.Sl.L.ac rfl rfl ⟨_, rfl, rfl⟩ (as_call (removeNil_spec nA) (by repeat constructor) (by repeat constructor)) ?_
  rintro _ _ ⟨_, ⟨rfl, rfl⟩, rfl⟩
  refine Go.Sl.L.pu rfl rfl ⟨_, rfl, rfl⟩ (pu_eq rfl rfl) ?_
  refine Go.Sl.L.pu rfl rfl trivial (by first | exact pu_pick_t rfl rfl | exact pu_pick_f rfl rfl) ?_
  refine Go.Sl.L.puBt rfl rfl trivial (pu_move rfl) rfl ?_
  refine Go.Sl.L.pu rfl rfl ⟨_, rfl, rfl⟩ (pu_move rfl) ?_
  refine Go.Sl.L.pu rfl rfl ⟨_, rfl, rfl⟩ (pu_len Try.underlying22 rfl) ?_
  refine Go.Sl.L.pu rfl rfl ⟨_, rfl, rfl⟩ (pu_eq rfl rfl) ?_
  refine Go.Sl.L.pu rfl rfl trivial (by first | exact pu_pick_t rfl rfl | exact pu_pick_f rfl rfl) ?_
  refine Go.Sl.L.puBt rfl rfl trivial (pu_move rfl) rfl ?_
  refine Go.Sl.L.pu rfl rfl ⟨_, rfl, rfl⟩ (pu_move rfl) ?_
  refine Go.Sl.L.pu rfl rfl ⟨_, rfl, rfl⟩ (pu_eq rfl rfl) ?_
  refine Go.Sl.L.pu rfl rfl trivial (by first | exact pu_pick_t rfl rfl | exact pu_pick_f rfl rfl) ?_
  refine Go.Sl.L.puBt rfl rfl trivial (pu_move rfl) rfl ?_
  refine Go.Sl.L.pu rfl rfl ⟨_, rfl, rfl⟩ (pu_move rfl) ?_
  refine Go.Sl.L.ac rfl rfl ⟨_, rfl, rfl⟩ (as_call (namesNil_spec) (by repeat constructor) (by repeat constructor)) ?_
  rintro _ _ ⟨_, ⟨rfl, rfl⟩, rfl⟩
  refine Go.Sl.L.pu rfl rfl ⟨_, rfl, rfl⟩ (pu_len Try.underlying37 rfl) ?_
  refine Go.Sl.L.pu rfl rfl ⟨_, rfl, rfl⟩ (pu_eq rfl rfl) ?_
  refine Go.Sl.L.pu rfl rfl trivial (by first | exact pu_pick_t rfl rfl | exact pu_pick_f rfl rfl) ?_
  refine Go.Sl.L.puBt rfl rfl trivial (pu_move rfl) rfl ?_
  refine Go.Sl.L.pu rfl rfl ⟨_, rfl, rfl⟩ (pu_move rfl) ?_
  refine Go.Sl.L.ac rfl rfl ⟨_, rfl, rfl⟩ (as_call (usedNil_spec) (by repeat constructor) (by repeat constructor)) ?_
  rintro _ _ ⟨_, ⟨rfl, rfl⟩, rfl⟩
  refine Go.Sl.L.pu rfl rfl ⟨_, rfl, rfl⟩ (pu_eq rfl rfl) ?_
  refine Go.Sl.L.pu rfl rfl trivial (by first | exact pu_pick_t rfl rfl | exact pu_pick_f rfl rfl) ?_
  refine Go.Sl.L.puBt rfl rfl trivial (pu_move rfl) rfl ?_
  refine Go.Sl.L.pu rfl rfl ⟨_, rfl, rfl⟩ (pu_move rfl) ?_
  refine Go.Sl.L.ac rfl rfl ⟨_, rfl, rfl⟩ (as_call (looseNil_spec nA) (by repeat constructor) (by repeat constructor)) ?_
  rintro _ _ ⟨_, ⟨rfl, rfl⟩, rfl⟩
  refine Go.Sl.L.pu rfl rfl ⟨_, rfl, rfl⟩ (pu_eq rfl rfl) ?_
  refine Go.Sl.L.pu rfl rfl trivial (by first | exact pu_pick_t rfl rfl | exact pu_pick_f rfl rfl) ?_
  refine Go.Sl.L.puBt rfl rfl trivial (pu_move rfl) rfl ?_
  refine Go.Sl.L.ac rfl rfl ⟨_, rfl, rfl⟩ (as_call (awake7_spec) (by repeat constructor) (by repeat constructor)) ?_
  rintro _ _ ⟨_, ⟨rfl, rfl⟩, rfl⟩
  refine Go.Sl.L.pu rfl rfl trivial (by first | exact pu_pick_t rfl rfl | exact pu_pick_f rfl rfl) ?_
  refine Go.Sl.L.pu rfl rfl trivial (pu_assign rfl) ?_
  refine Go.Sl.L.nil ?_
  refine Gs.then_n ?_
  refine Gs.ret ?_
  exact Gs.fin1 Try.results7 rfl _ (⟨rfl, rfl⟩) (by repeat constructor)
end Go.Proofs.Ytmfgemhjepagjaa
