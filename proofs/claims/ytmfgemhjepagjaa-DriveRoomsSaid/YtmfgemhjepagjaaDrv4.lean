/- Walks: drive.Sync, Cut, Rename, Remove, Crash. -/
import Derived.Test.YtmfgemhjepagjaaDrv3
namespace Go.Proofs.Ytmfgemhjepagjaa
open Go Go.Sl Go.Gv Go.Kv Go.Dv Go.Bst
set_option maxRecDepth 100000
theorem cut_spec (b : Nat) (most : Int) (D : List Fl) (n : ByteArray) (k : Int) : Ct Try.prog 21 [ptr b, .string n, int k] [drv b most D] (fun v hs => v = int (cutE D n k) ∧ hs = [drv b most (cutL D n k)]) := by
  refine Ct.intro Try.func21 rfl (by kernel_rfl) 45 Try.ntmps21 (Nat.le_of_ble_eq_true rfl) fun w0 R => ?_
  refine Gs.drvOpen (by repeat constructor) fun m P hP hok => ?_
  have hhi := hok.hi
  have hroom := hok.room
  obtain ⟨h1, h2⟩ | ⟨U, f, p, V, e0, e1, e2, e3, e4, -, -, e7, -⟩ := find_at (P := P) (by rw [hP]; exact hok.nd) n
  · have hv : cutE D n k = 13 := by rw [← hP]; simp only [cutE, h1]
    have hL : cutL D n k = D := by simp [cutL, hv]
    refine Gs.seq ?_
    refine Gs.reg ?_
    refine Go.Sl.L.pu rfl rfl trivial (pu_assign rfl) ?_
    refine Go.Sl.L.nil ?_
    refine Gs.then_n ?_
    refine Gs.seq ?_
    refine Gs.reg ?_
    refine Go.Sl.L.pu rfl rfl trivial (pu_move rfl) ?_
    refine Go.Sl.L.pu rfl rfl trivial (pu_move rfl) ?_
    refine Go.Sl.L.ac rfl rfl trivial (as_call (find_none h2) (by repeat constructor) (by repeat constructor)) ?_
    rintro _ _ ⟨_, ⟨rfl, rfl⟩, rfl⟩
    refine Go.Sl.L.pu rfl rfl trivial (pu_move rfl) ?_
    refine Go.Sl.L.pu rfl rfl trivial (pu_extract rfl rfl) ?_
    refine Go.Sl.L.pu rfl rfl trivial (pu_extract rfl rfl) ?_
    refine Go.Sl.L.pu rfl rfl trivial (pu_assign rfl) ?_
    refine Go.Sl.L.pu rfl rfl trivial (pu_assign rfl) ?_
    refine Go.Sl.L.nil ?_
    refine Gs.then_n ?_
    refine Gs.seq ?_
    refine Gs.block ?_
    refine Gs.seq ?_
    refine Gs.reg ?_
    refine Go.Sl.L.pu rfl rfl trivial (pu_move rfl) ?_
    refine Go.Sl.L.pu rfl rfl trivial (pu_ne rfl rfl) ?_
    refine Go.Sl.L.pu rfl rfl trivial (pu_assign rfl) ?_
    refine Go.Sl.L.nil ?_
    refine Gs.then_n ?_
    refine Gs.cond_tt rfl rfl ?_
    refine Gs.seq ?_
    refine Gs.reg ?_
    refine Go.Sl.L.pu rfl rfl trivial (pu_move rfl) ?_
    refine Go.Sl.L.pu rfl rfl trivial (pu_assign rfl) ?_
    refine Go.Sl.L.nil ?_
    refine Gs.then_n ?_
    refine Gs.ret ?_
    refine Gs.blk_r ?_
    refine Gs.then_r ?_
    refine Gs.drvClose (P := P) (D := D) (by repeat constructor) hP hok ?_
    exact Gs.fin1 Try.results21 rfl _ (⟨by rw [hv], by rw [hL]⟩) (by repeat constructor)
  · have hv : cutE D n k = if 0 ≤ k ∧ k ≤ f.b.length then 0 else 2 := by rw [← hP]; simp only [cutE, e2]
    have hfm : f ∈ D := by rw [← hP, e0]; simp
    have hf1 := hok.firm f hfm
    have hf2 := used_mem hfm
    subst e0
    refine Gs.seq ?_
    refine Gs.reg ?_
    refine Go.Sl.L.pu rfl rfl trivial (pu_assign rfl) ?_
    refine Go.Sl.L.nil ?_
    refine Gs.then_n ?_
    refine Gs.seq ?_
    refine Gs.reg ?_
    refine Go.Sl.L.pu rfl rfl trivial (pu_move rfl) ?_
    refine Go.Sl.L.pu rfl rfl trivial (pu_move rfl) ?_
    refine Go.Sl.L.ac rfl rfl trivial (as_call (find_some e3) (by repeat constructor) (by repeat constructor)) ?_
    rintro _ _ ⟨_, ⟨rfl, rfl⟩, rfl⟩
    refine Go.Sl.L.pu rfl rfl trivial (pu_move rfl) ?_
    refine Go.Sl.L.pu rfl rfl trivial (pu_extract rfl rfl) ?_
    refine Go.Sl.L.pu rfl rfl trivial (pu_extract rfl rfl) ?_
    refine Go.Sl.L.pu rfl rfl trivial (pu_assign rfl) ?_
    refine Go.Sl.L.pu rfl rfl trivial (pu_assign rfl) ?_
    refine Go.Sl.L.nil ?_
    refine Gs.then_n ?_
    refine Gs.seq ?_
    refine Gs.block ?_
    refine Gs.seq ?_
    refine Gs.reg ?_
    refine Go.Sl.L.pu rfl rfl trivial (pu_move rfl) ?_
    refine Go.Sl.L.pu rfl rfl trivial (pu_ne rfl rfl) ?_
    refine Go.Sl.L.pu rfl rfl trivial (pu_assign rfl) ?_
    refine Go.Sl.L.nil ?_
    refine Gs.then_n ?_
    refine Gs.cond_ff rfl rfl ?_
    refine Gs.seq ?_
    refine Gs.filOpen (U := U) (V := V) (f := f) (p := p) (by repeat constructor) fun fa fc => ?_
    refine Gs.slLen (E := 5) (sz := 1) (enc := byteC) (a := fa) (c := fc) (xs := f.b) (by repeat constructor) fun hlc => ?_
    refine Gs.reg ?_
    refine Go.Sl.L.pu rfl rfl trivial (pu_move rfl) ?_
    refine Go.Sl.L.pu rfl rfl trivial (pu_lt rfl rfl) ?_
    refine Go.Sl.L.puB rfl rfl trivial (pu_move rfl) (fun hg2 => ?_) (fun hg2 => ?_)
    · skip
      have hg2' := of_decide_eq_true hg2
      have he : cutE D n k = 2 := by rw [hv, if_neg (by omega)]
      have hL : cutL D n k = D := by simp [cutL, he]
      refine Go.Sl.L.off rfl rfl rfl rfl rfl rfl ?_
      refine Go.Sl.L.off rfl rfl rfl rfl rfl rfl ?_
      refine Go.Sl.L.off rfl rfl rfl rfl rfl rfl ?_
      refine Go.Sl.L.off rfl rfl rfl rfl rfl rfl ?_
      refine Go.Sl.L.off rfl rfl rfl rfl rfl rfl ?_
      refine Go.Sl.L.off rfl rfl rfl rfl rfl rfl ?_
      refine Go.Sl.L.off rfl rfl rfl rfl rfl rfl ?_
      refine Go.Sl.L.pu rfl rfl trivial (by first | exact pu_pick_t rfl rfl | exact pu_pick_f rfl rfl) ?_
      refine Go.Sl.L.pu rfl rfl trivial (pu_assign rfl) ?_
      refine Go.Sl.L.nil ?_
      refine Gs.then_n ?_
      refine Gs.cond_t rfl ?_
      refine Gs.seq ?_
      refine Gs.reg ?_
      refine Go.Sl.L.pu rfl rfl trivial (pu_assign rfl) ?_
      refine Go.Sl.L.nil ?_
      refine Gs.then_n ?_
      refine Gs.ret ?_
      refine Gs.blk_r ?_
      refine Gs.then_r ?_
      refine Gs.filClose (U := U) (V := V) (f := f) (p := p) (by repeat constructor) rfl rfl rfl ?_
      refine Gs.drvClose (D := D) (by repeat constructor) hP hok ?_
      exact Gs.fin1 Try.results21 rfl _ (⟨by rw [he], by rw [hL]⟩) (by repeat constructor)
    · skip
      have hg2' := of_decide_eq_false hg2
      refine Go.Sl.L.pu rfl rfl ⟨_, rfl, rfl⟩ (pu_move rfl) ?_
      refine Go.Sl.L.pu rfl rfl ⟨_, rfl, rfl⟩ (pu_move rfl) ?_
      refine Go.Sl.L.pu rfl rfl ⟨_, rfl, rfl⟩ (by first | exact pu_nil rfl | exact pu_nilF rfl) ?_
      refine Go.Sl.L.pu rfl rfl ⟨_, rfl, rfl⟩ (pu_fa fa_55_0 rfl) ?_
      refine Go.Sl.L.rd rfl rfl ⟨_, rfl, rfl⟩ (rd_ld na_22 rfl (Rdc.cl1 (by repeat constructor) rfl)) ?_
      refine Go.Sl.L.pu rfl rfl ⟨_, rfl, rfl⟩ (pu_len Try.underlying22 rfl) ?_
      refine Go.Sl.L.pu rfl rfl ⟨_, rfl, rfl⟩ (pu_gt rfl rfl) ?_
      refine Go.Sl.L.pu rfl rfl trivial (by first | exact pu_pick_t rfl rfl | exact pu_pick_f rfl rfl) ?_
      refine Go.Sl.L.pu rfl rfl trivial (pu_assign rfl) ?_
      refine Go.Sl.L.nil ?_
      refine Gs.then_n ?_
      refine Gs.cond rfl (fun hc1 => ?_) (fun hc1 => ?_)
      · skip
        have hc1' := of_decide_eq_true hc1
        have he : cutE D n k = 2 := by rw [hv, if_neg (by omega)]
        have hL : cutL D n k = D := by simp [cutL, he]
        refine Gs.seq ?_
        refine Gs.reg ?_
        refine Go.Sl.L.pu rfl rfl trivial (pu_assign rfl) ?_
        refine Go.Sl.L.nil ?_
        refine Gs.then_n ?_
        refine Gs.ret ?_
        refine Gs.blk_r ?_
        refine Gs.then_r ?_
        refine Gs.filClose (U := U) (V := V) (f := f) (p := p) (by repeat constructor) rfl rfl rfl ?_
        refine Gs.drvClose (D := D) (by repeat constructor) hP hok ?_
        exact Gs.fin1 Try.results21 rfl _ (⟨by rw [he], by rw [hL]⟩) (by repeat constructor)
      · skip
        have hc1' := of_decide_eq_false hc1
        have he : cutE D n k = 0 := by rw [hv, if_pos (by omega)]
        have hL : cutL D n k = upd D n (fun f => { f with b := f.b.take k.toNat, s := k.toNat }) := by simp [cutL, he]
        have hL2 : cutL D n k = fls U ++ { f with b := f.b.take k.toNat, s := k.toNat } :: fls V := by rw [hL, ← hP]; exact e4 _
        have hokC : Ok most (cutL D n k) := by
          rw [hL2]
          have hok' := hok
          rw [← hP] at hok'
          refine ⟨hok.lo, hok.hi, ?_, ?_, fun x hx => ?_⟩
          · have := hok'.nd; simp only [fls, names, List.map_append, List.map_cons] at this ⊢; exact this
          · have := hok'.room
            have u1 := used_split (fls U) (fls V) f
            have u2 := used_split (fls U) (fls V) { f with b := f.b.take k.toNat, s := k.toNat }
            simp only [List.length_take] at u2
            simp only [fls, List.map_append, List.map_cons] at this u1 u2 ⊢
            rw [u1] at this; rw [u2]; omega
          · rcases List.mem_append.1 hx with h | h
            · exact hok'.firm x (by simp only [fls, List.map_append, List.map_cons]; exact List.mem_append_left _ h)
            · rcases List.mem_cons.1 h with rfl | h
              · simp only [List.length_take]; omega
              · exact hok'.firm x (by simp only [fls, List.map_append, List.map_cons]; exact List.mem_append_right _ (List.mem_cons_of_mem _ h))
        rw [← e7 { f with b := f.b.take k.toNat, s := k.toNat } e1]
        refine Gs.skip ?_
        refine Gs.blk_n ?_
        refine Gs.then_n ?_
        refine Gs.seq ?_
        refine Gs.reg ?_
        refine Go.Sl.L.pu rfl rfl trivial (pu_move rfl) ?_
        refine Go.Sl.L.pu rfl rfl trivial (pu_move rfl) ?_
        refine Go.Sl.L.pu rfl rfl trivial (pu_move rfl) ?_
        refine Go.Sl.L.pu rfl rfl trivial (by first | exact pu_nil rfl | exact pu_nilF rfl) ?_
        refine Go.Sl.L.pu rfl rfl trivial (pu_fa fa_55_0 rfl) ?_
        refine Go.Sl.L.rd rfl rfl trivial (rd_ld na_22 rfl (Rdc.cl1 (by repeat constructor) rfl)) ?_
        refine Go.Sl.L.pu rfl rfl trivial (pu_move rfl) ?_
        refine Go.Sl.L.pu rfl rfl trivial (pu_move rfl) ?_
        refine Go.Sl.L.pu rfl rfl trivial (pu_slice3H et_22 rfl rfl rfl (by omega) (by omega) (by omega)) ?_
        refine Go.Sl.L.pu rfl rfl trivial (pu_move rfl) ?_
        refine Go.Sl.L.pu rfl rfl trivial (by first | exact pu_nil rfl | exact pu_nilF rfl) ?_
        refine Go.Sl.L.pu rfl rfl trivial (pu_fa fa_55_0 rfl) ?_
        refine Go.Sl.L.ac0 rfl trivial (ac_st sz_22 rfl rfl (by repeat constructor) rfl rfl rfl rfl) ?_
        rintro _ _ rfl
        refine Go.Sl.L.pu rfl rfl trivial (by first | exact pu_nil rfl | exact pu_nilF rfl) ?_
        refine Go.Sl.L.pu rfl rfl trivial (pu_fa fa_55_1 rfl) ?_
        refine Go.Sl.L.ac0 rfl trivial (ac_st sz_3 rfl rfl (by repeat constructor) rfl rfl rfl rfl) ?_
        rintro _ _ rfl
        refine Go.Sl.L.nil ?_
        refine Gs.slRoom (E := 5) (sz := 1) (enc := byteC) (a := fa) (c := fc) (xs := f.b) k.toNat (by omega) (by repeat constructor) ?_
        rw [show int k = int (k.toNat : Int) by rw [Int.toNat_of_nonneg (by omega)]]
        refine Gs.then_n ?_
        refine Gs.seq ?_
        refine Gs.reg ?_
        refine Go.Sl.L.pu rfl rfl trivial (pu_assign rfl) ?_
        refine Go.Sl.L.nil ?_
        refine Gs.then_n ?_
        refine Gs.ret ?_
        refine Gs.filClose (U := U) (V := V) (f := { f with b := f.b.take k.toNat, s := k.toNat }) (p := p) (by repeat constructor) (by simp; omega) rfl rfl ?_
        refine Gs.drvClose (P := U ++ ({ f with b := f.b.take k.toNat, s := k.toNat }, p) :: V) (D := cutL D n k) (by repeat constructor) (by rw [hL2]; simp) hokC ?_
        exact Gs.fin1 Try.results21 rfl _ (⟨by rw [he], rfl⟩) (by repeat constructor)
theorem cutNil_spec (n : ByteArray) (k : Int) : Ct Try.prog 21 [.pointer none, .string n, int k] [] (fun v hs => v = int 1 ∧ hs = []) := by
  refine Ct.intro Try.func21 rfl (by kernel_rfl) 45 Try.ntmps21 (Nat.le_of_ble_eq_true rfl) fun w0 R => ?_
  refine Gs.seq ?_
  refine Gs.reg ?_
  refine Go.Sl.L.pu rfl rfl trivial (pu_assign rfl) ?_
  refine Go.Sl.L.nil ?_
  refine Gs.then_n ?_
  refine Gs.seq ?_
  refine Gs.reg ?_
  refine Go.Sl.L.pu rfl rfl trivial (pu_move rfl) ?_
  refine Go.Sl.L.pu rfl rfl trivial (pu_move rfl) ?_
  refine Go.Sl.L.ac rfl rfl trivial (as_call (find_nil n) (by repeat constructor) (by repeat constructor)) ?_
  rintro _ _ ⟨_, ⟨rfl, rfl⟩, rfl⟩
  refine Go.Sl.L.pu rfl rfl trivial (pu_move rfl) ?_
  refine Go.Sl.L.pu rfl rfl trivial (pu_extract rfl rfl) ?_
  refine Go.Sl.L.pu rfl rfl trivial (pu_extract rfl rfl) ?_
  refine Go.Sl.L.pu rfl rfl trivial (pu_assign rfl) ?_
  refine Go.Sl.L.pu rfl rfl trivial (pu_assign rfl) ?_
  refine Go.Sl.L.nil ?_
  refine Gs.then_n ?_
  refine Gs.seq ?_
  refine Gs.block ?_
  refine Gs.seq ?_
  refine Gs.reg ?_
  refine Go.Sl.L.pu rfl rfl trivial (pu_move rfl) ?_
  refine Go.Sl.L.pu rfl rfl trivial (pu_ne rfl rfl) ?_
  refine Go.Sl.L.pu rfl rfl trivial (pu_assign rfl) ?_
  refine Go.Sl.L.nil ?_
  refine Gs.then_n ?_
  refine Gs.cond_tt rfl rfl ?_
  refine Gs.seq ?_
  refine Gs.reg ?_
  refine Go.Sl.L.pu rfl rfl trivial (pu_move rfl) ?_
  refine Go.Sl.L.pu rfl rfl trivial (pu_assign rfl) ?_
  refine Go.Sl.L.nil ?_
  refine Gs.then_n ?_
  refine Gs.ret ?_
  refine Gs.blk_r ?_
  refine Gs.then_r ?_
  exact Gs.fin1 Try.results21 rfl _ (⟨rfl, rfl⟩) (by repeat constructor)
def remE (D : List Fl) (n : ByteArray) : Int := match lookF D n with
  | some _ => 0
  | none => 13
theorem del_none {D : List Fl} {n : ByteArray} (h : lookF D n = none) : del D n = D := List.filter_eq_self.2 fun f hf => by
  have := lookF_none.1 h
  simp only [ne_eq, decide_not, Bool.not_eq_eq_eq_not, Bool.not_true, decide_eq_false_iff_not]
  exact fun e => this (e ▸ List.mem_map_of_mem hf)
theorem remove_spec (b : Nat) (most : Int) (D : List Fl) (n : ByteArray) : Ct Try.prog 22 [ptr b, .string n] [drv b most D] (fun v hs => v = int (remE D n) ∧ hs = [drv b most (del D n)]) := by
  refine Ct.intro Try.func22 rfl (by kernel_rfl) 21 Try.ntmps22 (Nat.le_of_ble_eq_true rfl) fun w0 R => ?_
  refine Gs.drvOpen (by repeat constructor) fun m P hP hok => ?_
  obtain ⟨h1, h2⟩ | ⟨U, f, p, V, e0, e1, e2, e3, e4, e5, e6, -, -⟩ := find_at (P := P) (by rw [hP]; exact hok.nd) n
  · have hv : remE D n = 13 := by rw [← hP]; simp only [remE, h1]
    have hL : del D n = D := del_none (by rw [← hP]; exact h1)
    refine Gs.seq ?_
    refine Gs.reg ?_
    refine Go.Sl.L.pu rfl rfl trivial (pu_assign rfl) ?_
    refine Go.Sl.L.nil ?_
    refine Gs.then_n ?_
    refine Gs.seq ?_
    refine Gs.seq ?_
    refine Gs.reg ?_
    refine Go.Sl.L.pu rfl rfl trivial (pu_move rfl) ?_
    refine Go.Sl.L.pu rfl rfl trivial (pu_move rfl) ?_
    refine Go.Sl.L.ac rfl rfl trivial (as_call (find_none h2) (by repeat constructor) (by repeat constructor)) ?_
    rintro _ _ ⟨_, ⟨rfl, rfl⟩, rfl⟩
    refine Go.Sl.L.pu rfl rfl trivial (pu_move rfl) ?_
    refine Go.Sl.L.pu rfl rfl trivial (pu_extract rfl rfl) ?_
    refine Go.Sl.L.pu rfl rfl trivial (pu_extract rfl rfl) ?_
    refine Go.Sl.L.pu rfl rfl trivial (pu_assign rfl) ?_
    refine Go.Sl.L.pu rfl rfl trivial (pu_assign rfl) ?_
    refine Go.Sl.L.nil ?_
    refine Gs.then_n ?_
    refine Gs.seq ?_
    refine Gs.reg ?_
    refine Go.Sl.L.pu rfl rfl trivial (pu_move rfl) ?_
    refine Go.Sl.L.pu rfl rfl trivial (pu_ne rfl rfl) ?_
    refine Go.Sl.L.nil ?_
    refine Gs.then_n ?_
    refine Gs.cond_tt rfl rfl ?_
    refine Gs.seq ?_
    refine Gs.reg ?_
    refine Go.Sl.L.pu rfl rfl trivial (pu_move rfl) ?_
    refine Go.Sl.L.pu rfl rfl trivial (pu_assign rfl) ?_
    refine Go.Sl.L.nil ?_
    refine Gs.then_n ?_
    refine Gs.ret ?_
    refine Gs.then_r ?_
    refine Gs.drvClose (P := P) (D := D) (by repeat constructor) hP hok ?_
    exact Gs.fin1 Try.results22 rfl _ (⟨by rw [hv], by rw [hL]⟩) (by repeat constructor)
  · have hv : remE D n = 0 := by rw [← hP]; simp only [remE, e2]
    have hL : fls (U ++ V) = del D n := by rw [← hP, e5]
    refine Gs.seq ?_
    refine Gs.reg ?_
    refine Go.Sl.L.pu rfl rfl trivial (pu_assign rfl) ?_
    refine Go.Sl.L.nil ?_
    refine Gs.then_n ?_
    refine Gs.seq ?_
    refine Gs.seq ?_
    refine Gs.reg ?_
    refine Go.Sl.L.pu rfl rfl trivial (pu_move rfl) ?_
    refine Go.Sl.L.pu rfl rfl trivial (pu_move rfl) ?_
    refine Go.Sl.L.ac rfl rfl trivial (as_call (find_some e3) (by repeat constructor) (by repeat constructor)) ?_
    rintro _ _ ⟨_, ⟨rfl, rfl⟩, rfl⟩
    refine Go.Sl.L.pu rfl rfl trivial (pu_move rfl) ?_
    refine Go.Sl.L.pu rfl rfl trivial (pu_extract rfl rfl) ?_
    refine Go.Sl.L.pu rfl rfl trivial (pu_extract rfl rfl) ?_
    refine Go.Sl.L.pu rfl rfl trivial (pu_assign rfl) ?_
    refine Go.Sl.L.pu rfl rfl trivial (pu_assign rfl) ?_
    refine Go.Sl.L.nil ?_
    refine Gs.then_n ?_
    refine Gs.seq ?_
    refine Gs.reg ?_
    refine Go.Sl.L.pu rfl rfl trivial (pu_move rfl) ?_
    refine Go.Sl.L.pu rfl rfl trivial (pu_ne rfl rfl) ?_
    refine Go.Sl.L.nil ?_
    refine Gs.then_n ?_
    refine Gs.cond_ff rfl rfl ?_
    refine Gs.skip ?_
    refine Gs.then_n ?_
    refine Gs.seq ?_
    refine Gs.reg ?_
    refine Go.Sl.L.pu rfl rfl trivial (pu_move rfl) ?_
    refine Go.Sl.L.pu rfl rfl trivial (by first | exact pu_nil rfl | exact pu_nilF rfl) ?_
    refine Go.Sl.L.pu rfl rfl trivial (pu_fa fa_51_1 rfl) ?_
    refine Go.Sl.L.rd rfl rfl trivial (rd_ld na_49 rfl (Rdc.cl1 (by repeat constructor) rfl)) ?_
    refine Go.Sl.L.pu rfl rfl trivial (pu_move rfl) ?_
    refine Go.Sl.L.ac0 rfl trivial (ac_del (k := n) (encv := encv_53) Try.underlying49 kt_9 rfl rfl rfl (by repeat constructor)) ?_
    rintro _ _ rfl
    rw [e6]
    subst e0
    refine Gs.filOpen (U := U) (V := V) (f := f) (p := p) (by repeat constructor) fun fa fc => ?_
    refine Go.Sl.L.nil ?_
    refine Gs.then_n ?_
    refine Gs.seq ?_
    refine Gs.reg ?_
    refine Go.Sl.L.pu rfl rfl trivial (pu_assign rfl) ?_
    refine Go.Sl.L.nil ?_
    refine Gs.then_n ?_
    refine Gs.ret ?_
    refine Gs.drvClose (P := U ++ V) (D := del D n) (by repeat constructor) hL (hok.del n) ?_
    exact Gs.fin1 Try.results22 rfl _ (⟨by rw [hv], rfl⟩) (by repeat constructor)
theorem removeNil_spec (n : ByteArray) : Ct Try.prog 22 [.pointer none, .string n] [] (fun v hs => v = int 1 ∧ hs = []) := by
  refine Ct.intro Try.func22 rfl (by kernel_rfl) 21 Try.ntmps22 (Nat.le_of_ble_eq_true rfl) fun w0 R => ?_
  refine Gs.seq ?_
  refine Gs.reg ?_
  refine Go.Sl.L.pu rfl rfl trivial (pu_assign rfl) ?_
  refine Go.Sl.L.nil ?_
  refine Gs.then_n ?_
  refine Gs.seq ?_
  refine Gs.seq ?_
  refine Gs.reg ?_
  refine Go.Sl.L.pu rfl rfl trivial (pu_move rfl) ?_
  refine Go.Sl.L.pu rfl rfl trivial (pu_move rfl) ?_
  refine Go.Sl.L.ac rfl rfl trivial (as_call (find_nil n) (by repeat constructor) (by repeat constructor)) ?_
  rintro _ _ ⟨_, ⟨rfl, rfl⟩, rfl⟩
  refine Go.Sl.L.pu rfl rfl trivial (pu_move rfl) ?_
  refine Go.Sl.L.pu rfl rfl trivial (pu_extract rfl rfl) ?_
  refine Go.Sl.L.pu rfl rfl trivial (pu_extract rfl rfl) ?_
  refine Go.Sl.L.pu rfl rfl trivial (pu_assign rfl) ?_
  refine Go.Sl.L.pu rfl rfl trivial (pu_assign rfl) ?_
  refine Go.Sl.L.nil ?_
  refine Gs.then_n ?_
  refine Gs.seq ?_
  refine Gs.reg ?_
  refine Go.Sl.L.pu rfl rfl trivial (pu_move rfl) ?_
  refine Go.Sl.L.pu rfl rfl trivial (pu_ne rfl rfl) ?_
  refine Go.Sl.L.nil ?_
  refine Gs.then_n ?_
  refine Gs.cond_tt rfl rfl ?_
  refine Gs.seq ?_
  refine Gs.reg ?_
  refine Go.Sl.L.pu rfl rfl trivial (pu_move rfl) ?_
  refine Go.Sl.L.pu rfl rfl trivial (pu_assign rfl) ?_
  refine Go.Sl.L.nil ?_
  refine Gs.then_n ?_
  refine Gs.ret ?_
  refine Gs.then_r ?_
  exact Gs.fin1 Try.results22 rfl _ (⟨rfl, rfl⟩) (by repeat constructor)
theorem putF_some {D : List Fl} {f g : Fl} (h : lookF D f.n = some g) : put D f = upd D f.n fun _ => f := by simp [put, h]
theorem putF_none {D : List Fl} {f : Fl} (h : lookF D f.n = none) : put D f = D ++ [f] := by simp [put, h]
theorem pairs_set {U V : DP} {f f' : Fl} {p : Nat} (h : f'.n = f.n) : pairs (U ++ (f', p) :: V) = pairs (U ++ (f, p) :: V) := by simp [pairs, h]
section
variable {w0 : World} {nn : Nat} {env : Env} {H : List HProp} {X : Act → World → Prop}
/-- A file under another name, its map's entry set. -/
theorem Gs.renClose {b m : Nat} {most : Int} {W : DP} {D : List Fl} {f : Fl} {t : ByteArray} {p fc : Nat} {fa : Option Addr} {H' : List HProp} (hD : fls W = D) (hn : (names D).Nodup) (hok : Ok most (put D { f with n := t }))
    (tk : Takes [cl b 51 (driveC most m), mp strV pv m (mput (pairs W) t (some p)), cl p 55 (fileC fa f.b.length fc f.s), sl 5 1 byteC fa fc f.b, files W] H H')
    (g : Gs w0 nn env (drv b most (put D { f with n := t }) :: H') X) : Gs w0 nn env H X := by
  subst hD
  refine Gs.sat (fun w s => s.takes tk) ?_
  rcases find_at hn t with ⟨h1, h2⟩ | ⟨U, x, q, V, e0, e1, e2, e3, e4, -, -, -, e8⟩
  · rw [pairs_new (P := W) (f := { f with n := t }) h2]
    refine Gs.filNew (U := W) (f := { f with n := t }) (p := p) (a := fa) (c := fc) (by repeat constructor) rfl rfl rfl ?_
    exact Gs.drvClose (P := W ++ [({ f with n := t }, p)]) (by repeat constructor) (by rw [putF_none (f := { f with n := t }) h1]; simp) hok g
  · rw [e8 { f with n := t } p rfl]
    subst e0
    refine Gs.filOpen (U := U) (V := V) (f := x) (p := q) (by repeat constructor) fun a c => ?_
    refine Gs.filClose (U := U) (V := V) (f := { f with n := t }) (p := p) (a := fa) (c := fc) (by repeat constructor) rfl rfl rfl ?_
    refine Gs.drvClose (P := U ++ ({ f with n := t }, p) :: V) (D := put (fls (U ++ (x, q) :: V)) { f with n := t }) (by repeat constructor) (by rw [putF_some (f := { f with n := t }) e2, e4]; simp) hok (Gs.ents ?_ g)
    exact .cons .hd (.drop (.drop .refl))
end
theorem rename_spec (b : Nat) (most : Int) (D : List Fl) (n t : ByteArray) (ha : asciiB t = true) (ht : t.size ≤ 9223372036854775807) :
    Ct Try.prog 18 [ptr b, .string n, .string t] [drv b most D] (fun v hs => v = int (renE D n t) ∧ hs = [drv b most (renL D n t)]) := by
  refine Ct.intro Try.func18 rfl (by kernel_rfl) 34 Try.ntmps18 (Nat.le_of_ble_eq_true rfl) fun w0 R => ?_
  refine Gs.drvOpen (by repeat constructor) fun m P hP hok => ?_
  obtain ⟨h1, h2⟩ | ⟨U, f, p, V, e0, e1, e2, e3, e4, e5, e6, -, -⟩ := find_at (P := P) (by rw [hP]; exact hok.nd) n
  · have h1' : lookF D n = none := by rw [← hP]; exact h1
    refine Gs.seq ?_
    refine Gs.reg ?_
    refine Go.Sl.L.pu rfl rfl trivial (pu_assign rfl) ?_
    refine Go.Sl.L.nil ?_
    refine Gs.then_n ?_
    refine Gs.seq ?_
    refine Gs.seq ?_
    refine Gs.reg ?_
    refine Go.Sl.L.pu rfl rfl trivial (pu_move rfl) ?_
    refine Go.Sl.L.pu rfl rfl trivial (pu_eqN Try.underlying24 rfl rfl) ?_
    refine Go.Sl.L.nil ?_
    refine Gs.then_n ?_
    refine Gs.cond_f rfl ?_
    refine Gs.skip ?_
    refine Gs.then_n ?_
    refine Gs.seq ?_
    refine Gs.seq ?_
    refine Gs.reg ?_
    refine Go.Sl.L.pu rfl rfl trivial (pu_move rfl) ?_
    refine Go.Sl.L.ac rfl rfl trivial (as_call (named_spec t ha ht) (by repeat constructor) (by repeat constructor)) ?_
    rintro _ _ ⟨_, ⟨rfl, rfl⟩, rfl⟩
    refine Go.Sl.L.pu rfl rfl trivial (pu_not rfl) ?_
    refine Go.Sl.L.nil ?_
    refine Gs.then_n ?_
    refine Gs.cond rfl (fun hc1 => ?_) (fun hc1 => ?_)
    · skip
      have hnm : namedB t = false := by simpa using hc1
      have hv : renE D n t = 2 := by simp [renE, hnm]
      have hL : renL D n t = D := by simp [renL, hnm]
      refine Gs.seq ?_
      refine Gs.reg ?_
      refine Go.Sl.L.pu rfl rfl trivial (pu_assign rfl) ?_
      refine Go.Sl.L.nil ?_
      refine Gs.then_n ?_
      refine Gs.ret ?_
      refine Gs.then_r ?_
      refine Gs.drvClose (P := P) (D := D) (by repeat constructor) hP hok ?_
      exact Gs.fin1 Try.results18 rfl _ (⟨by rw [hv], by rw [hL]⟩) (by repeat constructor)
    · skip
      have hnm : namedB t = true := by simpa using hc1
      have hv : renE D n t = 13 := by simp [renE, hnm, h1']
      have hL : renL D n t = D := by simp [renL, hnm, h1']
      refine Gs.skip ?_
      refine Gs.then_n ?_
      refine Gs.seq ?_
      refine Gs.reg ?_
      refine Go.Sl.L.pu rfl rfl trivial (pu_move rfl) ?_
      refine Go.Sl.L.pu rfl rfl trivial (pu_move rfl) ?_
      refine Go.Sl.L.ac rfl rfl trivial (as_call (find_none h2) (by repeat constructor) (by repeat constructor)) ?_
      rintro _ _ ⟨_, ⟨rfl, rfl⟩, rfl⟩
      refine Go.Sl.L.pu rfl rfl trivial (pu_move rfl) ?_
      refine Go.Sl.L.pu rfl rfl trivial (pu_extract rfl rfl) ?_
      refine Go.Sl.L.pu rfl rfl trivial (pu_extract rfl rfl) ?_
      refine Go.Sl.L.pu rfl rfl trivial (pu_assign rfl) ?_
      refine Go.Sl.L.pu rfl rfl trivial (pu_assign rfl) ?_
      refine Go.Sl.L.nil ?_
      refine Gs.then_n ?_
      refine Gs.seq ?_
      refine Gs.seq ?_
      refine Gs.reg ?_
      refine Go.Sl.L.pu rfl rfl trivial (pu_move rfl) ?_
      refine Go.Sl.L.pu rfl rfl trivial (pu_ne rfl rfl) ?_
      refine Go.Sl.L.nil ?_
      refine Gs.then_n ?_
      refine Gs.cond_tt rfl rfl ?_
      refine Gs.seq ?_
      refine Gs.reg ?_
      refine Go.Sl.L.pu rfl rfl trivial (pu_move rfl) ?_
      refine Go.Sl.L.pu rfl rfl trivial (pu_assign rfl) ?_
      refine Go.Sl.L.nil ?_
      refine Gs.then_n ?_
      refine Gs.ret ?_
      refine Gs.then_r ?_
      refine Gs.drvClose (P := P) (D := D) (by repeat constructor) hP hok ?_
      exact Gs.fin1 Try.results18 rfl _ (⟨by rw [hv], by rw [hL]⟩) (by repeat constructor)
  · have h1' : lookF D n = some f := by rw [← hP]; exact e2
    have hD : del D n = fls (U ++ V) := by rw [← hP, e5]
    have hokD := hok.del n
    have hfm : f ∈ D := by rw [← hP, e0]; simp
    have hroom : (used (del D n) : Int) + f.b.length ≤ most := by
      have := hok.room
      rw [hD, fls, List.map_append]
      rw [← hP, e0, fls, List.map_append, List.map_cons, used_split] at this
      dsimp only at this
      omega
    refine Gs.seq ?_
    refine Gs.reg ?_
    refine Go.Sl.L.pu rfl rfl trivial (pu_assign rfl) ?_
    refine Go.Sl.L.nil ?_
    refine Gs.then_n ?_
    refine Gs.seq ?_
    refine Gs.seq ?_
    refine Gs.reg ?_
    refine Go.Sl.L.pu rfl rfl trivial (pu_move rfl) ?_
    refine Go.Sl.L.pu rfl rfl trivial (pu_eqN Try.underlying24 rfl rfl) ?_
    refine Go.Sl.L.nil ?_
    refine Gs.then_n ?_
    refine Gs.cond_f rfl ?_
    refine Gs.skip ?_
    refine Gs.then_n ?_
    refine Gs.seq ?_
    refine Gs.seq ?_
    refine Gs.reg ?_
    refine Go.Sl.L.pu rfl rfl trivial (pu_move rfl) ?_
    refine Go.Sl.L.ac rfl rfl trivial (as_call (named_spec t ha ht) (by repeat constructor) (by repeat constructor)) ?_
    rintro _ _ ⟨_, ⟨rfl, rfl⟩, rfl⟩
    refine Go.Sl.L.pu rfl rfl trivial (pu_not rfl) ?_
    refine Go.Sl.L.nil ?_
    refine Gs.then_n ?_
    refine Gs.cond rfl (fun hc1 => ?_) (fun hc1 => ?_)
    · skip
      have hnm : namedB t = false := by simpa using hc1
      have hv : renE D n t = 2 := by simp [renE, hnm]
      have hL : renL D n t = D := by simp [renL, hnm]
      refine Gs.seq ?_
      refine Gs.reg ?_
      refine Go.Sl.L.pu rfl rfl trivial (pu_assign rfl) ?_
      refine Go.Sl.L.nil ?_
      refine Gs.then_n ?_
      refine Gs.ret ?_
      refine Gs.then_r ?_
      refine Gs.drvClose (P := P) (D := D) (by repeat constructor) hP hok ?_
      exact Gs.fin1 Try.results18 rfl _ (⟨by rw [hv], by rw [hL]⟩) (by repeat constructor)
    · skip
      have hnm : namedB t = true := by simpa using hc1
      have hv : renE D n t = 0 := by simp [renE, hnm, h1']
      have hL : renL D n t = put (del D n) { f with n := t } := by simp [renL, hnm, h1']
      have hokR : Ok most (put (del D n) { f with n := t }) := hokD.put hroom (hok.firm f hfm)
      refine Gs.skip ?_
      refine Gs.then_n ?_
      refine Gs.seq ?_
      refine Gs.reg ?_
      refine Go.Sl.L.pu rfl rfl trivial (pu_move rfl) ?_
      refine Go.Sl.L.pu rfl rfl trivial (pu_move rfl) ?_
      refine Go.Sl.L.ac rfl rfl trivial (as_call (find_some e3) (by repeat constructor) (by repeat constructor)) ?_
      rintro _ _ ⟨_, ⟨rfl, rfl⟩, rfl⟩
      refine Go.Sl.L.pu rfl rfl trivial (pu_move rfl) ?_
      refine Go.Sl.L.pu rfl rfl trivial (pu_extract rfl rfl) ?_
      refine Go.Sl.L.pu rfl rfl trivial (pu_extract rfl rfl) ?_
      refine Go.Sl.L.pu rfl rfl trivial (pu_assign rfl) ?_
      refine Go.Sl.L.pu rfl rfl trivial (pu_assign rfl) ?_
      refine Go.Sl.L.nil ?_
      refine Gs.then_n ?_
      refine Gs.seq ?_
      refine Gs.seq ?_
      refine Gs.reg ?_
      refine Go.Sl.L.pu rfl rfl trivial (pu_move rfl) ?_
      refine Go.Sl.L.pu rfl rfl trivial (pu_ne rfl rfl) ?_
      refine Go.Sl.L.nil ?_
      refine Gs.then_n ?_
      refine Gs.cond_ff rfl rfl ?_
      refine Gs.skip ?_
      refine Gs.then_n ?_
      refine Gs.seq ?_
      refine Gs.reg ?_
      refine Go.Sl.L.pu rfl rfl trivial (pu_move rfl) ?_
      refine Go.Sl.L.pu rfl rfl trivial (by first | exact pu_nil rfl | exact pu_nilF rfl) ?_
      refine Go.Sl.L.pu rfl rfl trivial (pu_fa fa_51_1 rfl) ?_
      refine Go.Sl.L.rd rfl rfl trivial (rd_ld na_49 rfl (Rdc.cl1 (by repeat constructor) rfl)) ?_
      refine Go.Sl.L.pu rfl rfl trivial (pu_move rfl) ?_
      refine Go.Sl.L.ac0 rfl trivial (ac_del (k := n) (encv := encv_53) Try.underlying49 kt_9 rfl rfl rfl (by repeat constructor)) ?_
      rintro _ _ rfl
      rw [e6]
      subst e0
      refine Gs.filOpen (U := U) (V := V) (f := f) (p := p) (by repeat constructor) fun fa fc => ?_
      refine Go.Sl.L.nil ?_
      refine Gs.then_n ?_
      refine Gs.seq ?_
      refine Gs.reg ?_
      refine Go.Sl.L.pu rfl rfl trivial (pu_move rfl) ?_
      refine Go.Sl.L.pu rfl rfl trivial (by first | exact pu_nil rfl | exact pu_nilF rfl) ?_
      refine Go.Sl.L.pu rfl rfl trivial (pu_fa fa_51_1 rfl) ?_
      refine Go.Sl.L.rd rfl rfl trivial (rd_ld na_49 rfl (Rdc.cl1 (by repeat constructor) rfl)) ?_
      refine Go.Sl.L.pu rfl rfl trivial (pu_move rfl) ?_
      refine Go.Sl.L.pu rfl rfl trivial (pu_move rfl) ?_
      refine Go.Sl.L.ac0 rfl trivial (ac_put (k := t) (v := some p) (encv := encv_53) Try.underlying49 kt_9 rfl rfl rfl (by repeat constructor)) ?_
      rintro _ _ rfl
      refine Go.Sl.L.nil ?_
      refine Gs.then_n ?_
      refine Gs.seq ?_
      refine Gs.reg ?_
      refine Go.Sl.L.pu rfl rfl trivial (pu_assign rfl) ?_
      refine Go.Sl.L.nil ?_
      refine Gs.then_n ?_
      refine Gs.ret ?_
      refine Gs.renClose (most := most) (m := m) (b := b) (D := del D n) hD.symm hokD.nd hokR (by repeat constructor) ?_
      exact Gs.fin1 Try.results18 rfl _ (⟨by rw [hv], by rw [hL]⟩) (by repeat constructor)
theorem renameNil_spec (n t : ByteArray) : Ct Try.prog 18 [.pointer none, .string n, .string t] [] (fun v hs => v = int 1 ∧ hs = []) := by
  refine Ct.intro Try.func18 rfl (by kernel_rfl) 34 Try.ntmps18 (Nat.le_of_ble_eq_true rfl) fun w0 R => ?_
  refine Gs.seq ?_
  refine Gs.reg ?_
  refine Go.Sl.L.pu rfl rfl trivial (pu_assign rfl) ?_
  refine Go.Sl.L.nil ?_
  refine Gs.then_n ?_
  refine Gs.seq ?_
  refine Gs.seq ?_
  refine Gs.reg ?_
  refine Go.Sl.L.pu rfl rfl trivial (pu_move rfl) ?_
  refine Go.Sl.L.pu rfl rfl trivial (pu_eqN Try.underlying24 rfl rfl) ?_
  refine Go.Sl.L.nil ?_
  refine Gs.then_n ?_
  refine Gs.cond_t rfl ?_
  refine Gs.seq ?_
  refine Gs.reg ?_
  refine Go.Sl.L.pu rfl rfl trivial (pu_assign rfl) ?_
  refine Go.Sl.L.nil ?_
  refine Gs.then_n ?_
  refine Gs.ret ?_
  refine Gs.then_r ?_
  exact Gs.fin1 Try.results18 rfl _ (⟨rfl, rfl⟩) (by repeat constructor)
end Go.Proofs.Ytmfgemhjepagjaa
