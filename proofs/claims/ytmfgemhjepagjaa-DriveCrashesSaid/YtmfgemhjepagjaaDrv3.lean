/- Walks: what changes a drive. -/
import Derived.Test.YtmfgemhjepagjaaDrv2
namespace Go.Proofs.Ytmfgemhjepagjaa
open Go Go.Sl Go.Gv Go.Kv Go.Dv Go.Bst
set_option maxRecDepth 100000
theorem isNone_some {P : DP} {n : ByteArray} (h : (Option.map (fun b => (⟨b, 0, none⟩ : Addr)) ((mget (pairs P) n).getD none)).isNone = false) : mget (pairs P) n ≠ none := fun e => by rw [e] at h; cases h
theorem append_spec {S : HProp} (b : Nat) (most : Int) (D : List Fl) (n : ByteArray) (ha : asciiB n = true) (hn : n.size ≤ 9223372036854775807) {a : Option Addr} {c : Nat} {bs : List UInt8} (hS : Srd S 1 byteC a bs) (hl : bs.length ≤ 1048576) (hD : D.length ≤ 1000) :
    Ct Try.prog 10 [ptr b, .string n, .slice a bs.length c] [drv b most D, S] (fun v hs => v = int (appE most D n bs) ∧ hs = [drv b most (appL most D n bs), S]) := by
  refine Ct.intro Try.func10 rfl (by kernel_rfl) 51 Try.ntmps10 (Nat.le_of_ble_eq_true rfl) fun w0 R => ?_
  refine Gs.drvOpen (by repeat constructor) fun m0 P0 hP0 hok => ?_
  refine Gs.drvClose (P := P0) (by repeat constructor) hP0 hok ?_
  have hhi := hok.hi
  have hlo := hok.lo
  have hroom := hok.room
  refine Gs.seq ?_
  refine Gs.reg ?_
  refine Go.Sl.L.pu rfl rfl trivial (pu_assign rfl) ?_
  refine Go.Sl.L.nil ?_
  refine Gs.then_n ?_
  refine Gs.seq ?_
  refine Gs.block ?_
  refine Gs.seq ?_
  refine Gs.reg ?_
  refine Go.Sl.L.pu rfl rfl trivial (pu_move rfl) ?_
  refine Go.Sl.L.pu rfl rfl trivial (pu_eqN Try.underlying24 rfl rfl) ?_
  refine Go.Sl.L.pu rfl rfl trivial (pu_assign rfl) ?_
  refine Go.Sl.L.nil ?_
  refine Gs.then_n ?_
  refine Gs.cond_f rfl ?_
  refine Gs.seq ?_
  refine Gs.reg ?_
  refine Go.Sl.L.pu rfl rfl trivial (pu_move rfl) ?_
  refine Go.Sl.L.ac rfl rfl trivial (as_call (named_spec n ha hn) (by repeat constructor) (by repeat constructor)) ?_
  rintro _ _ ⟨_, ⟨rfl, rfl⟩, rfl⟩
  refine Go.Sl.L.pu rfl rfl trivial (pu_not rfl) ?_
  refine Go.Sl.L.pu rfl rfl trivial (pu_assign rfl) ?_
  refine Go.Sl.L.nil ?_
  refine Gs.then_n ?_
  refine Gs.cond rfl (fun hc1 => ?_) (fun hc1 => ?_)
  · skip
    have hnm : namedB n = false := by simpa using hc1
    have he : appE most D n bs = 2 := by simp [appE, hnm]
    have hL : appL most D n bs = D := by simp [appL, he]
    refine Gs.seq ?_
    refine Gs.reg ?_
    refine Go.Sl.L.pu rfl rfl trivial (pu_assign rfl) ?_
    refine Go.Sl.L.nil ?_
    refine Gs.then_n ?_
    refine Gs.ret ?_
    refine Gs.blk_r ?_
    refine Gs.then_r ?_
    exact Gs.fin1 Try.results10 rfl _ (⟨by rw [he], by rw [hL]⟩) (by repeat constructor)
  · skip
    have hnm : namedB n = true := by simpa using hc1
    refine Gs.seq ?_
    refine Gs.regD mixed (by kernel_rfl) ?_
    refine Rg.pu 0 rfl rfl (by kernel_rfl) trivial (pu_move rfl) ?_
    refine Rg.pu 2 rfl rfl (by kernel_rfl) trivial (pu_move rfl) ?_
    refine Rg.pu 3 rfl rfl (by kernel_rfl) trivial (pu_len Try.underlying22 rfl) ?_
    refine Rg.pu 5 rfl rfl (by kernel_rfl) trivial (pu_move rfl) ?_
    refine Rg.pu 6 rfl rfl (by kernel_rfl) trivial (by first | exact pu_nil rfl | exact pu_nilF rfl) ?_
    refine Rg.pu 7 rfl rfl (by kernel_rfl) trivial (pu_fa fa_51_0 rfl) ?_
    refine Rg.rd 8 rfl rfl (by kernel_rfl) trivial (rd_ld na_3 rfl (Rdc.drvMost (by repeat constructor))) ?_
    refine Rg.one (by kernel_rfl) (Stp.acR 1 [8] rfl rfl (by kernel_rfl) trivial (as_call (used_spec b most D hD) (by repeat constructor) (by repeat constructor)) (by rintro _ _ ⟨_, ⟨rfl, rfl⟩, rfl⟩; exact (Reads.cons rfl rfl rfl trivial rfl (rd_ld na_3 rfl (Rdc.drvMost (by repeat constructor))) Reads.nil)) ?_)
    rintro _ _ ⟨_, ⟨rfl, rfl⟩, rfl⟩
    refine Rg.pu 4 rfl rfl (by kernel_rfl) trivial (by first | exact pu_addI rfl rfl rfl (by omega) (by omega) | exact pu_add rfl rfl) ?_
    refine Rg.pu 9 rfl rfl (by kernel_rfl) trivial (pu_gt rfl rfl) ?_
    refine Rg.pu 10 rfl rfl (by kernel_rfl) trivial (pu_assign rfl) ?_
    refine Rg.end (by kernel_rfl) ?_
    refine Gs.then_n ?_
    refine Gs.cond rfl (fun hc2 => ?_) (fun hc2 => ?_)
    · skip
      have hc2' := of_decide_eq_true hc2
      have he : appE most D n bs = 8 := by simp only [appE, hnm, if_true]; rw [if_pos (by omega)]
      have hL : appL most D n bs = D := by simp [appL, he]
      refine Gs.seq ?_
      refine Gs.reg ?_
      refine Go.Sl.L.pu rfl rfl trivial (pu_assign rfl) ?_
      refine Go.Sl.L.nil ?_
      refine Gs.then_n ?_
      refine Gs.ret ?_
      refine Gs.blk_r ?_
      refine Gs.then_r ?_
      exact Gs.fin1 Try.results10 rfl _ (⟨by rw [he], by rw [hL]⟩) (by repeat constructor)
    · skip
      have hc2' := of_decide_eq_false hc2
      have he : appE most D n bs = 0 := by simp only [appE, hnm, if_true]; rw [if_neg (by omega)]
      have hL : appL most D n bs = appD D n bs := by simp [appL, he]
      have hokA : Ok most (appD D n bs) := hok.app (by omega)
      refine Gs.drvOpen (by repeat constructor) fun m P hP _ => ?_
      refine Gs.skip ?_
      refine Gs.blk_n ?_
      refine Gs.then_n ?_
      refine Gs.seq ?_
      refine Gs.reg ?_
      refine Go.Sl.L.pu rfl rfl trivial (pu_move rfl) ?_
      refine Go.Sl.L.pu rfl rfl trivial (by first | exact pu_nil rfl | exact pu_nilF rfl) ?_
      refine Go.Sl.L.pu rfl rfl trivial (pu_fa fa_51_1 rfl) ?_
      refine Go.Sl.L.rd rfl rfl trivial (rd_ld na_49 rfl (Rdc.cl1 (by repeat constructor) rfl)) ?_
      refine Go.Sl.L.pu rfl rfl trivial (pu_move rfl) ?_
      refine Go.Sl.L.rd rfl rfl trivial (rd_look1 (k := n) Try.underlying49 kt_9 zvk_53 rfl rfl (by repeat constructor)) ?_
      refine Go.Sl.L.pu rfl rfl trivial (pu_assign rfl) ?_
      refine Go.Sl.L.nil ?_
      refine Gs.then_n ?_
      refine Gs.seq ?_
      refine Gs.seq ?_
      refine Gs.reg ?_
      refine Go.Sl.L.pu rfl rfl trivial (pu_move rfl) ?_
      refine Go.Sl.L.pu rfl rfl trivial (pu_eqN Try.underlying53 rfl rfl) ?_
      refine Go.Sl.L.nil ?_
      refine Gs.then_n ?_
      refine Gs.cond rfl (fun hc3 => ?_) (fun hc3 => ?_)
      · skip
        obtain ⟨h1, h2⟩ : lookF (fls P) n = none ∧ mget (pairs P) n = none := by
          rcases find_at (P := P) (by rw [hP]; exact hok.nd) n with h | ⟨U, f, p, V, e0, e1, e2, e3, -, -, -, -, -⟩
          · exact h
          · rw [e3] at hc3; cases hc3
        have hA : appD D n bs = fls P ++ [⟨n, bs, 0⟩] := by rw [← hP]; simp [appD, h1]
        refine Gs.seq ?_
        refine Gs.reg ?_
        refine Go.Sl.L.pu rfl rfl trivial (pu_build bd_55 (by repeat constructor) rfl) ?_
        refine Go.Sl.L.ac rfl rfl trivial (ac_box rfl rfl) ?_
        rintro _ _ ⟨p, rfl, rfl⟩
        refine Go.Sl.L.pu rfl rfl trivial (pu_assign rfl) ?_
        refine Go.Sl.L.nil ?_
        refine Gs.then_n ?_
        refine Gs.reg ?_
        refine Go.Sl.L.pu rfl rfl trivial (pu_move rfl) ?_
        refine Go.Sl.L.pu rfl rfl trivial (by first | exact pu_nil rfl | exact pu_nilF rfl) ?_
        refine Go.Sl.L.pu rfl rfl trivial (pu_fa fa_51_1 rfl) ?_
        refine Go.Sl.L.rd rfl rfl trivial (rd_ld na_49 rfl (Rdc.cl1 (by repeat constructor) rfl)) ?_
        refine Go.Sl.L.pu rfl rfl trivial (pu_move rfl) ?_
        refine Go.Sl.L.pu rfl rfl trivial (pu_move rfl) ?_
        refine Go.Sl.L.ac0 rfl trivial (ac_put (k := n) (v := some p) (encv := encv_53) Try.underlying49 kt_9 rfl rfl rfl (by repeat constructor)) ?_
        rintro _ _ rfl
        rw [pairs_new (f := ⟨n, bs, 0⟩) h2]
        refine Gs.slNil 5 1 byteC ?_
        refine Go.Sl.L.nil ?_
        refine Gs.then_n ?_
        refine Gs.seq ?_
        refine Gs.reg ?_
        refine Go.Sl.L.pu rfl rfl trivial (pu_move rfl) ?_
        refine Go.Sl.L.pu rfl rfl trivial (pu_move rfl) ?_
        refine Go.Sl.L.pu rfl rfl trivial (by first | exact pu_nil rfl | exact pu_nilF rfl) ?_
        refine Go.Sl.L.pu rfl rfl trivial (pu_fa fa_55_0 rfl) ?_
        refine Go.Sl.L.rd rfl rfl trivial (rd_ld na_22 rfl (Rdc.cl1 (by repeat constructor) rfl)) ?_
        refine Go.Sl.L.pu rfl rfl trivial (pu_move rfl) ?_
        refine Go.Sl.L.ac rfl rfl trivial (ac_append et_22 ek_5 rfl rfl (by repeat constructor) (SrcH.sl Try.underlying22 ek_5 (hS.h (by repeat constructor))) (by first | omega | (simp; omega)) (by first | omega | (simp; omega))) ?_
        rintro _ _ ⟨a48, c48, rfl, rfl⟩
        refine Go.Sl.L.pu rfl rfl trivial (by first | exact pu_nil rfl | exact pu_nilF rfl) ?_
        refine Go.Sl.L.pu rfl rfl trivial (pu_fa fa_55_0 rfl) ?_
        refine Go.Sl.L.ac0 rfl trivial (ac_st sz_22 rfl rfl (by repeat constructor) rfl rfl rfl rfl) ?_
        rintro _ _ rfl
        refine Go.Sl.L.nil ?_
        refine Gs.then_n ?_
        refine Gs.seq ?_
        refine Gs.reg ?_
        refine Go.Sl.L.pu rfl rfl trivial (pu_assign rfl) ?_
        refine Go.Sl.L.nil ?_
        refine Gs.then_n ?_
        refine Gs.ret ?_
        first | (refine Gs.filClose (U := U) (V := V) (f := { f with b := f.b ++ bs }) (p := p) (by repeat constructor) (by simp) rfl rfl ?_; refine Gs.drvClose (P := U ++ ({ f with b := f.b ++ bs }, p) :: V) (D := appD D n bs) (by repeat constructor) (by rw [hA]; simp) hokA ?_) | (refine Gs.filNew (U := P) (f := ⟨n, bs, 0⟩) (p := p) (by repeat constructor) (by simp) rfl rfl ?_; refine Gs.drvClose (P := P ++ [(⟨n, bs, 0⟩, p)]) (D := appD D n bs) (by repeat constructor) (by rw [hA]; simp) hokA ?_)
        exact Gs.fin1 Try.results10 rfl _ (⟨by rw [he], by rw [hL]⟩) (by repeat constructor)
      · skip
        obtain ⟨U, f, p, V, e0, e1, e2, e3, e4, -, -, e7, -⟩ : ∃ U f p V, P = U ++ (f, p) :: V ∧ f.n = n ∧ lookF (fls P) n = some f ∧ mget (pairs P) n = some (some p) ∧ (∀ g, upd (fls P) n g = fls U ++ g f :: fls V) ∧ True ∧ True ∧ (∀ f' : Fl, f'.n = n → pairs (U ++ (f', p) :: V) = pairs P) ∧ True := by
          rcases find_at (P := P) (by rw [hP]; exact hok.nd) n with ⟨h1, h2⟩ | ⟨U, f, p, V, e0, e1, e2, e3, e4, -, -, e7, -⟩
          · exact (isNone_some hc3 h2).elim
          · exact ⟨U, f, p, V, e0, e1, e2, e3, e4, trivial, trivial, e7, trivial⟩
        have hA : appD D n bs = fls U ++ { f with b := f.b ++ bs } :: fls V := by rw [← hP]; simp only [appD, e2, Option.isSome_some, if_true]; exact e4 _
        have hfm : f ∈ D := by rw [← hP, e0]; simp
        have hf2 := used_mem hfm
        rw [e3]
        rw [← e7 { f with b := f.b ++ bs } e1]
        rw [e0]
        refine Gs.filOpen (U := U) (V := V) (f := f) (p := p) (by repeat constructor) fun fa fc => ?_
        refine Gs.skip ?_
        refine Gs.then_n ?_
        refine Gs.seq ?_
        refine Gs.reg ?_
        refine Go.Sl.L.pu rfl rfl trivial (pu_move rfl) ?_
        refine Go.Sl.L.pu rfl rfl trivial (pu_move rfl) ?_
        refine Go.Sl.L.pu rfl rfl trivial (by first | exact pu_nil rfl | exact pu_nilF rfl) ?_
        refine Go.Sl.L.pu rfl rfl trivial (pu_fa fa_55_0 rfl) ?_
        refine Go.Sl.L.rd rfl rfl trivial (rd_ld na_22 rfl (Rdc.cl1 (by repeat constructor) rfl)) ?_
        refine Go.Sl.L.pu rfl rfl trivial (pu_move rfl) ?_
        refine Go.Sl.L.ac rfl rfl trivial (ac_append et_22 ek_5 rfl rfl (by repeat constructor) (SrcH.sl Try.underlying22 ek_5 (hS.h (by repeat constructor))) (by first | omega | (simp; omega)) (by first | omega | (simp; omega))) ?_
        rintro _ _ ⟨a48, c48, rfl, rfl⟩
        refine Go.Sl.L.pu rfl rfl trivial (by first | exact pu_nil rfl | exact pu_nilF rfl) ?_
        refine Go.Sl.L.pu rfl rfl trivial (pu_fa fa_55_0 rfl) ?_
        refine Go.Sl.L.ac0 rfl trivial (ac_st sz_22 rfl rfl (by repeat constructor) rfl rfl rfl rfl) ?_
        rintro _ _ rfl
        refine Go.Sl.L.nil ?_
        refine Gs.then_n ?_
        refine Gs.seq ?_
        refine Gs.reg ?_
        refine Go.Sl.L.pu rfl rfl trivial (pu_assign rfl) ?_
        refine Go.Sl.L.nil ?_
        refine Gs.then_n ?_
        refine Gs.ret ?_
        first | (refine Gs.filClose (U := U) (V := V) (f := { f with b := f.b ++ bs }) (p := p) (by repeat constructor) (by simp) rfl rfl ?_; refine Gs.drvClose (P := U ++ ({ f with b := f.b ++ bs }, p) :: V) (D := appD D n bs) (by repeat constructor) (by rw [hA]; simp) hokA ?_) | (refine Gs.filNew (U := P) (f := ⟨n, bs, 0⟩) (p := p) (by repeat constructor) (by simp) rfl rfl ?_; refine Gs.drvClose (P := P ++ [(⟨n, bs, 0⟩, p)]) (D := appD D n bs) (by repeat constructor) (by rw [hA]; simp) hokA ?_)
        exact Gs.fin1 Try.results10 rfl _ (⟨by rw [he], by rw [hL]⟩) (by repeat constructor)
theorem appendNil_spec (n : ByteArray) (a : Option Addr) (l c : Nat) : Ct Try.prog 10 [.pointer none, .string n, .slice a l c] [] (fun v hs => v = int 1 ∧ hs = []) := by
  refine Ct.intro Try.func10 rfl (by kernel_rfl) 51 Try.ntmps10 (Nat.le_of_ble_eq_true rfl) fun w0 R => ?_
  refine Gs.seq ?_
  refine Gs.reg ?_
  refine Go.Sl.L.pu rfl rfl trivial (pu_assign rfl) ?_
  refine Go.Sl.L.nil ?_
  refine Gs.then_n ?_
  refine Gs.seq ?_
  refine Gs.block ?_
  refine Gs.seq ?_
  refine Gs.reg ?_
  refine Go.Sl.L.pu rfl rfl trivial (pu_move rfl) ?_
  refine Go.Sl.L.pu rfl rfl trivial (pu_eqN Try.underlying24 rfl rfl) ?_
  refine Go.Sl.L.pu rfl rfl trivial (pu_assign rfl) ?_
  refine Go.Sl.L.nil ?_
  refine Gs.then_n ?_
  refine Gs.cond_t rfl ?_
  refine Gs.seq ?_
  refine Gs.reg ?_
  refine Go.Sl.L.pu rfl rfl trivial (pu_assign rfl) ?_
  refine Go.Sl.L.nil ?_
  refine Gs.then_n ?_
  refine Gs.ret ?_
  refine Gs.blk_r ?_
  refine Gs.then_r ?_
  exact Gs.fin1 Try.results10 rfl _ (⟨rfl, rfl⟩) (by repeat constructor)
end Go.Proofs.Ytmfgemhjepagjaa
