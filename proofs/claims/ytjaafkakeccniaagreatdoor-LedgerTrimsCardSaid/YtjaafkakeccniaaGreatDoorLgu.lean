/- Walk: ledger.Write. -/
import Derived.Test.YtjaafkakeccniaaGreatDoorLgn
namespace Go.Proofs.YtjaafkakeccniaaGreatDoor
open Go Go.Sl Go.Gv Go.Dv Go.Bst
set_option maxRecDepth 100000
theorem mayW_eq (n : Int) (e : EntP) (v w : List Int) : mayW n e v w = (!decide (e.kind = 1) && (mayE e n && (vecB v n && (vecB w n && belowB w v)))) := rfl
theorem writeL_no {most n : Int} {D : List Fl} {made : Nat} {U : List Pa} {p : Pa} {e : EntP} {v w : List Int} (h : mayW n e v w = false) : writeL most n D made U p e v w = ⟨2, D, ⟨made, U ++ [p]⟩⟩ := by unfold writeL; rw [if_pos h]
set_option maxHeartbeats 1000000 in
theorem write_spec {b d : Nat} {n most : Int} {made : Nat} {U : List Pa} {p : Pa} {D : List Fl} {Ux : HProp} {e : EntV} {va wa : Option Addr} {vc wc : Nat} {v w : List Int} (hE : EVd Ux e) (hV : Srd Ux 1 intC va v) (hW : Srd Ux 1 intC wa w) (hR : RMs Ux) (h1 : 1 ≤ n) (h8 : n ≤ 8)
    (hm : made + 1 < 100) (hU : U.length ≤ 900) (hp : p.t.length = n.toNat) (hz : p.z ≤ 1048576) (hD : D.length ≤ 900) (hn : asciiB p.n = true) (hns : p.n.size ≤ 100) (hs : syncE D [p.n] = 0) :
    Ct Tryz.prog 17 [ptr b, entV e, .slice va v.length vc, .slice wa w.length wc] [lgr b d n ⟨made, U ++ [p]⟩, drv d most D, Ux]
      (fun r hs => r = int (writeL most n D made U p e.p v w).e ∧ hs = [lgr b d n (writeL most n D made U p e.p v w).L, drv d most (writeL most n D made U p e.p v w).D, Ux]) := by
  obtain ⟨A, hA0⟩ : ∃ A, A = writeL most n D made U p e.p v w := ⟨_, rfl⟩
  rw [← hA0]
  have hno2 : mayW n e.p v w = false → A = ⟨2, D, ⟨made, U ++ [p]⟩⟩ := fun h => by rw [hA0]; exact writeL_no h
  have hmk : e.p.kind = e.kind := rfl
  refine Ct.intro Tryz.func17 rfl (by kernel_rfl) 133 Tryz.ntmps17 (Nat.le_of_ble_eq_true rfl) fun w0 R => ?_
  refine Gs.lgOpen (made := made) (ps := U ++ [p]) (b := b) (d := d) (n := n) (by repeat constructor) fun pa pc P hP => ?_
  obtain ⟨V, ⟨xp, xa, xc⟩, rfl, hVm, hx⟩ := split_last hP
  obtain rfl : xp = p := hx
  have hVl : V.length = U.length := by rw [← hVm, List.length_map]
  have hPx : (V ++ [(⟨xp, xa, xc⟩ : PaV)])[V.length]? = some ⟨xp, xa, xc⟩ := by simp
  have hPl : ((V ++ [(⟨xp, xa, xc⟩ : PaV)]).length : Int) - 1 = ((V.length : Nat) : Int) := by rw [List.length_append, List.length_cons, List.length_nil]; omega
  refine Gs.slAddr (xs := V ++ [(⟨xp, xa, xc⟩ : PaV)]) (SlH.own (E := 83) (enc := paC) (by repeat constructor)) fun pb po hpa => ?_
  obtain rfl := hpa (by simp)
  refine Gs.seq ?_
  refine Gs.reg ?_
  refine Go.Sl.L.ac rfl rfl trivial (ac_box rfl rfl) ?_
  rintro _ _ ⟨vb, rfl, rfl⟩
  refine Go.Sl.L.pu rfl rfl trivial (pu_assign rfl) ?_
  refine Go.Sl.L.nil ?_
  refine Gs.then_n ?_
  refine Gs.seq ?_
  refine Gs.block ?_
  refine Gs.seq ?_
  refine Gs.reg ?_
  refine Go.Sl.L.pu rfl rfl trivial (pu_move rfl) ?_
  refine Go.Sl.L.pu rfl rfl trivial (pu_eqN Tryz.underlying28 rfl rfl) ?_
  refine Go.Sl.L.pu rfl rfl trivial (pu_assign rfl) ?_
  refine Go.Sl.L.nil ?_
  refine Gs.then_n ?_
  refine Gs.cond_f rfl ?_
  refine Gs.seq ?_
  refine Gs.regD mixed (by kernel_rfl) ?_
  refine Rg.pu 0 rfl rfl (by kernel_rfl) trivial (pu_fa fa_43_0 rfl) ?_
  refine Rg.rd 1 rfl rfl (by kernel_rfl) trivial (rd_ld na_3 rfl (Rdc.cl1 (by repeat constructor) rfl)) ?_
  refine Rg.pu 2 rfl rfl (by kernel_rfl) trivial (pu_eq rfl rfl) ?_
  refine Rg.puB 3 rfl rfl (by kernel_rfl) trivial (pu_move rfl) (fun hg3 => ?_) (fun hg3 => ?_)
  · skip
    have hno := hno2 (by rw [mayW_eq, hmk, hg3]; rfl)
    refine Rg.off 4 rfl rfl (by kernel_rfl) rfl rfl rfl rfl ?_
    refine Rg.off 5 rfl rfl (by kernel_rfl) rfl rfl rfl rfl ?_
    refine Rg.off 6 rfl rfl (by kernel_rfl) rfl rfl rfl rfl ?_
    refine Rg.off 7 rfl rfl (by kernel_rfl) rfl rfl rfl rfl ?_
    refine Rg.off 8 rfl rfl (by kernel_rfl) rfl rfl rfl rfl ?_
    refine Rg.off 9 rfl rfl (by kernel_rfl) rfl rfl rfl rfl ?_
    refine Rg.off 10 rfl rfl (by kernel_rfl) rfl rfl rfl rfl ?_
    refine Rg.pu 11 rfl rfl (by kernel_rfl) trivial (by first | exact pu_pick_t rfl rfl | exact pu_pick_f rfl rfl) ?_
    refine Rg.pu 12 rfl rfl (by kernel_rfl) trivial (pu_move rfl) ?_
    refine Rg.off 13 rfl rfl (by kernel_rfl) rfl rfl rfl rfl ?_
    refine Rg.off 14 rfl rfl (by kernel_rfl) rfl rfl rfl rfl ?_
    refine Rg.off 15 rfl rfl (by kernel_rfl) rfl rfl rfl rfl ?_
    refine Rg.off 16 rfl rfl (by kernel_rfl) rfl rfl rfl rfl ?_
    refine Rg.off 17 rfl rfl (by kernel_rfl) rfl rfl rfl rfl ?_
    refine Rg.off 18 rfl rfl (by kernel_rfl) rfl rfl rfl rfl ?_
    refine Rg.off 19 rfl rfl (by kernel_rfl) rfl rfl rfl rfl ?_
    refine Rg.pu 20 rfl rfl (by kernel_rfl) trivial (by first | exact pu_pick_t rfl rfl | exact pu_pick_f rfl rfl) ?_
    refine Rg.pu 21 rfl rfl (by kernel_rfl) trivial (pu_move rfl) ?_
    refine Rg.off 22 rfl rfl (by kernel_rfl) rfl rfl rfl rfl ?_
    refine Rg.off 23 rfl rfl (by kernel_rfl) rfl rfl rfl rfl ?_
    refine Rg.off 24 rfl rfl (by kernel_rfl) rfl rfl rfl rfl ?_
    refine Rg.off 25 rfl rfl (by kernel_rfl) rfl rfl rfl rfl ?_
    refine Rg.off 26 rfl rfl (by kernel_rfl) rfl rfl rfl rfl ?_
    refine Rg.off 27 rfl rfl (by kernel_rfl) rfl rfl rfl rfl ?_
    refine Rg.off 28 rfl rfl (by kernel_rfl) rfl rfl rfl rfl ?_
    refine Rg.pu 29 rfl rfl (by kernel_rfl) trivial (by first | exact pu_pick_t rfl rfl | exact pu_pick_f rfl rfl) ?_
    refine Rg.pu 30 rfl rfl (by kernel_rfl) trivial (pu_move rfl) ?_
    refine Rg.off 31 rfl rfl (by kernel_rfl) rfl rfl rfl rfl ?_
    refine Rg.off 32 rfl rfl (by kernel_rfl) rfl rfl rfl rfl ?_
    refine Rg.off 33 rfl rfl (by kernel_rfl) rfl rfl rfl rfl ?_
    refine Rg.off 34 rfl rfl (by kernel_rfl) rfl rfl rfl rfl ?_
    refine Rg.pu 35 rfl rfl (by kernel_rfl) trivial (by first | exact pu_pick_t rfl rfl | exact pu_pick_f rfl rfl) ?_
    refine Rg.pu 36 rfl rfl (by kernel_rfl) trivial (pu_assign rfl) ?_
    refine Rg.end (by kernel_rfl) ?_
    refine Gs.then_n ?_
    refine Gs.cond_t rfl ?_
    refine Gs.seq ?_
    refine Gs.reg ?_
    refine Go.Sl.L.pu rfl rfl trivial (pu_assign rfl) ?_
    refine Go.Sl.L.nil ?_
    refine Gs.then_n ?_
    refine Gs.ret ?_
    refine Gs.blk_r ?_
    refine Gs.then_r ?_
    refine Gs.lgClose (b := b) (d := d) (n := n) (made := made) (ps := U ++ [xp]) (P := V ++ [(⟨xp, xa, xc⟩ : PaV)]) (a := some ⟨pb, po, none⟩) (c := pc) (by repeat constructor) rfl hP ?_
    exact Gs.fin1 Tryz.results17 rfl _ (⟨by rw [hno], by rw [hno]⟩) (by repeat constructor)
  · skip
    refine Rg.rd 4 rfl rfl (by kernel_rfl) ⟨_, rfl, rfl⟩ (rd_lda ag_43 rfl (Rdc.cl 8 (by repeat constructor) rfl) rfl) ?_
    refine Rg.pu 5 rfl rfl (by kernel_rfl) ⟨_, rfl, rfl⟩ (pu_move rfl) ?_
    refine Rg.pu 6 rfl rfl (by kernel_rfl) ⟨_, rfl, rfl⟩ (by first | exact pu_nil rfl | exact pu_nilF rfl) ?_
    refine Rg.pu 7 rfl rfl (by kernel_rfl) ⟨_, rfl, rfl⟩ (pu_fa fa_65_1 rfl) ?_
    refine Rg.rd 8 rfl rfl (by kernel_rfl) ⟨_, rfl, rfl⟩ (rd_ld na_3 rfl (Rdc.cl1 (by repeat constructor) rfl)) ?_
    refine Rg.one (by kernel_rfl) (Stp.ac 9 rfl rfl (by kernel_rfl) ⟨_, rfl, rfl⟩ (as_call (segMay_spec hE hR n) (by repeat constructor) (by repeat constructor))  ?_)
    rintro _ _ ⟨_, ⟨rfl, rfl⟩, rfl⟩
    refine Rg.pu 10 rfl rfl (by kernel_rfl) ⟨_, rfl, rfl⟩ (pu_not rfl) ?_
    refine Rg.pu 11 rfl rfl (by kernel_rfl) trivial (by first | exact pu_pick_t rfl rfl | exact pu_pick_f rfl rfl) ?_
    refine Rg.puB 12 rfl rfl (by kernel_rfl) trivial (pu_move rfl) (fun hg12 => ?_) (fun hg12 => ?_)
    · skip
      have hq : mayE e.p n = false := by simpa using hg12
      have hno := hno2 (by rw [mayW_eq, hq, Bool.false_and, Bool.and_false])
      refine Rg.off 13 rfl rfl (by kernel_rfl) rfl rfl rfl rfl ?_
      refine Rg.off 14 rfl rfl (by kernel_rfl) rfl rfl rfl rfl ?_
      refine Rg.off 15 rfl rfl (by kernel_rfl) rfl rfl rfl rfl ?_
      refine Rg.off 16 rfl rfl (by kernel_rfl) rfl rfl rfl rfl ?_
      refine Rg.off 17 rfl rfl (by kernel_rfl) rfl rfl rfl rfl ?_
      refine Rg.off 18 rfl rfl (by kernel_rfl) rfl rfl rfl rfl ?_
      refine Rg.off 19 rfl rfl (by kernel_rfl) rfl rfl rfl rfl ?_
      refine Rg.pu 20 rfl rfl (by kernel_rfl) trivial (by first | exact pu_pick_t rfl rfl | exact pu_pick_f rfl rfl) ?_
      refine Rg.pu 21 rfl rfl (by kernel_rfl) trivial (pu_move rfl) ?_
      refine Rg.off 22 rfl rfl (by kernel_rfl) rfl rfl rfl rfl ?_
      refine Rg.off 23 rfl rfl (by kernel_rfl) rfl rfl rfl rfl ?_
      refine Rg.off 24 rfl rfl (by kernel_rfl) rfl rfl rfl rfl ?_
      refine Rg.off 25 rfl rfl (by kernel_rfl) rfl rfl rfl rfl ?_
      refine Rg.off 26 rfl rfl (by kernel_rfl) rfl rfl rfl rfl ?_
      refine Rg.off 27 rfl rfl (by kernel_rfl) rfl rfl rfl rfl ?_
      refine Rg.off 28 rfl rfl (by kernel_rfl) rfl rfl rfl rfl ?_
      refine Rg.pu 29 rfl rfl (by kernel_rfl) trivial (by first | exact pu_pick_t rfl rfl | exact pu_pick_f rfl rfl) ?_
      refine Rg.pu 30 rfl rfl (by kernel_rfl) trivial (pu_move rfl) ?_
      refine Rg.off 31 rfl rfl (by kernel_rfl) rfl rfl rfl rfl ?_
      refine Rg.off 32 rfl rfl (by kernel_rfl) rfl rfl rfl rfl ?_
      refine Rg.off 33 rfl rfl (by kernel_rfl) rfl rfl rfl rfl ?_
      refine Rg.off 34 rfl rfl (by kernel_rfl) rfl rfl rfl rfl ?_
      refine Rg.pu 35 rfl rfl (by kernel_rfl) trivial (by first | exact pu_pick_t rfl rfl | exact pu_pick_f rfl rfl) ?_
      refine Rg.pu 36 rfl rfl (by kernel_rfl) trivial (pu_assign rfl) ?_
      refine Rg.end (by kernel_rfl) ?_
      refine Gs.then_n ?_
      refine Gs.cond_t rfl ?_
      refine Gs.seq ?_
      refine Gs.reg ?_
      refine Go.Sl.L.pu rfl rfl trivial (pu_assign rfl) ?_
      refine Go.Sl.L.nil ?_
      refine Gs.then_n ?_
      refine Gs.ret ?_
      refine Gs.blk_r ?_
      refine Gs.then_r ?_
      refine Gs.lgClose (b := b) (d := d) (n := n) (made := made) (ps := U ++ [xp]) (P := V ++ [(⟨xp, xa, xc⟩ : PaV)]) (a := some ⟨pb, po, none⟩) (c := pc) (by repeat constructor) rfl hP ?_
      exact Gs.fin1 Tryz.results17 rfl _ (⟨by rw [hno], by rw [hno]⟩) (by repeat constructor)
    · skip
      have hq1 : mayE e.p n = true := by simpa using hg12
      refine Rg.pu 13 rfl rfl (by kernel_rfl) ⟨_, rfl, rfl⟩ (pu_move rfl) ?_
      refine Rg.pu 14 rfl rfl (by kernel_rfl) ⟨_, rfl, rfl⟩ (pu_move rfl) ?_
      refine Rg.pu 15 rfl rfl (by kernel_rfl) ⟨_, rfl, rfl⟩ (by first | exact pu_nil rfl | exact pu_nilF rfl) ?_
      refine Rg.pu 16 rfl rfl (by kernel_rfl) ⟨_, rfl, rfl⟩ (pu_fa fa_65_1 rfl) ?_
      refine Rg.rd 17 rfl rfl (by kernel_rfl) ⟨_, rfl, rfl⟩ (rd_ld na_3 rfl (Rdc.cl1 (by repeat constructor) rfl)) ?_
      refine Rg.one (by kernel_rfl) (Stp.ac 18 rfl rfl (by kernel_rfl) ⟨_, rfl, rfl⟩ (as_call (vecMay_spec hV n) (by repeat constructor) (by repeat constructor))  ?_)
      rintro _ _ ⟨_, ⟨rfl, rfl⟩, rfl⟩
      refine Rg.pu 19 rfl rfl (by kernel_rfl) ⟨_, rfl, rfl⟩ (pu_not rfl) ?_
      refine Rg.pu 20 rfl rfl (by kernel_rfl) trivial (by first | exact pu_pick_t rfl rfl | exact pu_pick_f rfl rfl) ?_
      refine Rg.puB 21 rfl rfl (by kernel_rfl) trivial (pu_move rfl) (fun hg21 => ?_) (fun hg21 => ?_)
      · skip
        have hq : vecB v n = false := by simpa using hg21
        have hno := hno2 (by rw [mayW_eq, hq, Bool.false_and, Bool.and_false, Bool.and_false])
        refine Rg.off 22 rfl rfl (by kernel_rfl) rfl rfl rfl rfl ?_
        refine Rg.off 23 rfl rfl (by kernel_rfl) rfl rfl rfl rfl ?_
        refine Rg.off 24 rfl rfl (by kernel_rfl) rfl rfl rfl rfl ?_
        refine Rg.off 25 rfl rfl (by kernel_rfl) rfl rfl rfl rfl ?_
        refine Rg.off 26 rfl rfl (by kernel_rfl) rfl rfl rfl rfl ?_
        refine Rg.off 27 rfl rfl (by kernel_rfl) rfl rfl rfl rfl ?_
        refine Rg.off 28 rfl rfl (by kernel_rfl) rfl rfl rfl rfl ?_
        refine Rg.pu 29 rfl rfl (by kernel_rfl) trivial (by first | exact pu_pick_t rfl rfl | exact pu_pick_f rfl rfl) ?_
        refine Rg.pu 30 rfl rfl (by kernel_rfl) trivial (pu_move rfl) ?_
        refine Rg.off 31 rfl rfl (by kernel_rfl) rfl rfl rfl rfl ?_
        refine Rg.off 32 rfl rfl (by kernel_rfl) rfl rfl rfl rfl ?_
        refine Rg.off 33 rfl rfl (by kernel_rfl) rfl rfl rfl rfl ?_
        refine Rg.off 34 rfl rfl (by kernel_rfl) rfl rfl rfl rfl ?_
        refine Rg.pu 35 rfl rfl (by kernel_rfl) trivial (by first | exact pu_pick_t rfl rfl | exact pu_pick_f rfl rfl) ?_
        refine Rg.pu 36 rfl rfl (by kernel_rfl) trivial (pu_assign rfl) ?_
        refine Rg.end (by kernel_rfl) ?_
        refine Gs.then_n ?_
        refine Gs.cond_t rfl ?_
        refine Gs.seq ?_
        refine Gs.reg ?_
        refine Go.Sl.L.pu rfl rfl trivial (pu_assign rfl) ?_
        refine Go.Sl.L.nil ?_
        refine Gs.then_n ?_
        refine Gs.ret ?_
        refine Gs.blk_r ?_
        refine Gs.then_r ?_
        refine Gs.lgClose (b := b) (d := d) (n := n) (made := made) (ps := U ++ [xp]) (P := V ++ [(⟨xp, xa, xc⟩ : PaV)]) (a := some ⟨pb, po, none⟩) (c := pc) (by repeat constructor) rfl hP ?_
        exact Gs.fin1 Tryz.results17 rfl _ (⟨by rw [hno], by rw [hno]⟩) (by repeat constructor)
      · skip
        have hq2 : vecB v n = true := by simpa using hg21
        refine Rg.pu 22 rfl rfl (by kernel_rfl) ⟨_, rfl, rfl⟩ (pu_move rfl) ?_
        refine Rg.pu 23 rfl rfl (by kernel_rfl) ⟨_, rfl, rfl⟩ (pu_move rfl) ?_
        refine Rg.pu 24 rfl rfl (by kernel_rfl) ⟨_, rfl, rfl⟩ (by first | exact pu_nil rfl | exact pu_nilF rfl) ?_
        refine Rg.pu 25 rfl rfl (by kernel_rfl) ⟨_, rfl, rfl⟩ (pu_fa fa_65_1 rfl) ?_
        refine Rg.rd 26 rfl rfl (by kernel_rfl) ⟨_, rfl, rfl⟩ (rd_ld na_3 rfl (Rdc.cl1 (by repeat constructor) rfl)) ?_
        refine Rg.one (by kernel_rfl) (Stp.ac 27 rfl rfl (by kernel_rfl) ⟨_, rfl, rfl⟩ (as_call (vecMay_spec hW n) (by repeat constructor) (by repeat constructor))  ?_)
        rintro _ _ ⟨_, ⟨rfl, rfl⟩, rfl⟩
        refine Rg.pu 28 rfl rfl (by kernel_rfl) ⟨_, rfl, rfl⟩ (pu_not rfl) ?_
        refine Rg.pu 29 rfl rfl (by kernel_rfl) trivial (by first | exact pu_pick_t rfl rfl | exact pu_pick_f rfl rfl) ?_
        refine Rg.puB 30 rfl rfl (by kernel_rfl) trivial (pu_move rfl) (fun hg30 => ?_) (fun hg30 => ?_)
        · skip
          have hq : vecB w n = false := by simpa using hg30
          have hno := hno2 (by rw [mayW_eq, hq, Bool.false_and, Bool.and_false, Bool.and_false, Bool.and_false])
          refine Rg.off 31 rfl rfl (by kernel_rfl) rfl rfl rfl rfl ?_
          refine Rg.off 32 rfl rfl (by kernel_rfl) rfl rfl rfl rfl ?_
          refine Rg.off 33 rfl rfl (by kernel_rfl) rfl rfl rfl rfl ?_
          refine Rg.off 34 rfl rfl (by kernel_rfl) rfl rfl rfl rfl ?_
          refine Rg.pu 35 rfl rfl (by kernel_rfl) trivial (by first | exact pu_pick_t rfl rfl | exact pu_pick_f rfl rfl) ?_
          refine Rg.pu 36 rfl rfl (by kernel_rfl) trivial (pu_assign rfl) ?_
          refine Rg.end (by kernel_rfl) ?_
          refine Gs.then_n ?_
          refine Gs.cond_t rfl ?_
          refine Gs.seq ?_
          refine Gs.reg ?_
          refine Go.Sl.L.pu rfl rfl trivial (pu_assign rfl) ?_
          refine Go.Sl.L.nil ?_
          refine Gs.then_n ?_
          refine Gs.ret ?_
          refine Gs.blk_r ?_
          refine Gs.then_r ?_
          refine Gs.lgClose (b := b) (d := d) (n := n) (made := made) (ps := U ++ [xp]) (P := V ++ [(⟨xp, xa, xc⟩ : PaV)]) (a := some ⟨pb, po, none⟩) (c := pc) (by repeat constructor) rfl hP ?_
          exact Gs.fin1 Tryz.results17 rfl _ (⟨by rw [hno], by rw [hno]⟩) (by repeat constructor)
        · skip
          have hq3 : vecB w n = true := by simpa using hg30
          refine Rg.pu 31 rfl rfl (by kernel_rfl) ⟨_, rfl, rfl⟩ (pu_move rfl) ?_
          refine Rg.pu 32 rfl rfl (by kernel_rfl) ⟨_, rfl, rfl⟩ (pu_move rfl) ?_
          refine Rg.one (by kernel_rfl) (Stp.ac 33 rfl rfl (by kernel_rfl) ⟨_, rfl, rfl⟩ (as_call (below_spec hW hV (vec_small hq3)) (by repeat constructor) (by repeat constructor))  ?_)
          rintro _ _ ⟨_, ⟨rfl, rfl⟩, rfl⟩
          refine Rg.pu 34 rfl rfl (by kernel_rfl) ⟨_, rfl, rfl⟩ (pu_not rfl) ?_
          refine Rg.pu 35 rfl rfl (by kernel_rfl) trivial (by first | exact pu_pick_t rfl rfl | exact pu_pick_f rfl rfl) ?_
          refine Rg.pu 36 rfl rfl (by kernel_rfl) trivial (pu_assign rfl) ?_
          refine Rg.end (by kernel_rfl) ?_
          refine Gs.then_n ?_
          refine Gs.cond rfl (fun hc1 => ?_) (fun hc1 => ?_)
          · skip
            have hq : belowB w v = false := by simpa using hc1
            have hno := hno2 (by rw [mayW_eq, hq, Bool.and_false, Bool.and_false, Bool.and_false, Bool.and_false])
            refine Gs.seq ?_
            refine Gs.reg ?_
            refine Go.Sl.L.pu rfl rfl trivial (pu_assign rfl) ?_
            refine Go.Sl.L.nil ?_
            refine Gs.then_n ?_
            refine Gs.ret ?_
            refine Gs.blk_r ?_
            refine Gs.then_r ?_
            refine Gs.lgClose (b := b) (d := d) (n := n) (made := made) (ps := U ++ [xp]) (P := V ++ [(⟨xp, xa, xc⟩ : PaV)]) (a := some ⟨pb, po, none⟩) (c := pc) (by repeat constructor) rfl hP ?_
            exact Gs.fin1 Tryz.results17 rfl _ (⟨by rw [hno], by rw [hno]⟩) (by repeat constructor)
          · skip
            have hq4 : belowB w v = true := by simpa using hc1
            have hk1 : e.kind ≠ 1 := of_decide_eq_false hg3
            have hw : mayW n e.p v w = true := by rw [mayW_eq, hmk, decide_eq_false hk1, hq1, hq2, hq3, hq4]; rfl
            obtain ⟨-, -, hbm⟩ := mayW_iff hw
            have hl1 := layE_len hq1
            have hl2 := base_len hbm
            have hl3 := layE_pos e.p
            have hnm := name_ok (k := made + 1) (by omega)
            refine Gs.skip ?_
            refine Gs.blk_n ?_
            refine Gs.then_n ?_
            refine Gs.seq ?_
            refine Gs.reg ?_
            refine Go.Sl.L.rd rfl rfl trivial (rd_lda ag_43 rfl (Rdc.cl 8 (by repeat constructor) rfl) rfl) ?_
            refine Go.Sl.L.ac rfl rfl trivial (as_call (segLay_spec hE hR hq1) (by repeat constructor) (by repeat constructor)) ?_
            rintro _ _ ⟨_, ⟨la, lc, rfl, rfl⟩, rfl⟩
            refine Go.Sl.L.pu rfl rfl trivial (pu_move rfl) ?_
            refine Go.Sl.L.pu rfl rfl trivial (pu_extract rfl rfl) ?_
            refine Go.Sl.L.pu rfl rfl trivial (pu_extract rfl rfl) ?_
            refine Go.Sl.L.pu rfl rfl trivial (pu_assign rfl) ?_
            refine Go.Sl.L.pu rfl rfl trivial (pu_assign rfl) ?_
            refine Go.Sl.L.nil ?_
            refine Gs.then_n ?_
            refine Gs.seq ?_
            refine Gs.regD mixed (by kernel_rfl) ?_
            refine Rg.pu 0 rfl rfl (by kernel_rfl) trivial (pu_move rfl) ?_
            refine Rg.pu 1 rfl rfl (by kernel_rfl) trivial (by first | exact pu_nil rfl | exact pu_nilF rfl) ?_
            refine Rg.pu 2 rfl rfl (by kernel_rfl) trivial (pu_fa fa_65_3 rfl) ?_
            refine Rg.rd 3 rfl rfl (by kernel_rfl) trivial (rd_ld na_63 rfl (Rdc.cl1 (by repeat constructor) rfl)) ?_
            refine Rg.pu 4 rfl rfl (by kernel_rfl) trivial (pu_move rfl) ?_
            refine Rg.pu 5 rfl rfl (by kernel_rfl) trivial (by first | exact pu_nil rfl | exact pu_nilF rfl) ?_
            refine Rg.pu 6 rfl rfl (by kernel_rfl) trivial (pu_fa fa_65_3 rfl) ?_
            refine Rg.rd 7 rfl rfl (by kernel_rfl) trivial (rd_ld na_63 rfl (Rdc.cl1 (by repeat constructor) rfl)) ?_
            refine Rg.pu 8 rfl rfl (by kernel_rfl) trivial (pu_len Tryz.underlying63 rfl) ?_
            refine Rg.pu 9 rfl rfl (by kernel_rfl) trivial (pu_subI (z := ((V.length : Nat) : Int)) rfl rfl hPl.symm (by omega) (by omega)) ?_
            refine Rg.pu 10 rfl rfl (by kernel_rfl) trivial (pu_ia se_63 rfl rfl (by omega) (by rw [List.length_append, List.length_cons, List.length_nil]; omega)) ?_
            refine Rg.rd 11 rfl rfl (by kernel_rfl) trivial (rd_lda ag_83 rfl (Rdc.el0 (SlH.own (xs := V ++ [(⟨xp, xa, xc⟩ : PaV)]) (E := 83) (enc := paC) (sz := 3) (by repeat constructor)) hPx rfl rfl) rfl) ?_
            refine Rg.one (by kernel_rfl) (Stp.acK 12 rfl rfl (by kernel_rfl) trivial (ac_alloc zv_83 rfl) (by rintro _ _ ⟨qb, rfl, rfl⟩ w s; first | exact s.drop | exact s | exact Ent.sat (by repeat constructor) s) ?_)
            rintro _ _ ⟨qb, rfl, rfl⟩
            refine Rg.one (by kernel_rfl) (Stp.ac0 13 rfl rfl (by kernel_rfl) trivial (ac_st sz_83 rfl rfl (by repeat constructor) rfl rfl rfl rfl)  ?_)
            rintro _ _ rfl
            refine Rg.end (by kernel_rfl) ?_
            refine Gs.then_n ?_
            refine Gs.seq ?_
            refine Gs.seq ?_
            refine Gs.reg ?_
            refine Go.Sl.L.pu rfl rfl trivial (pu_fa fa_83_1 rfl) ?_
            refine Go.Sl.L.rd rfl rfl trivial (rd_ld na_3 rfl (Rdc.cl1 (by repeat constructor) rfl)) ?_
            refine Go.Sl.L.pu rfl rfl trivial (pu_lt rfl rfl) ?_
            refine Go.Sl.L.nil ?_
            refine Gs.then_n ?_
            refine Gs.cond rfl (fun hc2 => ?_) (fun hc2 => ?_)
            · skip
              have hz4 : xp.z < 400 := by have := of_decide_eq_true hc2; exact Int.ofNat_lt.1 this
              refine Gs.seq ?_
              refine Gs.seq ?_
              refine Gs.regD mixed (by kernel_rfl) ?_
              refine Rg.pu 0 rfl rfl (by kernel_rfl) trivial (pu_move rfl) ?_
              refine Rg.pu 1 rfl rfl (by kernel_rfl) trivial (by first | exact pu_nil rfl | exact pu_nilF rfl) ?_
              refine Rg.pu 2 rfl rfl (by kernel_rfl) trivial (pu_fa fa_65_0 rfl) ?_
              refine Rg.rd 3 rfl rfl (by kernel_rfl) trivial (rd_ld na_26 rfl (Rdc.cl1 (by repeat constructor) rfl)) ?_
              refine Rg.pu 4 rfl rfl (by kernel_rfl) trivial (pu_fa fa_83_0 rfl) ?_
              refine Rg.rd 5 rfl rfl (by kernel_rfl) trivial (rd_ld na_9 rfl (Rdc.cl1 (by repeat constructor) rfl)) ?_
              refine Rg.pu 6 rfl rfl (by kernel_rfl) trivial (pu_move rfl) ?_
              refine Rg.one (by kernel_rfl) (Stp.ac 7 rfl rfl (by kernel_rfl) trivial (as_call (append_spec (S := sl 5 1 byteC la lc (layE e.p)) d most D xp.n hn (by omega) Srd.own (by omega) (by omega)) (by repeat constructor) (by repeat constructor))  ?_)
              rintro _ _ ⟨_, ⟨rfl, rfl⟩, rfl⟩
              refine Rg.pu 8 rfl rfl (by kernel_rfl) trivial (pu_assign rfl) ?_
              refine Rg.end (by kernel_rfl) ?_
              refine Gs.then_n ?_
              refine Gs.seq ?_
              refine Gs.reg ?_
              refine Go.Sl.L.pu rfl rfl trivial (pu_move rfl) ?_
              refine Go.Sl.L.pu rfl rfl trivial (pu_ne rfl rfl) ?_
              refine Go.Sl.L.nil ?_
              refine Gs.then_n ?_
              refine Gs.cond rfl (fun hc3 => ?_) (fun hc3 => ?_)
              · skip
                have hne : appE most D xp.n (layE e.p) ≠ 0 := of_decide_eq_true hc3
                have hA : A = ⟨appE most D xp.n (layE e.p), D, ⟨made, U ++ [xp]⟩⟩ := by rw [hA0]; unfold writeL; rw [if_neg (by rw [hw]; decide), if_pos hz4, if_neg hne]
                have hAL : appL most D xp.n (layE e.p) = D := by unfold appL; rw [if_neg hne]
                rw [hAL]
                refine Gs.seq ?_
                refine Gs.reg ?_
                refine Go.Sl.L.pu rfl rfl trivial (pu_move rfl) ?_
                refine Go.Sl.L.pu rfl rfl trivial (pu_assign rfl) ?_
                refine Go.Sl.L.nil ?_
                refine Gs.then_n ?_
                refine Gs.ret ?_
                refine Gs.then_r ?_
                refine Gs.then_r ?_
                refine Gs.lgClose (b := b) (d := d) (n := n) (made := made) (ps := U ++ [xp]) (P := V ++ [(⟨xp, xa, xc⟩ : PaV)]) (a := some ⟨pb, po, none⟩) (c := pc) (by repeat constructor) rfl hP ?_
                exact Gs.fin1 Tryz.results17 rfl _ (⟨by rw [hA], by rw [hA]⟩) (by repeat constructor)
              · skip
                have heq : appE most D xp.n (layE e.p) = 0 := Decidable.not_not.1 (of_decide_eq_false hc3)
                have hA : A = ⟨0, appL most D xp.n (layE e.p), ⟨made, U ++ [noteP xp e.p (layE e.p).length]⟩⟩ := by rw [hA0]; unfold writeL; rw [if_neg (by rw [hw]; decide), if_pos hz4, if_pos heq]
                refine Gs.skip ?_
                refine Gs.then_n ?_
                refine Gs.seq ?_
                refine Gs.lgClose (b := b) (d := d) (n := n) (made := made) (ps := U ++ [xp]) (P := V ++ [(⟨xp, xa, xc⟩ : PaV)]) (a := some ⟨pb, po, none⟩) (c := pc) (by repeat constructor) rfl hP ?_
                refine Gs.reg ?_
                refine Go.Sl.L.pu rfl rfl trivial (pu_move rfl) ?_
                refine Go.Sl.L.rd rfl rfl trivial (rd_lda ag_43 rfl (Rdc.cl 8 (by repeat constructor) rfl) rfl) ?_
                refine Go.Sl.L.pu rfl rfl trivial (pu_move rfl) ?_
                refine Go.Sl.L.pu rfl rfl trivial (pu_len Tryz.underlying75 rfl) ?_
                refine Go.Sl.L.ac rfl rfl trivial (as_call (note_spec (d := d) (n := n) (made := made) (U := U) (p := xp) (e := e) (z := (layE e.p).length) (by omega) (by omega) (fun hk => by have := rec_in hq1 hk; rw [hp]; exact ⟨this.1, by have h2 : e.r.o < n := this.2; omega⟩)) (by repeat constructor) (by repeat constructor)) ?_
                rintro _ _ ⟨_, ⟨rfl, rfl⟩, rfl⟩
                refine Go.Sl.L.nil ?_
                refine Gs.then_n ?_
                refine Gs.seq ?_
                refine Gs.reg ?_
                refine Go.Sl.L.pu rfl rfl trivial (pu_assign rfl) ?_
                refine Go.Sl.L.nil ?_
                refine Gs.then_n ?_
                refine Gs.ret ?_
                refine Gs.then_r ?_
                exact Gs.fin1 Tryz.results17 rfl _ (⟨by rw [hA], by rw [hA]⟩) (by repeat constructor)
            · skip
              have hz4 : ¬ xp.z < 400 := fun h => by have := of_decide_eq_false hc2; exact this (Int.ofNat_lt.2 h)
              refine Gs.skip ?_
              refine Gs.then_n ?_
              refine Gs.seq ?_
              refine Gs.reg ?_
              refine Go.Sl.L.pu rfl rfl trivial (pu_move rfl) ?_
              refine Go.Sl.L.pu rfl rfl trivial (pu_move rfl) ?_
              refine Go.Sl.L.pu rfl rfl trivial (pu_build bd_43 (by repeat constructor) rfl) ?_
              refine Go.Sl.L.ac rfl rfl trivial (as_call (segLay_spec (e := ⟨1, ⟨va, v, vc⟩, ⟨wa, w, wc⟩, Rec.zero⟩) ⟨hV, hW⟩ hR hbm) (by repeat constructor) (by repeat constructor)) ?_
              rintro _ _ ⟨_, ⟨ka, kc, rfl, rfl⟩, rfl⟩
              refine Go.Sl.L.pu rfl rfl trivial (pu_move rfl) ?_
              refine Go.Sl.L.pu rfl rfl trivial (pu_extract rfl rfl) ?_
              refine Go.Sl.L.pu rfl rfl trivial (pu_extract rfl rfl) ?_
              refine Go.Sl.L.pu rfl rfl trivial (pu_assign rfl) ?_
              refine Go.Sl.L.pu rfl rfl trivial (pu_assign rfl) ?_
              refine Go.Sl.L.nil ?_
              refine Gs.then_n ?_
              refine Gs.seq ?_
              refine Gs.regD mixed (by kernel_rfl) ?_
              refine Rg.pu 0 rfl rfl (by kernel_rfl) trivial (pu_move rfl) ?_
              refine Rg.pu 1 rfl rfl (by kernel_rfl) trivial (by first | exact pu_nil rfl | exact pu_nilF rfl) ?_
              refine Rg.pu 2 rfl rfl (by kernel_rfl) trivial (pu_fa fa_65_0 rfl) ?_
              refine Rg.rd 3 rfl rfl (by kernel_rfl) trivial (rd_ld na_26 rfl (Rdc.cl1 (by repeat constructor) rfl)) ?_
              refine Rg.pu 4 rfl rfl (by kernel_rfl) trivial (pu_fa fa_83_0 rfl) ?_
              refine Rg.rd 5 rfl rfl (by kernel_rfl) trivial (rd_ld na_9 rfl (Rdc.cl1 (by repeat constructor) rfl)) ?_
              refine Rg.one (by kernel_rfl) (Stp.acK 6 rfl rfl (by kernel_rfl) trivial (ac_lit encC_9 ([xp.n]) et_66 ek_9 rfl (by repeat constructor) rfl rfl (by decide)) (by rintro _ _ ⟨a106, rfl, rfl⟩ w s; first | exact s.drop | exact s | exact Ent.sat (by repeat constructor) s) ?_)
              rintro _ _ ⟨a106, rfl, rfl⟩
              refine Rg.one (by kernel_rfl) (Stp.ac 7 rfl rfl (by kernel_rfl) trivial (as_call (sync_spec (S := sl 9 1 strC (some ⟨a106, 0, none⟩) 1 [xp.n]) d most D Srd.own (by simp)) (by repeat constructor) (by repeat constructor))  ?_)
              rintro _ _ ⟨_, ⟨rfl, rfl⟩, rfl⟩
              rw [hs, if_pos rfl]
              refine Rg.end (by kernel_rfl) ?_
              refine Gs.then_n ?_
              refine Gs.seq ?_
              refine Gs.lgClose (b := b) (d := d) (n := n) (made := made) (ps := U ++ [xp]) (P := V ++ [(⟨xp, xa, xc⟩ : PaV)]) (a := some ⟨pb, po, none⟩) (c := pc) (by repeat constructor) rfl hP ?_
              refine Gs.reg ?_
              refine Go.Sl.L.pu rfl rfl trivial (pu_move rfl) ?_
              refine Go.Sl.L.ac rfl rfl trivial (as_call (call_spec (d := d) (n := n) (made := made) (ps := U ++ [xp]) hm) (by repeat constructor) (by repeat constructor)) ?_
              rintro _ _ ⟨_, ⟨rfl, rfl⟩, rfl⟩
              refine Go.Sl.L.pu rfl rfl trivial (pu_assign rfl) ?_
              refine Go.Sl.L.nil ?_
              refine Gs.then_n ?_
              refine Gs.seq ?_
              refine Gs.seq ?_
              refine Gs.lgOpen (made := made + 1) (ps := U ++ [xp]) (b := b) (d := d) (n := n) (by repeat constructor) fun pa2 pc2 P2 hP2 => ?_
              refine Gs.takes (As := [sl 5 1 byteC ka kc (layE (baseE v w)), sl 5 1 byteC la lc (layE e.p)]) (by repeat constructor) (Gs.toTwo ?_)
              obtain ⟨D1, hD1⟩ : ∃ D1, D1 = syncL D [xp.n] := ⟨_, rfl⟩
              rw [← hD1]
              have hD1l : D1.length ≤ 900 := by rw [hD1]; simpa [syncL] using hD
              have hcs : ∀ q ∈ ([⟨ka, layE (baseE v w), kc⟩, ⟨la, layE e.p, lc⟩] : List (SlV UInt8)), Srd (two (sl 5 1 byteC ka kc (layE (baseE v w))) (sl 5 1 byteC la lc (layE e.p))) 1 byteC q.a q.xs := fun q hq => by
                simp only [List.mem_cons, List.not_mem_nil, or_false] at hq
                rcases hq with rfl | rfl
                · exact Srd.two1 Srd.own
                · exact Srd.two2 Srd.own
              have hfl : flat [⟨ka, layE (baseE v w), kc⟩, ⟨la, layE e.p, lc⟩] = layE (baseE v w) ++ layE e.p := by simp [flat]
              have hfl2 : (layE (baseE v w) ++ layE e.p).length ≤ 1000 := by rw [List.length_append]; omega
              have hfl3 : 0 < (layE (baseE v w) ++ layE e.p).length := by rw [List.length_append]; omega
              refine Gs.regD mixed (by kernel_rfl) ?_
              refine Rg.pu 0 rfl rfl (by kernel_rfl) trivial (pu_move rfl) ?_
              refine Rg.pu 1 rfl rfl (by kernel_rfl) trivial (by first | exact pu_nil rfl | exact pu_nilF rfl) ?_
              refine Rg.pu 2 rfl rfl (by kernel_rfl) trivial (pu_fa fa_65_0 rfl) ?_
              refine Rg.rd 3 rfl rfl (by kernel_rfl) trivial (rd_ld na_26 rfl (Rdc.cl1 (by repeat constructor) rfl)) ?_
              refine Rg.pu 4 rfl rfl (by kernel_rfl) trivial (pu_move rfl) ?_
              refine Rg.pu 5 rfl rfl (by kernel_rfl) trivial (pu_move rfl) ?_
              refine Rg.pu 6 rfl rfl (by kernel_rfl) trivial (pu_move rfl) ?_
              refine Rg.one (by kernel_rfl) (Stp.acK 7 rfl rfl (by kernel_rfl) trivial (ac_lit encC_75 ([⟨ka, layE (baseE v w), kc⟩, ⟨la, layE e.p, lc⟩]) et_115 ek_75 rfl (by repeat constructor) rfl rfl (by decide)) (by rintro _ _ ⟨a117, rfl, rfl⟩ w s; first | exact s.drop | exact s | exact Ent.sat (by repeat constructor) s) ?_)
              rintro _ _ ⟨a117, rfl, rfl⟩
              refine Rg.one (by kernel_rfl) (Stp.acR 8 [3] rfl rfl (by kernel_rfl) trivial (as_call (concat_spec (U := sl 75 1 slC (some ⟨a117, 0, none⟩) 2 [⟨ka, layE (baseE v w), kc⟩, ⟨la, layE e.p, lc⟩]) (S := two (sl 5 1 byteC ka kc (layE (baseE v w))) (sl 5 1 byteC la lc (layE e.p))) Srd.own hcs (by simp) (by rw [hfl]; omega) (by rw [hfl]; exact hfl3)) (by repeat constructor) (by repeat constructor)) (by rintro _ _ ⟨_, ⟨fa, fc, rfl, rfl⟩, rfl⟩; exact (Reads.cons rfl rfl rfl trivial rfl (rd_ld na_26 rfl (Rdc.cl1 (by repeat constructor) rfl)) Reads.nil)) ?_)
              rintro _ _ ⟨_, ⟨fa, fc, rfl, rfl⟩, rfl⟩
              rw [hfl]
              refine Rg.one (by kernel_rfl) (Stp.ac 9 rfl rfl (by kernel_rfl) trivial (as_call (append_spec (S := sl 5 1 byteC fa fc (layE (baseE v w) ++ layE e.p)) d most D1 (nameK (made + 1)) hnm.1 (by rw [name_size]; decide) Srd.own (by omega) (by omega)) (by repeat constructor) (by repeat constructor))  ?_)
              rintro _ _ ⟨_, ⟨rfl, rfl⟩, rfl⟩
              refine Rg.pu 10 rfl rfl (by kernel_rfl) trivial (pu_assign rfl) ?_
              refine Rg.end (by kernel_rfl) ?_
              refine Gs.then_n ?_
              refine Gs.seq ?_
              refine Gs.reg ?_
              refine Go.Sl.L.pu rfl rfl trivial (pu_move rfl) ?_
              refine Go.Sl.L.pu rfl rfl trivial (pu_ne rfl rfl) ?_
              refine Go.Sl.L.nil ?_
              refine Gs.then_n ?_
              refine Gs.cond rfl (fun hc4 => ?_) (fun hc4 => ?_)
              · skip
                have hne : appE most D1 (nameK (made + 1)) (layE (baseE v w) ++ layE e.p) ≠ 0 := of_decide_eq_true hc4
                have hA : A = ⟨appE most D1 (nameK (made + 1)) (layE (baseE v w) ++ layE e.p), D1, ⟨made + 1, U ++ [xp]⟩⟩ := by rw [hA0, hD1]; unfold writeL; rw [if_neg (by rw [hw]; decide), if_neg hz4, if_neg (by rw [← hD1]; exact hne)]
                have hAL : appL most D1 (nameK (made + 1)) (layE (baseE v w) ++ layE e.p) = D1 := by unfold appL; rw [if_neg hne]
                rw [hAL]
                refine Gs.seq ?_
                refine Gs.reg ?_
                refine Go.Sl.L.pu rfl rfl trivial (pu_move rfl) ?_
                refine Go.Sl.L.pu rfl rfl trivial (pu_assign rfl) ?_
                refine Go.Sl.L.nil ?_
                refine Gs.then_n ?_
                refine Gs.ret ?_
                refine Gs.then_r ?_
                refine Gs.lgClose (b := b) (d := d) (n := n) (made := made + 1) (ps := U ++ [xp]) (P := P2) (a := pa2) (c := pc2) (by repeat constructor) rfl hP2 ?_
                exact Gs.fin1 Tryz.results17 rfl _ (⟨by rw [hA], by rw [hA]⟩) (by repeat constructor)
              · skip
                have heq : appE most D1 (nameK (made + 1)) (layE (baseE v w) ++ layE e.p) = 0 := Decidable.not_not.1 (of_decide_eq_false hc4)
                have hA : A = ⟨0, appL most D1 (nameK (made + 1)) (layE (baseE v w) ++ layE e.p), ⟨made + 1, (U ++ [xp]) ++ [noteP ⟨nameK (made + 1), (layE (baseE v w)).length, zeros n⟩ e.p (layE e.p).length]⟩⟩ := by rw [hA0, hD1]; unfold writeL; rw [if_neg (by rw [hw]; decide), if_neg hz4, if_pos (by rw [← hD1]; exact heq)]
                refine Gs.skip ?_
                refine Gs.then_n ?_
                refine Gs.seq ?_
                refine Gs.lgClose (b := b) (d := d) (n := n) (made := made + 1) (ps := U ++ [xp]) (P := P2) (a := pa2) (c := pc2) (by repeat constructor) rfl hP2 ?_
                refine Gs.reg ?_
                refine Go.Sl.L.pu rfl rfl trivial (pu_move rfl) ?_
                refine Go.Sl.L.pu rfl rfl trivial (pu_move rfl) ?_
                refine Go.Sl.L.pu rfl rfl trivial (pu_move rfl) ?_
                refine Go.Sl.L.pu rfl rfl trivial (pu_len Tryz.underlying75 rfl) ?_
                refine Go.Sl.L.ac rfl rfl trivial (as_call (begin_spec (d := d) (made := made + 1) (ps := U ++ [xp]) (nm := nameK (made + 1)) (z := (layE (baseE v w)).length) h1 h8 (by rw [List.length_append, List.length_cons, List.length_nil]; omega)) (by repeat constructor) (by repeat constructor)) ?_
                rintro _ _ ⟨_, ⟨rfl, rfl⟩, rfl⟩
                refine Go.Sl.L.nil ?_
                refine Gs.then_n ?_
                refine Gs.seq ?_
                refine Gs.reg ?_
                refine Go.Sl.L.pu rfl rfl trivial (pu_move rfl) ?_
                refine Go.Sl.L.rd rfl rfl trivial (rd_lda ag_43 rfl (Rdc.cl 8 (by repeat constructor) rfl) rfl) ?_
                refine Go.Sl.L.pu rfl rfl trivial (pu_move rfl) ?_
                refine Go.Sl.L.pu rfl rfl trivial (pu_len Tryz.underlying75 rfl) ?_
                refine Go.Sl.L.ac rfl rfl trivial (as_call (note_spec (d := d) (n := n) (made := made + 1) (U := U ++ [xp]) (p := ⟨nameK (made + 1), (layE (baseE v w)).length, zeros n⟩) (e := e) (z := (layE e.p).length) (by dsimp only; omega) (by rw [List.length_append, List.length_cons, List.length_nil]; omega) (fun hk => by have := rec_in hq1 hk; refine ⟨this.1, ?_⟩; show e.r.o < ((zeros n).length : Int); unfold zeros; rw [List.length_replicate]; have h2 : e.r.o < n := this.2; omega)) (by repeat constructor) (by repeat constructor)) ?_
                rintro _ _ ⟨_, ⟨rfl, rfl⟩, rfl⟩
                refine Go.Sl.L.nil ?_
                refine Gs.then_n ?_
                refine Gs.seq ?_
                refine Gs.reg ?_
                refine Go.Sl.L.pu rfl rfl trivial (pu_assign rfl) ?_
                refine Go.Sl.L.nil ?_
                refine Gs.then_n ?_
                refine Gs.ret ?_
                exact Gs.fin1 Tryz.results17 rfl _ (⟨by rw [hA], by rw [hA]⟩) (by repeat constructor)
end Go.Proofs.YtjaafkakeccniaaGreatDoor
