/- Walk: LedgerCrash. Behind a crash and an opening, all that was synced is there, and of the rest a beginning. -/
import Derived.Test.YtjaafkakeccniaaGreatDoorLcr
namespace Go.Proofs.YtjaafkakeccniaaGreatDoor
open Go Go.Sl Go.Gv Go.Dv Go.Bst
set_option maxRecDepth 100000
set_option maxHeartbeats 1000000 in
theorem crash9_spec {U : HProp} (hT : RMs U) (sy cr : Int) {ea : Option Addr} {ec : Nat} {es : List EntV} {m : EntV} (hE : ERd U ea es) (hel : es.length ≤ maxLen) (hM : EVd U m) :
    Ct Tryz.prog 6 [.slice ea es.length ec, int sy, int cr, entV m] [U] (fun r hs => r = .bool true ∧ hs = [U]) := by
  refine Ct.intro Tryz.func6 rfl (by kernel_rfl) 171 Tryz.ntmps6 (Nat.le_of_ble_eq_true rfl) fun w0 R => ?_
  refine Gs.slAddr (xs := es) (hE.1.h (by repeat constructor)) fun eb eo hea => ?_
  refine Gs.seq ?_
  refine Gs.reg ?_
  refine Go.Sl.L.ac rfl rfl trivial (ac_box rfl rfl) ?_
  rintro _ _ ⟨mb, rfl, rfl⟩
  refine Go.Sl.L.pu rfl rfl trivial (pu_assign rfl) ?_
  refine Go.Sl.L.nil ?_
  refine Gs.then_n ?_
  refine Gs.seq ?_
  refine Gs.seq ?_
  refine Gs.reg ?_
  refine Go.Sl.L.pu rfl rfl trivial (pu_move rfl) ?_
  refine Go.Sl.L.ac rfl rfl trivial (as_call (great_spec hE.1 hel 30 (by decide)) (by repeat constructor) (by repeat constructor)) ?_
  rintro _ _ ⟨_, ⟨⟨gb, rfl, hgb⟩, rfl⟩, rfl⟩
  refine Go.Sl.L.puB rfl rfl trivial (pu_move rfl) (fun hg2 => ?_) (fun hg2 => ?_)
  · skip
    refine Go.Sl.L.off rfl rfl rfl rfl rfl rfl ?_
    refine Go.Sl.L.off rfl rfl rfl rfl rfl rfl ?_
    refine Go.Sl.L.off rfl rfl rfl rfl rfl rfl ?_
    refine Go.Sl.L.pu rfl rfl trivial (by first | exact pu_pick_t rfl rfl | exact pu_pick_f rfl rfl) ?_
    refine Go.Sl.L.nil ?_
    refine Gs.then_n ?_
    refine Gs.cond_t rfl ?_
    refine Gs.seq ?_
    refine Gs.reg ?_
    refine Go.Sl.L.ac rfl rfl trivial (as_call (awake9_spec hT) (by repeat constructor) (by repeat constructor)) ?_
    rintro _ _ ⟨_, ⟨rfl, rfl⟩, rfl⟩
    refine Go.Sl.L.pu rfl rfl trivial (pu_assign rfl) ?_
    refine Go.Sl.L.nil ?_
    refine Gs.then_n ?_
    refine Gs.ret ?_
    refine Gs.then_r ?_
    exact Gs.fin1 Tryz.results6 rfl _ (⟨rfl, rfl⟩) (by repeat constructor)
  · skip
    have hfew := hgb hg2
    have hel30 : es.length ≤ 30 := by have := hfew.1; omega
    refine Go.Sl.L.rd rfl rfl ⟨_, rfl, rfl⟩ (rd_lda ag_43 rfl (Rdc.cl 8 (by repeat constructor) rfl) rfl) ?_
    refine Go.Sl.L.ac rfl rfl ⟨_, rfl, rfl⟩ (ac_lit encC_43 ([m]) et_22 ek_43 rfl (by repeat constructor) rfl rfl (by decide)) ?_
    rintro _ _ ⟨a24, rfl, rfl⟩
    refine Go.Sl.L.ac rfl rfl ⟨_, rfl, rfl⟩ (as_call (great_spec (S := sl 43 8 entC (some ⟨a24, 0, none⟩) 1 [m]) (a := some ⟨a24, 0, none⟩) (c := 1) (es := [m]) Srd.own (by show 1 ≤ maxLen; decide) 1 (by decide)) (by repeat constructor) (by repeat constructor)) ?_
    rintro _ _ ⟨_, ⟨⟨gc, rfl, hgc⟩, rfl⟩, rfl⟩
    refine Go.Sl.L.pu rfl rfl trivial (by first | exact pu_pick_t rfl rfl | exact pu_pick_f rfl rfl) ?_
    refine Go.Sl.L.nil ?_
    refine Gs.then_n ?_
    refine Gs.cond rfl (fun hc0 => ?_) (fun hc0 => ?_)
    · skip
      refine Gs.seq ?_
      refine Gs.reg ?_
      refine Go.Sl.L.ac rfl rfl trivial (as_call (awake9_spec hT) (by repeat constructor) (by repeat constructor)) ?_
      rintro _ _ ⟨_, ⟨rfl, rfl⟩, rfl⟩
      refine Go.Sl.L.pu rfl rfl trivial (pu_assign rfl) ?_
      refine Go.Sl.L.nil ?_
      refine Gs.then_n ?_
      refine Gs.ret ?_
      refine Gs.then_r ?_
      exact Gs.fin1 Tryz.results6 rfl _ (⟨rfl, rfl⟩) (by repeat constructor)
    · skip
      refine Gs.skip ?_
      refine Gs.then_n ?_
      refine Gs.seq ?_
      refine Gs.reg ?_
      refine Go.Sl.L.ac rfl rfl trivial (as_call (drvNew_ok 60000 (by decide) (by decide)) (by repeat constructor) (by repeat constructor)) ?_
      rintro _ _ ⟨_, ⟨d, rfl, rfl⟩, rfl⟩
      refine Go.Sl.L.pu rfl rfl trivial (pu_assign rfl) ?_
      refine Go.Sl.L.nil ?_
      refine Gs.then_n ?_
      refine Gs.seq ?_
      refine Gs.reg ?_
      refine Go.Sl.L.ac rfl rfl trivial (ac_lit encC_3 ([(0 : Int), 0, 0]) et_23 ek_3 rfl (by repeat constructor) rfl rfl (by decide)) ?_
      rintro _ _ ⟨a29, rfl, rfl⟩
      refine Go.Sl.L.pu rfl rfl trivial (pu_assign rfl) ?_
      refine Go.Sl.L.nil ?_
      refine Gs.then_n ?_
      refine Gs.seq ?_
      refine Gs.reg ?_
      refine Go.Sl.L.pu rfl rfl trivial (pu_move rfl) ?_
      refine Go.Sl.L.ac rfl rfl trivial (as_call (openNew_spec (d := d) (n := 3) (most := 60000) hT (by decide) (by decide) (by decide)) (by repeat constructor) (by repeat constructor)) ?_
      rintro _ _ ⟨_, ⟨g, oa, oc, os, rfl, hos, rfl⟩, rfl⟩
      refine Go.Sl.L.pu rfl rfl trivial (pu_move rfl) ?_
      refine Go.Sl.L.pu rfl rfl trivial (pu_extract rfl rfl) ?_
      refine Go.Sl.L.pu rfl rfl trivial (pu_extract rfl rfl) ?_
      refine Go.Sl.L.pu rfl rfl trivial (pu_extract rfl rfl) ?_
      refine Go.Sl.L.pu rfl rfl trivial (pu_assign rfl) ?_
      refine Go.Sl.L.pu rfl rfl trivial (pu_assign rfl) ?_
      refine Go.Sl.L.pu rfl rfl trivial (pu_assign rfl) ?_
      refine Go.Sl.L.nil ?_
      refine Gs.then_n ?_
      refine Gs.seq ?_
      refine Gs.seq ?_
      refine Gs.reg ?_
      refine Go.Sl.L.pu rfl rfl trivial (pu_move rfl) ?_
      refine Go.Sl.L.pu rfl rfl trivial (pu_eqN Tryz.underlying28 rfl rfl) ?_
      refine Go.Sl.L.puBf rfl rfl trivial (pu_move rfl) rfl ?_
      refine Go.Sl.L.pu rfl rfl ⟨_, rfl, rfl⟩ (pu_move rfl) ?_
      refine Go.Sl.L.pu rfl rfl ⟨_, rfl, rfl⟩ (pu_ne rfl rfl) ?_
      refine Go.Sl.L.pu rfl rfl trivial (by first | exact pu_pick_t rfl rfl | exact pu_pick_f rfl rfl) ?_
      refine Go.Sl.L.nil ?_
      refine Gs.then_n ?_
      refine Gs.cond_ff rfl rfl ?_
      refine Gs.skip ?_
      refine Gs.then_n ?_
      refine Gs.seq ?_
      have hst0 : St 3 1 [newSeg 3 1] := newSeg_st (by decide) (by decide) (by decide)
      have hu0 : usedS [newSeg 3 1] ≤ 46 := by
        have e : layS [zeroB 3] = layE (zeroB 3) := by simp [layS]
        show (layS [zeroB 3]).length + 0 ≤ 46
        rw [e]; exact zeroB_len (by decide) (by decide)
      refine Gs.reg ?_
      refine Go.Sl.L.pu rfl rfl trivial (pu_assign rfl) ?_
      refine Go.Sl.L.nil ?_
      refine Gs.slNil 43 8 entC ?_
      refine Gs.then_n ?_
      refine Gs.seq ?_
      refine Gs.reg ?_
      refine Go.Sl.L.pu rfl rfl trivial (pu_assign rfl) ?_
      refine Go.Sl.L.nil ?_
      refine Gs.then_n ?_
      refine Gs.seq ?_
      refine Gs.seq ?_
      refine Gs.reg ?_
      refine Go.Sl.L.pu rfl rfl trivial (pu_assign rfl) ?_
      refine Go.Sl.L.nil ?_
      refine Gs.then_n ?_
      refine Gs.block ?_
      refine Gs.loop1 (fun s : Nat × Nat × List Seg × List EntV × Option Addr × Nat × Nat => St 3 s.2.1 s.2.2.1 ∧ Fit s.2.2.1 s.2.2.2.2.2.2 ∧ s.2.1 ≤ s.1 + 1 ∧ s.2.2.1.length ≤ s.1 + 1 ∧ usedS s.2.2.1 ≤ 46 + 190 * s.1 ∧ plainV s.2.2.2.1 = plainE (flatS s.2.2.1) ∧ s.1 ≤ es.length ∧ (∀ e ∈ s.2.2.2.1, e ∈ es) ∧ s.2.2.2.1.length ≤ s.1) (fun s => [(0, .slice ea es.length ec), (1, int sy), (2, int cr), (7, ptr mb), (9, ptr d), (10, .slice (some ⟨a29, 0, none⟩) 3 3), (11, ptr g), (14, .slice s.2.2.2.2.1 s.2.2.2.1.length s.2.2.2.2.2.1), (15, int s.2.2.2.2.2.2), (16, int s.1)]) (fun s => [cl mb 43 (entC m), lgr g d 3 ⟨s.2.1, s.2.2.1.map (segP 3)⟩, drv d 60000 (s.2.2.1.map segF), U, sl 3 1 intC (some ⟨a29, 0, none⟩) 3 [0, 0, 0], sl 43 8 entC s.2.2.2.2.1 s.2.2.2.2.2.1 s.2.2.2.1] ++ R) (fun s => es.length - s.1) (0, 1, [newSeg 3 1], [], none, 0, 0) (⟨hst0, fit_new 3 1, Nat.le_refl _, Nat.le_refl _, hu0, rfl, Nat.zero_le _, (fun e he => by cases he), Nat.le_refl _⟩) (by repeat constructor) (by repeat constructor) (fun s hs => ?_)
      obtain ⟨i, made, xs, want, ta, tc, firm⟩ := s
      obtain ⟨hst, hF, hmade, hlen, hus, hpl, hi, hwm, hwl2⟩ := hs
      dsimp only at hst hF hmade hlen hus hpl hi hwm hwl2 ⊢
      refine Gs.seq ?_
      refine Gs.seq ?_
      refine Gs.reg ?_
      refine Go.Sl.L.pu rfl rfl trivial (pu_move rfl) ?_
      refine Go.Sl.L.pu rfl rfl trivial (pu_move rfl) ?_
      refine Go.Sl.L.pu rfl rfl trivial (pu_len Tryz.underlying22 rfl) ?_
      refine Go.Sl.L.pu rfl rfl trivial (pu_lt rfl rfl) ?_
      refine Go.Sl.L.nil ?_
      refine Gs.then_n ?_
      refine Gs.cond rfl (fun hc2 => ?_) (fun hc2 => ?_)
      · skip
        have hlt : i < es.length := by have := of_decide_eq_true hc2; omega
        obtain ⟨e, he⟩ : ∃ x, es[i]? = some x := ⟨es[i], by simp [hlt]⟩
        obtain rfl := hea (by rintro rfl; simp at hlt)
        have hem := List.mem_of_getElem? he
        have hev := hE.2 e hem
        obtain ⟨sk, hsk⟩ : ∃ z, z = (!mayE e.p 3 || decide (e.kind = 1)) := ⟨_, rfl⟩
        refine Gs.skip ?_
        refine Gs.then_n ?_
        refine Gs.seq ?_
        refine Gs.block ?_
        refine Gs.seq ?_
        refine Gs.seq ?_
        refine Gs.cutS (σ := Unit) (fun _ => [(0, .slice (some ⟨eb, eo, none⟩) es.length ec), (1, int sy), (2, int cr), (7, ptr mb), (9, ptr d), (10, .slice (some ⟨a29, 0, none⟩) 3 3), (11, ptr g), (14, .slice ta want.length tc), (15, int firm), (16, int i), (61, .bool sk)]) (fun _ => [cl mb 43 (entC m), lgr g d 3 ⟨made, xs.map (segP 3)⟩, drv d 60000 (xs.map segF), U, sl 3 1 intC (some ⟨a29, 0, none⟩) 3 [0, 0, 0], sl 43 8 entC ta tc want] ++ R) ?_ ?_
        · skip
          refine Gs.reg ?_
          refine Go.Sl.L.pu rfl rfl trivial (pu_move rfl) ?_
          refine Go.Sl.L.pu rfl rfl trivial (pu_move rfl) ?_
          refine Go.Sl.L.pu rfl rfl trivial (pu_ia se_22 rfl rfl (by omega) (by omega)) ?_
          refine Go.Sl.L.rd rfl rfl trivial (rd_lda ag_43 rfl (Rdc.el0 (hE.1.h (by repeat constructor)) he rfl rfl) rfl) ?_
          refine Go.Sl.L.ac rfl rfl trivial (as_call (segMay8_spec hev hT 3) (by repeat constructor) (by repeat constructor)) ?_
          rintro _ _ ⟨_, ⟨rfl, rfl⟩, rfl⟩
          refine Go.Sl.L.pu rfl rfl trivial (pu_not rfl) ?_
          refine Go.Sl.L.puB rfl rfl trivial (pu_move rfl) (fun hg6 => ?_) (fun hg6 => ?_)
          · skip
            obtain rfl : sk = true := by rw [hsk, hg6]; rfl
            refine Go.Sl.L.off rfl rfl rfl rfl rfl rfl ?_
            refine Go.Sl.L.off rfl rfl rfl rfl rfl rfl ?_
            refine Go.Sl.L.off rfl rfl rfl rfl rfl rfl ?_
            refine Go.Sl.L.off rfl rfl rfl rfl rfl rfl ?_
            refine Go.Sl.L.off rfl rfl rfl rfl rfl rfl ?_
            refine Go.Sl.L.off rfl rfl rfl rfl rfl rfl ?_
            refine Go.Sl.L.pu rfl rfl trivial (by first | exact pu_pick_t rfl rfl | exact pu_pick_f rfl rfl) ?_
            refine Go.Sl.L.nil ?_
            refine Gs.then_n ?_
            refine Gs.cutEndS () ?_ ?_
            · repeat constructor
            · repeat constructor
          · skip
            obtain rfl : sk = decide (e.kind = 1) := by rw [hsk, hg6]; rfl
            refine Go.Sl.L.pu rfl rfl ⟨_, rfl, rfl⟩ (pu_move rfl) ?_
            refine Go.Sl.L.pu rfl rfl ⟨_, rfl, rfl⟩ (pu_move rfl) ?_
            refine Go.Sl.L.pu rfl rfl ⟨_, rfl, rfl⟩ (pu_ia se_22 rfl rfl (by omega) (by omega)) ?_
            refine Go.Sl.L.pu rfl rfl ⟨_, rfl, rfl⟩ (pu_fa fa_43_0 rfl) ?_
            refine Go.Sl.L.rd rfl rfl ⟨_, rfl, rfl⟩ (rd_ld na_3 rfl (Rdc.elp 1 (hE.1.h (by repeat constructor)) he rfl rfl)) ?_
            refine Go.Sl.L.pu rfl rfl ⟨_, rfl, rfl⟩ (pu_eq rfl rfl) ?_
            refine Go.Sl.L.pu rfl rfl trivial (by first | exact pu_pick_t rfl rfl | exact pu_pick_f rfl rfl) ?_
            refine Go.Sl.L.nil ?_
            refine Gs.then_n ?_
            refine Gs.cutEndS () ?_ ?_
            · repeat constructor
            · repeat constructor
        · skip
          rintro _
          refine Gs.cond rfl (fun hc3 => ?_) (fun hc3 => ?_)
          · skip
            refine Gs.exit ?_
            refine Gs.then_x ?_
            refine Gs.blk_hit ?_
            refine Gs.then_n ?_
            refine Gs.reg ?_
            refine Go.Sl.L.pu rfl rfl trivial (pu_move rfl) ?_
            refine Go.Sl.L.pu rfl rfl trivial (by first | exact pu_addI rfl rfl rfl (by omega) (by omega) | exact pu_add rfl rfl) ?_
            refine Go.Sl.L.pu rfl rfl trivial (pu_assign rfl) ?_
            refine Go.Sl.L.nil ?_
            refine Gs.then_n ?_
            first
              | (have := hyes; exact Gs.again1 (i + 1, o.made, o.xs.map syn, want ++ [e], a77, c77, (want ++ [e]).length) ⟨syn_st hst', hFs, by show o.made ≤ i + 1 + 1; omega, by show (o.xs.map syn).length ≤ i + 1 + 1; rw [List.length_map]; omega, by show usedS (o.xs.map syn) ≤ 46 + 190 * (i + 1); rw [syn_used]; omega, by show plainV (want ++ [e]) = plainE (flatS (o.xs.map syn)); rw [syn_flat, hw2], hlt, hwm2, hwl3⟩ (by show es.length - (i + 1) < es.length - i; omega) (by repeat constructor) (by repeat constructor))
              | (have := hnos; exact Gs.again1 (i + 1, o.made, o.xs, want ++ [e], a77, c77, firm) ⟨hst', hF', by show o.made ≤ i + 1 + 1; omega, by show o.xs.length ≤ i + 1 + 1; omega, by show usedS o.xs ≤ 46 + 190 * (i + 1); omega, hw2, hlt, hwm2, hwl3⟩ (by show es.length - (i + 1) < es.length - i; omega) (by repeat constructor) (by repeat constructor))
              | exact Gs.again1 (i + 1, made, xs, want, ta, tc, firm) ⟨hst, hF, by show made ≤ i + 1 + 1; omega, by show xs.length ≤ i + 1 + 1; omega, by show usedS xs ≤ 46 + 190 * (i + 1); omega, hpl, hlt, hwm, by show want.length ≤ i + 1; omega⟩ (by show es.length - (i + 1) < es.length - i; omega) (by repeat constructor) (by repeat constructor)
          · skip
            have hmW : mayW 3 e.p [0, 0, 0] [0, 0, 0] = true := by
              rw [hc3] at hsk
              have h1 := Bool.or_eq_false_iff.1 hsk.symm
              have h2 : mayE e.p 3 = true := by simpa using h1.1
              rw [mayW_eq, h2, show decide (e.p.kind = 1) = false from h1.2]
              decide
            have hst' := wS_st (most := 60000) (e := e.p) (v := [0, 0, 0]) (w := [0, 0, 0]) hst
            have hmd' := wS_made (most := 60000) (e := e.p) (v := [0, 0, 0]) (w := [0, 0, 0]) hst
            have hln' := wS_len (most := 60000) (e := e.p) (v := [0, 0, 0]) (w := [0, 0, 0]) hst
            have hus' := wS_used (most := 60000) (e := e.p) (v := [0, 0, 0]) (w := [0, 0, 0]) hst
            have hfp' := wS_flat (most := 60000) (e := e.p) (v := [0, 0, 0]) (w := [0, 0, 0]) hst
            have hok' := wS_ok (most := 60000) hst hmW (by omega)
            have hF' := fit_wS (most := 60000) (n := 3) (made := made) (e := e.p) (v := [0, 0, 0]) (w := [0, 0, 0]) hF
            rw [if_pos hok'] at hfp'
            obtain ⟨o, ho⟩ : ∃ o, o = wS 60000 3 made xs e.p [0, 0, 0] [0, 0, 0] := ⟨_, rfl⟩
            rw [← ho] at hst' hmd' hln' hus' hfp' hok' hF'
            have hw2 : plainV (want ++ [e]) = plainE (flatS o.xs) := by rw [hfp', ← hpl]; simp [plainV]
            have hwm2 : ∀ x ∈ want ++ [e], x ∈ es := fun x hx => by
              rcases List.mem_append.1 hx with h | h
              · exact hwm x h
              · simp at h; subst h; exact hem
            have hwl3 : (want ++ [e]).length ≤ i + 1 := by rw [List.length_append]; simp; exact hwl2
            have hFs : Fit (o.xs.map syn) (want ++ [e]).length := by
              have := fit_syn hst'
              rw [← hw2, List.length_map] at this
              exact this
            refine Gs.skip ?_
            refine Gs.then_n ?_
            refine Gs.seq ?_
            refine Gs.seq ?_
            refine Gs.reg ?_
            refine Go.Sl.L.pu rfl rfl trivial (pu_move rfl) ?_
            refine Go.Sl.L.pu rfl rfl trivial (pu_move rfl) ?_
            refine Go.Sl.L.pu rfl rfl trivial (pu_move rfl) ?_
            refine Go.Sl.L.pu rfl rfl trivial (pu_ia se_22 rfl rfl (by omega) (by omega)) ?_
            refine Go.Sl.L.rd rfl rfl trivial (rd_lda ag_43 rfl (Rdc.el0 (hE.1.h (by repeat constructor)) he rfl rfl) rfl) ?_
            refine Go.Sl.L.pu rfl rfl trivial (pu_move rfl) ?_
            refine Go.Sl.L.pu rfl rfl trivial (pu_move rfl) ?_
            refine Go.Sl.L.ac rfl rfl trivial (as_call (writeG_spec (b := g) (d := d) (n := 3) (most := 60000) (made := made) (xs := xs) (L := [sl 3 1 intC (some ⟨a29, 0, none⟩) 3 [0, 0, 0], U]) (e := e) (v := [0, 0, 0]) (w := [0, 0, 0]) (hev.bigs (by simp)) (Srd.bigs (A := sl 3 1 intC (some ⟨a29, 0, none⟩) 3 [0, 0, 0]) Srd.own (by simp)) (Srd.bigs (A := sl 3 1 intC (some ⟨a29, 0, none⟩) 3 [0, 0, 0]) Srd.own (by simp)) (hT.inn (Inn.mem (by simp))) (by decide) (by decide) hst (by omega) (by omega) (by omega)) (by repeat constructor) (by repeat constructor)) ?_
            rintro _ _ ⟨_, ⟨rfl, rfl⟩, rfl⟩
            rw [← ho]
            refine Go.Sl.L.pu rfl rfl trivial (pu_ne rfl rfl) ?_
            refine Go.Sl.L.nil ?_
            refine Gs.then_n ?_
            refine Gs.cond_ff rfl (decide_eq_false (fun h => h hok')) ?_
            refine Gs.skip ?_
            refine Gs.then_n ?_
            refine Gs.seq ?_
            refine Gs.reg ?_
            refine Go.Sl.L.pu rfl rfl trivial (pu_move rfl) ?_
            refine Go.Sl.L.pu rfl rfl trivial (pu_move rfl) ?_
            refine Go.Sl.L.pu rfl rfl trivial (pu_move rfl) ?_
            refine Go.Sl.L.pu rfl rfl trivial (pu_ia se_22 rfl rfl (by omega) (by omega)) ?_
            refine Go.Sl.L.rd rfl rfl trivial (rd_lda ag_43 rfl (Rdc.el0 (hE.1.h (by repeat constructor)) he rfl rfl) rfl) ?_
            refine Go.Sl.L.ac rfl rfl trivial (ac_lit encC_43 ([e]) et_22 ek_43 rfl (by repeat constructor) rfl rfl (by decide)) ?_
            rintro _ _ ⟨a76, rfl, rfl⟩
            refine Go.Sl.L.ac rfl rfl trivial (ac_append (xs := want) (ys := [e]) et_22 ek_43 rfl rfl (by repeat constructor) (SrcH.sl Tryz.underlying22 ek_43 (SlH.own (by repeat constructor))) (by first | omega | (simp; omega)) (by first | omega | (simp; omega))) ?_
            rintro _ _ ⟨a77, c77, rfl, rfl⟩
            refine Go.Sl.L.pu rfl rfl trivial (pu_assign rfl) ?_
            refine Go.Sl.L.nil ?_
            refine Gs.then_n ?_
            refine Gs.seq ?_
            refine Gs.reg ?_
            refine Go.Sl.L.pu rfl rfl trivial (pu_move rfl) ?_
            refine Go.Sl.L.pu rfl rfl trivial (pu_move rfl) ?_
            refine Go.Sl.L.pu rfl rfl trivial (pu_rem rfl rfl (by decide)) ?_
            refine Go.Sl.L.pu rfl rfl trivial (pu_shr rfl rfl (Int.tmod_nonneg _ (by omega))) ?_
            refine Go.Sl.L.pu rfl rfl trivial (pu_and rfl rfl) ?_
            refine Go.Sl.L.pu rfl rfl trivial (pu_eq rfl rfl) ?_
            refine Go.Sl.L.nil ?_
            refine Gs.then_n ?_
            refine Gs.cond rfl (fun hc5 => ?_) (fun hc5 => ?_)
            · skip
              have hyes := hc5
              refine Gs.seq ?_
              refine Gs.seq ?_
              refine Gs.reg ?_
              refine Go.Sl.L.pu rfl rfl trivial (pu_move rfl) ?_
              refine Go.Sl.L.ac rfl rfl trivial (as_call (syncSt_spec (b := g) (d := d) (n := 3) (most := 60000) (made := o.made) (xs := o.xs) (by omega)) (by repeat constructor) (by repeat constructor)) ?_
              rintro _ _ ⟨_, ⟨rfl, rfl⟩, rfl⟩
              refine Go.Sl.L.pu rfl rfl trivial (pu_ne rfl rfl) ?_
              refine Go.Sl.L.nil ?_
              refine Gs.then_n ?_
              refine Gs.cond_ff rfl rfl ?_
              refine Gs.skip ?_
              refine Gs.then_n ?_
              rw [← syn_segP 3 o.xs]
              refine Gs.reg ?_
              refine Go.Sl.L.pu rfl rfl trivial (pu_move rfl) ?_
              refine Go.Sl.L.pu rfl rfl trivial (pu_len Tryz.underlying22 rfl) ?_
              refine Go.Sl.L.pu rfl rfl trivial (pu_assign rfl) ?_
              refine Go.Sl.L.nil ?_
              refine Gs.blk_n ?_
              refine Gs.then_n ?_
              refine Gs.reg ?_
              refine Go.Sl.L.pu rfl rfl trivial (pu_move rfl) ?_
              refine Go.Sl.L.pu rfl rfl trivial (by first | exact pu_addI rfl rfl rfl (by omega) (by omega) | exact pu_add rfl rfl) ?_
              refine Go.Sl.L.pu rfl rfl trivial (pu_assign rfl) ?_
              refine Go.Sl.L.nil ?_
              refine Gs.then_n ?_
              first
                | (have := hyes; exact Gs.again1 (i + 1, o.made, o.xs.map syn, want ++ [e], a77, c77, (want ++ [e]).length) ⟨syn_st hst', hFs, by show o.made ≤ i + 1 + 1; omega, by show (o.xs.map syn).length ≤ i + 1 + 1; rw [List.length_map]; omega, by show usedS (o.xs.map syn) ≤ 46 + 190 * (i + 1); rw [syn_used]; omega, by show plainV (want ++ [e]) = plainE (flatS (o.xs.map syn)); rw [syn_flat, hw2], hlt, hwm2, hwl3⟩ (by show es.length - (i + 1) < es.length - i; omega) (by repeat constructor) (by repeat constructor))
                | (have := hnos; exact Gs.again1 (i + 1, o.made, o.xs, want ++ [e], a77, c77, firm) ⟨hst', hF', by show o.made ≤ i + 1 + 1; omega, by show o.xs.length ≤ i + 1 + 1; omega, by show usedS o.xs ≤ 46 + 190 * (i + 1); omega, hw2, hlt, hwm2, hwl3⟩ (by show es.length - (i + 1) < es.length - i; omega) (by repeat constructor) (by repeat constructor))
                | exact Gs.again1 (i + 1, made, xs, want, ta, tc, firm) ⟨hst, hF, by show made ≤ i + 1 + 1; omega, by show xs.length ≤ i + 1 + 1; omega, by show usedS xs ≤ 46 + 190 * (i + 1); omega, hpl, hlt, hwm, by show want.length ≤ i + 1; omega⟩ (by show es.length - (i + 1) < es.length - i; omega) (by repeat constructor) (by repeat constructor)
            · skip
              have hnos := hc5
              refine Gs.skip ?_
              refine Gs.blk_n ?_
              refine Gs.then_n ?_
              refine Gs.reg ?_
              refine Go.Sl.L.pu rfl rfl trivial (pu_move rfl) ?_
              refine Go.Sl.L.pu rfl rfl trivial (by first | exact pu_addI rfl rfl rfl (by omega) (by omega) | exact pu_add rfl rfl) ?_
              refine Go.Sl.L.pu rfl rfl trivial (pu_assign rfl) ?_
              refine Go.Sl.L.nil ?_
              refine Gs.then_n ?_
              first
                | (have := hyes; exact Gs.again1 (i + 1, o.made, o.xs.map syn, want ++ [e], a77, c77, (want ++ [e]).length) ⟨syn_st hst', hFs, by show o.made ≤ i + 1 + 1; omega, by show (o.xs.map syn).length ≤ i + 1 + 1; rw [List.length_map]; omega, by show usedS (o.xs.map syn) ≤ 46 + 190 * (i + 1); rw [syn_used]; omega, by show plainV (want ++ [e]) = plainE (flatS (o.xs.map syn)); rw [syn_flat, hw2], hlt, hwm2, hwl3⟩ (by show es.length - (i + 1) < es.length - i; omega) (by repeat constructor) (by repeat constructor))
                | (have := hnos; exact Gs.again1 (i + 1, o.made, o.xs, want ++ [e], a77, c77, firm) ⟨hst', hF', by show o.made ≤ i + 1 + 1; omega, by show o.xs.length ≤ i + 1 + 1; omega, by show usedS o.xs ≤ 46 + 190 * (i + 1); omega, hw2, hlt, hwm2, hwl3⟩ (by show es.length - (i + 1) < es.length - i; omega) (by repeat constructor) (by repeat constructor))
                | exact Gs.again1 (i + 1, made, xs, want, ta, tc, firm) ⟨hst, hF, by show made ≤ i + 1 + 1; omega, by show xs.length ≤ i + 1 + 1; omega, by show usedS xs ≤ 46 + 190 * (i + 1); omega, hpl, hlt, hwm, by show want.length ≤ i + 1; omega⟩ (by show es.length - (i + 1) < es.length - i; omega) (by repeat constructor) (by repeat constructor)
      · skip
        have hge : i = es.length := by have := of_decide_eq_false hc2; omega
        refine Gs.exit ?_
        refine Gs.then_x ?_
        refine Gs.then_x ?_
        refine Gs.blk_hit ?_
        refine Gs.then_n ?_
        refine Gs.seq ?_
        have hlu := loose_used xs
        obtain ⟨hz0, hz1⟩ := lowZ_in (a := cr) (b := ((looseS xs + 2 : Nat) : Int)) (by omega) (by omega)
        obtain ⟨st, hstz⟩ : ∃ z, z = lowZ cr ((looseS xs + 2 : Nat) : Int) := ⟨_, rfl⟩
        rw [← hstz] at hz0 hz1
        obtain ⟨cs, hce, hcs, hck, hcl, hcr⟩ := fit_crash (by decide) (by decide) hst (by omega) hF st
        refine Gs.reg ?_
        refine Go.Sl.L.pu rfl rfl trivial (pu_move rfl) ?_
        refine Go.Sl.L.pu rfl rfl trivial (pu_move rfl) ?_
        refine Go.Sl.L.pu rfl rfl trivial (pu_move rfl) ?_
        refine Go.Sl.L.ac rfl rfl trivial (as_call (looseSt_spec (d := d) (most := 60000) (xs := xs) (by omega)) (by repeat constructor) (by repeat constructor)) ?_
        rintro _ _ ⟨_, ⟨rfl, rfl⟩, rfl⟩
        refine Go.Sl.L.pu rfl rfl trivial (pu_addI (z := ((looseS xs + 2 : Nat) : Int)) rfl rfl (by omega) (by omega) (by omega)) ?_
        refine Go.Sl.L.ac rfl rfl trivial (as_call (low_spec cr ((looseS xs + 2 : Nat) : Int) (by omega) (by omega)) (by repeat constructor) (by repeat constructor)) ?_
        rintro _ _ ⟨_, ⟨rfl, rfl⟩, rfl⟩
        rw [← hstz]
        refine Go.Sl.L.ac rfl rfl trivial (as_call (crash_spec d 60000 (xs.map segF) st (by rw [List.length_map]; omega) (by omega) (by omega)) (by repeat constructor) (by repeat constructor)) ?_
        rintro _ _ ⟨_, ⟨rfl, rfl⟩, rfl⟩
        rw [hce]
        refine Go.Sl.L.nil ?_
        refine Gs.then_n ?_
        refine Gs.seq ?_
        refine Gs.reg ?_
        refine Go.Sl.L.pu rfl rfl trivial (pu_move rfl) ?_
        refine Go.Sl.L.ac rfl rfl trivial (as_call (openCs_spec (d := d) (n := 3) (most := 60000) (xs := cs) hT (by decide) (by decide) hcs (by omega) hck (fun _ => by decide)) (by repeat constructor) (by repeat constructor)) ?_
        rintro _ _ ⟨_, ⟨g2, la, lc, ls, m2, ys, rfl, ⟨hst2, hrel, hls⟩, rfl⟩, rfl⟩
        refine Go.Sl.L.pu rfl rfl trivial (pu_move rfl) ?_
        refine Go.Sl.L.pu rfl rfl trivial (pu_extract rfl rfl) ?_
        refine Go.Sl.L.pu rfl rfl trivial (pu_extract rfl rfl) ?_
        refine Go.Sl.L.pu rfl rfl trivial (pu_extract rfl rfl) ?_
        refine Go.Sl.L.pu rfl rfl trivial (pu_assign rfl) ?_
        refine Go.Sl.L.pu rfl rfl trivial (pu_assign rfl) ?_
        refine Go.Sl.L.pu rfl rfl trivial (pu_assign rfl) ?_
        refine Go.Sl.L.nil ?_
        obtain ⟨hpre, hfirm, hm2, hyl, hyu⟩ := hcr m2 ys hrel
        have hlvec := seg_vecs hst2.inv.good hls
        have hll := seg_lens hst2.inv.good hls
        have hpl2 : (plainE (flatS ys)).length ≤ (plainE (flatS xs)).length := hpre.length_le
        have hpl3 : want.length = (plainE (flatS xs)).length := by have := congrArg List.length hpl; rwa [List.length_map] at this
        have hleft : plainV (filterV ls) = plainE (flatS ys) := by rw [filterV_plain, hls]
        have hlen2 : (filterV ls).length = (plainE (flatS ys)).length := by have := congrArg List.length hleft; rwa [List.length_map] at this
        have hwt : plainV (filterV ls) = plainV (want.take (filterV ls).length) := by rw [hlen2, take_plain hpl hpre, hleft]
        have htl : (want.take (filterV ls).length).length = (filterV ls).length := by rw [List.length_take]; omega
        refine Gs.then_n ?_
        refine Gs.seq ?_
        refine Gs.seq ?_
        refine Gs.reg ?_
        refine Go.Sl.L.pu rfl rfl trivial (pu_move rfl) ?_
        refine Go.Sl.L.pu rfl rfl trivial (pu_eqN Tryz.underlying28 rfl rfl) ?_
        refine Go.Sl.L.puBf rfl rfl trivial (pu_move rfl) rfl ?_
        refine Go.Sl.L.pu rfl rfl ⟨_, rfl, rfl⟩ (pu_move rfl) ?_
        refine Go.Sl.L.pu rfl rfl ⟨_, rfl, rfl⟩ (pu_ne rfl rfl) ?_
        refine Go.Sl.L.pu rfl rfl trivial (by first | exact pu_pick_t rfl rfl | exact pu_pick_f rfl rfl) ?_
        refine Go.Sl.L.nil ?_
        refine Gs.then_n ?_
        refine Gs.cond_ff rfl rfl ?_
        refine Gs.skip ?_
        refine Gs.then_n ?_
        refine Gs.seq ?_
        refine Gs.reg ?_
        refine Go.Sl.L.pu rfl rfl trivial (pu_move rfl) ?_
        refine Go.Sl.L.ac rfl rfl trivial (as_call (plain_spec (es := ls) (erd_elO la lc ls).1 (by omega)) (by repeat constructor) (by repeat constructor)) ?_
        rintro _ _ ⟨_, ⟨pa, pc, rfl, rfl⟩, rfl⟩
        refine Go.Sl.L.pu rfl rfl trivial (pu_assign rfl) ?_
        refine Go.Sl.L.nil ?_
        refine Gs.then_n ?_
        refine Gs.seq ?_
        refine Gs.seq ?_
        refine Gs.elOpen (a := la) (c := lc) (es := ls) (by repeat constructor) ?_
        refine Gs.slLen (xs := want) (a := ta) (c := tc) (E := 43) (sz := 8) (enc := entC) (by repeat constructor) fun htc => ?_
        refine Gs.reg ?_
        refine Go.Sl.L.pu rfl rfl trivial (pu_move rfl) ?_
        refine Go.Sl.L.pu rfl rfl trivial (pu_len Tryz.underlying22 rfl) ?_
        refine Go.Sl.L.pu rfl rfl trivial (pu_move rfl) ?_
        refine Go.Sl.L.pu rfl rfl trivial (pu_lt rfl rfl) ?_
        refine Go.Sl.L.puBf rfl rfl trivial (pu_move rfl) (decide_eq_false (by omega)) ?_
        refine Go.Sl.L.pu rfl rfl ⟨_, rfl, rfl⟩ (pu_move rfl) ?_
        refine Go.Sl.L.pu rfl rfl ⟨_, rfl, rfl⟩ (pu_len Tryz.underlying22 rfl) ?_
        refine Go.Sl.L.pu rfl rfl ⟨_, rfl, rfl⟩ (pu_move rfl) ?_
        refine Go.Sl.L.pu rfl rfl ⟨_, rfl, rfl⟩ (pu_len Tryz.underlying22 rfl) ?_
        refine Go.Sl.L.pu rfl rfl ⟨_, rfl, rfl⟩ (pu_gt rfl rfl) ?_
        refine Go.Sl.L.pu rfl rfl trivial (by first | exact pu_pick_t rfl rfl | exact pu_pick_f rfl rfl) ?_
        refine Go.Sl.L.puBf rfl rfl trivial (pu_move rfl) (decide_eq_false (by omega)) ?_
        refine Go.Sl.L.pu rfl rfl ⟨_, rfl, rfl⟩ (pu_move rfl) ?_
        refine Go.Sl.L.pu rfl rfl ⟨_, rfl, rfl⟩ (pu_move rfl) ?_
        refine Go.Sl.L.pu rfl rfl ⟨_, rfl, rfl⟩ (pu_move rfl) ?_
        refine Go.Sl.L.pu rfl rfl ⟨_, rfl, rfl⟩ (pu_len Tryz.underlying22 rfl) ?_
        refine Go.Sl.L.pu rfl rfl ⟨_, rfl, rfl⟩ (pu_sliceH et_22 rfl rfl (by omega) (by omega)) ?_
        refine Go.Sl.L.ac rfl rfl ⟨_, rfl, rfl⟩ (as_call (sameT_spec (L := [sl 43 8 entC pa pc (filterV ls), big (ls.map entO), U, sl 43 8 entC ta tc want]) (a := pa) (b := suba ta 0 tc 8) (xs := filterV ls) (ys := want.take (filterV ls).length) ⟨Srd.bigs (A := sl 43 8 entC pa pc (filterV ls)) Srd.own (by simp), fun e he => ((evd_entO e).bigs (List.mem_map.2 ⟨e, filterV_mem he, rfl⟩) : EVd (big (ls.map entO)) e).bigs (by simp)⟩ ⟨Srd.bigs (A := sl 43 8 entC ta tc want) (Srd.own.cutH _ _ htc) (by simp), fun e he => (hE.2 e (hwm e (List.mem_of_mem_take he))).bigs (by simp)⟩ htl (by omega) (fun e he => by have := hlvec e (filterV_mem he); omega)) (by repeat constructor) (by repeat constructor)) ?_
        rintro _ _ ⟨_, ⟨rfl, rfl⟩, rfl⟩
        rw [decide_eq_true hwt]
        refine Go.Sl.L.pu rfl rfl ⟨_, rfl, rfl⟩ (pu_not rfl) ?_
        refine Go.Sl.L.pu rfl rfl trivial (by first | exact pu_pick_t rfl rfl | exact pu_pick_f rfl rfl) ?_
        refine Go.Sl.L.nil ?_
        refine Gs.then_n ?_
        refine Gs.cond_ff rfl rfl ?_
        refine Gs.skip ?_
        refine Gs.then_n ?_
        refine Gs.seq ?_
        refine Gs.seq ?_
        refine Gs.reg ?_
        refine Go.Sl.L.rd rfl rfl trivial (rd_lda ag_43 rfl (Rdc.cl 8 (by repeat constructor) rfl) rfl) ?_
        refine Go.Sl.L.ac rfl rfl trivial (as_call (segMay8_spec hM hT 3) (by repeat constructor) (by repeat constructor)) ?_
        rintro _ _ ⟨_, ⟨rfl, rfl⟩, rfl⟩
        refine Go.Sl.L.pu rfl rfl trivial (pu_not rfl) ?_
        refine Go.Sl.L.puB rfl rfl trivial (pu_move rfl) (fun hg3 => ?_) (fun hg3 => ?_)
        · skip
          refine Go.Sl.L.off rfl rfl rfl rfl rfl rfl ?_
          refine Go.Sl.L.off rfl rfl rfl rfl rfl rfl ?_
          refine Go.Sl.L.off rfl rfl rfl rfl rfl rfl ?_
          refine Go.Sl.L.pu rfl rfl trivial (by first | exact pu_pick_t rfl rfl | exact pu_pick_f rfl rfl) ?_
          refine Go.Sl.L.nil ?_
          refine Gs.then_n ?_
          refine Gs.cond_t rfl ?_
          refine Gs.seq ?_
          refine Gs.reg ?_
          refine Go.Sl.L.ac rfl rfl trivial (as_call (awake9_spec hT) (by repeat constructor) (by repeat constructor)) ?_
          rintro _ _ ⟨_, ⟨rfl, rfl⟩, rfl⟩
          refine Go.Sl.L.pu rfl rfl trivial (pu_assign rfl) ?_
          refine Go.Sl.L.nil ?_
          refine Gs.then_n ?_
          refine Gs.ret ?_
          refine Gs.then_r ?_
          exact Gs.fin1 Tryz.results6 rfl _ (⟨rfl, rfl⟩) (by repeat constructor)
        · skip
          refine Go.Sl.L.pu rfl rfl ⟨_, rfl, rfl⟩ (pu_fa fa_43_0 rfl) ?_
          refine Go.Sl.L.rd rfl rfl ⟨_, rfl, rfl⟩ (rd_ld na_3 rfl (Rdc.cl1 (by repeat constructor) rfl)) ?_
          refine Go.Sl.L.pu rfl rfl ⟨_, rfl, rfl⟩ (pu_eq rfl rfl) ?_
          refine Go.Sl.L.pu rfl rfl trivial (by first | exact pu_pick_t rfl rfl | exact pu_pick_f rfl rfl) ?_
          refine Go.Sl.L.nil ?_
          refine Gs.then_n ?_
          refine Gs.cond rfl (fun hc9 => ?_) (fun hc9 => ?_)
          · skip
            refine Gs.seq ?_
            refine Gs.reg ?_
            refine Go.Sl.L.ac rfl rfl trivial (as_call (awake9_spec hT) (by repeat constructor) (by repeat constructor)) ?_
            rintro _ _ ⟨_, ⟨rfl, rfl⟩, rfl⟩
            refine Go.Sl.L.pu rfl rfl trivial (pu_assign rfl) ?_
            refine Go.Sl.L.nil ?_
            refine Gs.then_n ?_
            refine Gs.ret ?_
            refine Gs.then_r ?_
            exact Gs.fin1 Tryz.results6 rfl _ (⟨rfl, rfl⟩) (by repeat constructor)
          · skip
            refine Gs.skip ?_
            refine Gs.then_n ?_
            refine Gs.seq ?_
            refine Gs.seq ?_
            have hmW : mayW 3 m.p [0, 0, 0] [0, 0, 0] = true := by
              have h2 : mayE m.p 3 = true := by simpa using hg3
              rw [mayW_eq, h2, show decide (m.p.kind = 1) = false from hc9]
              decide
            have hst' := wS_st (most := 60000) (e := m.p) (v := [0, 0, 0]) (w := [0, 0, 0]) hst2
            have hmd' := wS_made (most := 60000) (e := m.p) (v := [0, 0, 0]) (w := [0, 0, 0]) hst2
            have hln' := wS_len (most := 60000) (e := m.p) (v := [0, 0, 0]) (w := [0, 0, 0]) hst2
            have hfp' := wS_flat (most := 60000) (e := m.p) (v := [0, 0, 0]) (w := [0, 0, 0]) hst2
            have hok' := wS_ok (most := 60000) hst2 hmW (by omega)
            rw [if_pos hok'] at hfp'
            obtain ⟨o, ho⟩ : ∃ o, o = wS 60000 3 m2 ys m.p [0, 0, 0] [0, 0, 0] := ⟨_, rfl⟩
            rw [← ho] at hst' hmd' hln' hfp' hok'
            refine Gs.reg ?_
            refine Go.Sl.L.pu rfl rfl trivial (pu_move rfl) ?_
            refine Go.Sl.L.rd rfl rfl trivial (rd_lda ag_43 rfl (Rdc.cl 8 (by repeat constructor) rfl) rfl) ?_
            refine Go.Sl.L.pu rfl rfl trivial (pu_move rfl) ?_
            refine Go.Sl.L.pu rfl rfl trivial (pu_move rfl) ?_
            refine Go.Sl.L.ac rfl rfl trivial (as_call (writeG_spec (b := g2) (d := d) (n := 3) (most := 60000) (made := m2) (xs := ys) (L := [sl 3 1 intC (some ⟨a29, 0, none⟩) 3 [0, 0, 0], U]) (e := m) (v := [0, 0, 0]) (w := [0, 0, 0]) (hM.bigs (by simp)) (Srd.bigs (A := sl 3 1 intC (some ⟨a29, 0, none⟩) 3 [0, 0, 0]) Srd.own (by simp)) (Srd.bigs (A := sl 3 1 intC (some ⟨a29, 0, none⟩) 3 [0, 0, 0]) Srd.own (by simp)) (hT.inn (Inn.mem (by simp))) (by decide) (by decide) hst2 (by omega) (by omega) (by omega)) (by repeat constructor) (by repeat constructor)) ?_
            rintro _ _ ⟨_, ⟨rfl, rfl⟩, rfl⟩
            rw [← ho]
            refine Go.Sl.L.pu rfl rfl trivial (pu_ne rfl rfl) ?_
            refine Go.Sl.L.puBf rfl rfl trivial (pu_move rfl) (decide_eq_false (fun h => h hok')) ?_
            refine Go.Sl.L.pu rfl rfl ⟨_, rfl, rfl⟩ (pu_move rfl) ?_
            refine Go.Sl.L.ac rfl rfl ⟨_, rfl, rfl⟩ (as_call (syncSt_spec (b := g2) (d := d) (n := 3) (most := 60000) (made := o.made) (xs := o.xs) (by omega)) (by repeat constructor) (by repeat constructor)) ?_
            rintro _ _ ⟨_, ⟨rfl, rfl⟩, rfl⟩
            refine Go.Sl.L.pu rfl rfl ⟨_, rfl, rfl⟩ (pu_ne rfl rfl) ?_
            refine Go.Sl.L.pu rfl rfl trivial (by first | exact pu_pick_t rfl rfl | exact pu_pick_f rfl rfl) ?_
            refine Go.Sl.L.nil ?_
            refine Gs.then_n ?_
            refine Gs.cond_ff rfl rfl ?_
            refine Gs.skip ?_
            refine Gs.then_n ?_
            refine Gs.seq ?_
            refine Gs.reg ?_
            refine Go.Sl.L.pu rfl rfl trivial (pu_move rfl) ?_
            refine Go.Sl.L.ac rfl rfl trivial (as_call (openSt_spec (d := d) (n := 3) (most := 60000) (made := o.made) (xs := o.xs.map syn) hT (by decide) (by decide) (syn_st hst') (by omega) (by rw [List.length_map]; omega)) (by repeat constructor) (by repeat constructor)) ?_
            rintro _ _ ⟨_, ⟨g3, ka, kc, ks, m3, rfl, ⟨hst3, hm3, hks⟩, rfl⟩, rfl⟩
            refine Go.Sl.L.pu rfl rfl trivial (pu_move rfl) ?_
            refine Go.Sl.L.pu rfl rfl trivial (pu_extract rfl rfl) ?_
            refine Go.Sl.L.pu rfl rfl trivial (pu_extract rfl rfl) ?_
            refine Go.Sl.L.pu rfl rfl trivial (pu_extract rfl rfl) ?_
            refine Go.Sl.L.pu rfl rfl trivial (pu_assign rfl) ?_
            refine Go.Sl.L.pu rfl rfl trivial (pu_assign rfl) ?_
            refine Go.Sl.L.nil ?_
            have hkvec := seg_vecs hst3.inv.good hks
            have hkl := seg_lens hst3.inv.good hks
            rw [syn_flat, List.length_map] at hkl
            rw [syn_flat] at hks
            have hfpl := congrArg List.length hfp'
            rw [List.length_append, List.length_singleton] at hfpl
            have hkk : plainV (filterV ks) = plainV (filterV ls ++ [m]) := by
              rw [filterV_plain, hks, hfp', ← hleft]; simp [plainV]
            refine Gs.then_n ?_
            refine Gs.seq ?_
            refine Gs.reg ?_
            refine Go.Sl.L.pu rfl rfl trivial (pu_move rfl) ?_
            refine Go.Sl.L.rd rfl rfl trivial (rd_lda ag_43 rfl (Rdc.cl 8 (by repeat constructor) rfl) rfl) ?_
            refine Go.Sl.L.ac rfl rfl trivial (ac_lit encC_43 ([m]) et_22 ek_43 rfl (by repeat constructor) rfl rfl (by decide)) ?_
            rintro _ _ ⟨a158, rfl, rfl⟩
            refine Go.Sl.L.ac rfl rfl trivial (ac_append (xs := filterV ls) (ys := [m]) et_22 ek_43 rfl rfl (by repeat constructor) (SrcH.sl Tryz.underlying22 ek_43 (SlH.own (by repeat constructor))) (by first | omega | (simp; omega)) (by first | omega | (simp; omega))) ?_
            rintro _ _ ⟨a159, c159, rfl, rfl⟩
            refine Go.Sl.L.pu rfl rfl trivial (pu_assign rfl) ?_
            refine Go.Sl.L.nil ?_
            refine Gs.then_n ?_
            refine Gs.seq ?_
            refine Gs.reg ?_
            refine Go.Sl.L.pu rfl rfl trivial (pu_move rfl) ?_
            refine Go.Sl.L.pu rfl rfl trivial (pu_eq rfl rfl) ?_
            refine Go.Sl.L.puBt rfl rfl trivial (pu_move rfl) rfl ?_
            refine Go.Sl.L.pu rfl rfl ⟨_, rfl, rfl⟩ (pu_move rfl) ?_
            refine Go.Sl.L.ac rfl rfl ⟨_, rfl, rfl⟩ (as_call (plain_spec (es := ks) (erd_elO ka kc ks).1 (by omega)) (by repeat constructor) (by repeat constructor)) ?_
            rintro _ _ ⟨_, ⟨qa, qc, rfl, rfl⟩, rfl⟩
            refine Gs.elOpen (a := ka) (c := kc) (es := ks) (by repeat constructor) ?_
            refine Go.Sl.L.pu rfl rfl ⟨_, rfl, rfl⟩ (pu_move rfl) ?_
            refine Go.Sl.L.ac rfl rfl ⟨_, rfl, rfl⟩ (as_call (sameG_spec (L := [sl 43 8 entC qa qc (filterV ks), big (ks.map entO), sl 43 8 entC a159 c159 (filterV ls ++ [m]), big (ls.map entO), U]) (a := qa) (b := a159) (xs := filterV ks) (ys := filterV ls ++ [m]) ⟨Srd.bigs (A := sl 43 8 entC qa qc (filterV ks)) Srd.own (by simp), fun e he => ((evd_entO e).bigs (List.mem_map.2 ⟨e, filterV_mem he, rfl⟩) : EVd (big (ks.map entO)) e).bigs (by simp)⟩ ⟨Srd.bigs (A := sl 43 8 entC a159 c159 (filterV ls ++ [m])) Srd.own (by simp), mem_both (fun e he => ((evd_entO e).bigs (List.mem_map.2 ⟨e, filterV_mem he, rfl⟩) : EVd (big (ls.map entO)) e).bigs (by simp)) (hM.bigs (by simp))⟩ (by have := filterV_len ks; omega) (fun e he => by have := hkvec e (filterV_mem he); omega)) (by repeat constructor) (by repeat constructor)) ?_
            rintro _ _ ⟨_, ⟨rfl, rfl⟩, rfl⟩
            rw [decide_eq_true hkk]
            refine Go.Sl.L.pu rfl rfl trivial (by first | exact pu_pick_t rfl rfl | exact pu_pick_f rfl rfl) ?_
            refine Go.Sl.L.puBt rfl rfl trivial (pu_move rfl) rfl ?_
            refine Go.Sl.L.ac rfl rfl ⟨_, rfl, rfl⟩ (as_call (awake9_spec hT) (by repeat constructor) (by repeat constructor)) ?_
            rintro _ _ ⟨_, ⟨rfl, rfl⟩, rfl⟩
            refine Go.Sl.L.pu rfl rfl trivial (by first | exact pu_pick_t rfl rfl | exact pu_pick_f rfl rfl) ?_
            refine Go.Sl.L.pu rfl rfl trivial (pu_assign rfl) ?_
            refine Go.Sl.L.nil ?_
            refine Gs.then_n ?_
            refine Gs.ret ?_
            exact Gs.fin1 Tryz.results6 rfl _ (⟨rfl, rfl⟩) (by repeat constructor)
end Go.Proofs.YtjaafkakeccniaaGreatDoor
