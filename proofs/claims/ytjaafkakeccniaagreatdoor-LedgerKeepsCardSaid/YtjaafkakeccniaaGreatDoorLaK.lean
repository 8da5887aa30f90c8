/- Walk: LedgerKeeps. -/
import Derived.Test.YtjaafkakeccniaaGreatDoorML
namespace Go.Proofs.YtjaafkakeccniaaGreatDoor
open Go Go.Sl Go.Gv Go.Dv Go.Bst
set_option maxRecDepth 100000
set_option maxHeartbeats 1000000 in
theorem keeps_spec {U : HProp} (hT : RMs U) (n : Int) {ea va wa : Option Addr} {ec vc wc : Nat} {es : List EntV} {v w : List Int} (hE : ERd U ea es) (hel : es.length ≤ maxLen) (hV : Srd U 1 intC va v) (hW : Srd U 1 intC wa w) :
    Ct Tryz.prog 3 [int n, .slice ea es.length ec, .slice va v.length vc, .slice wa w.length wc] [U] (fun r hs => r = .bool true ∧ hs = [U]) := by
  refine Ct.intro Tryz.func3 rfl (by kernel_rfl) 202 Tryz.ntmps3 (Nat.le_of_ble_eq_true rfl) fun w0 R => ?_
  refine Gs.slAddr (xs := es) (hE.1.h (by repeat constructor)) fun eb eo hea => ?_
  refine Gs.seq ?_
  refine Gs.reg ?_
  refine Go.Sl.L.pu rfl rfl trivial (pu_assign rfl) ?_
  refine Go.Sl.L.nil ?_
  refine Gs.then_n ?_
  refine Gs.seq ?_
  refine Gs.seq ?_
  refine Gs.reg ?_
  refine Go.Sl.L.pu rfl rfl trivial (pu_move rfl) ?_
  refine Go.Sl.L.ac rfl rfl trivial (as_call (great_spec hE.1 hel 30 (by decide)) (by repeat constructor) (by repeat constructor)) ?_
  rintro _ _ ⟨_, ⟨⟨gb, rfl, hgb⟩, rfl⟩, rfl⟩
  refine Go.Sl.L.puB rfl rfl trivial (pu_move rfl) (fun hg2 => ?_) (fun hg2 => ?_)
  · skip
    refine Go.Sl.L.off rfl rfl rfl rfl rfl rfl ?_
    refine Go.Sl.L.off rfl rfl rfl rfl rfl rfl ?_
    refine Go.Sl.L.off rfl rfl rfl rfl rfl rfl ?_
    refine Go.Sl.L.pu rfl rfl trivial (by first | exact pu_pick_t rfl rfl | exact pu_pick_f rfl rfl) ?_
    refine Go.Sl.L.pu rfl rfl trivial (pu_move rfl) ?_
    refine Go.Sl.L.off rfl rfl rfl rfl rfl rfl ?_
    refine Go.Sl.L.off rfl rfl rfl rfl rfl rfl ?_
    refine Go.Sl.L.off rfl rfl rfl rfl rfl rfl ?_
    refine Go.Sl.L.pu rfl rfl trivial (by first | exact pu_pick_t rfl rfl | exact pu_pick_f rfl rfl) ?_
    refine Go.Sl.L.nil ?_
    refine Gs.then_n ?_
    refine Gs.cond_t rfl ?_
    refine Gs.seq ?_
    refine Gs.reg ?_
    refine Go.Sl.L.ac rfl rfl trivial (as_call (awake9_spec hT) (by repeat constructor) (by repeat constructor)) ?_
    rintro _ _ ⟨_, ⟨rfl, rfl⟩, rfl⟩
    refine Go.Sl.L.pu rfl rfl trivial (pu_assign rfl) ?_
    refine Go.Sl.L.nil ?_
    refine Gs.then_n ?_
    refine Gs.ret ?_
    refine Gs.then_r ?_
    exact Gs.fin1 Tryz.results3 rfl _ (⟨rfl, rfl⟩) (by repeat constructor)
  · skip
    have hfew := hgb hg2
    refine Go.Sl.L.pu rfl rfl ⟨_, rfl, rfl⟩ (pu_move rfl) ?_
    refine Go.Sl.L.pu rfl rfl ⟨_, rfl, rfl⟩ (pu_len Tryz.underlying23 rfl) ?_
    refine Go.Sl.L.pu rfl rfl ⟨_, rfl, rfl⟩ (pu_gt rfl rfl) ?_
    refine Go.Sl.L.pu rfl rfl trivial (by first | exact pu_pick_t rfl rfl | exact pu_pick_f rfl rfl) ?_
    refine Go.Sl.L.puB rfl rfl trivial (pu_move rfl) (fun hg7 => ?_) (fun hg7 => ?_)
    · skip
      refine Go.Sl.L.off rfl rfl rfl rfl rfl rfl ?_
      refine Go.Sl.L.off rfl rfl rfl rfl rfl rfl ?_
      refine Go.Sl.L.off rfl rfl rfl rfl rfl rfl ?_
      refine Go.Sl.L.pu rfl rfl trivial (by first | exact pu_pick_t rfl rfl | exact pu_pick_f rfl rfl) ?_
      refine Go.Sl.L.nil ?_
      refine Gs.then_n ?_
      refine Gs.cond_t rfl ?_
      refine Gs.seq ?_
      refine Gs.reg ?_
      refine Go.Sl.L.ac rfl rfl trivial (as_call (awake9_spec hT) (by repeat constructor) (by repeat constructor)) ?_
      rintro _ _ ⟨_, ⟨rfl, rfl⟩, rfl⟩
      refine Go.Sl.L.pu rfl rfl trivial (pu_assign rfl) ?_
      refine Go.Sl.L.nil ?_
      refine Gs.then_n ?_
      refine Gs.ret ?_
      refine Gs.then_r ?_
      exact Gs.fin1 Tryz.results3 rfl _ (⟨rfl, rfl⟩) (by repeat constructor)
    · skip
      have hvl : v.length ≤ 20 := by have := of_decide_eq_false hg7; omega
      refine Go.Sl.L.pu rfl rfl ⟨_, rfl, rfl⟩ (pu_move rfl) ?_
      refine Go.Sl.L.pu rfl rfl ⟨_, rfl, rfl⟩ (pu_len Tryz.underlying23 rfl) ?_
      refine Go.Sl.L.pu rfl rfl ⟨_, rfl, rfl⟩ (pu_gt rfl rfl) ?_
      refine Go.Sl.L.pu rfl rfl trivial (by first | exact pu_pick_t rfl rfl | exact pu_pick_f rfl rfl) ?_
      refine Go.Sl.L.nil ?_
      refine Gs.then_n ?_
      refine Gs.cond rfl (fun hc0 => ?_) (fun hc0 => ?_)
      · skip
        refine Gs.seq ?_
        refine Gs.reg ?_
        refine Go.Sl.L.ac rfl rfl trivial (as_call (awake9_spec hT) (by repeat constructor) (by repeat constructor)) ?_
        rintro _ _ ⟨_, ⟨rfl, rfl⟩, rfl⟩
        refine Go.Sl.L.pu rfl rfl trivial (pu_assign rfl) ?_
        refine Go.Sl.L.nil ?_
        refine Gs.then_n ?_
        refine Gs.ret ?_
        refine Gs.then_r ?_
        exact Gs.fin1 Tryz.results3 rfl _ (⟨rfl, rfl⟩) (by repeat constructor)
      · skip
        have hwl : w.length ≤ 20 := by have := of_decide_eq_false hc0; omega
        have hel30 : es.length ≤ 30 := by have := hfew.1; omega
        refine Gs.skip ?_
        refine Gs.then_n ?_
        refine Gs.seq ?_
        refine Gs.reg ?_
        refine Go.Sl.L.ac rfl rfl trivial (as_call (drvNew_ok 60000 (by decide) (by decide)) (by repeat constructor) (by repeat constructor)) ?_
        rintro _ _ ⟨_, ⟨d, rfl, rfl⟩, rfl⟩
        refine Go.Sl.L.pu rfl rfl trivial (pu_assign rfl) ?_
        refine Go.Sl.L.nil ?_
        refine Gs.then_n ?_
        refine Gs.seq ?_
        refine Gs.reg ?_
        refine Go.Sl.L.pu rfl rfl trivial (pu_move rfl) ?_
        refine Go.Sl.L.pu rfl rfl trivial (pu_move rfl) ?_
        refine Go.Sl.L.ac rfl rfl trivial (as_call (openN_spec (d := d) (n := n) (most := 60000) hT (by decide)) (by repeat constructor) (by repeat constructor)) ?_
        rintro _ _ ⟨_, (⟨hmb, g, oa, oc, os, rfl, hos, rfl⟩ | ⟨hmb, rfl, rfl⟩), rfl⟩
        · skip
          refine Go.Sl.L.pu rfl rfl trivial (pu_move rfl) ?_
          refine Go.Sl.L.pu rfl rfl trivial (pu_extract rfl rfl) ?_
          refine Go.Sl.L.pu rfl rfl trivial (pu_extract rfl rfl) ?_
          refine Go.Sl.L.pu rfl rfl trivial (pu_extract rfl rfl) ?_
          refine Go.Sl.L.pu rfl rfl trivial (pu_assign rfl) ?_
          refine Go.Sl.L.pu rfl rfl trivial (pu_assign rfl) ?_
          refine Go.Sl.L.pu rfl rfl trivial (pu_assign rfl) ?_
          refine Go.Sl.L.nil ?_
          refine Gs.then_n ?_
          refine Gs.seq ?_
          refine Gs.seq ?_
          refine Gs.reg ?_
          refine Go.Sl.L.pu rfl rfl trivial (pu_move rfl) ?_
          refine Go.Sl.L.ac rfl rfl trivial (as_call (many3_spec n) (by repeat constructor) (by repeat constructor)) ?_
          rintro _ _ ⟨_, ⟨rfl, rfl⟩, rfl⟩
          rw [hmb]
          refine Go.Sl.L.pu rfl rfl trivial (pu_not rfl) ?_
          refine Go.Sl.L.nil ?_
          refine Gs.then_n ?_
          refine Gs.cond_f rfl ?_
          refine Gs.skip ?_
          refine Gs.then_n ?_
          refine Gs.seq ?_
          refine Gs.seq ?_
          refine Gs.reg ?_
          refine Go.Sl.L.pu rfl rfl trivial (pu_move rfl) ?_
          refine Go.Sl.L.pu rfl rfl trivial (pu_eqN Tryz.underlying28 rfl rfl) ?_
          refine Go.Sl.L.puBf rfl rfl trivial (pu_move rfl) rfl ?_
          refine Go.Sl.L.pu rfl rfl ⟨_, rfl, rfl⟩ (pu_move rfl) ?_
          refine Go.Sl.L.pu rfl rfl ⟨_, rfl, rfl⟩ (pu_ne rfl rfl) ?_
          refine Go.Sl.L.pu rfl rfl trivial (by first | exact pu_pick_t rfl rfl | exact pu_pick_f rfl rfl) ?_
          refine Go.Sl.L.puBf rfl rfl trivial (pu_move rfl) rfl ?_
          refine Go.Sl.L.pu rfl rfl ⟨_, rfl, rfl⟩ (pu_move rfl) ?_
          refine Go.Sl.L.pu rfl rfl ⟨_, rfl, rfl⟩ (pu_len Tryz.underlying22 rfl) ?_
          refine Go.Sl.L.pu rfl rfl ⟨_, rfl, rfl⟩ (pu_ne rfl rfl) ?_
          refine Go.Sl.L.pu rfl rfl trivial (by first | exact pu_pick_t rfl rfl | exact pu_pick_f rfl rfl) ?_
          refine Go.Sl.L.nil ?_
          refine Gs.then_n ?_
          refine Gs.cond_ff rfl (decide_eq_false (by have := congrArg List.length hos; rw [List.length_map] at this; rw [this]; exact fun h => h rfl)) ?_
          refine Gs.skip ?_
          refine Gs.then_n ?_
          refine Gs.seq ?_
          have hn18 := hmb
          simp only [manyB, Bool.and_eq_true, decide_eq_true_eq] at hn18
          obtain ⟨h1, h8⟩ := hn18
          have hst0 : St n 1 [newSeg n 1] := newSeg_st h1 h8 (by decide)
          have hu0 : usedS [newSeg n 1] ≤ 46 := by
            have e : layS [zeroB n] = layE (zeroB n) := by simp [layS]
            show (layS [zeroB n]).length + 0 ≤ 46
            rw [e]; exact zeroB_len h1 h8
          obtain ⟨good, hgood⟩ : ∃ z, z = (vecB v n && (vecB w n && belowB w v)) := ⟨_, rfl⟩
          refine Gs.cutS (σ := Unit) (fun _ => [(0, int n), (1, .slice ea es.length ec), (2, .slice va v.length vc), (3, .slice wa w.length wc), (9, ptr d), (10, ptr g), (13, .bool good)]) (fun _ => [lgr g d n ⟨1, [newSeg n 1].map (segP n)⟩, drv d 60000 ([newSeg n 1].map segF), U] ++ R) ?_ ?_
          · skip
            refine Gs.reg ?_
            refine Go.Sl.L.pu rfl rfl trivial (pu_move rfl) ?_
            refine Go.Sl.L.pu rfl rfl trivial (pu_move rfl) ?_
            refine Go.Sl.L.ac rfl rfl trivial (as_call (vecMay3_spec hV n) (by repeat constructor) (by repeat constructor)) ?_
            rintro _ _ ⟨_, ⟨rfl, rfl⟩, rfl⟩
            refine Go.Sl.L.puB rfl rfl trivial (pu_move rfl) (fun hg3 => ?_) (fun hg3 => ?_)
            · skip
              refine Go.Sl.L.pu rfl rfl ⟨_, rfl, rfl⟩ (pu_move rfl) ?_
              refine Go.Sl.L.pu rfl rfl ⟨_, rfl, rfl⟩ (pu_move rfl) ?_
              refine Go.Sl.L.ac rfl rfl ⟨_, rfl, rfl⟩ (as_call (vecMay3_spec hW n) (by repeat constructor) (by repeat constructor)) ?_
              rintro _ _ ⟨_, ⟨rfl, rfl⟩, rfl⟩
              refine Go.Sl.L.pu rfl rfl trivial (by first | exact pu_pick_t rfl rfl | exact pu_pick_f rfl rfl) ?_
              refine Go.Sl.L.puB rfl rfl trivial (pu_move rfl) (fun hg8 => ?_) (fun hg8 => ?_)
              · skip
                obtain rfl : good = belowB w v := by rw [hgood, hg3, hg8]; rfl
                refine Go.Sl.L.pu rfl rfl ⟨_, rfl, rfl⟩ (pu_move rfl) ?_
                refine Go.Sl.L.pu rfl rfl ⟨_, rfl, rfl⟩ (pu_move rfl) ?_
                refine Go.Sl.L.ac rfl rfl ⟨_, rfl, rfl⟩ (as_call (below3_spec hW hV (by omega)) (by repeat constructor) (by repeat constructor)) ?_
                rintro _ _ ⟨_, ⟨rfl, rfl⟩, rfl⟩
                refine Go.Sl.L.pu rfl rfl trivial (by first | exact pu_pick_t rfl rfl | exact pu_pick_f rfl rfl) ?_
                refine Go.Sl.L.pu rfl rfl trivial (pu_assign rfl) ?_
                refine Go.Sl.L.nil ?_
                refine Gs.then_n ?_
                refine Gs.cutEndS () ?_ ?_
                · repeat constructor
                · repeat constructor
              · skip
                obtain rfl : good = false := by rw [hgood, hg8, Bool.false_and, Bool.and_false]
                refine Go.Sl.L.off rfl rfl rfl rfl rfl rfl ?_
                refine Go.Sl.L.off rfl rfl rfl rfl rfl rfl ?_
                refine Go.Sl.L.off rfl rfl rfl rfl rfl rfl ?_
                refine Go.Sl.L.pu rfl rfl trivial (by first | exact pu_pick_t rfl rfl | exact pu_pick_f rfl rfl) ?_
                refine Go.Sl.L.pu rfl rfl trivial (pu_assign rfl) ?_
                refine Go.Sl.L.nil ?_
                refine Gs.then_n ?_
                refine Gs.cutEndS () ?_ ?_
                · repeat constructor
                · repeat constructor
            · skip
              obtain rfl : good = false := by rw [hgood, hg3]; rfl
              refine Go.Sl.L.off rfl rfl rfl rfl rfl rfl ?_
              refine Go.Sl.L.off rfl rfl rfl rfl rfl rfl ?_
              refine Go.Sl.L.off rfl rfl rfl rfl rfl rfl ?_
              refine Go.Sl.L.pu rfl rfl trivial (by first | exact pu_pick_t rfl rfl | exact pu_pick_f rfl rfl) ?_
              refine Go.Sl.L.pu rfl rfl trivial (pu_move rfl) ?_
              refine Go.Sl.L.off rfl rfl rfl rfl rfl rfl ?_
              refine Go.Sl.L.off rfl rfl rfl rfl rfl rfl ?_
              refine Go.Sl.L.off rfl rfl rfl rfl rfl rfl ?_
              refine Go.Sl.L.pu rfl rfl trivial (by first | exact pu_pick_t rfl rfl | exact pu_pick_f rfl rfl) ?_
              refine Go.Sl.L.pu rfl rfl trivial (pu_assign rfl) ?_
              refine Go.Sl.L.nil ?_
              refine Gs.then_n ?_
              refine Gs.cutEndS () ?_ ?_
              · repeat constructor
              · repeat constructor
          · skip
            rintro _
            refine Gs.seq ?_
            refine Gs.reg ?_
            refine Go.Sl.L.pu rfl rfl trivial (pu_assign rfl) ?_
            refine Go.Sl.L.nil ?_
            refine Gs.slNil 43 8 entC ?_
            refine Gs.then_n ?_
            refine Gs.seq ?_
            refine Gs.seq ?_
            refine Gs.reg ?_
            refine Go.Sl.L.pu rfl rfl trivial (pu_assign rfl) ?_
            refine Go.Sl.L.nil ?_
            refine Gs.then_n ?_
            refine Gs.block ?_
            refine Gs.loop1 (fun s : Nat × Nat × List Seg × List EntV × Option Addr × Nat => St n s.2.1 s.2.2.1 ∧ s.2.1 ≤ s.1 + 1 ∧ s.2.2.1.length ≤ s.1 + 1 ∧ usedS s.2.2.1 ≤ 46 + 190 * s.1 ∧ plainV s.2.2.2.1 = plainE (flatS s.2.2.1) ∧ s.1 ≤ es.length ∧ (∀ e ∈ s.2.2.2.1, e ∈ es) ∧ s.2.2.2.1.length ≤ s.1) (fun s => [(0, int n), (1, .slice ea es.length ec), (2, .slice va v.length vc), (3, .slice wa w.length wc), (9, ptr d), (10, ptr g), (13, .bool good), (14, .slice s.2.2.2.2.1 s.2.2.2.1.length s.2.2.2.2.2), (15, int s.1)]) (fun s => [lgr g d n ⟨s.2.1, s.2.2.1.map (segP n)⟩, drv d 60000 (s.2.2.1.map segF), U, sl 43 8 entC s.2.2.2.2.1 s.2.2.2.2.2 s.2.2.2.1] ++ R) (fun s => es.length - s.1) (0, 1, [newSeg n 1], [], none, 0) (⟨hst0, Nat.le_refl _, Nat.le_refl _, hu0, rfl, Nat.zero_le _, fun e he => (by cases he), Nat.le_refl _⟩) (by repeat constructor) (by repeat constructor) (fun s hs => ?_)
            obtain ⟨i, made, xs, want, ta, tc⟩ := s
            obtain ⟨hst, hmade, hlen, hus, hpl, hi, hwm, hwl2⟩ := hs
            dsimp only at hst hmade hlen hus hpl hi hwm hwl2 ⊢
            refine Gs.seq ?_
            refine Gs.seq ?_
            refine Gs.reg ?_
            refine Go.Sl.L.pu rfl rfl trivial (pu_move rfl) ?_
            refine Go.Sl.L.pu rfl rfl trivial (pu_move rfl) ?_
            refine Go.Sl.L.pu rfl rfl trivial (pu_len Tryz.underlying22 rfl) ?_
            refine Go.Sl.L.pu rfl rfl trivial (pu_lt rfl rfl) ?_
            refine Go.Sl.L.nil ?_
            refine Gs.then_n ?_
            refine Gs.cond rfl (fun hc3 => ?_) (fun hc3 => ?_)
            · skip
              have hlt : i < es.length := by have := of_decide_eq_true hc3; omega
              obtain ⟨e, he⟩ : ∃ x, es[i]? = some x := ⟨es[i], by simp [hlt]⟩
              obtain rfl := hea (by rintro rfl; simp at hlt)
              have hem := List.mem_of_getElem? he
              have hev := hE.2 e hem
              obtain ⟨may, hmay⟩ : ∃ z, z = (good && (mayE e.p n && decide (e.kind ≠ 1))) := ⟨_, rfl⟩
              have hmW : mayW n e.p v w = may := by
                rw [mayW_eq, hmay, hgood]
                have hk : (!decide (e.p.kind = 1)) = decide (e.kind ≠ 1) := by
                  show (!decide (e.kind = 1)) = _
                  by_cases h : e.kind = 1 <;> simp [h]
                rw [hk]
                generalize decide (e.kind ≠ 1) = b1
                generalize mayE e.p n = b2
                generalize vecB v n = b3
                generalize vecB w n = b4
                generalize belowB w v = b5
                cases b1 <;> cases b2 <;> cases b3 <;> cases b4 <;> cases b5 <;> rfl
              have hst' := wS_st (most := 60000) (e := e.p) (v := v) (w := w) hst
              have hmd' := wS_made (most := 60000) (e := e.p) (v := v) (w := w) hst
              have hln' := wS_len (most := 60000) (e := e.p) (v := v) (w := w) hst
              have hus' := wS_used (most := 60000) (e := e.p) (v := v) (w := w) hst
              have hfp' := wS_flat (most := 60000) (e := e.p) (v := v) (w := w) hst
              have hyes : may = true → (wS 60000 n made xs e.p v w).e = 0 := fun h => wS_ok hst (by rw [hmW]; exact h) (by omega)
              have hnot : may = false → (wS 60000 n made xs e.p v w).e = 2 := fun h => by rw [wS_no (by rw [hmW]; exact h)]
              obtain ⟨o, ho⟩ : ∃ o, o = wS 60000 n made xs e.p v w := ⟨_, rfl⟩
              rw [← ho] at hst' hmd' hln' hus' hfp' hyes hnot
              have hee : decide (o.e = 0) = may := by
                cases hm : may with
                | true => exact decide_eq_true (hyes hm)
                | false => exact decide_eq_false (by rw [hnot hm]; decide)
              refine Gs.skip ?_
              refine Gs.then_n ?_
              refine Gs.seq ?_
              refine Gs.block ?_
              refine Gs.seq ?_
              refine Gs.cutS (σ := Unit) (fun _ => [(0, int n), (1, .slice (some ⟨eb, eo, none⟩) es.length ec), (2, .slice va v.length vc), (3, .slice wa w.length wc), (9, ptr d), (10, ptr g), (13, .bool good), (14, .slice ta want.length tc), (15, int i), (16, .bool may)]) (fun _ => [lgr g d n ⟨made, xs.map (segP n)⟩, drv d 60000 (xs.map segF), U, sl 43 8 entC ta tc want] ++ R) ?_ ?_
              · skip
                refine Gs.reg ?_
                refine Go.Sl.L.pu rfl rfl trivial (pu_move rfl) ?_
                refine Go.Sl.L.puB rfl rfl trivial (pu_move rfl) (fun hg1 => ?_) (fun hg1 => ?_)
                · skip
                  refine Go.Sl.L.pu rfl rfl ⟨_, rfl, rfl⟩ (pu_move rfl) ?_
                  refine Go.Sl.L.pu rfl rfl ⟨_, rfl, rfl⟩ (pu_move rfl) ?_
                  refine Go.Sl.L.pu rfl rfl ⟨_, rfl, rfl⟩ (pu_ia se_22 rfl rfl (by omega) (by omega)) ?_
                  refine Go.Sl.L.rd rfl rfl ⟨_, rfl, rfl⟩ (rd_lda ag_43 rfl (Rdc.el0 (hE.1.h (by repeat constructor)) he rfl rfl) rfl) ?_
                  refine Go.Sl.L.pu rfl rfl ⟨_, rfl, rfl⟩ (pu_move rfl) ?_
                  refine Go.Sl.L.ac rfl rfl ⟨_, rfl, rfl⟩ (as_call (segMay8_spec hev hT n) (by repeat constructor) (by repeat constructor)) ?_
                  rintro _ _ ⟨_, ⟨rfl, rfl⟩, rfl⟩
                  refine Go.Sl.L.pu rfl rfl trivial (by first | exact pu_pick_t rfl rfl | exact pu_pick_f rfl rfl) ?_
                  refine Go.Sl.L.puB rfl rfl trivial (pu_move rfl) (fun hg9 => ?_) (fun hg9 => ?_)
                  · skip
                    obtain rfl : may = decide (e.kind ≠ 1) := by rw [hmay, hg1, hg9]; rfl
                    refine Go.Sl.L.pu rfl rfl ⟨_, rfl, rfl⟩ (pu_move rfl) ?_
                    refine Go.Sl.L.pu rfl rfl ⟨_, rfl, rfl⟩ (pu_move rfl) ?_
                    refine Go.Sl.L.pu rfl rfl ⟨_, rfl, rfl⟩ (pu_ia se_22 rfl rfl (by omega) (by omega)) ?_
                    refine Go.Sl.L.pu rfl rfl ⟨_, rfl, rfl⟩ (pu_fa fa_43_0 rfl) ?_
                    refine Go.Sl.L.rd rfl rfl ⟨_, rfl, rfl⟩ (rd_ld na_3 rfl (Rdc.elp 1 (hE.1.h (by repeat constructor)) he rfl rfl)) ?_
                    refine Go.Sl.L.pu rfl rfl ⟨_, rfl, rfl⟩ (pu_ne rfl rfl) ?_
                    refine Go.Sl.L.pu rfl rfl trivial (by first | exact pu_pick_t rfl rfl | exact pu_pick_f rfl rfl) ?_
                    refine Go.Sl.L.pu rfl rfl trivial (pu_assign rfl) ?_
                    refine Go.Sl.L.nil ?_
                    refine Gs.then_n ?_
                    refine Gs.cutEndS () ?_ ?_
                    · repeat constructor
                    · repeat constructor
                  · skip
                    obtain rfl : may = false := by rw [hmay, hg9, Bool.false_and, Bool.and_false]
                    refine Go.Sl.L.off rfl rfl rfl rfl rfl rfl ?_
                    refine Go.Sl.L.off rfl rfl rfl rfl rfl rfl ?_
                    refine Go.Sl.L.off rfl rfl rfl rfl rfl rfl ?_
                    refine Go.Sl.L.off rfl rfl rfl rfl rfl rfl ?_
                    refine Go.Sl.L.off rfl rfl rfl rfl rfl rfl ?_
                    refine Go.Sl.L.off rfl rfl rfl rfl rfl rfl ?_
                    refine Go.Sl.L.pu rfl rfl trivial (by first | exact pu_pick_t rfl rfl | exact pu_pick_f rfl rfl) ?_
                    refine Go.Sl.L.pu rfl rfl trivial (pu_assign rfl) ?_
                    refine Go.Sl.L.nil ?_
                    refine Gs.then_n ?_
                    refine Gs.cutEndS () ?_ ?_
                    · repeat constructor
                    · repeat constructor
                · skip
                  obtain rfl : may = false := by rw [hmay, hg1]; rfl
                  refine Go.Sl.L.off rfl rfl rfl rfl rfl rfl ?_
                  refine Go.Sl.L.off rfl rfl rfl rfl rfl rfl ?_
                  refine Go.Sl.L.off rfl rfl rfl rfl rfl rfl ?_
                  refine Go.Sl.L.off rfl rfl rfl rfl rfl rfl ?_
                  refine Go.Sl.L.off rfl rfl rfl rfl rfl rfl ?_
                  refine Go.Sl.L.off rfl rfl rfl rfl rfl rfl ?_
                  refine Go.Sl.L.pu rfl rfl trivial (by first | exact pu_pick_t rfl rfl | exact pu_pick_f rfl rfl) ?_
                  refine Go.Sl.L.pu rfl rfl trivial (pu_move rfl) ?_
                  refine Go.Sl.L.off rfl rfl rfl rfl rfl rfl ?_
                  refine Go.Sl.L.off rfl rfl rfl rfl rfl rfl ?_
                  refine Go.Sl.L.off rfl rfl rfl rfl rfl rfl ?_
                  refine Go.Sl.L.off rfl rfl rfl rfl rfl rfl ?_
                  refine Go.Sl.L.off rfl rfl rfl rfl rfl rfl ?_
                  refine Go.Sl.L.off rfl rfl rfl rfl rfl rfl ?_
                  refine Go.Sl.L.pu rfl rfl trivial (by first | exact pu_pick_t rfl rfl | exact pu_pick_f rfl rfl) ?_
                  refine Go.Sl.L.pu rfl rfl trivial (pu_assign rfl) ?_
                  refine Go.Sl.L.nil ?_
                  refine Gs.then_n ?_
                  refine Gs.cutEndS () ?_ ?_
                  · repeat constructor
                  · repeat constructor
              · skip
                rintro _
                refine Gs.seq ?_
                refine Gs.reg ?_
                refine Go.Sl.L.pu rfl rfl trivial (pu_move rfl) ?_
                refine Go.Sl.L.pu rfl rfl trivial (pu_move rfl) ?_
                refine Go.Sl.L.pu rfl rfl trivial (pu_move rfl) ?_
                refine Go.Sl.L.pu rfl rfl trivial (pu_ia se_22 rfl rfl (by omega) (by omega)) ?_
                refine Go.Sl.L.rd rfl rfl trivial (rd_lda ag_43 rfl (Rdc.el0 (hE.1.h (by repeat constructor)) he rfl rfl) rfl) ?_
                refine Go.Sl.L.pu rfl rfl trivial (pu_move rfl) ?_
                refine Go.Sl.L.pu rfl rfl trivial (pu_move rfl) ?_
                refine Go.Sl.L.ac rfl rfl trivial (as_call (writeSt_spec (b := g) (d := d) (n := n) (most := 60000) (made := made) (xs := xs) (Ux := U) (e := e) (vc := vc) (wc := wc) hev hV hW hT h1 h8 hst (by omega) (by omega) (by omega)) (by repeat constructor) (by repeat constructor)) ?_
                rintro _ _ ⟨_, ⟨rfl, rfl⟩, rfl⟩
                rw [← ho]
                refine Go.Sl.L.pu rfl rfl trivial (pu_assign rfl) ?_
                refine Go.Sl.L.nil ?_
                refine Gs.then_n ?_
                refine Gs.seq ?_
                refine Gs.seq ?_
                refine Gs.cutS (σ := Unit) (fun _ => [(0, int n), (1, .slice (some ⟨eb, eo, none⟩) es.length ec), (2, .slice va v.length vc), (3, .slice wa w.length wc), (9, ptr d), (10, ptr g), (13, .bool good), (14, .slice ta want.length tc), (15, int i), (16, .bool may), (121, .bool false)]) (fun _ => [lgr g d n ⟨o.made, o.xs.map (segP n)⟩, drv d 60000 (o.xs.map segF), U, sl 43 8 entC ta tc want] ++ R) ?_ ?_
                · skip
                  refine Gs.reg ?_
                  refine Go.Sl.L.pu rfl rfl trivial (pu_move rfl) ?_
                  refine Go.Sl.L.pu rfl rfl trivial (pu_eq rfl rfl) ?_
                  refine Go.Sl.L.pu rfl rfl trivial (pu_move rfl) ?_
                  refine Go.Sl.L.pu rfl rfl trivial (pu_neB Tryz.underlying4 rfl rfl) ?_
                  refine Go.Sl.L.puBf rfl rfl trivial (pu_move rfl) (by rw [hee]; simp) ?_
                  refine Go.Sl.L.pu rfl rfl ⟨_, rfl, rfl⟩ (pu_move rfl) ?_
                  refine Go.Sl.L.pu rfl rfl ⟨_, rfl, rfl⟩ (pu_ne rfl rfl) ?_
                  refine Go.Sl.L.puB rfl rfl ⟨_, rfl, rfl⟩ (pu_move rfl) (fun hg7 => ?_) (fun hg7 => ?_)
                  · skip
                    have hmf : may = false := by cases hm : may with
                      | true => exact absurd (hyes hm) (of_decide_eq_true hg7)
                      | false => rfl
                    have hd2 : decide (o.e ≠ 2) = false := decide_eq_false (fun h => h (hnot hmf))
                    refine Go.Sl.L.pu rfl rfl ⟨_, rfl, rfl⟩ (pu_move rfl) ?_
                    refine Go.Sl.L.pu rfl rfl ⟨_, rfl, rfl⟩ (pu_ne rfl rfl) ?_
                    rw [hd2]
                    refine Go.Sl.L.pu rfl rfl ⟨_, rfl, rfl⟩ (by first | exact pu_pick_t rfl rfl | exact pu_pick_f rfl rfl) ?_
                    refine Go.Sl.L.pu rfl rfl trivial (by first | exact pu_pick_t rfl rfl | exact pu_pick_f rfl rfl) ?_
                    refine Go.Sl.L.nil ?_
                    refine Gs.then_n ?_
                    refine Gs.cutEndS () ?_ ?_
                    · repeat constructor
                    · repeat constructor
                  · skip
                    refine Go.Sl.L.off rfl rfl rfl rfl rfl rfl ?_
                    refine Go.Sl.L.off rfl rfl rfl rfl rfl rfl ?_
                    refine Go.Sl.L.pu rfl rfl ⟨_, rfl, rfl⟩ (by first | exact pu_pick_t rfl rfl | exact pu_pick_f rfl rfl) ?_
                    refine Go.Sl.L.pu rfl rfl trivial (by first | exact pu_pick_t rfl rfl | exact pu_pick_f rfl rfl) ?_
                    refine Go.Sl.L.nil ?_
                    refine Gs.then_n ?_
                    refine Gs.cutEndS () ?_ ?_
                    · repeat constructor
                    · repeat constructor
                · skip
                  rintro _
                  refine Gs.cond_f rfl ?_
                  refine Gs.skip ?_
                  refine Gs.then_n ?_
                  refine Gs.seq ?_
                  refine Gs.reg ?_
                  refine Go.Sl.L.pu rfl rfl trivial (pu_move rfl) ?_
                  refine Go.Sl.L.nil ?_
                  refine Gs.then_n ?_
                  refine Gs.cond rfl (fun hc5 => ?_) (fun hc5 => ?_)
                  · skip
                    rw [if_pos (hyes hc5)] at hfp'
                    have hw2 : plainV (want ++ [e]) = plainE (flatS o.xs) := by rw [hfp', ← hpl]; simp [plainV]
                    have hwm2 : ∀ x ∈ want ++ [e], x ∈ es := fun x hx => by
                      rcases List.mem_append.1 hx with h | h
                      · exact hwm x h
                      · simp at h; subst h; exact hem
                    refine Gs.reg ?_
                    refine Go.Sl.L.pu rfl rfl trivial (pu_move rfl) ?_
                    refine Go.Sl.L.pu rfl rfl trivial (pu_move rfl) ?_
                    refine Go.Sl.L.pu rfl rfl trivial (pu_move rfl) ?_
                    refine Go.Sl.L.pu rfl rfl trivial (pu_ia se_22 rfl rfl (by omega) (by omega)) ?_
                    refine Go.Sl.L.rd rfl rfl trivial (rd_lda ag_43 rfl (Rdc.el0 (hE.1.h (by repeat constructor)) he rfl rfl) rfl) ?_
                    refine Go.Sl.L.ac rfl rfl trivial (ac_lit encC_43 ([e]) et_22 ek_43 rfl (by repeat constructor) rfl rfl (by decide)) ?_
                    rintro _ _ ⟨a128, rfl, rfl⟩
                    refine Go.Sl.L.ac rfl rfl trivial (ac_append (xs := want) (ys := [e]) et_22 ek_43 rfl rfl (by repeat constructor) (SrcH.sl Tryz.underlying22 ek_43 (SlH.own (by repeat constructor))) (by first | omega | (simp; omega)) (by first | omega | (simp; omega))) ?_
                    rintro _ _ ⟨a129, c129, rfl, rfl⟩
                    refine Go.Sl.L.pu rfl rfl trivial (pu_assign rfl) ?_
                    refine Go.Sl.L.nil ?_
                    refine Gs.blk_n ?_
                    refine Gs.then_n ?_
                    refine Gs.reg ?_
                    refine Go.Sl.L.pu rfl rfl trivial (pu_move rfl) ?_
                    refine Go.Sl.L.pu rfl rfl trivial (by first | exact pu_addI rfl rfl rfl (by omega) (by omega) | exact pu_add rfl rfl) ?_
                    refine Go.Sl.L.pu rfl rfl trivial (pu_assign rfl) ?_
                    refine Go.Sl.L.nil ?_
                    refine Gs.then_n ?_
                    first | exact Gs.again1 (i + 1, o.made, o.xs, want ++ [e], a129, c129) ⟨hst', by show o.made ≤ i + 1 + 1; omega, by show o.xs.length ≤ i + 1 + 1; omega, by show usedS o.xs ≤ 46 + 190 * (i + 1); omega, hw2, hlt, hwm2, by show (want ++ [e]).length ≤ i + 1; rw [List.length_append]; simp; exact hwl2⟩ (by show es.length - (i + 1) < es.length - i; omega) (by repeat constructor) (by repeat constructor) | exact Gs.again1 (i + 1, o.made, o.xs, want, ta, tc) ⟨hst', by show o.made ≤ i + 1 + 1; omega, by show o.xs.length ≤ i + 1 + 1; omega, by show usedS o.xs ≤ 46 + 190 * (i + 1); omega, hw2, hlt, hwm, by show want.length ≤ i + 1; omega⟩ (by show es.length - (i + 1) < es.length - i; omega) (by repeat constructor) (by repeat constructor)
                  · skip
                    rw [if_neg (by rw [hnot hc5]; decide)] at hfp'
                    have hw2 : plainV want = plainE (flatS o.xs) := by rw [hfp', ← hpl]
                    refine Gs.skip ?_
                    refine Gs.blk_n ?_
                    refine Gs.then_n ?_
                    refine Gs.reg ?_
                    refine Go.Sl.L.pu rfl rfl trivial (pu_move rfl) ?_
                    refine Go.Sl.L.pu rfl rfl trivial (by first | exact pu_addI rfl rfl rfl (by omega) (by omega) | exact pu_add rfl rfl) ?_
                    refine Go.Sl.L.pu rfl rfl trivial (pu_assign rfl) ?_
                    refine Go.Sl.L.nil ?_
                    refine Gs.then_n ?_
                    first | exact Gs.again1 (i + 1, o.made, o.xs, want ++ [e], a129, c129) ⟨hst', by show o.made ≤ i + 1 + 1; omega, by show o.xs.length ≤ i + 1 + 1; omega, by show usedS o.xs ≤ 46 + 190 * (i + 1); omega, hw2, hlt, hwm2, by show (want ++ [e]).length ≤ i + 1; rw [List.length_append]; simp; exact hwl2⟩ (by show es.length - (i + 1) < es.length - i; omega) (by repeat constructor) (by repeat constructor) | exact Gs.again1 (i + 1, o.made, o.xs, want, ta, tc) ⟨hst', by show o.made ≤ i + 1 + 1; omega, by show o.xs.length ≤ i + 1 + 1; omega, by show usedS o.xs ≤ 46 + 190 * (i + 1); omega, hw2, hlt, hwm, by show want.length ≤ i + 1; omega⟩ (by show es.length - (i + 1) < es.length - i; omega) (by repeat constructor) (by repeat constructor)
            · skip
              have hge : i = es.length := by have := of_decide_eq_false hc3; omega
              have hsl := seg_lens hst.inv.good (es := want)
              refine Gs.exit ?_
              refine Gs.then_x ?_
              refine Gs.then_x ?_
              refine Gs.blk_hit ?_
              refine Gs.then_n ?_
              refine Gs.seq ?_
              refine Gs.reg ?_
              refine Go.Sl.L.pu rfl rfl trivial (pu_move rfl) ?_
              refine Go.Sl.L.ac rfl rfl trivial (as_call (segsSt_spec (b := g) (d := d) (n := n) (made := made) (xs := xs)) (by repeat constructor) (by repeat constructor)) ?_
              rintro _ _ ⟨_, ⟨rfl, rfl⟩, rfl⟩
              refine Go.Sl.L.pu rfl rfl trivial (pu_assign rfl) ?_
              refine Go.Sl.L.nil ?_
              refine Gs.then_n ?_
              refine Gs.seq ?_
              refine Gs.seq ?_
              refine Gs.reg ?_
              refine Go.Sl.L.pu rfl rfl trivial (pu_move rfl) ?_
              refine Go.Sl.L.ac rfl rfl trivial (as_call (syncSt_spec (b := g) (d := d) (n := n) (most := 60000) (made := made) (xs := xs) (by omega)) (by repeat constructor) (by repeat constructor)) ?_
              rintro _ _ ⟨_, ⟨rfl, rfl⟩, rfl⟩
              refine Go.Sl.L.pu rfl rfl trivial (pu_ne rfl rfl) ?_
              refine Go.Sl.L.puBf rfl rfl trivial (pu_move rfl) rfl ?_
              refine Go.Sl.L.pu rfl rfl ⟨_, rfl, rfl⟩ (pu_move rfl) ?_
              refine Go.Sl.L.ac rfl rfl ⟨_, rfl, rfl⟩ (as_call (looseSt_spec (d := d) (most := 60000) (xs := xs.map syn) (by rw [List.length_map]; omega)) (by repeat constructor) (by repeat constructor)) ?_
              rintro _ _ ⟨_, ⟨rfl, rfl⟩, rfl⟩
              rw [loose_syn]
              refine Go.Sl.L.pu rfl rfl ⟨_, rfl, rfl⟩ (pu_ne rfl rfl) ?_
              refine Go.Sl.L.pu rfl rfl trivial (by first | exact pu_pick_t rfl rfl | exact pu_pick_f rfl rfl) ?_
              refine Go.Sl.L.nil ?_
              refine Gs.then_n ?_
              refine Gs.cond_ff rfl rfl ?_
              refine Gs.skip ?_
              refine Gs.then_n ?_
              refine Gs.seq ?_
              refine Gs.reg ?_
              refine Go.Sl.L.pu rfl rfl trivial (pu_move rfl) ?_
              refine Go.Sl.L.pu rfl rfl trivial (pu_move rfl) ?_
              refine Go.Sl.L.ac rfl rfl trivial (as_call (openSt_spec (d := d) (n := n) (most := 60000) (made := made) (xs := xs.map syn) hT h1 h8 (syn_st hst) (by omega) (by rw [List.length_map]; omega)) (by repeat constructor) (by repeat constructor)) ?_
              rintro _ _ ⟨_, ⟨g2, fa, fc, fs, made2, rfl, ⟨hst2, hm2, hfs⟩, rfl⟩, rfl⟩
              refine Go.Sl.L.pu rfl rfl trivial (pu_move rfl) ?_
              refine Go.Sl.L.pu rfl rfl trivial (pu_extract rfl rfl) ?_
              refine Go.Sl.L.pu rfl rfl trivial (pu_extract rfl rfl) ?_
              refine Go.Sl.L.pu rfl rfl trivial (pu_extract rfl rfl) ?_
              refine Go.Sl.L.pu rfl rfl trivial (pu_assign rfl) ?_
              refine Go.Sl.L.pu rfl rfl trivial (pu_assign rfl) ?_
              refine Go.Sl.L.pu rfl rfl trivial (pu_assign rfl) ?_
              refine Go.Sl.L.nil ?_
              have hsyn : ∀ x ∈ xs.map syn, GoodS n x.es := (syn_st hst).inv.good
              have hfvec := seg_vecs hsyn hfs
              rw [syn_flat] at hfs
              have hfl := seg_lens hst.inv.good hfs
              have hwpl : want.length = (plainE (flatS xs)).length := by rw [← hpl]; simp
              have hfilt : plainV (filterV fs) = plainV want := by rw [filterV_plain, hfs, hpl]
              obtain ⟨b0, hb0, hbk⟩ := first_base hst
              obtain ⟨f0, hf0, hfp0⟩ := kind_at hfs hb0
              have hf1 : 0 < fs.length := (List.getElem?_eq_some_iff.1 hf0).1
              have hk0 : f0.kind = 1 := by have := congrArg EntP.kind hfp0; rw [hbk] at this; exact this
              refine Gs.then_n ?_
              refine Gs.seq ?_
              refine Gs.seq ?_
              refine Gs.reg ?_
              refine Go.Sl.L.pu rfl rfl trivial (pu_move rfl) ?_
              refine Go.Sl.L.pu rfl rfl trivial (pu_ne rfl rfl) ?_
              refine Go.Sl.L.puBf rfl rfl trivial (pu_move rfl) rfl ?_
              refine Go.Sl.L.pu rfl rfl ⟨_, rfl, rfl⟩ (pu_move rfl) ?_
              refine Go.Sl.L.pu rfl rfl ⟨_, rfl, rfl⟩ (pu_eqN Tryz.underlying28 rfl rfl) ?_
              refine Go.Sl.L.pu rfl rfl trivial (by first | exact pu_pick_t rfl rfl | exact pu_pick_f rfl rfl) ?_
              refine Go.Sl.L.puBf rfl rfl trivial (pu_move rfl) rfl ?_
              refine Go.Sl.L.pu rfl rfl ⟨_, rfl, rfl⟩ (pu_move rfl) ?_
              refine Go.Sl.L.ac rfl rfl ⟨_, rfl, rfl⟩ (as_call (plain_spec (es := fs) (erd_elO fa fc fs).1 (by omega)) (by repeat constructor) (by repeat constructor)) ?_
              rintro _ _ ⟨_, ⟨pa, pc, rfl, rfl⟩, rfl⟩
              refine Gs.elOpen (a := fa) (c := fc) (es := fs) (by repeat constructor) ?_
              refine Go.Sl.L.pu rfl rfl ⟨_, rfl, rfl⟩ (pu_move rfl) ?_
              refine Go.Sl.L.ac rfl rfl ⟨_, rfl, rfl⟩ (as_call (sameL_spec (VX := big (fs.map entO)) (VY := U) (a := pa) (b := ta) (ca := pc) (cb := tc) (xs := filterV fs) (ys := want) (fun e he => (evd_entO e).bigs (List.mem_map.2 ⟨e, filterV_mem he, rfl⟩)) (fun e he => hE.2 e (hwm e he)) (by have := filterV_len fs; omega) (fun e he => by have := hfvec e (filterV_mem he); omega)) (by repeat constructor) (by repeat constructor)) ?_
              rintro _ _ ⟨_, ⟨rfl, rfl⟩, rfl⟩
              rw [decide_eq_true hfilt]
              refine Go.Sl.L.pu rfl rfl ⟨_, rfl, rfl⟩ (pu_not rfl) ?_
              refine Go.Sl.L.pu rfl rfl trivial (by first | exact pu_pick_t rfl rfl | exact pu_pick_f rfl rfl) ?_
              refine Go.Sl.L.puBf rfl rfl trivial (pu_move rfl) rfl ?_
              refine Go.Sl.L.pu rfl rfl ⟨_, rfl, rfl⟩ (pu_move rfl) ?_
              refine Go.Sl.L.ac rfl rfl ⟨_, rfl, rfl⟩ (as_call (segsSt_spec (b := g2) (d := d) (n := n) (made := made2) (xs := xs.map syn)) (by repeat constructor) (by repeat constructor)) ?_
              rintro _ _ ⟨_, ⟨rfl, rfl⟩, rfl⟩
              refine Go.Sl.L.pu rfl rfl ⟨_, rfl, rfl⟩ (pu_move rfl) ?_
              refine Go.Sl.L.pu rfl rfl ⟨_, rfl, rfl⟩ (pu_ne rfl rfl) ?_
              refine Go.Sl.L.pu rfl rfl trivial (by first | exact pu_pick_t rfl rfl | exact pu_pick_f rfl rfl) ?_
              refine Go.Sl.L.puBf rfl rfl trivial (pu_move rfl) (decide_eq_false (by rw [List.length_map]; exact fun h => h rfl)) ?_
              refine Go.Sl.L.pu rfl rfl ⟨_, rfl, rfl⟩ (pu_move rfl) ?_
              refine Go.Sl.L.pu rfl rfl ⟨_, rfl, rfl⟩ (pu_len Tryz.underlying22 rfl) ?_
              refine Go.Sl.L.pu rfl rfl ⟨_, rfl, rfl⟩ (pu_move rfl) ?_
              refine Go.Sl.L.pu rfl rfl ⟨_, rfl, rfl⟩ (pu_len Tryz.underlying22 rfl) ?_
              refine Go.Sl.L.pu rfl rfl ⟨_, rfl, rfl⟩ (pu_move rfl) ?_
              refine Go.Sl.L.pu rfl rfl ⟨_, rfl, rfl⟩ (pu_addI (z := ((want.length + xs.length : Nat) : Int)) rfl rfl (by omega) (by omega) (by omega)) ?_
              refine Go.Sl.L.pu rfl rfl ⟨_, rfl, rfl⟩ (pu_ne rfl rfl) ?_
              refine Go.Sl.L.pu rfl rfl trivial (by first | exact pu_pick_t rfl rfl | exact pu_pick_f rfl rfl) ?_
              refine Go.Sl.L.puBf rfl rfl trivial (pu_move rfl) (decide_eq_false (by omega)) ?_
              refine Gs.slAddr (xs := fs) (SlH.own (E := 43) (enc := entC) (sz := 8) (by repeat constructor)) fun fb fo hfa => ?_
              obtain rfl := hfa (by rintro rfl; simp at hf0)
              refine Go.Sl.L.pu rfl rfl ⟨_, rfl, rfl⟩ (pu_move rfl) ?_
              refine Go.Sl.L.pu rfl rfl ⟨_, rfl, rfl⟩ (pu_ia se_22 rfl rfl (by omega) (by omega)) ?_
              refine Go.Sl.L.pu rfl rfl ⟨_, rfl, rfl⟩ (pu_fa fa_43_0 rfl) ?_
              refine Go.Sl.L.rd rfl rfl ⟨_, rfl, rfl⟩ (rd_ld na_3 rfl (Rdc.elp 1 (SlH.own (xs := fs) (E := 43) (enc := entC) (sz := 8) (by repeat constructor)) hf0 rfl rfl)) ?_
              refine Go.Sl.L.pu rfl rfl ⟨_, rfl, rfl⟩ (pu_ne rfl rfl) ?_
              refine Go.Sl.L.pu rfl rfl trivial (by first | exact pu_pick_t rfl rfl | exact pu_pick_f rfl rfl) ?_
              refine Go.Sl.L.nil ?_
              refine Gs.then_n ?_
              refine Gs.cond_ff rfl (decide_eq_false (by rw [hk0]; decide)) ?_
              refine Gs.skip ?_
              refine Gs.then_n ?_
              refine Gs.seq ?_
              refine Gs.elClose (a := some ⟨fb, fo, none⟩) (c := fc) (es := fs) (by repeat constructor) ?_
              refine Gs.reg ?_
              refine Go.Sl.L.pu rfl rfl trivial (pu_move rfl) ?_
              refine Go.Sl.L.ac rfl rfl trivial (as_call (overEntries_spec (es := fs) (by omega) (fun e he => by have := hfvec e he; omega)) (by repeat constructor) (by repeat constructor)) ?_
              rintro _ _ ⟨_, ⟨rfl, rfl⟩, rfl⟩
              refine Go.Sl.L.nil ?_
              refine Gs.then_n ?_
              refine Gs.seq ?_
              refine Gs.reg ?_
              refine Go.Sl.L.pu rfl rfl trivial (pu_move rfl) ?_
              refine Go.Sl.L.pu rfl rfl trivial (pu_move rfl) ?_
              refine Go.Sl.L.ac rfl rfl trivial (as_call (openSt_spec (d := d) (n := n) (most := 60000) (made := made) (xs := xs.map syn) hT h1 h8 (syn_st hst) (by omega) (by rw [List.length_map]; omega)) (by repeat constructor) (by repeat constructor)) ?_
              rintro _ _ ⟨_, ⟨g3, ka, kc, ks, made3, rfl, ⟨hst3, hm3, hks⟩, rfl⟩, rfl⟩
              refine Go.Sl.L.pu rfl rfl trivial (pu_move rfl) ?_
              refine Go.Sl.L.pu rfl rfl trivial (pu_extract rfl rfl) ?_
              refine Go.Sl.L.pu rfl rfl trivial (pu_extract rfl rfl) ?_
              refine Go.Sl.L.pu rfl rfl trivial (pu_extract rfl rfl) ?_
              refine Go.Sl.L.pu rfl rfl trivial (pu_assign rfl) ?_
              refine Go.Sl.L.pu rfl rfl trivial (pu_assign rfl) ?_
              refine Go.Sl.L.nil ?_
              have hkvec := seg_vecs hsyn hks
              rw [syn_flat] at hks
              have hkl := seg_lens hst.inv.good hks
              have hkfilt : plainV (filterV ks) = plainV want := by rw [filterV_plain, hks, hpl]
              refine Gs.then_n ?_
              refine Gs.seq ?_
              refine Gs.reg ?_
              refine Go.Sl.L.pu rfl rfl trivial (pu_move rfl) ?_
              refine Go.Sl.L.pu rfl rfl trivial (pu_eq rfl rfl) ?_
              refine Go.Sl.L.puBt rfl rfl trivial (pu_move rfl) rfl ?_
              refine Go.Sl.L.pu rfl rfl ⟨_, rfl, rfl⟩ (pu_move rfl) ?_
              refine Go.Sl.L.ac rfl rfl ⟨_, rfl, rfl⟩ (as_call (plain_spec (es := ks) (erd_elO ka kc ks).1 (by omega)) (by repeat constructor) (by repeat constructor)) ?_
              rintro _ _ ⟨_, ⟨qa, qc, rfl, rfl⟩, rfl⟩
              refine Gs.elOpen (a := ka) (c := kc) (es := ks) (by repeat constructor) ?_
              refine Go.Sl.L.pu rfl rfl ⟨_, rfl, rfl⟩ (pu_move rfl) ?_
              refine Go.Sl.L.ac rfl rfl ⟨_, rfl, rfl⟩ (as_call (sameL_spec (VX := big (ks.map entO)) (VY := U) (a := qa) (b := ta) (ca := qc) (cb := tc) (xs := filterV ks) (ys := want) (fun e he => (evd_entO e).bigs (List.mem_map.2 ⟨e, filterV_mem he, rfl⟩)) (fun e he => hE.2 e (hwm e he)) (by have := filterV_len ks; omega) (fun e he => by have := hkvec e (filterV_mem he); omega)) (by repeat constructor) (by repeat constructor)) ?_
              rintro _ _ ⟨_, ⟨rfl, rfl⟩, rfl⟩
              rw [decide_eq_true hkfilt]
              refine Go.Sl.L.pu rfl rfl trivial (by first | exact pu_pick_t rfl rfl | exact pu_pick_f rfl rfl) ?_
              refine Go.Sl.L.puBt rfl rfl trivial (pu_move rfl) rfl ?_
              refine Go.Sl.L.ac rfl rfl ⟨_, rfl, rfl⟩ (as_call (awake9_spec hT) (by repeat constructor) (by repeat constructor)) ?_
              rintro _ _ ⟨_, ⟨rfl, rfl⟩, rfl⟩
              refine Go.Sl.L.pu rfl rfl trivial (by first | exact pu_pick_t rfl rfl | exact pu_pick_f rfl rfl) ?_
              refine Go.Sl.L.pu rfl rfl trivial (pu_assign rfl) ?_
              refine Go.Sl.L.nil ?_
              refine Gs.then_n ?_
              refine Gs.ret ?_
              exact Gs.fin1 Tryz.results3 rfl _ (⟨rfl, rfl⟩) (by repeat constructor)
        · skip
          refine Go.Sl.L.pu rfl rfl trivial (pu_move rfl) ?_
          refine Go.Sl.L.pu rfl rfl trivial (pu_extract rfl rfl) ?_
          refine Go.Sl.L.pu rfl rfl trivial (pu_extract rfl rfl) ?_
          refine Go.Sl.L.pu rfl rfl trivial (pu_extract rfl rfl) ?_
          refine Go.Sl.L.pu rfl rfl trivial (pu_assign rfl) ?_
          refine Go.Sl.L.pu rfl rfl trivial (pu_assign rfl) ?_
          refine Go.Sl.L.pu rfl rfl trivial (pu_assign rfl) ?_
          refine Go.Sl.L.nil ?_
          refine Gs.then_n ?_
          refine Gs.seq ?_
          refine Gs.seq ?_
          refine Gs.reg ?_
          refine Go.Sl.L.pu rfl rfl trivial (pu_move rfl) ?_
          refine Go.Sl.L.ac rfl rfl trivial (as_call (many3_spec n) (by repeat constructor) (by repeat constructor)) ?_
          rintro _ _ ⟨_, ⟨rfl, rfl⟩, rfl⟩
          rw [hmb]
          refine Go.Sl.L.pu rfl rfl trivial (pu_not rfl) ?_
          refine Go.Sl.L.nil ?_
          refine Gs.then_n ?_
          refine Gs.cond_t rfl ?_
          refine Gs.seq ?_
          refine Gs.reg ?_
          refine Go.Sl.L.pu rfl rfl trivial (pu_move rfl) ?_
          refine Go.Sl.L.pu rfl rfl trivial (pu_eqN Tryz.underlying28 rfl rfl) ?_
          refine Go.Sl.L.puBt rfl rfl trivial (pu_move rfl) rfl ?_
          refine Go.Sl.L.pu rfl rfl ⟨_, rfl, rfl⟩ (pu_move rfl) ?_
          refine Go.Sl.L.pu rfl rfl ⟨_, rfl, rfl⟩ (pu_eq rfl rfl) ?_
          refine Go.Sl.L.pu rfl rfl trivial (by first | exact pu_pick_t rfl rfl | exact pu_pick_f rfl rfl) ?_
          refine Go.Sl.L.puBt rfl rfl trivial (pu_move rfl) rfl ?_
          refine Go.Sl.L.ac rfl rfl ⟨_, rfl, rfl⟩ (as_call (awake9_spec hT) (by repeat constructor) (by repeat constructor)) ?_
          rintro _ _ ⟨_, ⟨rfl, rfl⟩, rfl⟩
          refine Go.Sl.L.pu rfl rfl trivial (by first | exact pu_pick_t rfl rfl | exact pu_pick_f rfl rfl) ?_
          refine Go.Sl.L.pu rfl rfl trivial (pu_assign rfl) ?_
          refine Go.Sl.L.nil ?_
          refine Gs.then_n ?_
          refine Gs.ret ?_
          refine Gs.then_r ?_
          exact Gs.fin1 Tryz.results3 rfl _ (⟨rfl, rfl⟩) (by repeat constructor)
end Go.Proofs.YtjaafkakeccniaaGreatDoor
