/- Walk: ledger.Trim. -/
import Derived.Test.YtjaafkakeccniaaGreatDoorLgt
namespace Go.Proofs.YtjaafkakeccniaaGreatDoor
open Go Go.Sl Go.Gv Go.Dv Go.Bst
set_option maxRecDepth 100000
theorem trimL_one (w : List Int) (p : Pa) (D : List Fl) (k : Nat) : trimL w [p] D k = ⟨k, [p], D⟩ := by rw [trimL]; intro _ _ _ h; cases h
theorem trimL_nil (w : List Int) (D : List Fl) (k : Nat) : trimL w [] D k = ⟨k, [], D⟩ := by rw [trimL]; intro _ _ _ h; cases h
theorem trimL_short {w : List Int} {ps : List Pa} (h : ps.length ≤ 1) (D : List Fl) (k : Nat) : trimL w ps D k = ⟨k, ps, D⟩ := by
  match ps, h with
  | [], _ => exact trimL_nil ..
  | [p], _ => exact trimL_one ..
  | _ :: _ :: _, h => simp at h
theorem trimL_stop {w : List Int} {p : Pa} {ps : List Pa} (D : List Fl) (k : Nat) (h : (goneB p.t w && lastsB D (p :: ps)) = false) : trimL w (p :: ps) D k = ⟨k, p :: ps, D⟩ := by
  cases ps with
  | nil => exact trimL_one ..
  | cons q ps => rw [trimL, if_neg (by rw [h]; decide)]
theorem trimL_go {w : List Int} {p : Pa} {ps : List Pa} (D : List Fl) (k : Nat) (hl : 1 ≤ ps.length) (h : (goneB p.t w && lastsB D (p :: ps)) = true) : trimL w (p :: ps) D k = trimL w ps (del D p.n) (k + 1) := by
  cases ps with
  | nil => simp at hl
  | cons q ps => rw [trimL, if_pos h]
theorem map_cons_inv {α β : Type} {f : α → β} {P : List α} {p : β} {ps : List β} (h : P.map f = p :: ps) : ∃ x Q, P = x :: Q ∧ f x = p ∧ Q.map f = ps := by
  obtain ⟨x, Q, h1, h2, h3⟩ := List.map_eq_cons_iff.1 h
  exact ⟨x, Q, h1, h2, h3⟩
theorem trim_spec {b d : Nat} {n most : Int} {made : Nat} {ps : List Pa} {D : List Fl} {U : HProp} {wa : Option Addr} {wc : Nat} {w : List Int} (hU : Srd U 1 intC wa w) (hps : ps.length ≤ 900) (ht : ∀ p ∈ ps, p.t.length ≤ 1000) :
    Ct Tryz.prog 27 [ptr b, .slice wa w.length wc] [lgr b d n ⟨made, ps⟩, drv d most D, U]
      (fun v hs => v = int ((trimL w ps D 0).k : Nat) ∧ hs = [lgr b d n ⟨made, (trimL w ps D 0).ps⟩, drv d most (trimL w ps D 0).D, U]) := by
  obtain ⟨A, hA⟩ : ∃ A, A = trimL w ps D 0 := ⟨_, rfl⟩
  rw [← hA]
  refine Ct.intro Tryz.func27 rfl (by kernel_rfl) 53 Tryz.ntmps27 (Nat.le_of_ble_eq_true rfl) fun w0 R => ?_
  refine Gs.seq ?_
  refine Gs.reg ?_
  refine Go.Sl.L.pu rfl rfl trivial (pu_assign rfl) ?_
  refine Go.Sl.L.nil ?_
  refine Gs.then_n ?_
  refine Gs.seq ?_
  refine Gs.reg ?_
  refine Go.Sl.L.pu rfl rfl trivial (pu_assign rfl) ?_
  refine Go.Sl.L.nil ?_
  refine Gs.then_n ?_
  refine Gs.seq ?_
  refine Gs.block ?_
  refine Gs.loop1 (fun s : Nat × List Pa × List Fl => trimL w s.2.1 s.2.2 s.1 = A ∧ s.1 + s.2.1.length ≤ 900 ∧ ∀ p ∈ s.2.1, p.t.length ≤ 1000) (fun s => [(0, ptr b), (1, .slice wa w.length wc), (5, int s.1)]) (fun s => [lgr b d n ⟨made, s.2.1⟩, drv d most s.2.2, U] ++ R) (fun s => s.2.1.length) (0, ps, D) (⟨hA.symm, by show 0 + ps.length ≤ 900; omega, ht⟩) (by repeat constructor) (by repeat constructor) (fun s hs => ?_)
  obtain ⟨k, qs, E⟩ := s
  obtain ⟨hst, hkl, htq⟩ := hs
  dsimp only at hst hkl htq ⊢
  refine Gs.lgOpen (b := b) (d := d) (n := n) (made := made) (ps := qs) (by repeat constructor) fun pa pc P hP => ?_
  have hPl : P.length = qs.length := by rw [← hP, List.length_map]
  refine Gs.seq ?_
  refine Gs.seq ?_
  refine Gs.reg ?_
  refine Go.Sl.L.pu rfl rfl trivial (pu_move rfl) ?_
  refine Go.Sl.L.pu rfl rfl trivial (pu_neN Tryz.underlying28 rfl rfl) ?_
  refine Go.Sl.L.puBt rfl rfl trivial (pu_move rfl) rfl ?_
  refine Go.Sl.L.pu rfl rfl ⟨_, rfl, rfl⟩ (pu_move rfl) ?_
  refine Go.Sl.L.pu rfl rfl ⟨_, rfl, rfl⟩ (by first | exact pu_nil rfl | exact pu_nilF rfl) ?_
  refine Go.Sl.L.pu rfl rfl ⟨_, rfl, rfl⟩ (pu_fa fa_65_3 rfl) ?_
  refine Go.Sl.L.rd rfl rfl ⟨_, rfl, rfl⟩ (rd_ld na_63 rfl (Rdc.cl1 (by repeat constructor) rfl)) ?_
  refine Go.Sl.L.pu rfl rfl ⟨_, rfl, rfl⟩ (pu_len Tryz.underlying63 rfl) ?_
  refine Go.Sl.L.pu rfl rfl ⟨_, rfl, rfl⟩ (pu_gt rfl rfl) ?_
  refine Go.Sl.L.pu rfl rfl trivial (by first | exact pu_pick_t rfl rfl | exact pu_pick_f rfl rfl) ?_
  refine Go.Sl.L.puB rfl rfl trivial (pu_move rfl) (fun hg10 => ?_) (fun hg10 => ?_)
  · skip
    have hl2 : 1 < qs.length := by have := of_decide_eq_true hg10; omega
    obtain ⟨p, qs', hq⟩ : ∃ p qs', qs = p :: qs' := by
      cases qs with
      | nil => simp at hl2
      | cons p qs' => exact ⟨p, qs', rfl⟩
    subst hq
    obtain ⟨x, P', rfl, hx, hP'⟩ := map_cons_inv hP
    obtain rfl : x.p = p := hx
    obtain ⟨xp, xa, xc⟩ := x
    dsimp only at hst hkl htq hl2 hP hP' hPl
    have hkl' : k + (qs'.length + 1) ≤ 900 := by rw [← List.length_cons (a := xp)]; exact hkl
    have hl3 : 1 ≤ qs'.length := by rw [List.length_cons] at hl2; omega
    have hx0 : ((⟨xp, xa, xc⟩ :: P' : List PaV))[0]? = some ⟨xp, xa, xc⟩ := rfl
    refine Gs.slAddr (xs := (⟨xp, xa, xc⟩ :: P' : List PaV)) (SlH.own (E := 83) (enc := paC) (by repeat constructor)) fun pb po hpa => ?_
    obtain rfl := hpa (by simp)
    refine Go.Sl.L.pu rfl rfl ⟨_, rfl, rfl⟩ (pu_move rfl) ?_
    refine Go.Sl.L.pu rfl rfl ⟨_, rfl, rfl⟩ (by first | exact pu_nil rfl | exact pu_nilF rfl) ?_
    refine Go.Sl.L.pu rfl rfl ⟨_, rfl, rfl⟩ (pu_fa fa_65_3 rfl) ?_
    refine Go.Sl.L.rd rfl rfl ⟨_, rfl, rfl⟩ (rd_ld na_63 rfl (Rdc.cl1 (by repeat constructor) rfl)) ?_
    refine Go.Sl.L.pu rfl rfl ⟨_, rfl, rfl⟩ (pu_ia se_63 rfl rfl (by omega) (by omega)) ?_
    refine Go.Sl.L.rd rfl rfl ⟨_, rfl, rfl⟩ (rd_lda ag_83 rfl (Rdc.el0 (SlH.own (xs := (⟨xp, xa, xc⟩ :: P' : List PaV)) (E := 83) (enc := paC) (sz := 3) (by repeat constructor)) hx0 rfl rfl) rfl) ?_
    refine Go.Sl.L.pu rfl rfl ⟨_, rfl, rfl⟩ (pu_move rfl) ?_
    rw [List.map_cons]
    refine Gs.takes (As := [big (topO ⟨xp, xa, xc⟩ :: P'.map topO)]) (by repeat constructor) (Gs.bigTake .hd ?_)
    refine Go.Sl.L.ac rfl rfl ⟨_, rfl, rfl⟩ (as_call (gone_spec (S := topO ⟨xp, xa, xc⟩) (U := U) (nm := xp.n) (z := (xp.z : Nat)) (a := xa) (c := xc) (t := xp.t) Srd.own hU (htq xp (by simp))) (by repeat constructor) (by repeat constructor)) ?_
    rintro _ _ ⟨_, ⟨rfl, rfl⟩, rfl⟩
    refine Gs.takes (As := [topO ⟨xp, xa, xc⟩, big (P'.map topO)]) (by repeat constructor) (Gs.bigBack (L := topO ⟨xp, xa, xc⟩ :: P'.map topO) .hd ?_)
    rw [← List.map_cons]
    refine Gs.lgClose (b := b) (d := d) (n := n) (made := made) (ps := xp :: qs') (P := (⟨xp, xa, xc⟩ :: P' : List PaV)) (a := some ⟨pb, po, none⟩) (c := pc) (by repeat constructor) rfl hP ?_
    refine Go.Sl.L.pu rfl rfl trivial (by first | exact pu_pick_t rfl rfl | exact pu_pick_f rfl rfl) ?_
    refine Go.Sl.L.puB rfl rfl trivial (pu_move rfl) (fun hg20 => ?_) (fun hg20 => ?_)
    · skip
      refine Go.Sl.L.pu rfl rfl ⟨_, rfl, rfl⟩ (pu_move rfl) ?_
      refine Go.Sl.L.ac rfl rfl ⟨_, rfl, rfl⟩ (as_call (lasts_spec (b := b) (d := d) (n := n) (made := made) (ps := xp :: qs') (by simp) (by rw [List.length_cons]; omega)) (by repeat constructor) (by repeat constructor)) ?_
      rintro _ _ ⟨_, ⟨rfl, rfl⟩, rfl⟩
      refine Go.Sl.L.pu rfl rfl trivial (by first | exact pu_pick_t rfl rfl | exact pu_pick_f rfl rfl) ?_
      refine Go.Sl.L.nil ?_
      refine Gs.then_n ?_
      refine Gs.cond rfl (fun hc0 => ?_) (fun hc0 => ?_)
      · skip
        have hgo : trimL w qs' (del E xp.n) (k + 1) = A := by rw [← hst]; exact (trimL_go E k hl3 (by rw [hg20, hc0]; rfl)).symm
        refine Gs.lgOpen (b := b) (d := d) (n := n) (made := made) (ps := xp :: qs') (by repeat constructor) fun pa2 pc2 P2 hP2 => ?_
        obtain ⟨⟨yp, ya, yc⟩, Q, rfl, hy, hQ⟩ := map_cons_inv hP2
        obtain rfl : yp = xp := hy
        have hy0 : ((⟨yp, ya, yc⟩ :: Q : List PaV))[0]? = some ⟨yp, ya, yc⟩ := rfl
        refine Gs.slAddr (xs := (⟨yp, ya, yc⟩ :: Q : List PaV)) (SlH.own (E := 83) (enc := paC) (by repeat constructor)) fun pb2 po2 hpa2 => ?_
        obtain rfl := hpa2 (by simp)
        refine Gs.skip ?_
        refine Gs.then_n ?_
        refine Gs.block ?_
        refine Gs.seq ?_
        refine Gs.regD mixed (by kernel_rfl) ?_
        refine Rg.pu 0 rfl rfl (by kernel_rfl) trivial (pu_move rfl) ?_
        refine Rg.pu 1 rfl rfl (by kernel_rfl) trivial (by first | exact pu_nil rfl | exact pu_nilF rfl) ?_
        refine Rg.pu 2 rfl rfl (by kernel_rfl) trivial (pu_fa fa_65_0 rfl) ?_
        refine Rg.rd 3 rfl rfl (by kernel_rfl) trivial (rd_ld na_26 rfl (Rdc.cl1 (by repeat constructor) rfl)) ?_
        refine Rg.pu 4 rfl rfl (by kernel_rfl) trivial (pu_move rfl) ?_
        refine Rg.pu 5 rfl rfl (by kernel_rfl) trivial (by first | exact pu_nil rfl | exact pu_nilF rfl) ?_
        refine Rg.pu 6 rfl rfl (by kernel_rfl) trivial (pu_fa fa_65_3 rfl) ?_
        refine Rg.rd 7 rfl rfl (by kernel_rfl) trivial (rd_ld na_63 rfl (Rdc.cl1 (by repeat constructor) rfl)) ?_
        refine Rg.pu 8 rfl rfl (by kernel_rfl) trivial (pu_ia se_63 rfl rfl (by decide) (by simp)) ?_
        refine Rg.pu 9 rfl rfl (by kernel_rfl) trivial (pu_fa fa_83_0 rfl) ?_
        refine Rg.rd 10 rfl rfl (by kernel_rfl) trivial (rd_ld na_9 rfl (Rdc.elp 1 (SlH.own (xs := (⟨yp, ya, yc⟩ :: Q : List PaV)) (E := 83) (enc := paC) (sz := 3) (by repeat constructor)) hy0 rfl rfl)) ?_
        refine Rg.one (by kernel_rfl) (Stp.ac 11 rfl rfl (by kernel_rfl) trivial (as_call (remove_spec d most E yp.n) (by repeat constructor) (by repeat constructor))  ?_)
        rintro _ _ ⟨_, ⟨rfl, rfl⟩, rfl⟩
        refine Rg.end (by kernel_rfl) ?_
        refine Gs.then_n ?_
        refine Gs.seq ?_
        refine Gs.reg ?_
        refine Go.Sl.L.pu rfl rfl trivial (pu_move rfl) ?_
        refine Go.Sl.L.pu rfl rfl trivial (pu_move rfl) ?_
        refine Go.Sl.L.pu rfl rfl trivial (by first | exact pu_nil rfl | exact pu_nilF rfl) ?_
        refine Go.Sl.L.pu rfl rfl trivial (pu_fa fa_65_3 rfl) ?_
        refine Go.Sl.L.rd rfl rfl trivial (rd_ld na_63 rfl (Rdc.cl1 (by repeat constructor) rfl)) ?_
        refine Go.Sl.L.pu rfl rfl trivial (pu_sliceL et_63 rfl rfl (by decide) (by simp; omega)) ?_
        refine Go.Sl.L.pu rfl rfl trivial (by first | exact pu_nil rfl | exact pu_nilF rfl) ?_
        refine Go.Sl.L.pu rfl rfl trivial (pu_fa fa_65_3 rfl) ?_
        refine Go.Sl.L.ac0 rfl trivial (ac_st sz_63 rfl rfl (by repeat constructor) rfl rfl rfl rfl) ?_
        rintro _ _ rfl
        refine Go.Sl.L.nil ?_
        refine Gs.slTail (E := 83) (sz := 3) (enc := paC) (a := some ⟨pb2, po2, none⟩) (c := pc2) (x := ⟨yp, ya, yc⟩) (xs := Q) (by repeat constructor) ?_
        rw [List.map_cons]
        refine Gs.takes (As := [big (topO ⟨yp, ya, yc⟩ :: Q.map topO)]) (by repeat constructor) (Gs.bigTake .hd ?_)
        refine Gs.lgClose (b := b) (d := d) (n := n) (made := made) (ps := qs') (P := Q) (a := suba (some ⟨pb2, po2, none⟩) 1 pc2 3) (c := pc2 - 1) (by repeat constructor) (by simp) hQ ?_
        refine Gs.then_n ?_
        refine Gs.reg ?_
        refine Go.Sl.L.pu rfl rfl trivial (pu_move rfl) ?_
        refine Go.Sl.L.pu rfl rfl trivial (pu_addI (z := ((k + 1 : Nat) : Int)) rfl rfl (by omega) (by omega) (by omega)) ?_
        refine Go.Sl.L.pu rfl rfl trivial (pu_assign rfl) ?_
        refine Go.Sl.L.nil ?_
        refine Gs.blk_n ?_
        refine Gs.then_n ?_
        exact Gs.again1 (k + 1, qs', del E yp.n) ⟨hgo, by show k + 1 + qs'.length ≤ 900; rw [List.length_cons] at hkl; omega, fun p hp => htq p (by simp [hp])⟩ (by show qs'.length < (yp :: qs').length; simp) (by repeat constructor) (by repeat constructor)
      · skip
        have hfin : A = ⟨k, xp :: qs', E⟩ := by rw [← hst]; exact trimL_stop E k (by rw [hc0, Bool.and_false])
        refine Gs.exit ?_
        refine Gs.then_x ?_
        refine Gs.then_x ?_
        refine Gs.blk_hit ?_
        refine Gs.then_n ?_
        refine Gs.seq ?_
        refine Gs.reg ?_
        refine Go.Sl.L.pu rfl rfl trivial (pu_move rfl) ?_
        refine Go.Sl.L.pu rfl rfl trivial (pu_assign rfl) ?_
        refine Go.Sl.L.nil ?_
        refine Gs.then_n ?_
        refine Gs.ret ?_
        exact Gs.fin1 Tryz.results27 rfl _ (⟨by rw [hfin], by rw [hfin]⟩) (by repeat constructor)
    · skip
      have hfin : A = ⟨k, xp :: qs', E⟩ := by rw [← hst]; exact trimL_stop E k (by rw [hg20]; rfl)
      refine Go.Sl.L.off rfl rfl rfl rfl rfl rfl ?_
      refine Go.Sl.L.off rfl rfl rfl rfl rfl rfl ?_
      refine Go.Sl.L.pu rfl rfl trivial (by first | exact pu_pick_t rfl rfl | exact pu_pick_f rfl rfl) ?_
      refine Go.Sl.L.nil ?_
      refine Gs.then_n ?_
      refine Gs.cond_f rfl ?_
      refine Gs.exit ?_
      refine Gs.then_x ?_
      refine Gs.then_x ?_
      refine Gs.blk_hit ?_
      refine Gs.then_n ?_
      refine Gs.seq ?_
      refine Gs.reg ?_
      refine Go.Sl.L.pu rfl rfl trivial (pu_move rfl) ?_
      refine Go.Sl.L.pu rfl rfl trivial (pu_assign rfl) ?_
      refine Go.Sl.L.nil ?_
      refine Gs.then_n ?_
      refine Gs.ret ?_
      exact Gs.fin1 Tryz.results27 rfl _ (⟨by rw [hfin], by rw [hfin]⟩) (by repeat constructor)
  · skip
    have hshort : qs.length ≤ 1 := by have := of_decide_eq_false hg10; omega
    have hfin : A = ⟨k, qs, E⟩ := by rw [← hst]; exact trimL_short hshort ..
    refine Gs.lgClose (b := b) (d := d) (n := n) (made := made) (ps := qs) (P := P) (a := pa) (c := pc) (by repeat constructor) rfl hP ?_
    refine Go.Sl.L.off rfl rfl rfl rfl rfl rfl ?_
    refine Go.Sl.L.off rfl rfl rfl rfl rfl rfl ?_
    refine Go.Sl.L.off rfl rfl rfl rfl rfl rfl ?_
    refine Go.Sl.L.off rfl rfl rfl rfl rfl rfl ?_
    refine Go.Sl.L.off rfl rfl rfl rfl rfl rfl ?_
    refine Go.Sl.L.off rfl rfl rfl rfl rfl rfl ?_
    refine Go.Sl.L.off rfl rfl rfl rfl rfl rfl ?_
    refine Go.Sl.L.off rfl rfl rfl rfl rfl rfl ?_
    refine Go.Sl.L.pu rfl rfl trivial (by first | exact pu_pick_t rfl rfl | exact pu_pick_f rfl rfl) ?_
    refine Go.Sl.L.pu rfl rfl trivial (pu_move rfl) ?_
    refine Go.Sl.L.off rfl rfl rfl rfl rfl rfl ?_
    refine Go.Sl.L.off rfl rfl rfl rfl rfl rfl ?_
    refine Go.Sl.L.pu rfl rfl trivial (by first | exact pu_pick_t rfl rfl | exact pu_pick_f rfl rfl) ?_
    refine Go.Sl.L.nil ?_
    refine Gs.then_n ?_
    refine Gs.cond_f rfl ?_
    refine Gs.exit ?_
    refine Gs.then_x ?_
    refine Gs.then_x ?_
    refine Gs.blk_hit ?_
    refine Gs.then_n ?_
    refine Gs.seq ?_
    refine Gs.reg ?_
    refine Go.Sl.L.pu rfl rfl trivial (pu_move rfl) ?_
    refine Go.Sl.L.pu rfl rfl trivial (pu_assign rfl) ?_
    refine Go.Sl.L.nil ?_
    refine Gs.then_n ?_
    refine Gs.ret ?_
    exact Gs.fin1 Tryz.results27 rfl _ (⟨by rw [hfin], by rw [hfin]⟩) (by repeat constructor)
end Go.Proofs.YtjaafkakeccniaaGreatDoor
