/- Walk: LedgerTrims. A trimming takes whole segments of what is gone, and no others. -/
import Derived.Test.YtjaafkakeccniaaGreatDoorLtr
namespace Go.Proofs.YtjaafkakeccniaaGreatDoor
open Go Go.Sl Go.Gv Go.Dv Go.Bst
set_option maxRecDepth 100000
theorem sameI_spec {L : List HProp} {a b : Option Addr} {c d : Nat} {xs ys : List Int} (hS : Srd (big L) 1 intC a xs) (hU : Srd (big L) 1 intC b ys) (hl : xs.length ≤ 1000000) :
    Ct Tryz.prog 28 [.slice a xs.length c, .slice b ys.length d] L (fun v hs => v = .bool (decide (xs = ys)) ∧ hs = L) := by
  have h := sameInts_spec (S := big L) (a := a) (b := b) (c := c) (d := d) (xs := xs) (ys := ys) hS hU hl
  exact (Ct.bigs h fun v hs hh => ⟨[], hh.2⟩).mono fun v hs ⟨r, ⟨e1, e2⟩, e3⟩ => ⟨e1, by cases e2; rw [e3, List.append_nil]⟩
set_option maxHeartbeats 2000000 in
theorem trims9_spec {Tx : HProp} (hT : RMs Tx) (many upto : Int) (text : ByteArray) :
    Ct Tryz.prog 8 [int many, int upto, .string text] [Tx] (fun r hs => r = .bool true ∧ hs = [Tx]) := by
  obtain ⟨hm0, hm1⟩ := lowZ_in (a := many) (b := 41) (by decide) (by decide)
  obtain ⟨mz, hmz⟩ : ∃ z, z = lowZ many 41 := ⟨_, rfl⟩
  rw [← hmz] at hm0 hm1
  obtain ⟨hu0, hu1⟩ := lowZ_in (a := upto) (b := 45) (by decide) (by decide)
  obtain ⟨u, hu⟩ : ∃ u : Nat, (u : Int) = lowZ upto 45 := ⟨(lowZ upto 45).toNat, Int.toNat_of_nonneg hu0⟩
  rw [← hu] at hu0 hu1
  have hst0 : St 1 1 [newSeg 1 1] := newSeg_st (by decide) (by decide) (by decide)
  have hus0 : usedS [newSeg 1 1] ≤ 46 := by
    have e : layS [zeroB 1] = layE (zeroB 1) := by simp [layS]
    show (layS [zeroB 1]).length + 0 ≤ 46
    rw [e]; exact zeroB_len (by decide) (by decide)
  refine Ct.intro Tryz.func8 rfl (by kernel_rfl) 183 Tryz.ntmps8 (Nat.le_of_ble_eq_true rfl) fun w0 R => ?_
  refine Gs.seq ?_
  refine Gs.reg ?_
  refine Go.Sl.L.pu rfl rfl trivial (pu_assign rfl) ?_
  refine Go.Sl.L.nil ?_
  refine Gs.then_n ?_
  refine Gs.seq ?_
  refine Gs.reg ?_
  refine Go.Sl.L.pu rfl rfl trivial (pu_move rfl) ?_
  refine Go.Sl.L.ac rfl rfl trivial (as_call (low_spec many 41 (by decide) (by decide)) (by repeat constructor) (by repeat constructor)) ?_
  rintro _ _ ⟨_, ⟨rfl, rfl⟩, rfl⟩
  rw [← hmz]
  refine Go.Sl.L.pu rfl rfl trivial (pu_move rfl) ?_
  refine Go.Sl.L.ac rfl rfl trivial (as_call (low_spec upto 45 (by decide) (by decide)) (by repeat constructor) (by repeat constructor)) ?_
  rintro _ _ ⟨_, ⟨rfl, rfl⟩, rfl⟩
  rw [← hu]
  refine Go.Sl.L.pu rfl rfl trivial (pu_assign rfl) ?_
  refine Go.Sl.L.pu rfl rfl trivial (pu_assign rfl) ?_
  refine Go.Sl.L.nil ?_
  refine Gs.then_n ?_
  refine Gs.seq ?_
  refine Gs.seq ?_
  refine Gs.reg ?_
  refine Go.Sl.L.pu rfl rfl trivial (pu_move rfl) ?_
  refine Go.Sl.L.pu rfl rfl trivial (pu_lenS Tryz.underlying9 rfl) ?_
  refine Go.Sl.L.pu rfl rfl trivial (pu_gt rfl rfl) ?_
  refine Go.Sl.L.puB rfl rfl trivial (pu_move rfl) (fun hg3 => ?_) (fun hg3 => ?_)
  · skip
    refine Go.Sl.L.off rfl rfl rfl rfl rfl rfl ?_
    refine Go.Sl.L.off rfl rfl rfl rfl rfl rfl ?_
    refine Go.Sl.L.off rfl rfl rfl rfl rfl rfl ?_
    refine Go.Sl.L.off rfl rfl rfl rfl rfl rfl ?_
    refine Go.Sl.L.off rfl rfl rfl rfl rfl rfl ?_
    refine Go.Sl.L.off rfl rfl rfl rfl rfl rfl ?_
    refine Go.Sl.L.pu rfl rfl trivial (by first | exact pu_pick_t rfl rfl | exact pu_pick_f rfl rfl) ?_
    refine Go.Sl.L.nil ?_
    refine Gs.then_n ?_
    refine Gs.cond_t rfl ?_
    refine Gs.seq ?_
    refine Gs.reg ?_
    refine Go.Sl.L.ac rfl rfl trivial (as_call (awake9_spec hT) (by repeat constructor) (by repeat constructor)) ?_
    rintro _ _ ⟨_, ⟨rfl, rfl⟩, rfl⟩
    refine Go.Sl.L.pu rfl rfl trivial (pu_assign rfl) ?_
    refine Go.Sl.L.nil ?_
    refine Gs.then_n ?_
    refine Gs.ret ?_
    refine Gs.then_r ?_
    exact Gs.fin1 Tryz.results8 rfl _ (⟨rfl, rfl⟩) (by repeat constructor)
  · skip
    refine Go.Sl.L.pu rfl rfl ⟨_, rfl, rfl⟩ (pu_build bd_37 (by repeat constructor) rfl) ?_
    refine Go.Sl.L.pu rfl rfl ⟨_, rfl, rfl⟩ (pu_move rfl) ?_
    refine Go.Sl.L.pu rfl rfl ⟨_, rfl, rfl⟩ (pu_build bd_41 (by repeat constructor) rfl) ?_
    refine Go.Sl.L.pu rfl rfl ⟨_, rfl, rfl⟩ (pu_build bd_43 (by repeat constructor) rfl) ?_
    refine Go.Sl.L.ac rfl rfl ⟨_, rfl, rfl⟩ (as_call (segMay8_spec (e := recV 1 0 text) ⟨Srd.nil, Srd.nil⟩ hT 1) (by repeat constructor) (by repeat constructor)) ?_
    rintro _ _ ⟨_, ⟨rfl, rfl⟩, rfl⟩
    refine Go.Sl.L.pu rfl rfl ⟨_, rfl, rfl⟩ (pu_not rfl) ?_
    refine Go.Sl.L.pu rfl rfl trivial (by first | exact pu_pick_t rfl rfl | exact pu_pick_f rfl rfl) ?_
    refine Go.Sl.L.nil ?_
    refine Gs.then_n ?_
    refine Gs.cond rfl (fun hc0 => ?_) (fun hc0 => ?_)
    · skip
      refine Gs.seq ?_
      refine Gs.reg ?_
      refine Go.Sl.L.ac rfl rfl trivial (as_call (awake9_spec hT) (by repeat constructor) (by repeat constructor)) ?_
      rintro _ _ ⟨_, ⟨rfl, rfl⟩, rfl⟩
      refine Go.Sl.L.pu rfl rfl trivial (pu_assign rfl) ?_
      refine Go.Sl.L.nil ?_
      refine Gs.then_n ?_
      refine Gs.ret ?_
      refine Gs.then_r ?_
      exact Gs.fin1 Tryz.results8 rfl _ (⟨rfl, rfl⟩) (by repeat constructor)
    · skip
      have htx : textB text = true := by
        have h := hc0
        rw [rec_may (by decide) (by decide) (by decide) (by decide)] at h
        simpa using h
      refine Gs.skip ?_
      refine Gs.then_n ?_
      refine Gs.seq ?_
      refine Gs.reg ?_
      refine Go.Sl.L.ac rfl rfl trivial (as_call (drvNew_ok 60000 (by decide) (by decide)) (by repeat constructor) (by repeat constructor)) ?_
      rintro _ _ ⟨_, ⟨d, rfl, rfl⟩, rfl⟩
      refine Go.Sl.L.pu rfl rfl trivial (pu_assign rfl) ?_
      refine Go.Sl.L.nil ?_
      refine Gs.then_n ?_
      refine Gs.seq ?_
      refine Gs.reg ?_
      refine Go.Sl.L.pu rfl rfl trivial (pu_move rfl) ?_
      refine Go.Sl.L.ac rfl rfl trivial (as_call (openNew_spec (d := d) (n := 1) (most := 60000) hT (by decide) (by decide) (by decide)) (by repeat constructor) (by repeat constructor)) ?_
      rintro _ _ ⟨_, ⟨g, oa, oc, os, rfl, hos, rfl⟩, rfl⟩
      refine Go.Sl.L.pu rfl rfl trivial (pu_move rfl) ?_
      refine Go.Sl.L.pu rfl rfl trivial (pu_extract rfl rfl) ?_
      refine Go.Sl.L.pu rfl rfl trivial (pu_extract rfl rfl) ?_
      refine Go.Sl.L.pu rfl rfl trivial (pu_extract rfl rfl) ?_
      refine Go.Sl.L.pu rfl rfl trivial (pu_assign rfl) ?_
      refine Go.Sl.L.pu rfl rfl trivial (pu_assign rfl) ?_
      refine Go.Sl.L.pu rfl rfl trivial (pu_assign rfl) ?_
      refine Go.Sl.L.nil ?_
      refine Gs.then_n ?_
      refine Gs.seq ?_
      refine Gs.seq ?_
      refine Gs.reg ?_
      refine Go.Sl.L.pu rfl rfl trivial (pu_move rfl) ?_
      refine Go.Sl.L.pu rfl rfl trivial (pu_eqN Tryz.underlying28 rfl rfl) ?_
      refine Go.Sl.L.puBf rfl rfl trivial (pu_move rfl) rfl ?_
      refine Go.Sl.L.pu rfl rfl ⟨_, rfl, rfl⟩ (pu_move rfl) ?_
      refine Go.Sl.L.pu rfl rfl ⟨_, rfl, rfl⟩ (pu_ne rfl rfl) ?_
      refine Go.Sl.L.pu rfl rfl trivial (by first | exact pu_pick_t rfl rfl | exact pu_pick_f rfl rfl) ?_
      refine Go.Sl.L.nil ?_
      refine Gs.then_n ?_
      refine Gs.cond_ff rfl rfl ?_
      refine Gs.skip ?_
      refine Gs.then_n ?_
      refine Gs.seq ?_
      refine Gs.reg ?_
      refine Go.Sl.L.pu rfl rfl trivial (pu_assign rfl) ?_
      refine Go.Sl.L.nil ?_
      refine Gs.slNil 43 8 entC ?_
      refine Gs.then_n ?_
      refine Gs.seq ?_
      refine Gs.seq ?_
      refine Gs.reg ?_
      refine Go.Sl.L.pu rfl rfl trivial (pu_assign rfl) ?_
      refine Go.Sl.L.nil ?_
      refine Gs.then_n ?_
      refine Gs.block ?_
      refine Gs.loop1 (fun s : Nat × Nat × List Seg × List EntV × Option Addr × Nat => St 1 s.2.1 s.2.2.1 ∧ Chain text 0 s.2.2.1 s.1 ∧ s.2.1 ≤ s.1 + 1 ∧ s.2.2.1.length ≤ s.1 + 1 ∧ usedS s.2.2.1 ≤ 46 + 190 * s.1 ∧ plainV s.2.2.2.1 = recsR text 0 s.1 ∧ (s.1 : Int) ≤ mz) (fun s => [(0, int mz), (1, int u), (2, .string text), (7, ptr d), (8, ptr g), (11, .slice s.2.2.2.2.1 s.2.2.2.1.length s.2.2.2.2.2), (12, int (s.1 + 1 : Nat))]) (fun s => [lgr g d 1 ⟨s.2.1, s.2.2.1.map (segP 1)⟩, drv d 60000 (s.2.2.1.map segF), Tx, sl 43 8 entC s.2.2.2.2.1 s.2.2.2.2.2 s.2.2.2.1] ++ R) (fun s => 40 - s.1) (0, 1, [newSeg 1 1], [], none, 0) (⟨hst0, chain_new 1, Nat.le_refl _, Nat.le_refl _, hus0, rfl, hm0⟩) (by repeat constructor) (by repeat constructor) (fun s hs => ?_)
      obtain ⟨j, made, xs, want, ta, tc⟩ := s
      obtain ⟨hst, hC, hmade, hlen, hus, hpl, hj⟩ := hs
      dsimp only at hst hC hmade hlen hus hpl hj ⊢
      have hwl : want.length = j := by have := congrArg List.length hpl; rwa [List.length_map, recs_len] at this
      refine Gs.seq ?_
      refine Gs.seq ?_
      refine Gs.reg ?_
      refine Go.Sl.L.pu rfl rfl trivial (pu_move rfl) ?_
      refine Go.Sl.L.pu rfl rfl trivial (pu_move rfl) ?_
      refine Go.Sl.L.pu rfl rfl trivial (pu_le rfl rfl) ?_
      refine Go.Sl.L.nil ?_
      refine Gs.then_n ?_
      refine Gs.cond rfl (fun hc2 => ?_) (fun hc2 => ?_)
      · skip
        have hlt : ((j + 1 : Nat) : Int) ≤ mz := of_decide_eq_true hc2
        have hmW : mayW 1 (recV ((j + 1 : Nat) : Int) ((j + 1 : Nat) : Int) text).p [(j : Int)] [0] = true := rec_mayW (by omega) (by omega) (by omega) (by omega) (by omega) (by omega) htx
        obtain ⟨p, hp⟩ : ∃ p, p = (recV ((j + 1 : Nat) : Int) ((j + 1 : Nat) : Int) text).p := ⟨_, rfl⟩
        have hst' := wS_st (most := 60000) (e := p) (v := [(j : Int)]) (w := [0]) hst
        have hmd' := wS_made (most := 60000) (e := p) (v := [(j : Int)]) (w := [0]) hst
        have hln' := wS_len (most := 60000) (e := p) (v := [(j : Int)]) (w := [0]) hst
        have hus' := wS_used (most := 60000) (e := p) (v := [(j : Int)]) (w := [0]) hst
        have hok' := wS_ok (most := 60000) hst hmW (by omega)
        have hC' := chain_wS (most := 60000) (made := made) hst.ne hC hmW hok'
        rw [← hp] at hok'
        rw [show recP (j + 1) text = p from hp.symm] at hC'
        obtain ⟨o, ho⟩ : ∃ o, o = wS 60000 1 made xs p [(j : Int)] [0] := ⟨_, rfl⟩
        rw [← ho] at hst' hmd' hln' hus' hok' hC'
        have hw2 : plainV (want ++ [recV ((j + 1 : Nat) : Int) ((j + 1 : Nat) : Int) text]) = recsR text 0 (j + 1) := by
          rw [recs_app, ← hpl]
          show (want ++ [recV ((j + 1 : Nat) : Int) ((j + 1 : Nat) : Int) text]).map EntV.p = _
          rw [List.map_append, show 0 + j = j by omega]; rfl
        refine Gs.skip ?_
        refine Gs.then_n ?_
        refine Gs.seq ?_
        refine Gs.block ?_
        refine Gs.seq ?_
        refine Gs.reg ?_
        refine Go.Sl.L.pu rfl rfl trivial (pu_move rfl) ?_
        refine Go.Sl.L.pu rfl rfl trivial (pu_build bd_37 (by repeat constructor) rfl) ?_
        refine Go.Sl.L.pu rfl rfl trivial (pu_move rfl) ?_
        refine Go.Sl.L.pu rfl rfl trivial (pu_build bd_39 (by repeat constructor) rfl) ?_
        refine Go.Sl.L.pu rfl rfl trivial (pu_move rfl) ?_
        refine Go.Sl.L.pu rfl rfl trivial (pu_build bd_41 (by repeat constructor) rfl) ?_
        refine Go.Sl.L.pu rfl rfl trivial (pu_build bd_43 (by repeat constructor) rfl) ?_
        refine Go.Sl.L.ac rfl rfl trivial (ac_alloc zv_43 rfl) ?_
        rintro _ _ ⟨vb, rfl, rfl⟩
        refine Go.Sl.L.ac0 rfl trivial (ac_st sz_43 rfl rfl (by repeat constructor) rfl rfl rfl rfl) ?_
        rintro _ _ rfl
        refine Go.Sl.L.nil ?_
        refine Gs.then_n ?_
        refine Gs.seq ?_
        refine Gs.seq ?_
        refine Gs.reg ?_
        refine Go.Sl.L.pu rfl rfl trivial (pu_move rfl) ?_
        refine Go.Sl.L.rd rfl rfl trivial (rd_lda ag_43 rfl (Rdc.cl 8 (by repeat constructor) rfl) rfl) ?_
        refine Go.Sl.L.pu rfl rfl trivial (pu_move rfl) ?_
        refine Go.Sl.L.pu rfl rfl trivial (pu_subI (z := (j : Int)) rfl rfl (by omega) (by omega) (by omega)) ?_
        refine Go.Sl.L.ac rfl rfl trivial (ac_lit encC_3 ([(j : Int)]) et_23 ek_3 rfl (by repeat constructor) rfl rfl (by decide)) ?_
        rintro _ _ ⟨a67, rfl, rfl⟩
        refine Go.Sl.L.ac rfl rfl trivial (ac_lit encC_3 ([(0 : Int)]) et_23 ek_3 rfl (by repeat constructor) rfl rfl (by decide)) ?_
        rintro _ _ ⟨a68, rfl, rfl⟩
        refine Go.Sl.L.ac rfl rfl trivial (as_call (writeG_spec (b := g) (d := d) (n := 1) (most := 60000) (made := made) (xs := xs) (L := [sl 3 1 intC (some ⟨a67, 0, none⟩) 1 [(j : Int)], sl 3 1 intC (some ⟨a68, 0, none⟩) 1 [0], Tx]) (e := recV ((j + 1 : Nat) : Int) ((j + 1 : Nat) : Int) text) (v := [(j : Int)]) (w := [0]) ⟨Srd.nil, Srd.nil⟩ (Srd.bigs (A := sl 3 1 intC (some ⟨a67, 0, none⟩) 1 [(j : Int)]) Srd.own (by simp)) (Srd.bigs (A := sl 3 1 intC (some ⟨a68, 0, none⟩) 1 [0]) Srd.own (by simp)) (hT.inn (Inn.mem (by simp))) (by decide) (by decide) hst (by omega) (by omega) (by omega)) (by repeat constructor) (by repeat constructor)) ?_
        rintro _ _ ⟨_, ⟨rfl, rfl⟩, rfl⟩
        rw [← hp, ← ho]
        refine Go.Sl.L.pu rfl rfl trivial (pu_ne rfl rfl) ?_
        refine Go.Sl.L.nil ?_
        refine Gs.then_n ?_
        refine Gs.cond_ff rfl (decide_eq_false (fun h => h hok')) ?_
        refine Gs.skip ?_
        refine Gs.then_n ?_
        refine Gs.reg ?_
        refine Go.Sl.L.pu rfl rfl trivial (pu_move rfl) ?_
        refine Go.Sl.L.rd rfl rfl trivial (rd_lda ag_43 rfl (Rdc.cl 8 (by repeat constructor) rfl) rfl) ?_
        refine Go.Sl.L.ac rfl rfl trivial (ac_lit encC_43 ([recV ((j + 1 : Nat) : Int) ((j + 1 : Nat) : Int) text]) et_22 ek_43 rfl (by repeat constructor) rfl rfl (by decide)) ?_
        rintro _ _ ⟨a73, rfl, rfl⟩
        refine Go.Sl.L.ac rfl rfl trivial (ac_append (xs := want) (ys := [recV ((j + 1 : Nat) : Int) ((j + 1 : Nat) : Int) text]) et_22 ek_43 rfl rfl (by repeat constructor) (SrcH.sl Tryz.underlying22 ek_43 (SlH.own (by repeat constructor))) (by first | omega | (simp; omega)) (by first | omega | (simp; omega))) ?_
        rintro _ _ ⟨a74, c74, rfl, rfl⟩
        refine Go.Sl.L.pu rfl rfl trivial (pu_assign rfl) ?_
        refine Go.Sl.L.nil ?_
        refine Gs.blk_n ?_
        refine Gs.then_n ?_
        refine Gs.reg ?_
        refine Go.Sl.L.pu rfl rfl trivial (pu_move rfl) ?_
        refine Go.Sl.L.pu rfl rfl trivial (pu_addI (z := ((j + 1 + 1 : Nat) : Int)) rfl rfl (by omega) (by omega) (by omega)) ?_
        refine Go.Sl.L.pu rfl rfl trivial (pu_assign rfl) ?_
        refine Go.Sl.L.nil ?_
        refine Gs.then_n ?_
        exact Gs.again1 (j + 1, o.made, o.xs, want ++ [recV ((j + 1 : Nat) : Int) ((j + 1 : Nat) : Int) text], a74, c74) ⟨hst', hC', by show o.made ≤ j + 1 + 1; omega, by show o.xs.length ≤ j + 1 + 1; omega, by show usedS o.xs ≤ 46 + 190 * (j + 1); omega, hw2, hlt⟩ (by show 40 - (j + 1) < 40 - j; omega) (by repeat constructor) (by repeat constructor)
      · skip
        refine Gs.exit ?_
        refine Gs.then_x ?_
        refine Gs.then_x ?_
        refine Gs.blk_hit ?_
        refine Gs.then_n ?_
        refine Gs.seq ?_
        refine Gs.seq ?_
        refine Gs.reg ?_
        refine Go.Sl.L.pu rfl rfl trivial (pu_move rfl) ?_
        refine Go.Sl.L.ac rfl rfl trivial (as_call (syncSt_spec (b := g) (d := d) (n := 1) (most := 60000) (made := made) (xs := xs) (by omega)) (by repeat constructor) (by repeat constructor)) ?_
        rintro _ _ ⟨_, ⟨rfl, rfl⟩, rfl⟩
        refine Go.Sl.L.pu rfl rfl trivial (pu_ne rfl rfl) ?_
        refine Go.Sl.L.nil ?_
        refine Gs.then_n ?_
        refine Gs.cond_ff rfl rfl ?_
        refine Gs.skip ?_
        refine Gs.then_n ?_
        refine Gs.seq ?_
        rw [← syn_segP 1 xs]
        have hzl : (xs.map syn).length ≤ j + 1 := by rw [List.length_map]; exact hlen
        have hzu : usedS (xs.map syn) ≤ 46 + 190 * j := by rw [syn_used]; exact hus
        have hzt := syn_st hst
        have hzC := chain_syn hC
        have hzs : SyncS (xs.map syn) := fun y hy => by
          obtain ⟨z, -, rfl⟩ := List.mem_map.1 hy; rfl
        obtain ⟨zs, hzd⟩ : ∃ zs, zs = xs.map syn := ⟨_, rfl⟩
        rw [← hzd] at hzl hzu hzt hzC hzs ⊢
        have hnd : (names (zs.map segF)).Nodup := names_nd (k := Seg.k) (fun _ => rfl) hzt.inv.asc fun y hy => by have := hzt.inv.num y hy; omega
        obtain ⟨K, hK1, hK2, hK3, hK4⟩ := trim_seg [(u : Int)] zs 0 hnd hzs
        rw [Nat.zero_add] at hK1
        have hKk := congrArg TOut.k hK1
        have hKp := congrArg TOut.ps hK1
        have hKD := congrArg TOut.D hK1
        have hJk := congrArg TOut.k (hK4 0)
        have hJp := congrArg TOut.ps (hK4 0)
        have hJD := congrArg TOut.D (hK4 0)
        dsimp only at hKk hKp hKD hJk hJp hJD
        have hKl := hK2 hzt.ne
        obtain ⟨c, -, hcu, hcC⟩ := chain_drop K hzC (Nat.zero_le _) hK3 (by omega)
        have hcj := chain_le hcC
        have hKt := st_drop hzt K hKl
        have hKu := used_drop (fun x hx => (hzt.inv.good x hx).ne) K (by omega)
        have hKd : (zs.drop K).length = zs.length - K := List.length_drop ..
        have hKf : plainE (flatS (zs.drop K)) = recsR text c (j - c) := chain_flat hcC
        have hKe : K = 0 → zs.drop K = zs := fun h => by rw [h, List.drop_zero]
        have htl : ∀ q ∈ zs.map (segP 1), q.t.length ≤ 1000 := fun q hq => by
          obtain ⟨y, -, rfl⟩ := List.mem_map.1 hq
          show (topsOf 1 y.es).length ≤ 1000
          rw [tops_len]; decide
        refine Gs.reg ?_
        refine Go.Sl.L.pu rfl rfl trivial (pu_move rfl) ?_
        refine Go.Sl.L.ac rfl rfl trivial (as_call (segsSt_spec (b := g) (d := d) (n := 1) (made := made) (xs := zs)) (by repeat constructor) (by repeat constructor)) ?_
        rintro _ _ ⟨_, ⟨rfl, rfl⟩, rfl⟩
        refine Go.Sl.L.pu rfl rfl trivial (pu_move rfl) ?_
        refine Go.Sl.L.ac rfl rfl trivial (as_call (used_spec d 60000 (zs.map segF) (by rw [List.length_map]; omega)) (by repeat constructor) (by repeat constructor)) ?_
        rintro _ _ ⟨_, ⟨rfl, rfl⟩, rfl⟩
        rw [used_seg]
        refine Go.Sl.L.pu rfl rfl trivial (pu_assign rfl) ?_
        refine Go.Sl.L.pu rfl rfl trivial (pu_assign rfl) ?_
        refine Go.Sl.L.nil ?_
        refine Gs.then_n ?_
        refine Gs.seq ?_
        refine Gs.reg ?_
        refine Go.Sl.L.pu rfl rfl trivial (pu_move rfl) ?_
        refine Go.Sl.L.pu rfl rfl trivial (pu_move rfl) ?_
        refine Go.Sl.L.ac rfl rfl trivial (ac_lit encC_3 ([(u : Int)]) et_23 ek_3 rfl (by repeat constructor) rfl rfl (by decide)) ?_
        rintro _ _ ⟨a84, rfl, rfl⟩
        refine Go.Sl.L.ac rfl rfl trivial (as_call (trim_spec (b := g) (d := d) (n := 1) (most := 60000) (made := made) (ps := zs.map (segP 1)) (D := zs.map segF) (U := sl 3 1 intC (some ⟨a84, 0, none⟩) 1 [(u : Int)]) (w := [(u : Int)]) Srd.own (by rw [List.length_map]; omega) htl) (by repeat constructor) (by repeat constructor)) ?_
        rintro _ _ ⟨_, ⟨rfl, rfl⟩, rfl⟩
        rw [hKk, hKp, hKD]
        refine Go.Sl.L.pu rfl rfl trivial (pu_assign rfl) ?_
        refine Go.Sl.L.nil ?_
        refine Gs.then_n ?_
        refine Gs.seq ?_
        refine Gs.seq ?_
        refine Gs.cutS (σ := Unit) (fun _ => [(0, int mz), (1, int u), (2, .string text), (7, ptr d), (8, ptr g), (11, .slice ta want.length tc), (120, .bool false)]) (fun _ => [lgr g d 1 ⟨made, (zs.drop K).map (segP 1)⟩, drv d 60000 ((zs.drop K).map segF), Tx, sl 43 8 entC ta tc want] ++ R) ?_ ?_
        · skip
          refine Gs.reg ?_
          refine Go.Sl.L.pu rfl rfl trivial (pu_move rfl) ?_
          refine Go.Sl.L.pu rfl rfl trivial (pu_lt rfl rfl) ?_
          refine Go.Sl.L.puBf rfl rfl trivial (pu_move rfl) (decide_eq_false (by omega)) ?_
          refine Go.Sl.L.pu rfl rfl ⟨_, rfl, rfl⟩ (pu_move rfl) ?_
          refine Go.Sl.L.pu rfl rfl ⟨_, rfl, rfl⟩ (pu_move rfl) ?_
          refine Go.Sl.L.pu rfl rfl ⟨_, rfl, rfl⟩ (pu_ge rfl rfl) ?_
          refine Go.Sl.L.pu rfl rfl trivial (by first | exact pu_pick_t rfl rfl | exact pu_pick_f rfl rfl) ?_
          refine Go.Sl.L.puBf rfl rfl trivial (pu_move rfl) (decide_eq_false (by omega)) ?_
          refine Go.Sl.L.pu rfl rfl ⟨_, rfl, rfl⟩ (pu_move rfl) ?_
          refine Go.Sl.L.ac rfl rfl ⟨_, rfl, rfl⟩ (as_call (segsSt_spec (b := g) (d := d) (n := 1) (made := made) (xs := zs.drop K)) (by repeat constructor) (by repeat constructor)) ?_
          rintro _ _ ⟨_, ⟨rfl, rfl⟩, rfl⟩
          refine Go.Sl.L.pu rfl rfl ⟨_, rfl, rfl⟩ (pu_move rfl) ?_
          refine Go.Sl.L.pu rfl rfl ⟨_, rfl, rfl⟩ (pu_move rfl) ?_
          refine Go.Sl.L.pu rfl rfl ⟨_, rfl, rfl⟩ (pu_subI (z := ((zs.length - K : Nat) : Int)) rfl rfl (by omega) (by omega) (by omega)) ?_
          refine Go.Sl.L.pu rfl rfl ⟨_, rfl, rfl⟩ (pu_ne rfl rfl) ?_
          refine Go.Sl.L.pu rfl rfl trivial (by first | exact pu_pick_t rfl rfl | exact pu_pick_f rfl rfl) ?_
          refine Go.Sl.L.puBf rfl rfl trivial (pu_move rfl) (decide_eq_false (by omega)) ?_
          refine Go.Sl.L.pu rfl rfl ⟨_, rfl, rfl⟩ (pu_move rfl) ?_
          refine Go.Sl.L.pu rfl rfl ⟨_, rfl, rfl⟩ (pu_gt rfl rfl) ?_
          refine Go.Sl.L.puB rfl rfl ⟨_, rfl, rfl⟩ (pu_move rfl) (fun hg18 => ?_) (fun hg18 => ?_)
          · skip
            have hKp : 0 < K := by have := of_decide_eq_true hg18; omega
            refine Go.Sl.L.pu rfl rfl ⟨_, rfl, rfl⟩ (pu_move rfl) ?_
            refine Go.Sl.L.ac rfl rfl ⟨_, rfl, rfl⟩ (as_call (used_spec d 60000 ((zs.drop K).map segF) (by rw [List.length_map]; omega)) (by repeat constructor) (by repeat constructor)) ?_
            rintro _ _ ⟨_, ⟨rfl, rfl⟩, rfl⟩
            rw [used_seg]
            refine Go.Sl.L.pu rfl rfl ⟨_, rfl, rfl⟩ (pu_move rfl) ?_
            refine Go.Sl.L.pu rfl rfl ⟨_, rfl, rfl⟩ (pu_ge rfl rfl) ?_
            refine Go.Sl.L.pu rfl rfl ⟨_, rfl, rfl⟩ (by first | exact pu_pick_t rfl rfl | exact pu_pick_f rfl rfl) ?_
            refine Go.Sl.L.pu rfl rfl trivial (by first | exact pu_pick_t rfl rfl | exact pu_pick_f rfl rfl) ?_
            refine Go.Sl.L.puBf rfl rfl trivial (pu_move rfl) (by first | exact decide_eq_false (by omega) | rfl) ?_
            refine Go.Sl.L.pu rfl rfl ⟨_, rfl, rfl⟩ (pu_move rfl) ?_
            refine Go.Sl.L.pu rfl rfl ⟨_, rfl, rfl⟩ (pu_eq rfl rfl) ?_
            refine Go.Sl.L.puB rfl rfl ⟨_, rfl, rfl⟩ (pu_move rfl) (fun hg28 => ?_) (fun hg28 => ?_)
            · skip
              refine Go.Sl.L.pu rfl rfl ⟨_, rfl, rfl⟩ (pu_move rfl) ?_
              refine Go.Sl.L.ac rfl rfl ⟨_, rfl, rfl⟩ (as_call (used_spec d 60000 ((zs.drop K).map segF) (by rw [List.length_map]; omega)) (by repeat constructor) (by repeat constructor)) ?_
              rintro _ _ ⟨_, ⟨rfl, rfl⟩, rfl⟩
              rw [used_seg]
              have hK0 := of_decide_eq_true hg28
              have h120 : decide (((usedS (zs.drop K) : Nat) : Int) ≠ ((usedS zs : Nat) : Int)) = false := by
                first
                  | (exfalso; omega)
                  | (rw [hKy]; exact decide_eq_false (fun h => h rfl))
              refine Go.Sl.L.pu rfl rfl ⟨_, rfl, rfl⟩ (pu_move rfl) ?_
              refine Go.Sl.L.pu rfl rfl ⟨_, rfl, rfl⟩ (pu_ne rfl rfl) ?_
              refine Go.Sl.L.pu rfl rfl ⟨_, rfl, rfl⟩ (by first | exact pu_pick_t rfl rfl | exact pu_pick_f rfl rfl) ?_
              refine Go.Sl.L.pu rfl rfl trivial (by first | exact pu_pick_t rfl rfl | exact pu_pick_f rfl rfl) ?_
              refine Go.Sl.L.nil ?_
              first
                | rw [h120]
                | skip
              refine Gs.then_n ?_
              refine Gs.cutEndS () ?_ ?_
              · repeat constructor
              · repeat constructor
            · skip
              refine Go.Sl.L.off rfl rfl rfl rfl rfl rfl ?_
              refine Go.Sl.L.off rfl rfl rfl rfl rfl rfl ?_
              refine Go.Sl.L.off rfl rfl rfl rfl rfl rfl ?_
              refine Go.Sl.L.off rfl rfl rfl rfl rfl rfl ?_
              refine Go.Sl.L.pu rfl rfl ⟨_, rfl, rfl⟩ (by first | exact pu_pick_t rfl rfl | exact pu_pick_f rfl rfl) ?_
              refine Go.Sl.L.pu rfl rfl trivial (by first | exact pu_pick_t rfl rfl | exact pu_pick_f rfl rfl) ?_
              refine Go.Sl.L.nil ?_
              first
                | rw [h120]
                | skip
              refine Gs.then_n ?_
              refine Gs.cutEndS () ?_ ?_
              · repeat constructor
              · repeat constructor
          · skip
            have hKz : K = 0 := by have := of_decide_eq_false hg18; omega
            have hKy := hKe hKz
            refine Go.Sl.L.off rfl rfl rfl rfl rfl rfl ?_
            refine Go.Sl.L.off rfl rfl rfl rfl rfl rfl ?_
            refine Go.Sl.L.off rfl rfl rfl rfl rfl rfl ?_
            refine Go.Sl.L.off rfl rfl rfl rfl rfl rfl ?_
            refine Go.Sl.L.pu rfl rfl ⟨_, rfl, rfl⟩ (by first | exact pu_pick_t rfl rfl | exact pu_pick_f rfl rfl) ?_
            refine Go.Sl.L.pu rfl rfl trivial (by first | exact pu_pick_t rfl rfl | exact pu_pick_f rfl rfl) ?_
            refine Go.Sl.L.puBf rfl rfl trivial (pu_move rfl) (by first | exact decide_eq_false (by omega) | rfl) ?_
            refine Go.Sl.L.pu rfl rfl ⟨_, rfl, rfl⟩ (pu_move rfl) ?_
            refine Go.Sl.L.pu rfl rfl ⟨_, rfl, rfl⟩ (pu_eq rfl rfl) ?_
            refine Go.Sl.L.puB rfl rfl ⟨_, rfl, rfl⟩ (pu_move rfl) (fun hg28 => ?_) (fun hg28 => ?_)
            · skip
              refine Go.Sl.L.pu rfl rfl ⟨_, rfl, rfl⟩ (pu_move rfl) ?_
              refine Go.Sl.L.ac rfl rfl ⟨_, rfl, rfl⟩ (as_call (used_spec d 60000 ((zs.drop K).map segF) (by rw [List.length_map]; omega)) (by repeat constructor) (by repeat constructor)) ?_
              rintro _ _ ⟨_, ⟨rfl, rfl⟩, rfl⟩
              rw [used_seg]
              have hK0 := of_decide_eq_true hg28
              have h120 : decide (((usedS (zs.drop K) : Nat) : Int) ≠ ((usedS zs : Nat) : Int)) = false := by
                first
                  | (exfalso; omega)
                  | (rw [hKy]; exact decide_eq_false (fun h => h rfl))
              refine Go.Sl.L.pu rfl rfl ⟨_, rfl, rfl⟩ (pu_move rfl) ?_
              refine Go.Sl.L.pu rfl rfl ⟨_, rfl, rfl⟩ (pu_ne rfl rfl) ?_
              refine Go.Sl.L.pu rfl rfl ⟨_, rfl, rfl⟩ (by first | exact pu_pick_t rfl rfl | exact pu_pick_f rfl rfl) ?_
              refine Go.Sl.L.pu rfl rfl trivial (by first | exact pu_pick_t rfl rfl | exact pu_pick_f rfl rfl) ?_
              refine Go.Sl.L.nil ?_
              first
                | rw [h120]
                | skip
              refine Gs.then_n ?_
              refine Gs.cutEndS () ?_ ?_
              · repeat constructor
              · repeat constructor
            · skip
              refine Go.Sl.L.off rfl rfl rfl rfl rfl rfl ?_
              refine Go.Sl.L.off rfl rfl rfl rfl rfl rfl ?_
              refine Go.Sl.L.off rfl rfl rfl rfl rfl rfl ?_
              refine Go.Sl.L.off rfl rfl rfl rfl rfl rfl ?_
              refine Go.Sl.L.pu rfl rfl ⟨_, rfl, rfl⟩ (by first | exact pu_pick_t rfl rfl | exact pu_pick_f rfl rfl) ?_
              refine Go.Sl.L.pu rfl rfl trivial (by first | exact pu_pick_t rfl rfl | exact pu_pick_f rfl rfl) ?_
              refine Go.Sl.L.nil ?_
              first
                | rw [h120]
                | skip
              refine Gs.then_n ?_
              refine Gs.cutEndS () ?_ ?_
              · repeat constructor
              · repeat constructor
        · skip
          rintro _
          refine Gs.cond_f rfl ?_
          refine Gs.skip ?_
          refine Gs.then_n ?_
          refine Gs.seq ?_
          refine Gs.reg ?_
          refine Go.Sl.L.pu rfl rfl trivial (pu_move rfl) ?_
          refine Go.Sl.L.ac rfl rfl trivial (as_call (openSt_spec (d := d) (n := 1) (most := 60000) (made := made) (xs := zs.drop K) hT (by decide) (by decide) hKt (by omega) (by omega)) (by repeat constructor) (by repeat constructor)) ?_
          rintro _ _ ⟨_, ⟨g3, fa, fc, fs, m3, rfl, ⟨hst3, hm3, hfs⟩, rfl⟩, rfl⟩
          refine Go.Sl.L.pu rfl rfl trivial (pu_move rfl) ?_
          refine Go.Sl.L.pu rfl rfl trivial (pu_extract rfl rfl) ?_
          refine Go.Sl.L.pu rfl rfl trivial (pu_extract rfl rfl) ?_
          refine Go.Sl.L.pu rfl rfl trivial (pu_extract rfl rfl) ?_
          refine Go.Sl.L.pu rfl rfl trivial (pu_assign rfl) ?_
          refine Go.Sl.L.pu rfl rfl trivial (pu_assign rfl) ?_
          refine Go.Sl.L.pu rfl rfl trivial (pu_assign rfl) ?_
          refine Go.Sl.L.nil ?_
          have hfvec := seg_vecs hst3.inv.good hfs
          have hfl := seg_lens hst3.inv.good hfs
          rw [hKf, recs_len] at hfl
          have hleft : plainV (filterV fs) = recsR text c (j - c) := by rw [filterV_plain, hfs, hKf]
          have hlen2 : (filterV fs).length = j - c := by have := congrArg List.length hleft; rwa [List.length_map, recs_len] at this
          have hwd : plainV (filterV fs) = plainV (want.drop c) := by
            show _ = (want.drop c).map EntV.p
            rw [hleft, List.map_drop, show want.map EntV.p = recsR text 0 j from hpl, recs_drop 0 j c hcj, Nat.zero_add]
          have hdl : (want.drop c).length = want.length - c := List.length_drop ..
          obtain ⟨f0, hf0, hfp0⟩ := kind_at (i := 0) hfs (chain_first hcC hKt.ne)
          have hk0 : f0.kind = 1 := congrArg EntP.kind hfp0
          have hv0 : f0.v.xs = [(c : Int)] := congrArg EntP.v hfp0
          have hf1 : 0 < fs.length := (List.getElem?_eq_some_iff.1 hf0).1
          refine Gs.then_n ?_
          refine Gs.seq ?_
          refine Gs.reg ?_
          refine Go.Sl.L.pu rfl rfl trivial (pu_move rfl) ?_
          refine Go.Sl.L.ac rfl rfl trivial (as_call (plain_spec (es := fs) (erd_elO fa fc fs).1 (by omega)) (by repeat constructor) (by repeat constructor)) ?_
          rintro _ _ ⟨_, ⟨pa, pc, rfl, rfl⟩, rfl⟩
          refine Go.Sl.L.pu rfl rfl trivial (pu_assign rfl) ?_
          refine Go.Sl.L.nil ?_
          refine Gs.then_n ?_
          refine Gs.seq ?_
          refine Gs.reg ?_
          refine Go.Sl.L.pu rfl rfl trivial (pu_move rfl) ?_
          refine Go.Sl.L.pu rfl rfl trivial (pu_len Tryz.underlying22 rfl) ?_
          refine Go.Sl.L.pu rfl rfl trivial (pu_move rfl) ?_
          refine Go.Sl.L.pu rfl rfl trivial (pu_len Tryz.underlying22 rfl) ?_
          refine Go.Sl.L.pu rfl rfl trivial (pu_subI (z := (c : Int)) rfl rfl (by omega) (by omega) (by omega)) ?_
          refine Go.Sl.L.pu rfl rfl trivial (pu_assign rfl) ?_
          refine Go.Sl.L.nil ?_
          refine Gs.then_n ?_
          refine Gs.seq ?_
          refine Gs.seq ?_
          refine Gs.elOpen (a := fa) (c := fc) (es := fs) (by repeat constructor) ?_
          refine Gs.slLen (xs := want) (a := ta) (c := tc) (E := 43) (sz := 8) (enc := entC) (by repeat constructor) fun htc => ?_
          refine Gs.slAddr (xs := fs) (SlH.own (E := 43) (enc := entC) (sz := 8) (by repeat constructor)) fun fb fo hfa => ?_
          obtain rfl := hfa (by rintro rfl; simp at hf0)
          refine Gs.reg ?_
          refine Go.Sl.L.pu rfl rfl trivial (pu_move rfl) ?_
          refine Go.Sl.L.pu rfl rfl trivial (pu_ne rfl rfl) ?_
          refine Go.Sl.L.puBf rfl rfl trivial (pu_move rfl) rfl ?_
          refine Go.Sl.L.pu rfl rfl ⟨_, rfl, rfl⟩ (pu_move rfl) ?_
          refine Go.Sl.L.pu rfl rfl ⟨_, rfl, rfl⟩ (pu_lt rfl rfl) ?_
          refine Go.Sl.L.pu rfl rfl trivial (by first | exact pu_pick_t rfl rfl | exact pu_pick_f rfl rfl) ?_
          refine Go.Sl.L.puBf rfl rfl trivial (pu_move rfl) (decide_eq_false (by omega)) ?_
          refine Go.Sl.L.pu rfl rfl ⟨_, rfl, rfl⟩ (pu_move rfl) ?_
          refine Go.Sl.L.pu rfl rfl ⟨_, rfl, rfl⟩ (pu_move rfl) ?_
          refine Go.Sl.L.pu rfl rfl ⟨_, rfl, rfl⟩ (pu_gt rfl rfl) ?_
          refine Go.Sl.L.pu rfl rfl trivial (by first | exact pu_pick_t rfl rfl | exact pu_pick_f rfl rfl) ?_
          refine Go.Sl.L.puBf rfl rfl trivial (pu_move rfl) (decide_eq_false (by omega)) ?_
          refine Go.Sl.L.pu rfl rfl ⟨_, rfl, rfl⟩ (pu_move rfl) ?_
          refine Go.Sl.L.pu rfl rfl ⟨_, rfl, rfl⟩ (pu_move rfl) ?_
          refine Go.Sl.L.pu rfl rfl ⟨_, rfl, rfl⟩ (pu_move rfl) ?_
          refine Go.Sl.L.pu rfl rfl ⟨_, rfl, rfl⟩ (pu_sliceL et_22 rfl rfl (by omega) (by omega)) ?_
          refine Go.Sl.L.ac rfl rfl ⟨_, rfl, rfl⟩ (as_call (sameT_spec (L := [sl 43 8 entC pa pc (filterV fs), big (fs.map entO), sl 43 8 entC ta tc want]) (a := pa) (b := suba ta c tc 8) (xs := filterV fs) (ys := want.drop c) ⟨Srd.bigs (A := sl 43 8 entC pa pc (filterV fs)) Srd.own (by simp), fun e he => ((evd_entO e).bigs (List.mem_map.2 ⟨e, filterV_mem he, rfl⟩) : EVd (big (fs.map entO)) e).bigs (by simp)⟩ ⟨Srd.bigs (A := sl 43 8 entC ta tc want) (Srd.own.cutL _ _ htc) (by simp), fun e he => evd_nil (want_nil hpl e (List.mem_of_mem_drop he))⟩ hdl (by omega) (fun e he => by have := hfvec e (filterV_mem he); omega)) (by repeat constructor) (by repeat constructor)) ?_
          rintro _ _ ⟨_, ⟨rfl, rfl⟩, rfl⟩
          rw [decide_eq_true hwd]
          refine Go.Sl.L.pu rfl rfl ⟨_, rfl, rfl⟩ (pu_not rfl) ?_
          refine Go.Sl.L.pu rfl rfl trivial (by first | exact pu_pick_t rfl rfl | exact pu_pick_f rfl rfl) ?_
          refine Go.Sl.L.puBf rfl rfl trivial (pu_move rfl) rfl ?_
          refine Go.Sl.L.pu rfl rfl ⟨_, rfl, rfl⟩ (pu_move rfl) ?_
          refine Go.Sl.L.pu rfl rfl ⟨_, rfl, rfl⟩ (pu_len Tryz.underlying22 rfl) ?_
          refine Go.Sl.L.pu rfl rfl ⟨_, rfl, rfl⟩ (pu_eq rfl rfl) ?_
          refine Go.Sl.L.pu rfl rfl trivial (by first | exact pu_pick_t rfl rfl | exact pu_pick_f rfl rfl) ?_
          refine Go.Sl.L.puBf rfl rfl trivial (pu_move rfl) (decide_eq_false (by omega)) ?_
          refine Go.Sl.L.pu rfl rfl ⟨_, rfl, rfl⟩ (pu_move rfl) ?_
          refine Go.Sl.L.pu rfl rfl ⟨_, rfl, rfl⟩ (pu_ia se_22 rfl rfl (by decide) (by omega)) ?_
          refine Go.Sl.L.pu rfl rfl ⟨_, rfl, rfl⟩ (pu_fa fa_43_0 rfl) ?_
          refine Go.Sl.L.rd rfl rfl ⟨_, rfl, rfl⟩ (rd_ld na_3 rfl (Rdc.elp 1 (SlH.own (xs := fs) (E := 43) (enc := entC) (sz := 8) (by repeat constructor)) hf0 rfl rfl)) ?_
          refine Go.Sl.L.pu rfl rfl ⟨_, rfl, rfl⟩ (pu_ne rfl rfl) ?_
          refine Go.Sl.L.pu rfl rfl trivial (by first | exact pu_pick_t rfl rfl | exact pu_pick_f rfl rfl) ?_
          refine Go.Sl.L.puBf rfl rfl trivial (pu_move rfl) (decide_eq_false (by rw [hk0]; decide)) ?_
          refine Go.Sl.L.pu rfl rfl ⟨_, rfl, rfl⟩ (pu_move rfl) ?_
          refine Go.Sl.L.pu rfl rfl ⟨_, rfl, rfl⟩ (pu_ia se_22 rfl rfl (by decide) (by omega)) ?_
          refine Go.Sl.L.pu rfl rfl ⟨_, rfl, rfl⟩ (pu_fa fa_43_1 rfl) ?_
          refine Go.Sl.L.rd rfl rfl ⟨_, rfl, rfl⟩ (rd_ld na_23 rfl (Rdc.elp 1 (f := 1) (SlH.own (xs := fs) (E := 43) (enc := entC) (sz := 8) (by repeat constructor)) hf0 rfl rfl)) ?_
          refine Go.Sl.L.pu rfl rfl ⟨_, rfl, rfl⟩ (pu_move rfl) ?_
          refine Go.Sl.L.ac rfl rfl ⟨_, rfl, rfl⟩ (ac_lit encC_3 ([(c : Int)]) et_23 ek_3 rfl (by repeat constructor) rfl rfl (by decide)) ?_
          rintro _ _ ⟨a171, rfl, rfl⟩
          refine Go.Sl.L.ac rfl rfl ⟨_, rfl, rfl⟩ (as_call (sameI_spec (L := [big (fs.map entO), sl 3 1 intC (some ⟨a171, 0, none⟩) 1 [(c : Int)]]) (xs := f0.v.xs) (ys := [(c : Int)]) (Srd.bigs (A := big (fs.map entO)) (Srd.bigs (A := entO f0) (evd_entO f0).1 (List.mem_map.2 ⟨f0, List.mem_of_getElem? hf0, rfl⟩)) (by simp)) (Srd.bigs (A := sl 3 1 intC (some ⟨a171, 0, none⟩) 1 [(c : Int)]) Srd.own (by simp)) (by rw [hv0]; show 1 ≤ 1000000; decide)) (by repeat constructor) (by repeat constructor)) ?_
          rintro _ _ ⟨_, ⟨rfl, rfl⟩, rfl⟩
          rw [decide_eq_true hv0]
          refine Go.Sl.L.pu rfl rfl ⟨_, rfl, rfl⟩ (pu_not rfl) ?_
          refine Go.Sl.L.pu rfl rfl trivial (by first | exact pu_pick_t rfl rfl | exact pu_pick_f rfl rfl) ?_
          refine Go.Sl.L.nil ?_
          refine Gs.then_n ?_
          refine Gs.cond_ff rfl rfl ?_
          refine Gs.skip ?_
          refine Gs.then_n ?_
          refine Gs.seq ?_
          refine Gs.reg ?_
          refine Go.Sl.L.pu rfl rfl trivial (pu_move rfl) ?_
          refine Go.Sl.L.pu rfl rfl trivial (pu_move rfl) ?_
          refine Go.Sl.L.ac rfl rfl trivial (ac_lit encC_3 ([(u : Int)]) et_23 ek_3 rfl (by repeat constructor) rfl rfl (by decide)) ?_
          rintro _ _ ⟨a177, rfl, rfl⟩
          refine Go.Sl.L.ac rfl rfl trivial (as_call (trim_spec (b := g) (d := d) (n := 1) (most := 60000) (made := made) (ps := (zs.drop K).map (segP 1)) (D := (zs.drop K).map segF) (U := sl 3 1 intC (some ⟨a177, 0, none⟩) 1 [(u : Int)]) (w := [(u : Int)]) Srd.own (by rw [List.length_map]; omega) (fun q hq => htl q (by rw [List.map_drop] at hq; exact List.mem_of_mem_drop hq))) (by repeat constructor) (by repeat constructor)) ?_
          rintro _ _ ⟨_, ⟨rfl, rfl⟩, rfl⟩
          rw [hJk, hJp, hJD]
          refine Go.Sl.L.pu rfl rfl trivial (pu_eq rfl rfl) ?_
          refine Go.Sl.L.puBt rfl rfl trivial (pu_move rfl) rfl ?_
          refine Go.Sl.L.ac rfl rfl ⟨_, rfl, rfl⟩ (as_call (awake9_spec hT) (by repeat constructor) (by repeat constructor)) ?_
          rintro _ _ ⟨_, ⟨rfl, rfl⟩, rfl⟩
          refine Go.Sl.L.pu rfl rfl trivial (by first | exact pu_pick_t rfl rfl | exact pu_pick_f rfl rfl) ?_
          refine Go.Sl.L.pu rfl rfl trivial (pu_assign rfl) ?_
          refine Go.Sl.L.nil ?_
          refine Gs.then_n ?_
          refine Gs.ret ?_
          exact Gs.fin1 Tryz.results8 rfl _ (⟨rfl, rfl⟩) (by repeat constructor)
end Go.Proofs.YtjaafkakeccniaaGreatDoor
