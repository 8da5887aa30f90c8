/- Walk: LedgerFull. -/
import Derived.Test.YtjaafkakeccniaaGreatDoorML
namespace Go.Proofs.YtjaafkakeccniaaGreatDoor
open Go Go.Sl Go.Gv Go.Dv Go.Bst
set_option maxRecDepth 100000
theorem openSmall_spec {d : Nat} {n most : Int} {Tx : HProp} (hT : RMs Tx) (h1 : 1 ≤ n) (h8 : n ≤ 8) :
    Ct Tryz.prog 12 [ptr d, int n] [drv d most [], Tx]
      (fun v hs => (¬ most < (layE (zeroB n)).length ∧ ∃ b a c es, v = .tuple #[ptr b, .slice a es.length c, int 0] ∧ plainV es = [zeroB n] ∧ hs = [lgr b d n ⟨1, [newSeg n 1].map (segP n)⟩, drv d most ([newSeg n 1].map segF), Tx, elO a c es]) ∨
        (v = .tuple #[.pointer none, .slice none 0 0, int 8] ∧ hs = [drv d most [], Tx])) := by
  have hcs : CsOk n [] := ⟨List.Pairwise.nil, (fun x hx => by cases hx), (fun x hx => by cases hx), fun x hx => by cases hx⟩
  refine (open_spec (ks := []) (D := []) (most := most) hT h1 h8 (by decide) (sort_names (f := csF) (k := Cs.k) (fun _ => rfl) hcs.asc fun x hx => by cases hx) (fun k hk => by cases hk)).mono fun v hs hh => ?_
  have hA := openA_none (most := most) hcs rfl
  have hE := app_new (most := most) (n := n) (k := 0 + 1) (by decide)
  change openA most n [] [] = _ at hA
  change openA most n [] [] = (if appE most [] (nameK (0 + 1)) (layE (zeroB n)) = 0 then (⟨0, appL most [] (nameK (0 + 1)) (layE (zeroB n)), ⟨0 + 1, [⟨nameK (0 + 1), (layE (zeroB n)).length, zeros n⟩]⟩, [zeroB n]⟩ : OpR) else ⟨appE most [] (nameK (0 + 1)) (layE (zeroB n)), [], ⟨0, []⟩, []⟩) at hA
  by_cases hr : most < (layE (zeroB n)).length
  · rw [if_pos hr] at hE
    rw [hE, if_neg (by decide)] at hA
    rw [hA] at hh
    rcases hh with ⟨e, -⟩ | ⟨-, e1, e2⟩
    · exact absurd e (by decide)
    · exact .inr ⟨e1, e2⟩
  · rw [if_neg hr] at hE
    rw [if_pos hE, app_newL (by decide) hr, ← (new_maps n (0 + 1)).2] at hA
    rw [hA] at hh
    rcases hh with ⟨-, b, a, c, es, e1, e2, e3⟩ | ⟨e, -⟩
    · exact .inl ⟨hr, b, a, c, es, e1, e2, e3⟩
    · exact absurd rfl e
theorem full_spec {Tx : HProp} (hT : RMs Tx) (room many : Int) : Ct Tryz.prog 4 [int room, int many] [Tx] (fun v hs => v = .bool true ∧ hs = [Tx]) := by
  obtain ⟨hr0, hr1⟩ := lowZ_in (a := room) (b := 600) (by decide) (by decide)
  obtain ⟨hm0, hm1⟩ := lowZ_in (a := many) (b := 30) (by decide) (by decide)
  obtain ⟨most, hmost⟩ : ∃ z, z = lowZ room 600 := ⟨_, rfl⟩
  obtain ⟨mz, hmz⟩ : ∃ z, z = lowZ many 30 := ⟨_, rfl⟩
  rw [← hmost] at hr0 hr1
  rw [← hmz] at hm0 hm1
  have hst0 : St 2 1 [newSeg 2 1] := newSeg_st (by decide) (by decide) (by decide)
  have hzl := zeroB_len (n := 2) (by decide) (by decide)
  refine Ct.intro Tryz.func4 rfl (by kernel_rfl) 87 Tryz.ntmps4 (Nat.le_of_ble_eq_true rfl) fun w0 R => ?_
  refine Gs.seq ?_
  refine Gs.reg ?_
  refine Go.Sl.L.pu rfl rfl trivial (pu_assign rfl) ?_
  refine Go.Sl.L.nil ?_
  refine Gs.then_n ?_
  refine Gs.seq ?_
  refine Gs.reg ?_
  refine Go.Sl.L.pu rfl rfl trivial (pu_move rfl) ?_
  refine Go.Sl.L.ac rfl rfl trivial (as_call (low_spec room 600 (by decide) (by decide)) (by repeat constructor) (by repeat constructor)) ?_
  rintro _ _ ⟨_, ⟨rfl, rfl⟩, rfl⟩
  rw [← hmost]
  refine Go.Sl.L.pu rfl rfl trivial (pu_assign rfl) ?_
  refine Go.Sl.L.nil ?_
  refine Gs.then_n ?_
  refine Gs.seq ?_
  refine Gs.reg ?_
  refine Go.Sl.L.pu rfl rfl trivial (pu_move rfl) ?_
  refine Go.Sl.L.ac rfl rfl trivial (as_call (drvNew_ok most hr0 (by omega)) (by repeat constructor) (by repeat constructor)) ?_
  rintro _ _ ⟨_, ⟨d, rfl, rfl⟩, rfl⟩
  refine Go.Sl.L.pu rfl rfl trivial (pu_assign rfl) ?_
  refine Go.Sl.L.nil ?_
  refine Gs.then_n ?_
  refine Gs.seq ?_
  refine Gs.reg ?_
  refine Go.Sl.L.pu rfl rfl trivial (pu_move rfl) ?_
  refine Go.Sl.L.ac rfl rfl trivial (as_call (openSmall_spec (d := d) (n := 2) (most := most) hT (by decide) (by decide)) (by repeat constructor) (by repeat constructor)) ?_
  rintro _ _ ⟨_, (⟨hroom, g, ea, ec, es, rfl, hes, rfl⟩ | ⟨rfl, rfl⟩), rfl⟩
  · skip
    refine Go.Sl.L.pu rfl rfl trivial (pu_move rfl) ?_
    refine Go.Sl.L.pu rfl rfl trivial (pu_extract rfl rfl) ?_
    refine Go.Sl.L.pu rfl rfl trivial (pu_extract rfl rfl) ?_
    refine Go.Sl.L.pu rfl rfl trivial (pu_extract rfl rfl) ?_
    refine Go.Sl.L.pu rfl rfl trivial (pu_assign rfl) ?_
    refine Go.Sl.L.pu rfl rfl trivial (pu_assign rfl) ?_
    refine Go.Sl.L.pu rfl rfl trivial (pu_assign rfl) ?_
    refine Go.Sl.L.nil ?_
    refine Gs.then_n ?_
    refine Gs.seq ?_
    refine Gs.seq ?_
    refine Gs.reg ?_
    refine Go.Sl.L.pu rfl rfl trivial (pu_move rfl) ?_
    refine Go.Sl.L.pu rfl rfl trivial (pu_eqN Tryz.underlying28 rfl rfl) ?_
    refine Go.Sl.L.pu rfl rfl trivial (pu_move rfl) ?_
    refine Go.Sl.L.pu rfl rfl ⟨_, rfl, rfl⟩ (pu_move rfl) ?_
    refine Go.Sl.L.pu rfl rfl ⟨_, rfl, rfl⟩ (pu_ne rfl rfl) ?_
    refine Go.Sl.L.pu rfl rfl trivial (by first | exact pu_pick_t rfl rfl | exact pu_pick_f rfl rfl) ?_
    refine Go.Sl.L.nil ?_
    refine Gs.then_n ?_
    refine Gs.cond_ff rfl rfl ?_
    refine Gs.skip ?_
    refine Gs.then_n ?_
    refine Gs.seq ?_
    refine Gs.reg ?_
    refine Go.Sl.L.pu rfl rfl trivial (pu_assign rfl) ?_
    refine Go.Sl.L.nil ?_
    refine Gs.then_n ?_
    refine Gs.seq ?_
    refine Gs.reg ?_
    refine Go.Sl.L.ac rfl rfl trivial (ac_lit encC_3 ([(0 : Int), 0]) et_23 ek_3 rfl (by repeat constructor) rfl rfl (by decide)) ?_
    rintro _ _ ⟨a41, rfl, rfl⟩
    refine Go.Sl.L.pu rfl rfl trivial (pu_build bd_43 (by repeat constructor) rfl) ?_
    refine Go.Sl.L.ac rfl rfl trivial (ac_alloc zv_43 rfl) ?_
    rintro _ _ ⟨vb, rfl, rfl⟩
    refine Go.Sl.L.ac0 rfl trivial (ac_st sz_43 rfl rfl (by repeat constructor) rfl rfl rfl rfl) ?_
    rintro _ _ rfl
    refine Go.Sl.L.nil ?_
    refine Gs.then_n ?_
    refine Gs.seq ?_
    refine Gs.seq ?_
    refine Gs.reg ?_
    refine Go.Sl.L.pu rfl rfl trivial (pu_assign rfl) ?_
    refine Go.Sl.L.nil ?_
    refine Gs.then_n ?_
    refine Gs.block ?_
    refine Gs.loop1 (fun s : Nat × Nat × List Seg => St 2 s.2.1 s.2.2 ∧ s.2.1 ≤ s.1 + 1 ∧ s.2.2.length ≤ s.1 + 1 ∧ (plainE (flatS s.2.2)).length = s.1 ∧ s.1 ≤ 30) (fun s => [(0, int most), (1, int many), (5, ptr d), (6, ptr g), (9, int s.1), (10, ptr vb), (11, int s.1)]) (fun s => [lgr g d 2 ⟨s.2.1, s.2.2.map (segP 2)⟩, drv d most (s.2.2.map segF), cl vb 43 (entC (markV a41)), sl 3 1 intC (some ⟨a41, 0, none⟩) 2 [0, 0], Tx] ++ R) (fun s => 30 - s.1) (0, 1, [newSeg 2 1]) (⟨hst0, by decide, by decide, rfl, by decide⟩) (by repeat constructor) (by repeat constructor) (fun s hs => ?_)
    obtain ⟨i, made, xs⟩ := s
    obtain ⟨hst, hmade, hlen, hpl, hi⟩ := hs
    dsimp only at hst hmade hlen hpl hi ⊢
    refine Gs.seq ?_
    refine Gs.seq ?_
    refine Gs.reg ?_
    refine Go.Sl.L.pu rfl rfl trivial (pu_move rfl) ?_
    refine Go.Sl.L.pu rfl rfl trivial (pu_move rfl) ?_
    refine Go.Sl.L.ac rfl rfl trivial (as_call (low_spec many 30 (by decide) (by decide)) (by repeat constructor) (by repeat constructor)) ?_
    rintro _ _ ⟨_, ⟨rfl, rfl⟩, rfl⟩
    rw [← hmz]
    refine Go.Sl.L.pu rfl rfl trivial (pu_lt rfl rfl) ?_
    refine Go.Sl.L.nil ?_
    refine Gs.then_n ?_
    refine Gs.cond rfl (fun hc1 => ?_) (fun hc1 => ?_)
    · skip
      have hlt : i < 30 := by have := of_decide_eq_true hc1; omega
      refine Gs.skip ?_
      refine Gs.then_n ?_
      refine Gs.seq ?_
      refine Gs.block ?_
      refine Gs.seq ?_
      refine Gs.reg ?_
      refine Go.Sl.L.pu rfl rfl trivial (pu_move rfl) ?_
      refine Go.Sl.L.rd rfl rfl trivial (rd_lda ag_43 rfl (Rdc.cl 8 (by repeat constructor) rfl) rfl) ?_
      refine Go.Sl.L.ac rfl rfl trivial (ac_lit encC_3 ([(0 : Int), 0]) et_23 ek_3 rfl (by repeat constructor) rfl rfl (by decide)) ?_
      rintro _ _ ⟨a51, rfl, rfl⟩
      refine Go.Sl.L.ac rfl rfl trivial (ac_lit encC_3 ([(0 : Int), 0]) et_23 ek_3 rfl (by repeat constructor) rfl rfl (by decide)) ?_
      rintro _ _ ⟨a52, rfl, rfl⟩
      refine Gs.drvOk (D := xs.map segF) (by repeat constructor) fun hok => ?_
      have huk := used_ok hok
      refine Go.Sl.L.ac rfl rfl trivial (as_call (writeG_spec (b := g) (d := d) (n := 2) (most := most) (made := made) (xs := xs) (L := [sl 3 1 intC (some ⟨a41, 0, none⟩) 2 [0, 0], sl 3 1 intC (some ⟨a51, 0, none⟩) 2 [0, 0], sl 3 1 intC (some ⟨a52, 0, none⟩) 2 [0, 0], Tx]) (e := markV a41) (v := [0, 0]) (w := [0, 0]) ⟨Srd.nil, Srd.bigs (A := sl 3 1 intC (some ⟨a41, 0, none⟩) 2 [0, 0]) Srd.own (by simp)⟩ (Srd.bigs (A := sl 3 1 intC (some ⟨a51, 0, none⟩) 2 [0, 0]) Srd.own (by simp)) (Srd.bigs (A := sl 3 1 intC (some ⟨a52, 0, none⟩) 2 [0, 0]) Srd.own (by simp)) (hT.inn (Inn.mem (by simp))) (by decide) (by decide) hst (by omega) (by omega) (by omega)) (by repeat constructor) (by repeat constructor)) ?_
      rintro _ _ ⟨_, ⟨rfl, rfl⟩, rfl⟩
      rw [show (markV a41).p = markE from rfl]
      have hst' := wS_st (most := most) (e := markE) (v := [0, 0]) (w := [0, 0]) hst
      have hmd' := wS_made (most := most) (e := markE) (v := [0, 0]) (w := [0, 0]) hst
      have hln' := wS_len (most := most) (e := markE) (v := [0, 0]) (w := [0, 0]) hst
      have hfp' := wS_flat (most := most) (e := markE) (v := [0, 0]) (w := [0, 0]) hst
      have hcd' := wS_code (most := most) (e := markE) (v := [0, 0]) (w := [0, 0]) hst
      obtain ⟨o, ho⟩ : ∃ o, o = wS most 2 made xs markE [0, 0] [0, 0] := ⟨_, rfl⟩
      rw [← ho] at hst' hmd' hln' hfp' hcd' ⊢
      refine Go.Sl.L.pu rfl rfl trivial (pu_assign rfl) ?_
      refine Go.Sl.L.nil ?_
      refine Gs.then_n ?_
      refine Gs.seq ?_
      refine Gs.seq ?_
      refine Gs.reg ?_
      refine Go.Sl.L.pu rfl rfl trivial (pu_move rfl) ?_
      refine Go.Sl.L.pu rfl rfl trivial (pu_eq rfl rfl) ?_
      refine Go.Sl.L.nil ?_
      refine Gs.then_n ?_
      refine Gs.cond rfl (fun hc2 => ?_) (fun hc2 => ?_)
      · skip
        have h8 : o.e = 8 := of_decide_eq_true hc2
        rw [if_neg (by omega)] at hfp'
        obtain ⟨fm, hfm⟩ : ∃ z, z = o.made := ⟨_, rfl⟩
        obtain ⟨fx, hfx⟩ : ∃ z, z = o.xs := ⟨_, rfl⟩
        rw [← hfm, ← hfx]
        have hfst : St 2 fm fx := by rw [hfm, hfx]; exact hst'
        have hfmd : fm < 98 := by omega
        have hfl : fx.length ≤ 100 := by rw [hfx]; omega
        have hfp : (plainE (flatS fx)).length = i := by rw [hfx, hfp']; exact hpl
        refine Gs.exit ?_
        refine Gs.then_x ?_
        refine Gs.blk_miss (by decide) ?_
        refine Gs.then_x ?_
        refine Gs.then_x ?_
        refine Gs.blk_hit ?_
        refine Gs.then_n ?_
        refine Gs.seq ?_
        refine Gs.seq ?_
        refine Gs.reg ?_
        refine Go.Sl.L.pu rfl rfl trivial (pu_move rfl) ?_
        refine Go.Sl.L.ac rfl rfl trivial (as_call (syncSt_spec (b := g) (d := d) (n := 2) (most := most) (made := fm) (xs := fx) (by omega)) (by repeat constructor) (by repeat constructor)) ?_
        rintro _ _ ⟨_, ⟨rfl, rfl⟩, rfl⟩
        refine Go.Sl.L.pu rfl rfl trivial (pu_ne rfl rfl) ?_
        refine Go.Sl.L.nil ?_
        refine Gs.then_n ?_
        refine Gs.cond_ff rfl rfl ?_
        refine Gs.skip ?_
        refine Gs.then_n ?_
        refine Gs.seq ?_
        refine Gs.reg ?_
        refine Go.Sl.L.pu rfl rfl trivial (pu_move rfl) ?_
        refine Go.Sl.L.ac rfl rfl trivial (as_call (openSt_spec (d := d) (n := 2) (most := most) (made := fm) (xs := fx.map syn) hT (by decide) (by decide) (syn_st hfst) hfmd (by rw [List.length_map]; omega)) (by repeat constructor) (by repeat constructor)) ?_
        rintro _ _ ⟨_, ⟨g2, fa, fc, fs, made2, rfl, ⟨hst2, hm2, hfs⟩, rfl⟩, rfl⟩
        refine Go.Sl.L.pu rfl rfl trivial (pu_move rfl) ?_
        refine Go.Sl.L.pu rfl rfl trivial (pu_extract rfl rfl) ?_
        refine Go.Sl.L.pu rfl rfl trivial (pu_extract rfl rfl) ?_
        refine Go.Sl.L.pu rfl rfl trivial (pu_extract rfl rfl) ?_
        refine Go.Sl.L.pu rfl rfl trivial (pu_assign rfl) ?_
        refine Go.Sl.L.pu rfl rfl trivial (pu_assign rfl) ?_
        refine Go.Sl.L.pu rfl rfl trivial (pu_assign rfl) ?_
        refine Go.Sl.L.nil ?_
        rw [syn_flat] at hfs
        have hcnt := count_all hfst.inv.good
        have hfsl : fs.length ≤ 1000 := by have := congrArg List.length hfs; rw [List.length_map] at this; omega
        have hpv : (filterV fs).length = i := by
          have h1 := congrArg List.length (filterV_plain fs)
          rw [hfs, List.length_map] at h1
          rw [h1, hfp]
        refine Gs.then_n ?_
        refine Gs.seq ?_
        refine Gs.reg ?_
        refine Go.Sl.L.pu rfl rfl trivial (pu_move rfl) ?_
        refine Go.Sl.L.pu rfl rfl trivial (pu_eq rfl rfl) ?_
        refine Go.Sl.L.puBt rfl rfl trivial (pu_move rfl) rfl ?_
        refine Go.Sl.L.pu rfl rfl ⟨_, rfl, rfl⟩ (pu_move rfl) ?_
        refine Go.Sl.L.ac rfl rfl ⟨_, rfl, rfl⟩ (as_call (plain_spec (erd_elO fa fc fs).1 (by omega)) (by repeat constructor) (by repeat constructor)) ?_
        rintro _ _ ⟨_, ⟨pa, pc, rfl, rfl⟩, rfl⟩
        refine Go.Sl.L.pu rfl rfl ⟨_, rfl, rfl⟩ (pu_len Tryz.underlying22 rfl) ?_
        refine Go.Sl.L.pu rfl rfl ⟨_, rfl, rfl⟩ (pu_move rfl) ?_
        refine Go.Sl.L.pu rfl rfl ⟨_, rfl, rfl⟩ (pu_eq rfl rfl) ?_
        refine Go.Sl.L.pu rfl rfl trivial (by first | exact pu_pick_t rfl rfl | exact pu_pick_f rfl rfl) ?_
        refine Go.Sl.L.puBt rfl rfl trivial (pu_move rfl) (decide_eq_true (by rw [hpv])) ?_
        refine Go.Sl.L.ac rfl rfl ⟨_, rfl, rfl⟩ (as_call (awake9_spec hT) (by repeat constructor) (by repeat constructor)) ?_
        rintro _ _ ⟨_, ⟨rfl, rfl⟩, rfl⟩
        refine Go.Sl.L.pu rfl rfl trivial (by first | exact pu_pick_t rfl rfl | exact pu_pick_f rfl rfl) ?_
        refine Go.Sl.L.pu rfl rfl trivial (pu_assign rfl) ?_
        refine Go.Sl.L.nil ?_
        refine Gs.then_n ?_
        refine Gs.ret ?_
        exact Gs.fin1 Tryz.results4 rfl _ (⟨rfl, rfl⟩) (by repeat constructor)
      · skip
        have h0 : o.e = 0 := by
          rcases hcd' with h | h | ⟨-, h⟩
          · exact h
          · exact absurd h (of_decide_eq_false hc2)
          · rw [mark_may] at h; cases h
        rw [if_pos h0] at hfp'
        refine Gs.drvOk (D := o.xs.map segF) (by repeat constructor) fun hok2 => ?_
        have hrm2 := hok2.room
        refine Gs.skip ?_
        refine Gs.then_n ?_
        refine Gs.seq ?_
        refine Gs.seq ?_
        refine Gs.reg ?_
        refine Go.Sl.L.pu rfl rfl trivial (pu_move rfl) ?_
        refine Go.Sl.L.pu rfl rfl trivial (pu_ne rfl rfl) ?_
        refine Go.Sl.L.puBf rfl rfl trivial (pu_move rfl) (decide_eq_false (fun h => h h0)) ?_
        refine Go.Sl.L.pu rfl rfl ⟨_, rfl, rfl⟩ (pu_move rfl) ?_
        refine Go.Sl.L.ac rfl rfl ⟨_, rfl, rfl⟩ (as_call (used_spec d most (o.xs.map segF) (by rw [List.length_map]; omega)) (by repeat constructor) (by repeat constructor)) ?_
        rintro _ _ ⟨_, ⟨rfl, rfl⟩, rfl⟩
        refine Go.Sl.L.pu rfl rfl ⟨_, rfl, rfl⟩ (pu_move rfl) ?_
        refine Go.Sl.L.pu rfl rfl ⟨_, rfl, rfl⟩ (pu_gt rfl rfl) ?_
        refine Go.Sl.L.pu rfl rfl trivial (by first | exact pu_pick_t rfl rfl | exact pu_pick_f rfl rfl) ?_
        refine Go.Sl.L.nil ?_
        refine Gs.then_n ?_
        refine Gs.cond_ff rfl (decide_eq_false (by omega)) ?_
        refine Gs.skip ?_
        refine Gs.then_n ?_
        refine Gs.reg ?_
        refine Go.Sl.L.pu rfl rfl trivial (pu_move rfl) ?_
        refine Go.Sl.L.pu rfl rfl trivial (pu_addI (z := ((i + 1 : Nat) : Int)) rfl rfl (by omega) (by omega) (by omega)) ?_
        refine Go.Sl.L.pu rfl rfl trivial (pu_assign rfl) ?_
        refine Go.Sl.L.nil ?_
        refine Gs.blk_n ?_
        refine Gs.then_n ?_
        refine Gs.reg ?_
        refine Go.Sl.L.pu rfl rfl trivial (pu_move rfl) ?_
        refine Go.Sl.L.pu rfl rfl trivial (pu_addI (z := ((i + 1 : Nat) : Int)) rfl rfl (by omega) (by omega) (by omega)) ?_
        refine Go.Sl.L.pu rfl rfl trivial (pu_assign rfl) ?_
        refine Go.Sl.L.nil ?_
        refine Gs.then_n ?_
        exact Gs.again1 (i + 1, o.made, o.xs) ⟨hst', by show o.made ≤ i + 1 + 1; omega, by show o.xs.length ≤ i + 1 + 1; omega, by show (plainE (flatS o.xs)).length = i + 1; rw [hfp', List.length_append, hpl]; rfl, hlt⟩ (by show 30 - (i + 1) < 30 - i; omega) (by repeat constructor) (by repeat constructor)
    · skip
      obtain ⟨fm, hfm⟩ : ∃ z, z = made := ⟨_, rfl⟩
      obtain ⟨fx, hfx⟩ : ∃ z, z = xs := ⟨_, rfl⟩
      rw [← hfm, ← hfx]
      have hfst : St 2 fm fx := by rw [hfm, hfx]; exact hst
      have hfmd : fm < 98 := by omega
      have hfl : fx.length ≤ 100 := by rw [hfx]; omega
      have hfp : (plainE (flatS fx)).length = i := by rw [hfx]; exact hpl
      refine Gs.exit ?_
      refine Gs.then_x ?_
      refine Gs.then_x ?_
      refine Gs.blk_hit ?_
      refine Gs.then_n ?_
      refine Gs.seq ?_
      refine Gs.seq ?_
      refine Gs.reg ?_
      refine Go.Sl.L.pu rfl rfl trivial (pu_move rfl) ?_
      refine Go.Sl.L.ac rfl rfl trivial (as_call (syncSt_spec (b := g) (d := d) (n := 2) (most := most) (made := fm) (xs := fx) (by omega)) (by repeat constructor) (by repeat constructor)) ?_
      rintro _ _ ⟨_, ⟨rfl, rfl⟩, rfl⟩
      refine Go.Sl.L.pu rfl rfl trivial (pu_ne rfl rfl) ?_
      refine Go.Sl.L.nil ?_
      refine Gs.then_n ?_
      refine Gs.cond_ff rfl rfl ?_
      refine Gs.skip ?_
      refine Gs.then_n ?_
      refine Gs.seq ?_
      refine Gs.reg ?_
      refine Go.Sl.L.pu rfl rfl trivial (pu_move rfl) ?_
      refine Go.Sl.L.ac rfl rfl trivial (as_call (openSt_spec (d := d) (n := 2) (most := most) (made := fm) (xs := fx.map syn) hT (by decide) (by decide) (syn_st hfst) hfmd (by rw [List.length_map]; omega)) (by repeat constructor) (by repeat constructor)) ?_
      rintro _ _ ⟨_, ⟨g2, fa, fc, fs, made2, rfl, ⟨hst2, hm2, hfs⟩, rfl⟩, rfl⟩
      refine Go.Sl.L.pu rfl rfl trivial (pu_move rfl) ?_
      refine Go.Sl.L.pu rfl rfl trivial (pu_extract rfl rfl) ?_
      refine Go.Sl.L.pu rfl rfl trivial (pu_extract rfl rfl) ?_
      refine Go.Sl.L.pu rfl rfl trivial (pu_extract rfl rfl) ?_
      refine Go.Sl.L.pu rfl rfl trivial (pu_assign rfl) ?_
      refine Go.Sl.L.pu rfl rfl trivial (pu_assign rfl) ?_
      refine Go.Sl.L.pu rfl rfl trivial (pu_assign rfl) ?_
      refine Go.Sl.L.nil ?_
      rw [syn_flat] at hfs
      have hcnt := count_all hfst.inv.good
      have hfsl : fs.length ≤ 1000 := by have := congrArg List.length hfs; rw [List.length_map] at this; omega
      have hpv : (filterV fs).length = i := by
        have h1 := congrArg List.length (filterV_plain fs)
        rw [hfs, List.length_map] at h1
        rw [h1, hfp]
      refine Gs.then_n ?_
      refine Gs.seq ?_
      refine Gs.reg ?_
      refine Go.Sl.L.pu rfl rfl trivial (pu_move rfl) ?_
      refine Go.Sl.L.pu rfl rfl trivial (pu_eq rfl rfl) ?_
      refine Go.Sl.L.puBt rfl rfl trivial (pu_move rfl) rfl ?_
      refine Go.Sl.L.pu rfl rfl ⟨_, rfl, rfl⟩ (pu_move rfl) ?_
      refine Go.Sl.L.ac rfl rfl ⟨_, rfl, rfl⟩ (as_call (plain_spec (erd_elO fa fc fs).1 (by omega)) (by repeat constructor) (by repeat constructor)) ?_
      rintro _ _ ⟨_, ⟨pa, pc, rfl, rfl⟩, rfl⟩
      refine Go.Sl.L.pu rfl rfl ⟨_, rfl, rfl⟩ (pu_len Tryz.underlying22 rfl) ?_
      refine Go.Sl.L.pu rfl rfl ⟨_, rfl, rfl⟩ (pu_move rfl) ?_
      refine Go.Sl.L.pu rfl rfl ⟨_, rfl, rfl⟩ (pu_eq rfl rfl) ?_
      refine Go.Sl.L.pu rfl rfl trivial (by first | exact pu_pick_t rfl rfl | exact pu_pick_f rfl rfl) ?_
      refine Go.Sl.L.puBt rfl rfl trivial (pu_move rfl) (decide_eq_true (by rw [hpv])) ?_
      refine Go.Sl.L.ac rfl rfl ⟨_, rfl, rfl⟩ (as_call (awake9_spec hT) (by repeat constructor) (by repeat constructor)) ?_
      rintro _ _ ⟨_, ⟨rfl, rfl⟩, rfl⟩
      refine Go.Sl.L.pu rfl rfl trivial (by first | exact pu_pick_t rfl rfl | exact pu_pick_f rfl rfl) ?_
      refine Go.Sl.L.pu rfl rfl trivial (pu_assign rfl) ?_
      refine Go.Sl.L.nil ?_
      refine Gs.then_n ?_
      refine Gs.ret ?_
      exact Gs.fin1 Tryz.results4 rfl _ (⟨rfl, rfl⟩) (by repeat constructor)
  · skip
    refine Go.Sl.L.pu rfl rfl trivial (pu_move rfl) ?_
    refine Go.Sl.L.pu rfl rfl trivial (pu_extract rfl rfl) ?_
    refine Go.Sl.L.pu rfl rfl trivial (pu_extract rfl rfl) ?_
    refine Go.Sl.L.pu rfl rfl trivial (pu_extract rfl rfl) ?_
    refine Go.Sl.L.pu rfl rfl trivial (pu_assign rfl) ?_
    refine Go.Sl.L.pu rfl rfl trivial (pu_assign rfl) ?_
    refine Go.Sl.L.pu rfl rfl trivial (pu_assign rfl) ?_
    refine Go.Sl.L.nil ?_
    refine Gs.then_n ?_
    refine Gs.seq ?_
    refine Gs.seq ?_
    refine Gs.reg ?_
    refine Go.Sl.L.pu rfl rfl trivial (pu_move rfl) ?_
    refine Go.Sl.L.pu rfl rfl trivial (pu_eqN Tryz.underlying28 rfl rfl) ?_
    refine Go.Sl.L.pu rfl rfl trivial (pu_move rfl) ?_
    refine Go.Sl.L.off rfl rfl rfl rfl rfl rfl ?_
    refine Go.Sl.L.off rfl rfl rfl rfl rfl rfl ?_
    refine Go.Sl.L.pu rfl rfl trivial (by first | exact pu_pick_t rfl rfl | exact pu_pick_f rfl rfl) ?_
    refine Go.Sl.L.nil ?_
    refine Gs.then_n ?_
    refine Gs.cond_t rfl ?_
    refine Gs.seq ?_
    refine Gs.reg ?_
    refine Go.Sl.L.pu rfl rfl trivial (pu_move rfl) ?_
    refine Go.Sl.L.pu rfl rfl trivial (pu_eqN Tryz.underlying28 rfl rfl) ?_
    refine Go.Sl.L.puBt rfl rfl trivial (pu_move rfl) rfl ?_
    refine Go.Sl.L.pu rfl rfl ⟨_, rfl, rfl⟩ (pu_move rfl) ?_
    refine Go.Sl.L.pu rfl rfl ⟨_, rfl, rfl⟩ (pu_eq rfl rfl) ?_
    refine Go.Sl.L.pu rfl rfl trivial (by first | exact pu_pick_t rfl rfl | exact pu_pick_f rfl rfl) ?_
    refine Go.Sl.L.puBt rfl rfl trivial (pu_move rfl) rfl ?_
    refine Go.Sl.L.ac rfl rfl ⟨_, rfl, rfl⟩ (as_call (awake9_spec hT) (by repeat constructor) (by repeat constructor)) ?_
    rintro _ _ ⟨_, ⟨rfl, rfl⟩, rfl⟩
    refine Go.Sl.L.pu rfl rfl trivial (by first | exact pu_pick_t rfl rfl | exact pu_pick_f rfl rfl) ?_
    refine Go.Sl.L.pu rfl rfl trivial (pu_assign rfl) ?_
    refine Go.Sl.L.nil ?_
    refine Gs.then_n ?_
    refine Gs.ret ?_
    refine Gs.then_r ?_
    exact Gs.fin1 Tryz.results4 rfl _ (⟨rfl, rfl⟩) (by repeat constructor)
end Go.Proofs.YtjaafkakeccniaaGreatDoor
