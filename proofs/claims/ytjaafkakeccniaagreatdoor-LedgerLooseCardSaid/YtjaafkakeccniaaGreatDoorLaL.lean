/- Walk: LedgerLoose. Nothing but the last segment is loose; and what a crash leaves. -/
import Derived.Test.YtjaafkakeccniaaGreatDoorLcr
namespace Go.Proofs.YtjaafkakeccniaaGreatDoor
open Go Go.Sl Go.Gv Go.Dv Go.Bst
set_option maxRecDepth 100000
def LenS (xs : List Seg) : Prop := ∀ x ∈ xs, (layS x.es).length ≤ 544
theorem lenS_syn {xs : List Seg} (h : LenS xs) : LenS (xs.map syn) := fun x hx => by
  obtain ⟨y, hy, rfl⟩ := List.mem_map.1 hx
  exact h y hy
theorem lenS_new {n : Int} (h1 : 1 ≤ n) (h8 : n ≤ 8) (k : Nat) : LenS [newSeg n k] := fun x hx => by
  simp only [List.mem_singleton] at hx
  subst hx
  have e : layS (newSeg n k).es = layE (zeroB n) := by simp [newSeg, layS]
  rw [e]; have := zeroB_len h1 h8; omega
theorem lenS_wS {most n : Int} {made : Nat} {xs : List Seg} {e : EntP} {v w : List Int} (hne : xs ≠ []) (h : LenS xs) (hw : mayW n e v w = true) : LenS (wS most n made xs e v w).xs := by
  obtain ⟨X, x, rfl⟩ := last_of hne
  have hb := base_len (mayW_iff hw).2.2
  have he := layE_len (mayW_iff hw).2.1
  have hX : ∀ y ∈ X, (layS y.es).length ≤ 544 := fun y hy => h y (List.mem_append_left _ hy)
  have hx := h x (by simp)
  rw [wS_yes hw]
  unfold wrS
  by_cases h4 : (layS x.es).length < 400
  · rw [if_pos h4]
    by_cases h8 : most < usedS (X ++ [x]) + (layE e).length
    · rw [if_pos h8]; exact h
    · rw [if_neg h8]
      intro y hy
      rcases List.mem_append.1 hy with hy | hy
      · exact hX y hy
      · simp only [List.mem_singleton] at hy; subst hy
        show (layS (x.es ++ [e])).length ≤ 544
        rw [layS_app, List.length_append]
        have : layS [e] = layE e := by simp [layS]
        rw [this]; omega
  · rw [if_neg h4]
    have hs : ∀ y ∈ X ++ [syn x], (layS y.es).length ≤ 544 := fun y hy => by
      rcases List.mem_append.1 hy with hy | hy
      · exact hX y hy
      · simp only [List.mem_singleton] at hy; subst hy; exact hx
    by_cases h8 : most < usedS (X ++ [x]) + ((layE (baseE v w)).length + (layE e).length)
    · rw [if_pos h8]; exact hs
    · rw [if_neg h8]
      intro y hy
      rcases List.mem_append.1 hy with hy | hy
      · exact hs y hy
      · simp only [List.mem_singleton] at hy; subst hy
        show (layS [baseE v w, e]).length ≤ 544
        have : layS [baseE v w, e] = layE (baseE v w) ++ layE e := by simp [layS]
        rw [this, List.length_append]; omega
theorem loose_app (X Y : List Seg) : looseS (X ++ Y) = looseS X + looseS Y := by unfold looseS; rw [List.map_append, List.sum_append]
theorem loose_sync {X : List Seg} (h : SyncS X) : looseS X = 0 := by
  induction X with
  | nil => rfl
  | cons x X ih =>
    have h1 := ih fun y hy => h y (by simp [hy])
    have h2 := h x (by simp)
    unfold looseS at h1 ⊢
    rw [List.map_cons, List.sum_cons, h1, h2]; omega
theorem fit_loose {xs : List Seg} {f : Nat} (hF : Fit xs f) (hl : LenS xs) : looseS xs ≤ 544 := by
  obtain ⟨X, x, rfl, hs, -⟩ := hF
  rw [loose_app, loose_sync hs]
  have h := hl x (by simp)
  show 0 + ((layS x.es).length - x.s + 0) ≤ 544
  omega
theorem fit_grow {most n : Int} {made f : Nat} {xs : List Seg} {e : EntP} {v w : List Int} (hF : Fit xs f) (hg : xs.length < (wS most n made xs e v w).xs.length) : Fit (wS most n made xs e v w).xs (plainE (flatS xs)).length := by
  obtain ⟨X, x, rfl, hs, hf⟩ := hF
  by_cases hw : mayW n e v w = true
  · rw [wS_yes hw] at hg ⊢
    unfold wrS at hg ⊢
    by_cases h4 : (layS x.es).length < 400
    · rw [if_pos h4] at hg
      by_cases h8 : most < usedS (X ++ [x]) + (layE e).length
      · rw [if_pos h8] at hg; simp at hg
      · rw [if_neg h8] at hg; simp at hg
    · rw [if_neg h4] at hg ⊢
      by_cases h8 : most < usedS (X ++ [x]) + ((layE (baseE v w)).length + (layE e).length)
      · rw [if_pos h8] at hg; simp at hg
      · rw [if_neg h8]
        refine ⟨X ++ [syn x], _, rfl, fun y hy => ?_, plain_mono ?_⟩
        · rcases List.mem_append.1 hy with hy | hy
          · exact hs y hy
          · simp only [List.mem_singleton] at hy; subst hy; rfl
        · rw [flat_app, flat_app, flat_one, flat_one, show (syn x).es = x.es from rfl]
          exact List.prefix_append _ _
  · rw [wS_no (by simpa using hw)] at hg; exact absurd hg (Nat.lt_irrefl _)
set_option maxHeartbeats 1000000 in
theorem loose9_spec {Tx : HProp} (hT : RMs Tx) (many sy : Int) (text : ByteArray) :
    Ct Tryz.prog 7 [int many, .string text, int sy] [Tx] (fun r hs => r = .bool true ∧ hs = [Tx]) := by
  obtain ⟨hm0, hm1⟩ := lowZ_in (a := many) (b := 41) (by decide) (by decide)
  obtain ⟨mz, hmz⟩ : ∃ z, z = lowZ many 41 := ⟨_, rfl⟩
  rw [← hmz] at hm0 hm1
  have hst0 : St 1 1 [newSeg 1 1] := newSeg_st (by decide) (by decide) (by decide)
  have hu0 : usedS [newSeg 1 1] ≤ 46 := by
    have e : layS [zeroB 1] = layE (zeroB 1) := by simp [layS]
    show (layS [zeroB 1]).length + 0 ≤ 46
    rw [e]; exact zeroB_len (by decide) (by decide)
  refine Ct.intro Tryz.func7 rfl (by kernel_rfl) 129 Tryz.ntmps7 (Nat.le_of_ble_eq_true rfl) fun w0 R => ?_
  refine Gs.seq ?_
  refine Gs.reg ?_
  refine Go.Sl.L.pu rfl rfl trivial (pu_assign rfl) ?_
  refine Go.Sl.L.nil ?_
  refine Gs.then_n ?_
  refine Gs.seq ?_
  refine Gs.reg ?_
  refine Go.Sl.L.pu rfl rfl trivial (pu_move rfl) ?_
  refine Go.Sl.L.ac rfl rfl trivial (as_call (low_spec many 41 (by decide) (by decide)) (by repeat constructor) (by repeat constructor)) ?_
  rintro _ _ ⟨_, ⟨rfl, rfl⟩, rfl⟩
  rw [← hmz]
  refine Go.Sl.L.pu rfl rfl trivial (pu_assign rfl) ?_
  refine Go.Sl.L.nil ?_
  refine Gs.then_n ?_
  refine Gs.seq ?_
  refine Gs.seq ?_
  refine Gs.reg ?_
  refine Go.Sl.L.pu rfl rfl trivial (pu_move rfl) ?_
  refine Go.Sl.L.pu rfl rfl trivial (pu_lenS Tryz.underlying9 rfl) ?_
  refine Go.Sl.L.pu rfl rfl trivial (pu_gt rfl rfl) ?_
  refine Go.Sl.L.puB rfl rfl trivial (pu_move rfl) (fun hg3 => ?_) (fun hg3 => ?_)
  · skip
    refine Go.Sl.L.off rfl rfl rfl rfl rfl rfl ?_
    refine Go.Sl.L.off rfl rfl rfl rfl rfl rfl ?_
    refine Go.Sl.L.off rfl rfl rfl rfl rfl rfl ?_
    refine Go.Sl.L.off rfl rfl rfl rfl rfl rfl ?_
    refine Go.Sl.L.off rfl rfl rfl rfl rfl rfl ?_
    refine Go.Sl.L.off rfl rfl rfl rfl rfl rfl ?_
    refine Go.Sl.L.pu rfl rfl trivial (by first | exact pu_pick_t rfl rfl | exact pu_pick_f rfl rfl) ?_
    refine Go.Sl.L.nil ?_
    refine Gs.then_n ?_
    refine Gs.cond_t rfl ?_
    refine Gs.seq ?_
    refine Gs.reg ?_
    refine Go.Sl.L.ac rfl rfl trivial (as_call (awake9_spec hT) (by repeat constructor) (by repeat constructor)) ?_
    rintro _ _ ⟨_, ⟨rfl, rfl⟩, rfl⟩
    refine Go.Sl.L.pu rfl rfl trivial (pu_assign rfl) ?_
    refine Go.Sl.L.nil ?_
    refine Gs.then_n ?_
    refine Gs.ret ?_
    refine Gs.then_r ?_
    exact Gs.fin1 Tryz.results7 rfl _ (⟨rfl, rfl⟩) (by repeat constructor)
  · skip
    refine Go.Sl.L.pu rfl rfl ⟨_, rfl, rfl⟩ (pu_build bd_37 (by repeat constructor) rfl) ?_
    refine Go.Sl.L.pu rfl rfl ⟨_, rfl, rfl⟩ (pu_move rfl) ?_
    refine Go.Sl.L.pu rfl rfl ⟨_, rfl, rfl⟩ (pu_build bd_41 (by repeat constructor) rfl) ?_
    refine Go.Sl.L.pu rfl rfl ⟨_, rfl, rfl⟩ (pu_build bd_43 (by repeat constructor) rfl) ?_
    refine Go.Sl.L.ac rfl rfl ⟨_, rfl, rfl⟩ (as_call (segMay8_spec (e := recV 1 0 text) ⟨Srd.nil, Srd.nil⟩ hT 1) (by repeat constructor) (by repeat constructor)) ?_
    rintro _ _ ⟨_, ⟨rfl, rfl⟩, rfl⟩
    refine Go.Sl.L.pu rfl rfl ⟨_, rfl, rfl⟩ (pu_not rfl) ?_
    refine Go.Sl.L.pu rfl rfl trivial (by first | exact pu_pick_t rfl rfl | exact pu_pick_f rfl rfl) ?_
    refine Go.Sl.L.nil ?_
    refine Gs.then_n ?_
    refine Gs.cond rfl (fun hc0 => ?_) (fun hc0 => ?_)
    · skip
      refine Gs.seq ?_
      refine Gs.reg ?_
      refine Go.Sl.L.ac rfl rfl trivial (as_call (awake9_spec hT) (by repeat constructor) (by repeat constructor)) ?_
      rintro _ _ ⟨_, ⟨rfl, rfl⟩, rfl⟩
      refine Go.Sl.L.pu rfl rfl trivial (pu_assign rfl) ?_
      refine Go.Sl.L.nil ?_
      refine Gs.then_n ?_
      refine Gs.ret ?_
      refine Gs.then_r ?_
      exact Gs.fin1 Tryz.results7 rfl _ (⟨rfl, rfl⟩) (by repeat constructor)
    · skip
      have htx : textB text = true := by
        have h := hc0
        rw [rec_may (by decide) (by decide) (by decide) (by decide)] at h
        simpa using h
      refine Gs.skip ?_
      refine Gs.then_n ?_
      refine Gs.seq ?_
      refine Gs.reg ?_
      refine Go.Sl.L.ac rfl rfl trivial (as_call (drvNew_ok 60000 (by decide) (by decide)) (by repeat constructor) (by repeat constructor)) ?_
      rintro _ _ ⟨_, ⟨d, rfl, rfl⟩, rfl⟩
      refine Go.Sl.L.pu rfl rfl trivial (pu_assign rfl) ?_
      refine Go.Sl.L.nil ?_
      refine Gs.then_n ?_
      refine Gs.seq ?_
      refine Gs.reg ?_
      refine Go.Sl.L.pu rfl rfl trivial (pu_move rfl) ?_
      refine Go.Sl.L.ac rfl rfl trivial (as_call (openNew_spec (d := d) (n := 1) (most := 60000) hT (by decide) (by decide) (by decide)) (by repeat constructor) (by repeat constructor)) ?_
      rintro _ _ ⟨_, ⟨g, oa, oc, os, rfl, hos, rfl⟩, rfl⟩
      refine Go.Sl.L.pu rfl rfl trivial (pu_move rfl) ?_
      refine Go.Sl.L.pu rfl rfl trivial (pu_extract rfl rfl) ?_
      refine Go.Sl.L.pu rfl rfl trivial (pu_extract rfl rfl) ?_
      refine Go.Sl.L.pu rfl rfl trivial (pu_extract rfl rfl) ?_
      refine Go.Sl.L.pu rfl rfl trivial (pu_assign rfl) ?_
      refine Go.Sl.L.pu rfl rfl trivial (pu_assign rfl) ?_
      refine Go.Sl.L.pu rfl rfl trivial (pu_assign rfl) ?_
      refine Go.Sl.L.nil ?_
      refine Gs.then_n ?_
      refine Gs.seq ?_
      refine Gs.seq ?_
      refine Gs.reg ?_
      refine Go.Sl.L.pu rfl rfl trivial (pu_move rfl) ?_
      refine Go.Sl.L.pu rfl rfl trivial (pu_eqN Tryz.underlying28 rfl rfl) ?_
      refine Go.Sl.L.puBf rfl rfl trivial (pu_move rfl) rfl ?_
      refine Go.Sl.L.pu rfl rfl ⟨_, rfl, rfl⟩ (pu_move rfl) ?_
      refine Go.Sl.L.pu rfl rfl ⟨_, rfl, rfl⟩ (pu_ne rfl rfl) ?_
      refine Go.Sl.L.pu rfl rfl trivial (by first | exact pu_pick_t rfl rfl | exact pu_pick_f rfl rfl) ?_
      refine Go.Sl.L.nil ?_
      refine Gs.then_n ?_
      refine Gs.cond_ff rfl rfl ?_
      refine Gs.skip ?_
      refine Gs.then_n ?_
      refine Gs.seq ?_
      refine Gs.reg ?_
      refine Go.Sl.L.pu rfl rfl trivial (pu_assign rfl) ?_
      refine Go.Sl.L.nil ?_
      refine Gs.then_n ?_
      refine Gs.seq ?_
      refine Gs.seq ?_
      refine Gs.reg ?_
      refine Go.Sl.L.pu rfl rfl trivial (pu_assign rfl) ?_
      refine Go.Sl.L.nil ?_
      refine Gs.then_n ?_
      refine Gs.block ?_
      refine Gs.loop1 (fun s : Nat × Nat × List Seg × Nat => St 1 s.2.1 s.2.2.1 ∧ Fit s.2.2.1 s.2.2.2 ∧ s.2.1 ≤ s.1 + 1 ∧ s.2.2.1.length ≤ s.1 + 1 ∧ usedS s.2.2.1 ≤ 46 + 190 * s.1 ∧ LenS s.2.2.1 ∧ (plainE (flatS s.2.2.1)).length = s.1 ∧ (s.1 : Int) ≤ mz) (fun s => [(0, int mz), (1, .string text), (2, int sy), (7, ptr d), (8, ptr g), (11, int s.2.2.2), (12, int (s.1 + 1 : Nat))]) (fun s => [lgr g d 1 ⟨s.2.1, s.2.2.1.map (segP 1)⟩, drv d 60000 (s.2.2.1.map segF), Tx] ++ R) (fun s => 40 - s.1) (0, 1, [newSeg 1 1], 0) (⟨hst0, fit_new 1 1, Nat.le_refl _, Nat.le_refl _, hu0, lenS_new (by decide) (by decide) 1, rfl, hm0⟩) (by repeat constructor) (by repeat constructor) (fun s hs => ?_)
      obtain ⟨j, made, xs, firm⟩ := s
      obtain ⟨hst, hF, hmade, hlen, hus, hL, hpl, hj⟩ := hs
      dsimp only at hst hF hmade hlen hus hL hpl hj ⊢
      refine Gs.seq ?_
      refine Gs.seq ?_
      refine Gs.reg ?_
      refine Go.Sl.L.pu rfl rfl trivial (pu_move rfl) ?_
      refine Go.Sl.L.pu rfl rfl trivial (pu_move rfl) ?_
      refine Go.Sl.L.pu rfl rfl trivial (pu_le rfl rfl) ?_
      refine Go.Sl.L.nil ?_
      refine Gs.then_n ?_
      refine Gs.cond rfl (fun hc2 => ?_) (fun hc2 => ?_)
      · skip
        have hlt : ((j + 1 : Nat) : Int) ≤ mz := of_decide_eq_true hc2
        have hmW : mayW 1 (recV ((j + 1 : Nat) : Int) 0 text).p [(j : Int)] [0] = true := rec_mayW (by omega) (by omega) (by decide) (by decide) (by omega) (by omega) htx
        obtain ⟨p, hp⟩ : ∃ p, p = (recV ((j + 1 : Nat) : Int) 0 text).p := ⟨_, rfl⟩
        have hst' := wS_st (most := 60000) (e := p) (v := [(j : Int)]) (w := [0]) hst
        have hmd' := wS_made (most := 60000) (e := p) (v := [(j : Int)]) (w := [0]) hst
        have hln' := wS_len (most := 60000) (e := p) (v := [(j : Int)]) (w := [0]) hst
        have hus' := wS_used (most := 60000) (e := p) (v := [(j : Int)]) (w := [0]) hst
        have hfp' := wS_flat (most := 60000) (e := p) (v := [(j : Int)]) (w := [0]) hst
        have hok' := wS_ok (most := 60000) hst hmW (by omega)
        have hF' := fit_wS (most := 60000) (n := 1) (made := made) (e := p) (v := [(j : Int)]) (w := [0]) hF
        have hG' := fit_grow (most := 60000) (n := 1) (made := made) (e := p) (v := [(j : Int)]) (w := [0]) hF
        have hL' := lenS_wS (most := 60000) (made := made) hst.ne hL hmW
        rw [← hp] at hok' hL'
        rw [if_pos hok'] at hfp'
        obtain ⟨o, ho⟩ : ∃ o, o = wS 60000 1 made xs p [(j : Int)] [0] := ⟨_, rfl⟩
        rw [← ho] at hst' hmd' hln' hus' hfp' hok' hF' hG' hL'
        have hfl' : (plainE (flatS o.xs)).length = j + 1 := by rw [hfp', List.length_append, hpl]; rfl
        have hlo := fit_loose hF' hL'
        rw [hpl] at hG'
        refine Gs.skip ?_
        refine Gs.then_n ?_
        refine Gs.seq ?_
        refine Gs.block ?_
        refine Gs.seq ?_
        refine Gs.reg ?_
        refine Go.Sl.L.pu rfl rfl trivial (pu_move rfl) ?_
        refine Go.Sl.L.ac rfl rfl trivial (as_call (segsSt_spec (b := g) (d := d) (n := 1) (made := made) (xs := xs)) (by repeat constructor) (by repeat constructor)) ?_
        rintro _ _ ⟨_, ⟨rfl, rfl⟩, rfl⟩
        refine Go.Sl.L.pu rfl rfl trivial (pu_assign rfl) ?_
        refine Go.Sl.L.nil ?_
        refine Gs.then_n ?_
        refine Gs.seq ?_
        refine Gs.reg ?_
        refine Go.Sl.L.pu rfl rfl trivial (pu_move rfl) ?_
        refine Go.Sl.L.pu rfl rfl trivial (pu_build bd_37 (by repeat constructor) rfl) ?_
        refine Go.Sl.L.pu rfl rfl trivial (pu_move rfl) ?_
        refine Go.Sl.L.pu rfl rfl trivial (pu_build bd_41 (by repeat constructor) rfl) ?_
        refine Go.Sl.L.pu rfl rfl trivial (pu_build bd_43 (by repeat constructor) rfl) ?_
        refine Go.Sl.L.ac rfl rfl trivial (ac_alloc zv_43 rfl) ?_
        rintro _ _ ⟨vb, rfl, rfl⟩
        refine Go.Sl.L.ac0 rfl trivial (ac_st sz_43 rfl rfl (by repeat constructor) rfl rfl rfl rfl) ?_
        rintro _ _ rfl
        refine Go.Sl.L.nil ?_
        refine Gs.then_n ?_
        refine Gs.seq ?_
        refine Gs.seq ?_
        refine Gs.reg ?_
        refine Go.Sl.L.pu rfl rfl trivial (pu_move rfl) ?_
        refine Go.Sl.L.rd rfl rfl trivial (rd_lda ag_43 rfl (Rdc.cl 8 (by repeat constructor) rfl) rfl) ?_
        refine Go.Sl.L.pu rfl rfl trivial (pu_move rfl) ?_
        refine Go.Sl.L.pu rfl rfl trivial (pu_subI (z := (j : Int)) rfl rfl (by omega) (by omega) (by omega)) ?_
        refine Go.Sl.L.ac rfl rfl trivial (ac_lit encC_3 ([(j : Int)]) et_23 ek_3 rfl (by repeat constructor) rfl rfl (by decide)) ?_
        rintro _ _ ⟨a62, rfl, rfl⟩
        refine Go.Sl.L.ac rfl rfl trivial (ac_lit encC_3 ([(0 : Int)]) et_23 ek_3 rfl (by repeat constructor) rfl rfl (by decide)) ?_
        rintro _ _ ⟨a63, rfl, rfl⟩
        refine Go.Sl.L.ac rfl rfl trivial (as_call (writeG_spec (b := g) (d := d) (n := 1) (most := 60000) (made := made) (xs := xs) (L := [sl 3 1 intC (some ⟨a62, 0, none⟩) 1 [(j : Int)], sl 3 1 intC (some ⟨a63, 0, none⟩) 1 [0], Tx]) (e := recV ((j + 1 : Nat) : Int) 0 text) (v := [(j : Int)]) (w := [0]) ⟨Srd.nil, Srd.nil⟩ (Srd.bigs (A := sl 3 1 intC (some ⟨a62, 0, none⟩) 1 [(j : Int)]) Srd.own (by simp)) (Srd.bigs (A := sl 3 1 intC (some ⟨a63, 0, none⟩) 1 [0]) Srd.own (by simp)) (hT.inn (Inn.mem (by simp))) (by decide) (by decide) hst (by omega) (by omega) (by omega)) (by repeat constructor) (by repeat constructor)) ?_
        rintro _ _ ⟨_, ⟨rfl, rfl⟩, rfl⟩
        rw [← hp, ← ho]
        refine Go.Sl.L.pu rfl rfl trivial (pu_ne rfl rfl) ?_
        refine Go.Sl.L.nil ?_
        refine Gs.then_n ?_
        refine Gs.cond_ff rfl (decide_eq_false (fun h => h hok')) ?_
        refine Gs.skip ?_
        refine Gs.then_n ?_
        refine Gs.seq ?_
        refine Gs.seq ?_
        refine Gs.reg ?_
        refine Go.Sl.L.pu rfl rfl trivial (pu_move rfl) ?_
        refine Go.Sl.L.ac rfl rfl trivial (as_call (segsSt_spec (b := g) (d := d) (n := 1) (made := o.made) (xs := o.xs)) (by repeat constructor) (by repeat constructor)) ?_
        rintro _ _ ⟨_, ⟨rfl, rfl⟩, rfl⟩
        refine Go.Sl.L.pu rfl rfl trivial (pu_move rfl) ?_
        refine Go.Sl.L.pu rfl rfl trivial (pu_lt rfl rfl) ?_
        refine Go.Sl.L.puBf rfl rfl trivial (pu_move rfl) (decide_eq_false (by omega)) ?_
        refine Go.Sl.L.pu rfl rfl ⟨_, rfl, rfl⟩ (pu_move rfl) ?_
        refine Go.Sl.L.ac rfl rfl ⟨_, rfl, rfl⟩ (as_call (segsSt_spec (b := g) (d := d) (n := 1) (made := o.made) (xs := o.xs)) (by repeat constructor) (by repeat constructor)) ?_
        rintro _ _ ⟨_, ⟨rfl, rfl⟩, rfl⟩
        refine Go.Sl.L.pu rfl rfl ⟨_, rfl, rfl⟩ (pu_move rfl) ?_
        refine Go.Sl.L.pu rfl rfl ⟨_, rfl, rfl⟩ (pu_addI (z := ((xs.length + 1 : Nat) : Int)) rfl rfl (by omega) (by omega) (by omega)) ?_
        refine Go.Sl.L.pu rfl rfl ⟨_, rfl, rfl⟩ (pu_gt rfl rfl) ?_
        refine Go.Sl.L.pu rfl rfl trivial (by first | exact pu_pick_t rfl rfl | exact pu_pick_f rfl rfl) ?_
        refine Go.Sl.L.puBf rfl rfl trivial (pu_move rfl) (decide_eq_false (by omega)) ?_
        refine Go.Sl.L.pu rfl rfl ⟨_, rfl, rfl⟩ (pu_move rfl) ?_
        refine Go.Sl.L.ac rfl rfl ⟨_, rfl, rfl⟩ (as_call (looseSt_spec (d := d) (most := 60000) (xs := o.xs) (by omega)) (by repeat constructor) (by repeat constructor)) ?_
        rintro _ _ ⟨_, ⟨rfl, rfl⟩, rfl⟩
        refine Go.Sl.L.pu rfl rfl ⟨_, rfl, rfl⟩ (pu_gt rfl rfl) ?_
        refine Go.Sl.L.pu rfl rfl trivial (by first | exact pu_pick_t rfl rfl | exact pu_pick_f rfl rfl) ?_
        refine Go.Sl.L.nil ?_
        refine Gs.then_n ?_
        refine Gs.cond_ff rfl (decide_eq_false (by omega)) ?_
        refine Gs.skip ?_
        refine Gs.then_n ?_
        refine Gs.seq ?_
        refine Gs.seq ?_
        refine Gs.reg ?_
        refine Go.Sl.L.pu rfl rfl trivial (pu_move rfl) ?_
        refine Go.Sl.L.ac rfl rfl trivial (as_call (segsSt_spec (b := g) (d := d) (n := 1) (made := o.made) (xs := o.xs)) (by repeat constructor) (by repeat constructor)) ?_
        rintro _ _ ⟨_, ⟨rfl, rfl⟩, rfl⟩
        refine Go.Sl.L.pu rfl rfl trivial (pu_move rfl) ?_
        refine Go.Sl.L.pu rfl rfl trivial (pu_gt rfl rfl) ?_
        refine Go.Sl.L.nil ?_
        refine Gs.then_n ?_
        refine Gs.cond rfl (fun hc5 => ?_) (fun hc5 => ?_)
        · skip
          have hgrow : xs.length < o.xs.length := by have := of_decide_eq_true hc5; omega
          refine Gs.reg ?_
          refine Go.Sl.L.pu rfl rfl trivial (pu_move rfl) ?_
          refine Go.Sl.L.pu rfl rfl trivial (pu_subI (z := (j : Int)) rfl rfl (by omega) (by omega) (by omega)) ?_
          refine Go.Sl.L.pu rfl rfl trivial (pu_assign rfl) ?_
          refine Go.Sl.L.nil ?_
          refine Gs.then_n ?_
          refine Gs.seq ?_
          refine Gs.reg ?_
          refine Go.Sl.L.pu rfl rfl trivial (pu_move rfl) ?_
          refine Go.Sl.L.pu rfl rfl trivial (pu_move rfl) ?_
          refine Go.Sl.L.pu rfl rfl trivial (pu_rem rfl rfl (by decide)) ?_
          refine Go.Sl.L.pu rfl rfl trivial (pu_shr rfl rfl (Int.tmod_nonneg _ (by omega))) ?_
          refine Go.Sl.L.pu rfl rfl trivial (pu_and rfl rfl) ?_
          refine Go.Sl.L.pu rfl rfl trivial (pu_eq rfl rfl) ?_
          refine Go.Sl.L.nil ?_
          refine Gs.then_n ?_
          refine Gs.cond rfl (fun hc6 => ?_) (fun hc6 => ?_)
          · skip
            have hyes := hc6
            refine Gs.seq ?_
            refine Gs.seq ?_
            refine Gs.reg ?_
            refine Go.Sl.L.pu rfl rfl trivial (pu_move rfl) ?_
            refine Go.Sl.L.ac rfl rfl trivial (as_call (syncSt_spec (b := g) (d := d) (n := 1) (most := 60000) (made := o.made) (xs := o.xs) (by omega)) (by repeat constructor) (by repeat constructor)) ?_
            rintro _ _ ⟨_, ⟨rfl, rfl⟩, rfl⟩
            refine Go.Sl.L.pu rfl rfl trivial (pu_ne rfl rfl) ?_
            refine Go.Sl.L.puBf rfl rfl trivial (pu_move rfl) rfl ?_
            refine Go.Sl.L.pu rfl rfl ⟨_, rfl, rfl⟩ (pu_move rfl) ?_
            refine Go.Sl.L.ac rfl rfl ⟨_, rfl, rfl⟩ (as_call (looseSt_spec (d := d) (most := 60000) (xs := o.xs.map syn) (by rw [List.length_map]; omega)) (by repeat constructor) (by repeat constructor)) ?_
            rintro _ _ ⟨_, ⟨rfl, rfl⟩, rfl⟩
            rw [loose_syn]
            refine Go.Sl.L.pu rfl rfl ⟨_, rfl, rfl⟩ (pu_ne rfl rfl) ?_
            refine Go.Sl.L.pu rfl rfl trivial (by first | exact pu_pick_t rfl rfl | exact pu_pick_f rfl rfl) ?_
            refine Go.Sl.L.nil ?_
            refine Gs.then_n ?_
            refine Gs.cond_ff rfl rfl ?_
            refine Gs.skip ?_
            refine Gs.then_n ?_
            rw [← syn_segP 1 o.xs]
            refine Gs.reg ?_
            refine Go.Sl.L.pu rfl rfl trivial (pu_move rfl) ?_
            refine Go.Sl.L.pu rfl rfl trivial (pu_assign rfl) ?_
            refine Go.Sl.L.nil ?_
            refine Gs.blk_n ?_
            refine Gs.then_n ?_
            refine Gs.reg ?_
            refine Go.Sl.L.pu rfl rfl trivial (pu_move rfl) ?_
            refine Go.Sl.L.pu rfl rfl trivial (pu_addI (z := ((j + 1 + 1 : Nat) : Int)) rfl rfl (by omega) (by omega) (by omega)) ?_
            refine Go.Sl.L.pu rfl rfl trivial (pu_assign rfl) ?_
            refine Go.Sl.L.nil ?_
            refine Gs.then_n ?_
            first
              | (have := hyes; exact Gs.again1 (j + 1, o.made, o.xs.map syn, j + 1) ⟨syn_st hst', by have := fit_syn hst'; rwa [hfl'] at this, by show o.made ≤ j + 1 + 1; omega, by show (o.xs.map syn).length ≤ j + 1 + 1; rw [List.length_map]; omega, by show usedS (o.xs.map syn) ≤ 46 + 190 * (j + 1); rw [syn_used]; omega, lenS_syn hL', by show (plainE (flatS (o.xs.map syn))).length = j + 1; rw [syn_flat, hfl'], hlt⟩ (by show 40 - (j + 1) < 40 - j; omega) (by repeat constructor) (by repeat constructor))
              | (have := hgrow; exact Gs.again1 (j + 1, o.made, o.xs, j) ⟨hst', hG' hgrow, by show o.made ≤ j + 1 + 1; omega, by show o.xs.length ≤ j + 1 + 1; omega, by show usedS o.xs ≤ 46 + 190 * (j + 1); omega, hL', hfl', hlt⟩ (by show 40 - (j + 1) < 40 - j; omega) (by repeat constructor) (by repeat constructor))
              | exact Gs.again1 (j + 1, o.made, o.xs, firm) ⟨hst', hF', by show o.made ≤ j + 1 + 1; omega, by show o.xs.length ≤ j + 1 + 1; omega, by show usedS o.xs ≤ 46 + 190 * (j + 1); omega, hL', hfl', hlt⟩ (by show 40 - (j + 1) < 40 - j; omega) (by repeat constructor) (by repeat constructor)
          · skip
            refine Gs.skip ?_
            refine Gs.blk_n ?_
            refine Gs.then_n ?_
            refine Gs.reg ?_
            refine Go.Sl.L.pu rfl rfl trivial (pu_move rfl) ?_
            refine Go.Sl.L.pu rfl rfl trivial (pu_addI (z := ((j + 1 + 1 : Nat) : Int)) rfl rfl (by omega) (by omega) (by omega)) ?_
            refine Go.Sl.L.pu rfl rfl trivial (pu_assign rfl) ?_
            refine Go.Sl.L.nil ?_
            refine Gs.then_n ?_
            first
              | (have := hyes; exact Gs.again1 (j + 1, o.made, o.xs.map syn, j + 1) ⟨syn_st hst', by have := fit_syn hst'; rwa [hfl'] at this, by show o.made ≤ j + 1 + 1; omega, by show (o.xs.map syn).length ≤ j + 1 + 1; rw [List.length_map]; omega, by show usedS (o.xs.map syn) ≤ 46 + 190 * (j + 1); rw [syn_used]; omega, lenS_syn hL', by show (plainE (flatS (o.xs.map syn))).length = j + 1; rw [syn_flat, hfl'], hlt⟩ (by show 40 - (j + 1) < 40 - j; omega) (by repeat constructor) (by repeat constructor))
              | (have := hgrow; exact Gs.again1 (j + 1, o.made, o.xs, j) ⟨hst', hG' hgrow, by show o.made ≤ j + 1 + 1; omega, by show o.xs.length ≤ j + 1 + 1; omega, by show usedS o.xs ≤ 46 + 190 * (j + 1); omega, hL', hfl', hlt⟩ (by show 40 - (j + 1) < 40 - j; omega) (by repeat constructor) (by repeat constructor))
              | exact Gs.again1 (j + 1, o.made, o.xs, firm) ⟨hst', hF', by show o.made ≤ j + 1 + 1; omega, by show o.xs.length ≤ j + 1 + 1; omega, by show usedS o.xs ≤ 46 + 190 * (j + 1); omega, hL', hfl', hlt⟩ (by show 40 - (j + 1) < 40 - j; omega) (by repeat constructor) (by repeat constructor)
        · skip
          refine Gs.skip ?_
          refine Gs.then_n ?_
          refine Gs.seq ?_
          refine Gs.reg ?_
          refine Go.Sl.L.pu rfl rfl trivial (pu_move rfl) ?_
          refine Go.Sl.L.pu rfl rfl trivial (pu_move rfl) ?_
          refine Go.Sl.L.pu rfl rfl trivial (pu_rem rfl rfl (by decide)) ?_
          refine Go.Sl.L.pu rfl rfl trivial (pu_shr rfl rfl (Int.tmod_nonneg _ (by omega))) ?_
          refine Go.Sl.L.pu rfl rfl trivial (pu_and rfl rfl) ?_
          refine Go.Sl.L.pu rfl rfl trivial (pu_eq rfl rfl) ?_
          refine Go.Sl.L.nil ?_
          refine Gs.then_n ?_
          refine Gs.cond rfl (fun hc6 => ?_) (fun hc6 => ?_)
          · skip
            have hyes := hc6
            refine Gs.seq ?_
            refine Gs.seq ?_
            refine Gs.reg ?_
            refine Go.Sl.L.pu rfl rfl trivial (pu_move rfl) ?_
            refine Go.Sl.L.ac rfl rfl trivial (as_call (syncSt_spec (b := g) (d := d) (n := 1) (most := 60000) (made := o.made) (xs := o.xs) (by omega)) (by repeat constructor) (by repeat constructor)) ?_
            rintro _ _ ⟨_, ⟨rfl, rfl⟩, rfl⟩
            refine Go.Sl.L.pu rfl rfl trivial (pu_ne rfl rfl) ?_
            refine Go.Sl.L.puBf rfl rfl trivial (pu_move rfl) rfl ?_
            refine Go.Sl.L.pu rfl rfl ⟨_, rfl, rfl⟩ (pu_move rfl) ?_
            refine Go.Sl.L.ac rfl rfl ⟨_, rfl, rfl⟩ (as_call (looseSt_spec (d := d) (most := 60000) (xs := o.xs.map syn) (by rw [List.length_map]; omega)) (by repeat constructor) (by repeat constructor)) ?_
            rintro _ _ ⟨_, ⟨rfl, rfl⟩, rfl⟩
            rw [loose_syn]
            refine Go.Sl.L.pu rfl rfl ⟨_, rfl, rfl⟩ (pu_ne rfl rfl) ?_
            refine Go.Sl.L.pu rfl rfl trivial (by first | exact pu_pick_t rfl rfl | exact pu_pick_f rfl rfl) ?_
            refine Go.Sl.L.nil ?_
            refine Gs.then_n ?_
            refine Gs.cond_ff rfl rfl ?_
            refine Gs.skip ?_
            refine Gs.then_n ?_
            rw [← syn_segP 1 o.xs]
            refine Gs.reg ?_
            refine Go.Sl.L.pu rfl rfl trivial (pu_move rfl) ?_
            refine Go.Sl.L.pu rfl rfl trivial (pu_assign rfl) ?_
            refine Go.Sl.L.nil ?_
            refine Gs.blk_n ?_
            refine Gs.then_n ?_
            refine Gs.reg ?_
            refine Go.Sl.L.pu rfl rfl trivial (pu_move rfl) ?_
            refine Go.Sl.L.pu rfl rfl trivial (pu_addI (z := ((j + 1 + 1 : Nat) : Int)) rfl rfl (by omega) (by omega) (by omega)) ?_
            refine Go.Sl.L.pu rfl rfl trivial (pu_assign rfl) ?_
            refine Go.Sl.L.nil ?_
            refine Gs.then_n ?_
            first
              | (have := hyes; exact Gs.again1 (j + 1, o.made, o.xs.map syn, j + 1) ⟨syn_st hst', by have := fit_syn hst'; rwa [hfl'] at this, by show o.made ≤ j + 1 + 1; omega, by show (o.xs.map syn).length ≤ j + 1 + 1; rw [List.length_map]; omega, by show usedS (o.xs.map syn) ≤ 46 + 190 * (j + 1); rw [syn_used]; omega, lenS_syn hL', by show (plainE (flatS (o.xs.map syn))).length = j + 1; rw [syn_flat, hfl'], hlt⟩ (by show 40 - (j + 1) < 40 - j; omega) (by repeat constructor) (by repeat constructor))
              | (have := hgrow; exact Gs.again1 (j + 1, o.made, o.xs, j) ⟨hst', hG' hgrow, by show o.made ≤ j + 1 + 1; omega, by show o.xs.length ≤ j + 1 + 1; omega, by show usedS o.xs ≤ 46 + 190 * (j + 1); omega, hL', hfl', hlt⟩ (by show 40 - (j + 1) < 40 - j; omega) (by repeat constructor) (by repeat constructor))
              | exact Gs.again1 (j + 1, o.made, o.xs, firm) ⟨hst', hF', by show o.made ≤ j + 1 + 1; omega, by show o.xs.length ≤ j + 1 + 1; omega, by show usedS o.xs ≤ 46 + 190 * (j + 1); omega, hL', hfl', hlt⟩ (by show 40 - (j + 1) < 40 - j; omega) (by repeat constructor) (by repeat constructor)
          · skip
            refine Gs.skip ?_
            refine Gs.blk_n ?_
            refine Gs.then_n ?_
            refine Gs.reg ?_
            refine Go.Sl.L.pu rfl rfl trivial (pu_move rfl) ?_
            refine Go.Sl.L.pu rfl rfl trivial (pu_addI (z := ((j + 1 + 1 : Nat) : Int)) rfl rfl (by omega) (by omega) (by omega)) ?_
            refine Go.Sl.L.pu rfl rfl trivial (pu_assign rfl) ?_
            refine Go.Sl.L.nil ?_
            refine Gs.then_n ?_
            first
              | (have := hyes; exact Gs.again1 (j + 1, o.made, o.xs.map syn, j + 1) ⟨syn_st hst', by have := fit_syn hst'; rwa [hfl'] at this, by show o.made ≤ j + 1 + 1; omega, by show (o.xs.map syn).length ≤ j + 1 + 1; rw [List.length_map]; omega, by show usedS (o.xs.map syn) ≤ 46 + 190 * (j + 1); rw [syn_used]; omega, lenS_syn hL', by show (plainE (flatS (o.xs.map syn))).length = j + 1; rw [syn_flat, hfl'], hlt⟩ (by show 40 - (j + 1) < 40 - j; omega) (by repeat constructor) (by repeat constructor))
              | (have := hgrow; exact Gs.again1 (j + 1, o.made, o.xs, j) ⟨hst', hG' hgrow, by show o.made ≤ j + 1 + 1; omega, by show o.xs.length ≤ j + 1 + 1; omega, by show usedS o.xs ≤ 46 + 190 * (j + 1); omega, hL', hfl', hlt⟩ (by show 40 - (j + 1) < 40 - j; omega) (by repeat constructor) (by repeat constructor))
              | exact Gs.again1 (j + 1, o.made, o.xs, firm) ⟨hst', hF', by show o.made ≤ j + 1 + 1; omega, by show o.xs.length ≤ j + 1 + 1; omega, by show usedS o.xs ≤ 46 + 190 * (j + 1); omega, hL', hfl', hlt⟩ (by show 40 - (j + 1) < 40 - j; omega) (by repeat constructor) (by repeat constructor)
      · skip
        refine Gs.exit ?_
        refine Gs.then_x ?_
        refine Gs.then_x ?_
        refine Gs.blk_hit ?_
        refine Gs.then_n ?_
        refine Gs.seq ?_
        obtain ⟨cs, hce, hcs, hck, hcl, hcr⟩ := fit_crash (by decide) (by decide) hst (by omega) hF 0
        refine Gs.reg ?_
        refine Go.Sl.L.pu rfl rfl trivial (pu_move rfl) ?_
        refine Go.Sl.L.ac rfl rfl trivial (as_call (crash_spec d 60000 (xs.map segF) 0 (by rw [List.length_map]; omega) (by decide) (by decide)) (by repeat constructor) (by repeat constructor)) ?_
        rintro _ _ ⟨_, ⟨rfl, rfl⟩, rfl⟩
        rw [hce]
        refine Go.Sl.L.nil ?_
        refine Gs.then_n ?_
        refine Gs.seq ?_
        refine Gs.reg ?_
        refine Go.Sl.L.pu rfl rfl trivial (pu_move rfl) ?_
        refine Go.Sl.L.ac rfl rfl trivial (as_call (openCs_spec (d := d) (n := 1) (most := 60000) (xs := cs) hT (by decide) (by decide) hcs (by omega) hck (fun _ => by decide)) (by repeat constructor) (by repeat constructor)) ?_
        rintro _ _ ⟨_, ⟨g2, la, lc, ls, m2, ys, rfl, ⟨hst2, hrel, hls⟩, rfl⟩, rfl⟩
        refine Go.Sl.L.pu rfl rfl trivial (pu_move rfl) ?_
        refine Go.Sl.L.pu rfl rfl trivial (pu_extract rfl rfl) ?_
        refine Go.Sl.L.pu rfl rfl trivial (pu_extract rfl rfl) ?_
        refine Go.Sl.L.pu rfl rfl trivial (pu_extract rfl rfl) ?_
        refine Go.Sl.L.pu rfl rfl trivial (pu_assign rfl) ?_
        refine Go.Sl.L.pu rfl rfl trivial (pu_assign rfl) ?_
        refine Go.Sl.L.pu rfl rfl trivial (pu_assign rfl) ?_
        refine Go.Sl.L.nil ?_
        obtain ⟨hpre, hfirm, hm2, hyl, hyu⟩ := hcr m2 ys hrel
        have hll := seg_lens hst2.inv.good hls
        have hpl2 : (plainE (flatS ys)).length ≤ (plainE (flatS xs)).length := hpre.length_le
        have hleft : plainV (filterV ls) = plainE (flatS ys) := by rw [filterV_plain, hls]
        have hlen2 : (filterV ls).length = (plainE (flatS ys)).length := by have := congrArg List.length hleft; rwa [List.length_map] at this
        refine Gs.then_n ?_
        refine Gs.seq ?_
        refine Gs.reg ?_
        refine Go.Sl.L.pu rfl rfl trivial (pu_move rfl) ?_
        refine Go.Sl.L.ac rfl rfl trivial (as_call (plain_spec (es := ls) (erd_elO la lc ls).1 (by omega)) (by repeat constructor) (by repeat constructor)) ?_
        rintro _ _ ⟨_, ⟨pa, pc, rfl, rfl⟩, rfl⟩
        refine Go.Sl.L.pu rfl rfl trivial (pu_len Tryz.underlying22 rfl) ?_
        refine Go.Sl.L.pu rfl rfl trivial (pu_assign rfl) ?_
        refine Go.Sl.L.nil ?_
        refine Gs.then_n ?_
        refine Gs.seq ?_
        refine Gs.reg ?_
        refine Go.Sl.L.pu rfl rfl trivial (pu_move rfl) ?_
        refine Go.Sl.L.pu rfl rfl trivial (pu_eq rfl rfl) ?_
        refine Go.Sl.L.puBt rfl rfl trivial (pu_move rfl) rfl ?_
        refine Go.Sl.L.pu rfl rfl ⟨_, rfl, rfl⟩ (pu_move rfl) ?_
        refine Go.Sl.L.pu rfl rfl ⟨_, rfl, rfl⟩ (pu_move rfl) ?_
        refine Go.Sl.L.pu rfl rfl ⟨_, rfl, rfl⟩ (pu_ge rfl rfl) ?_
        refine Go.Sl.L.pu rfl rfl trivial (by first | exact pu_pick_t rfl rfl | exact pu_pick_f rfl rfl) ?_
        refine Go.Sl.L.puBt rfl rfl trivial (pu_move rfl) (decide_eq_true (by omega)) ?_
        refine Go.Sl.L.pu rfl rfl ⟨_, rfl, rfl⟩ (pu_move rfl) ?_
        refine Go.Sl.L.pu rfl rfl ⟨_, rfl, rfl⟩ (pu_move rfl) ?_
        refine Go.Sl.L.pu rfl rfl ⟨_, rfl, rfl⟩ (pu_le rfl rfl) ?_
        refine Go.Sl.L.pu rfl rfl trivial (by first | exact pu_pick_t rfl rfl | exact pu_pick_f rfl rfl) ?_
        refine Go.Sl.L.puBt rfl rfl trivial (pu_move rfl) (decide_eq_true (by omega)) ?_
        refine Go.Sl.L.ac rfl rfl ⟨_, rfl, rfl⟩ (as_call (awake9_spec hT) (by repeat constructor) (by repeat constructor)) ?_
        rintro _ _ ⟨_, ⟨rfl, rfl⟩, rfl⟩
        refine Go.Sl.L.pu rfl rfl trivial (by first | exact pu_pick_t rfl rfl | exact pu_pick_f rfl rfl) ?_
        refine Go.Sl.L.pu rfl rfl trivial (pu_assign rfl) ?_
        refine Go.Sl.L.nil ?_
        refine Gs.then_n ?_
        refine Gs.ret ?_
        exact Gs.fin1 Tryz.results7 rfl _ (⟨rfl, rfl⟩) (by repeat constructor)
end Go.Proofs.YtjaafkakeccniaaGreatDoor
