/- Walks: the second copy of held, part two: Drop, Keys. -/
import Derived.Test.YthikmfpfbfjbiaaDoorRef18
namespace Go.Proofs.YthikmfpfbfjbiaaDoor
open Go Go.Sl Go.Gv Go.Kv
set_option maxRecDepth 100000

theorem dropL_off {ws : List Int} {L : List Rec} {i : Nat} {r : Rec} (hr : L[i]? = some r) (hd : dropB ws r.key = false) : dropL ws (L.take (i + 1)) = dropL ws (L.take i) ++ [r] := by
  rw [List.take_add_one, hr]; simp [dropL, hd]
theorem dropL_on {ws : List Int} {L : List Rec} {i : Nat} {r : Rec} (hr : L[i]? = some r) (hd : dropB ws r.key = true) : dropL ws (L.take (i + 1)) = dropL ws (L.take i) := by
  rw [List.take_add_one, hr]; simp [dropL, hd]
theorem dropL_length (ws : List Int) (L : List Rec) : (dropL ws L).length ≤ L.length := List.length_filter_le ..
theorem drop18_spec (b : Nat) (most : Int) (L : List Rec) (hL : L.length ≤ 1000) (hK : ∀ r ∈ L, 0 ≤ r.o) {S : HProp} {aw : Option Addr} {cw : Nat} {ws : List Int} (hS : Srd S 1 intC aw ws) :
    Ct Tryd.prog 15 [ptr b, .slice aw ws.length cw] [rh b most L, S] (fun v hs => v = int (L.length - (dropL ws L).length) ∧ hs = [rh b most (dropL ws L), S]) := by
  have hlen := dropL_length ws L
  refine Ct.intro Tryd.func15 rfl (by kernel_rfl) 70 Tryd.ntmps15 (Nat.le_of_ble_eq_true rfl) fun w0 R => ?_
  refine Gs.rhOpen (by repeat constructor) fun a c => ?_
  refine Gs.slAddr (SlH.own (by repeat constructor) : SlH _ _ 5 recC a L) fun ab ao ha => ?_
  refine Gs.slAddr (hS.h (by repeat constructor)) fun wb wo haw => ?_
  refine Gs.seq ?_
  refine Gs.reg ?_
  refine Go.Sl.L.pu rfl rfl trivial (pu_assign rfl) ?_
  refine Go.Sl.L.nil ?_
  refine Gs.then_n ?_
  refine Gs.seq ?_
  refine Gs.reg ?_
  refine Go.Sl.L.pu rfl rfl trivial (pu_assign rfl) ?_
  refine Go.Sl.L.nil ?_
  refine Gs.then_n ?_
  refine Gs.seq ?_
  refine Gs.seq ?_
  refine Gs.reg ?_
  refine Go.Sl.L.pu rfl rfl trivial (pu_assign rfl) ?_
  refine Go.Sl.L.nil ?_
  refine Gs.slNil 29 5 recC ?_
  refine Gs.then_n ?_
  refine Gs.block ?_
  refine Gs.loop1 (fun s : Nat × Option Addr × Nat => s.1 ≤ L.length) (fun s => [(0, ptr b), (1, .slice aw ws.length cw), (5, .slice s.2.1 (dropL ws (L.take s.1)).length s.2.2), (6, int s.1)]) (fun s => [sl 29 5 recC s.2.1 s.2.2 (dropL ws (L.take s.1)), cl b 38 [.slice a L.length c, int most], sl 29 5 recC a c L, S] ++ R) (fun s => L.length - s.1) (0, none, 0) (Nat.zero_le _) (by repeat constructor) (by repeat constructor) (fun s hi => ?_)
  obtain ⟨i, pa, pc⟩ := s
  dsimp only at hi ⊢
  refine Gs.seq ?_
  refine Gs.seq ?_
  refine Gs.reg ?_
  refine Go.Sl.L.pu rfl rfl trivial (pu_move rfl) ?_
  refine Go.Sl.L.pu rfl rfl trivial (pu_move rfl) ?_
  refine Go.Sl.L.pu rfl rfl trivial (by first | exact pu_nil rfl | exact pu_nilF rfl) ?_
  refine Go.Sl.L.pu rfl rfl trivial (pu_fa fa_38_0 rfl) ?_
  refine Go.Sl.L.rd rfl rfl trivial (rd_ld na_36 rfl (Rdc.cl1 (by repeat constructor) rfl)) ?_
  refine Go.Sl.L.pu rfl rfl trivial (pu_len Tryd.underlying36 rfl) ?_
  refine Go.Sl.L.pu rfl rfl trivial (pu_lt rfl rfl) ?_
  refine Go.Sl.L.nil ?_
  refine Gs.then_n ?_
  refine Gs.cond rfl (fun hc0 => ?_) (fun hc0 => ?_)
  · skip
    have hlt : i < L.length := by have := of_decide_eq_true hc0; omega
    have hdl := dropL_length ws (L.take i)
    rw [List.length_take] at hdl
    obtain ⟨r, hr⟩ : ∃ r, L[i]? = some r := ⟨L[i], by simp [hlt]⟩
    have h0r := hK r (List.mem_of_getElem? hr)
    obtain rfl := ha (by rintro rfl; simp at hlt)
    refine Gs.skip ?_
    refine Gs.then_n ?_
    refine Gs.seq ?_
    refine Gs.block ?_
    refine Gs.seq ?_
    refine Gs.reg ?_
    refine Go.Sl.L.pu rfl rfl trivial (pu_move rfl) ?_
    refine Go.Sl.L.pu rfl rfl trivial (by first | exact pu_nil rfl | exact pu_nilF rfl) ?_
    refine Go.Sl.L.pu rfl rfl trivial (pu_fa fa_38_0 rfl) ?_
    refine Go.Sl.L.rd rfl rfl trivial (rd_ld na_36 rfl (Rdc.cl1 (by repeat constructor) rfl)) ?_
    refine Go.Sl.L.pu rfl rfl trivial (pu_move rfl) ?_
    refine Go.Sl.L.pu rfl rfl trivial (pu_ia se_36 rfl rfl (by omega) (by omega)) ?_
    refine Go.Sl.L.pu rfl rfl trivial (pu_fa fa_29_0 rfl) ?_
    refine Go.Sl.L.pu rfl rfl trivial (pu_fa fa_25_0 rfl) ?_
    refine Go.Sl.L.rd rfl rfl trivial (rd_ld na_3 rfl (Rdc.elp 1 (SlH.own (by repeat constructor)) hr rfl rfl)) ?_
    refine Go.Sl.L.pu rfl rfl trivial (pu_assign rfl) ?_
    refine Go.Sl.L.nil ?_
    refine Gs.then_n ?_
    refine Gs.seq ?_
    refine Gs.regD mixed (by kernel_rfl) ?_
    refine Rg.pu 0 rfl rfl (by kernel_rfl) trivial (pu_move rfl) ?_
    refine Rg.pu 1 rfl rfl (by kernel_rfl) trivial (pu_move rfl) ?_
    refine Rg.pu 2 rfl rfl (by kernel_rfl) trivial (pu_len Tryd.underlying30 rfl) ?_
    refine Rg.pu 3 rfl rfl (by kernel_rfl) trivial (pu_ge rfl rfl) ?_
    refine Rg.puB 4 rfl rfl (by kernel_rfl) trivial (pu_move rfl) (fun hg4 => ?_) (fun hg4 => ?_)
    · skip
      have hg4' := of_decide_eq_true hg4
      have hd : dropB ws r.key = false := by unfold dropB; rw [List.getElem?_eq_none (by show _ ≤ r.o.toNat; omega)]
      refine Rg.off 5 rfl rfl (by kernel_rfl) rfl rfl rfl rfl ?_
      refine Rg.off 6 rfl rfl (by kernel_rfl) rfl rfl rfl rfl ?_
      refine Rg.off 7 rfl rfl (by kernel_rfl) rfl rfl rfl rfl ?_
      refine Rg.off 8 rfl rfl (by kernel_rfl) rfl rfl rfl rfl ?_
      refine Rg.off 9 rfl rfl (by kernel_rfl) rfl rfl rfl rfl ?_
      refine Rg.off 10 rfl rfl (by kernel_rfl) rfl rfl rfl rfl ?_
      refine Rg.off 11 rfl rfl (by kernel_rfl) rfl rfl rfl rfl ?_
      refine Rg.off 12 rfl rfl (by kernel_rfl) rfl rfl rfl rfl ?_
      refine Rg.off 13 rfl rfl (by kernel_rfl) rfl rfl rfl rfl ?_
      refine Rg.off 14 rfl rfl (by kernel_rfl) rfl rfl rfl rfl ?_
      refine Rg.off 15 rfl rfl (by kernel_rfl) rfl rfl rfl rfl ?_
      refine Rg.off 16 rfl rfl (by kernel_rfl) rfl rfl rfl rfl ?_
      refine Rg.off 17 rfl rfl (by kernel_rfl) rfl rfl rfl rfl ?_
      refine Rg.off 18 rfl rfl (by kernel_rfl) rfl rfl rfl rfl ?_
      refine Rg.pu 19 rfl rfl (by kernel_rfl) trivial (by first | exact pu_pick_t rfl rfl | exact pu_pick_f rfl rfl) ?_
      refine Rg.end (by kernel_rfl) ?_
      refine Gs.then_n ?_
      refine Gs.cond_t rfl ?_
      refine Gs.reg ?_
      refine Go.Sl.L.pu rfl rfl trivial (pu_move rfl) ?_
      refine Go.Sl.L.pu rfl rfl trivial (pu_move rfl) ?_
      refine Go.Sl.L.pu rfl rfl trivial (by first | exact pu_nil rfl | exact pu_nilF rfl) ?_
      refine Go.Sl.L.pu rfl rfl trivial (pu_fa fa_38_0 rfl) ?_
      refine Go.Sl.L.rd rfl rfl trivial (rd_ld na_36 rfl (Rdc.cl1 (by repeat constructor) rfl)) ?_
      refine Go.Sl.L.pu rfl rfl trivial (pu_move rfl) ?_
      refine Go.Sl.L.pu rfl rfl trivial (pu_ia se_36 rfl rfl (by omega) (by omega)) ?_
      refine Go.Sl.L.rd rfl rfl trivial (rd_lda ag_29 rfl (Rdc.el0 (SlH.own (by repeat constructor)) hr rfl rfl) rfl) ?_
      refine Go.Sl.L.ac rfl rfl trivial (ac_lit encC_29 ([r]) et_36 ek_29 rfl (by repeat constructor) rfl rfl (by decide)) ?_
      rintro _ _ ⟨a55, rfl, rfl⟩
      refine Go.Sl.L.ac rfl rfl trivial (ac_append et_36 ek_29 rfl rfl (by repeat constructor) (SrcH.sl Tryd.underlying36 ek_29 (SlH.own (by repeat constructor))) (by first | omega | (simp; omega)) (by first | omega | (simp; omega))) ?_
      rintro _ _ ⟨a56, c56, rfl, rfl⟩
      rw [← dropL_off hr hd]
      refine Go.Sl.L.pu rfl rfl trivial (pu_assign rfl) ?_
      refine Go.Sl.L.nil ?_
      refine Gs.blk_n ?_
      refine Gs.then_n ?_
      refine Gs.reg ?_
      refine Go.Sl.L.pu rfl rfl trivial (pu_move rfl) ?_
      refine Go.Sl.L.pu rfl rfl trivial (by first | exact pu_addI rfl rfl rfl (by omega) (by omega) | exact pu_add rfl rfl) ?_
      refine Go.Sl.L.pu rfl rfl trivial (pu_assign rfl) ?_
      refine Go.Sl.L.nil ?_
      refine Gs.then_n ?_
      first
        | exact Gs.again1 (i + 1, a56, c56) (by show i + 1 ≤ L.length; omega) (by show L.length - (i + 1) < L.length - i; omega) (by repeat constructor) (by repeat constructor)
        | exact Gs.again1 (i + 1, pa, pc) (by show i + 1 ≤ L.length; omega) (by show L.length - (i + 1) < L.length - i; omega) (by repeat constructor) (by repeat constructor)
    · skip
      have hg4' := of_decide_eq_false hg4
      obtain ⟨x, hx⟩ : ∃ x, ws[r.o.toNat]? = some x := ⟨ws[r.o.toNat]'(by omega), by simp⟩
      obtain rfl := haw (by rintro rfl; simp at hg4'; omega)
      refine Rg.pu 5 rfl rfl (by kernel_rfl) ⟨_, rfl, rfl⟩ (pu_move rfl) ?_
      refine Rg.pu 6 rfl rfl (by kernel_rfl) ⟨_, rfl, rfl⟩ (by first | exact pu_nil rfl | exact pu_nilF rfl) ?_
      refine Rg.pu 7 rfl rfl (by kernel_rfl) ⟨_, rfl, rfl⟩ (pu_fa fa_38_0 rfl) ?_
      refine Rg.rd 8 rfl rfl (by kernel_rfl) ⟨_, rfl, rfl⟩ (rd_ld na_36 rfl (Rdc.cl1 (by repeat constructor) rfl)) ?_
      refine Rg.pu 9 rfl rfl (by kernel_rfl) ⟨_, rfl, rfl⟩ (pu_move rfl) ?_
      refine Rg.pu 10 rfl rfl (by kernel_rfl) ⟨_, rfl, rfl⟩ (pu_ia se_36 rfl rfl (by omega) (by omega)) ?_
      refine Rg.pu 11 rfl rfl (by kernel_rfl) ⟨_, rfl, rfl⟩ (pu_fa fa_29_0 rfl) ?_
      refine Rg.pu 12 rfl rfl (by kernel_rfl) ⟨_, rfl, rfl⟩ (pu_fa fa_25_1 rfl) ?_
      refine Rg.rd 13 rfl rfl (by kernel_rfl) ⟨_, rfl, rfl⟩ (rd_ld na_3 rfl (Rdc.elp 1 (SlH.own (by repeat constructor)) hr rfl rfl)) ?_
      refine Rg.pu 14 rfl rfl (by kernel_rfl) ⟨_, rfl, rfl⟩ (pu_move rfl) ?_
      refine Rg.pu 15 rfl rfl (by kernel_rfl) ⟨_, rfl, rfl⟩ (pu_move rfl) ?_
      refine Rg.pu 16 rfl rfl (by kernel_rfl) ⟨_, rfl, rfl⟩ (pu_ia se_30 rfl rfl (by omega) (by omega)) ?_
      refine Rg.rd 17 rfl rfl (by kernel_rfl) ⟨_, rfl, rfl⟩ (rd_ld na_3 rfl (Rdc.el0 (hS.h (by repeat constructor)) hx rfl rfl)) ?_
      refine Rg.pu 18 rfl rfl (by kernel_rfl) ⟨_, rfl, rfl⟩ (pu_gt rfl rfl) ?_
      refine Rg.pu 19 rfl rfl (by kernel_rfl) trivial (by first | exact pu_pick_t rfl rfl | exact pu_pick_f rfl rfl) ?_
      refine Rg.end (by kernel_rfl) ?_
      refine Gs.then_n ?_
      refine Gs.cond rfl (fun hc1 => ?_) (fun hc1 => ?_)
      · skip
        have hd : dropB ws r.key = false := by
          have := of_decide_eq_true hc1
          show (match ws[r.o.toNat]? with | some x => decide (r.q ≤ x) | none => false) = false
          rw [hx]; simp; omega
        refine Gs.reg ?_
        refine Go.Sl.L.pu rfl rfl trivial (pu_move rfl) ?_
        refine Go.Sl.L.pu rfl rfl trivial (pu_move rfl) ?_
        refine Go.Sl.L.pu rfl rfl trivial (by first | exact pu_nil rfl | exact pu_nilF rfl) ?_
        refine Go.Sl.L.pu rfl rfl trivial (pu_fa fa_38_0 rfl) ?_
        refine Go.Sl.L.rd rfl rfl trivial (rd_ld na_36 rfl (Rdc.cl1 (by repeat constructor) rfl)) ?_
        refine Go.Sl.L.pu rfl rfl trivial (pu_move rfl) ?_
        refine Go.Sl.L.pu rfl rfl trivial (pu_ia se_36 rfl rfl (by omega) (by omega)) ?_
        refine Go.Sl.L.rd rfl rfl trivial (rd_lda ag_29 rfl (Rdc.el0 (SlH.own (by repeat constructor)) hr rfl rfl) rfl) ?_
        refine Go.Sl.L.ac rfl rfl trivial (ac_lit encC_29 ([r]) et_36 ek_29 rfl (by repeat constructor) rfl rfl (by decide)) ?_
        rintro _ _ ⟨a55, rfl, rfl⟩
        refine Go.Sl.L.ac rfl rfl trivial (ac_append et_36 ek_29 rfl rfl (by repeat constructor) (SrcH.sl Tryd.underlying36 ek_29 (SlH.own (by repeat constructor))) (by first | omega | (simp; omega)) (by first | omega | (simp; omega))) ?_
        rintro _ _ ⟨a56, c56, rfl, rfl⟩
        rw [← dropL_off hr hd]
        refine Go.Sl.L.pu rfl rfl trivial (pu_assign rfl) ?_
        refine Go.Sl.L.nil ?_
        refine Gs.blk_n ?_
        refine Gs.then_n ?_
        refine Gs.reg ?_
        refine Go.Sl.L.pu rfl rfl trivial (pu_move rfl) ?_
        refine Go.Sl.L.pu rfl rfl trivial (by first | exact pu_addI rfl rfl rfl (by omega) (by omega) | exact pu_add rfl rfl) ?_
        refine Go.Sl.L.pu rfl rfl trivial (pu_assign rfl) ?_
        refine Go.Sl.L.nil ?_
        refine Gs.then_n ?_
        first
          | exact Gs.again1 (i + 1, a56, c56) (by show i + 1 ≤ L.length; omega) (by show L.length - (i + 1) < L.length - i; omega) (by repeat constructor) (by repeat constructor)
          | exact Gs.again1 (i + 1, pa, pc) (by show i + 1 ≤ L.length; omega) (by show L.length - (i + 1) < L.length - i; omega) (by repeat constructor) (by repeat constructor)
      · skip
        have hd : dropB ws r.key = true := by
          have := of_decide_eq_false hc1
          show (match ws[r.o.toNat]? with | some x => decide (r.q ≤ x) | none => false) = true
          rw [hx]; simp; omega
        rw [← dropL_on hr hd]
        refine Gs.skip ?_
        refine Gs.blk_n ?_
        refine Gs.then_n ?_
        refine Gs.reg ?_
        refine Go.Sl.L.pu rfl rfl trivial (pu_move rfl) ?_
        refine Go.Sl.L.pu rfl rfl trivial (by first | exact pu_addI rfl rfl rfl (by omega) (by omega) | exact pu_add rfl rfl) ?_
        refine Go.Sl.L.pu rfl rfl trivial (pu_assign rfl) ?_
        refine Go.Sl.L.nil ?_
        refine Gs.then_n ?_
        first
          | exact Gs.again1 (i + 1, a56, c56) (by show i + 1 ≤ L.length; omega) (by show L.length - (i + 1) < L.length - i; omega) (by repeat constructor) (by repeat constructor)
          | exact Gs.again1 (i + 1, pa, pc) (by show i + 1 ≤ L.length; omega) (by show L.length - (i + 1) < L.length - i; omega) (by repeat constructor) (by repeat constructor)
  · skip
    have hge : i = L.length := by have := of_decide_eq_false hc0; omega
    subst hge
    rw [List.take_length]
    refine Gs.exit ?_
    refine Gs.then_x ?_
    refine Gs.then_x ?_
    refine Gs.blk_hit ?_
    refine Gs.then_n ?_
    refine Gs.seq ?_
    refine Gs.reg ?_
    refine Go.Sl.L.pu rfl rfl trivial (pu_move rfl) ?_
    refine Go.Sl.L.pu rfl rfl trivial (by first | exact pu_nil rfl | exact pu_nilF rfl) ?_
    refine Go.Sl.L.pu rfl rfl trivial (pu_fa fa_38_0 rfl) ?_
    refine Go.Sl.L.rd rfl rfl trivial (rd_ld na_36 rfl (Rdc.cl1 (by repeat constructor) rfl)) ?_
    refine Go.Sl.L.pu rfl rfl trivial (pu_len Tryd.underlying36 rfl) ?_
    refine Go.Sl.L.pu rfl rfl trivial (pu_move rfl) ?_
    refine Go.Sl.L.pu rfl rfl trivial (pu_len Tryd.underlying36 rfl) ?_
    refine Go.Sl.L.pu rfl rfl trivial (by first | exact pu_subI rfl rfl rfl (by omega) (by omega) | exact pu_sub rfl rfl) ?_
    refine Go.Sl.L.pu rfl rfl trivial (pu_assign rfl) ?_
    refine Go.Sl.L.nil ?_
    refine Gs.then_n ?_
    refine Gs.seq ?_
    refine Gs.reg ?_
    refine Go.Sl.L.pu rfl rfl trivial (pu_move rfl) ?_
    refine Go.Sl.L.pu rfl rfl trivial (pu_move rfl) ?_
    refine Go.Sl.L.pu rfl rfl trivial (by first | exact pu_nil rfl | exact pu_nilF rfl) ?_
    refine Go.Sl.L.pu rfl rfl trivial (pu_fa fa_38_0 rfl) ?_
    refine Go.Sl.L.ac0 rfl trivial (ac_st sz_36 rfl rfl (by repeat constructor) rfl rfl rfl rfl) ?_
    rintro _ _ rfl
    refine Go.Sl.L.nil ?_
    refine Gs.then_n ?_
    refine Gs.seq ?_
    refine Gs.reg ?_
    refine Go.Sl.L.pu rfl rfl trivial (pu_move rfl) ?_
    refine Go.Sl.L.pu rfl rfl trivial (pu_assign rfl) ?_
    refine Go.Sl.L.nil ?_
    refine Gs.then_n ?_
    refine Gs.ret ?_
    refine Gs.rhClose _ _ (by repeat constructor) ?_
    exact Gs.fin1 Tryd.results15 rfl _ (⟨rfl, rfl⟩) (by repeat constructor)
theorem before4_spec (a b : Key) : Ct Tryd.prog 42 [keyV a, keyV b] [] (fun v hs => v = .bool (before a b) ∧ hs = []) := by
  refine Ct.intro Tryd.func42 rfl (by kernel_rfl) 24 Tryd.ntmps42 (Nat.le_of_ble_eq_true rfl) fun w0 R => ?_
  refine Gs.seq ?_
  refine Gs.reg ?_
  refine Go.Sl.L.ac rfl rfl trivial (ac_box rfl rfl) ?_
  rintro _ _ ⟨b2, rfl, rfl⟩
  refine Go.Sl.L.ac rfl rfl trivial (ac_box rfl rfl) ?_
  rintro _ _ ⟨b3, rfl, rfl⟩
  refine Go.Sl.L.pu rfl rfl trivial (pu_assign rfl) ?_
  refine Go.Sl.L.nil ?_
  refine Gs.then_n ?_
  refine Gs.seq ?_
  refine Gs.reg ?_
  refine Go.Sl.L.pu rfl rfl trivial (pu_fa fa_25_0 rfl) ?_
  refine Go.Sl.L.rd rfl rfl trivial (rd_ld na_3 rfl (Rdc.cl1 (by repeat constructor) rfl)) ?_
  refine Go.Sl.L.pu rfl rfl trivial (pu_fa fa_25_0 rfl) ?_
  refine Go.Sl.L.rd rfl rfl trivial (rd_ld na_3 rfl (Rdc.cl1 (by repeat constructor) rfl)) ?_
  refine Go.Sl.L.pu rfl rfl trivial (pu_lt rfl rfl) ?_
  refine Go.Sl.L.puB rfl rfl trivial (pu_move rfl) (fun hg5 => ?_) (fun hg5 => ?_)
  · skip
    refine Go.Sl.L.off rfl rfl rfl rfl rfl rfl ?_
    refine Go.Sl.L.off rfl rfl rfl rfl rfl rfl ?_
    refine Go.Sl.L.off rfl rfl rfl rfl rfl rfl ?_
    refine Go.Sl.L.off rfl rfl rfl rfl rfl rfl ?_
    refine Go.Sl.L.off rfl rfl rfl rfl rfl rfl ?_
    refine Go.Sl.L.off rfl rfl rfl rfl rfl rfl ?_
    refine Go.Sl.L.offU rfl rfl rfl rfl rfl ?_
    refine Go.Sl.L.offU rfl rfl rfl rfl rfl ?_
    refine Go.Sl.L.offU rfl rfl rfl rfl rfl ?_
    refine Go.Sl.L.offU rfl rfl rfl rfl rfl ?_
    refine Go.Sl.L.offU rfl rfl rfl rfl rfl ?_
    refine Go.Sl.L.off rfl rfl rfl rfl rfl rfl ?_
    refine Go.Sl.L.pu rfl rfl trivial (by first | exact pu_pick_t rfl rfl | exact pu_pick_f rfl rfl) ?_
    refine Go.Sl.L.pu rfl rfl trivial (pu_assign rfl) ?_
    refine Go.Sl.L.nil ?_
    refine Gs.then_n ?_
    refine Gs.ret ?_
    exact Gs.fin1 Tryd.results42 rfl _ (⟨by grind [before], rfl⟩) (by repeat constructor)
  · skip
    refine Go.Sl.L.pu rfl rfl ⟨_, rfl, rfl⟩ (pu_fa fa_25_0 rfl) ?_
    refine Go.Sl.L.rd rfl rfl ⟨_, rfl, rfl⟩ (rd_ld na_3 rfl (Rdc.cl1 (by repeat constructor) rfl)) ?_
    refine Go.Sl.L.pu rfl rfl ⟨_, rfl, rfl⟩ (pu_fa fa_25_0 rfl) ?_
    refine Go.Sl.L.rd rfl rfl ⟨_, rfl, rfl⟩ (rd_ld na_3 rfl (Rdc.cl1 (by repeat constructor) rfl)) ?_
    refine Go.Sl.L.pu rfl rfl ⟨_, rfl, rfl⟩ (pu_eq rfl rfl) ?_
    refine Go.Sl.L.puB rfl rfl ⟨_, rfl, rfl⟩ (pu_move rfl) (fun hg11 => ?_) (fun hg11 => ?_)
    · skip
      refine Go.Sl.L.pu rfl rfl ⟨_, rfl, rfl⟩ (pu_fa fa_25_1 rfl) ?_
      refine Go.Sl.L.rd rfl rfl ⟨_, rfl, rfl⟩ (rd_ld na_3 rfl (Rdc.cl1 (by repeat constructor) rfl)) ?_
      refine Go.Sl.L.pu rfl rfl ⟨_, rfl, rfl⟩ (pu_fa fa_25_1 rfl) ?_
      refine Go.Sl.L.rd rfl rfl ⟨_, rfl, rfl⟩ (rd_ld na_3 rfl (Rdc.cl1 (by repeat constructor) rfl)) ?_
      refine Go.Sl.L.pu rfl rfl ⟨_, rfl, rfl⟩ (pu_lt rfl rfl) ?_
      refine Go.Sl.L.pu rfl rfl ⟨_, rfl, rfl⟩ (by first | exact pu_pick_t rfl rfl | exact pu_pick_f rfl rfl) ?_
      refine Go.Sl.L.pu rfl rfl trivial (by first | exact pu_pick_t rfl rfl | exact pu_pick_f rfl rfl) ?_
      refine Go.Sl.L.pu rfl rfl trivial (pu_assign rfl) ?_
      refine Go.Sl.L.nil ?_
      refine Gs.then_n ?_
      refine Gs.ret ?_
      exact Gs.fin1 Tryd.results42 rfl _ (⟨by grind [before], rfl⟩) (by repeat constructor)
    · skip
      refine Go.Sl.L.off rfl rfl rfl rfl rfl rfl ?_
      refine Go.Sl.L.off rfl rfl rfl rfl rfl rfl ?_
      refine Go.Sl.L.off rfl rfl rfl rfl rfl rfl ?_
      refine Go.Sl.L.off rfl rfl rfl rfl rfl rfl ?_
      refine Go.Sl.L.off rfl rfl rfl rfl rfl rfl ?_
      refine Go.Sl.L.pu rfl rfl ⟨_, rfl, rfl⟩ (by first | exact pu_pick_t rfl rfl | exact pu_pick_f rfl rfl) ?_
      refine Go.Sl.L.pu rfl rfl trivial (by first | exact pu_pick_t rfl rfl | exact pu_pick_f rfl rfl) ?_
      refine Go.Sl.L.pu rfl rfl trivial (pu_assign rfl) ?_
      refine Go.Sl.L.nil ?_
      refine Gs.then_n ?_
      refine Gs.ret ?_
      exact Gs.fin1 Tryd.results42 rfl _ (⟨by grind [before], rfl⟩) (by repeat constructor)
theorem at_le (ks : List Key) (k : Key) : at_ ks k ≤ ks.length := List.findIdx_le_length
theorem at_step {ks : List Key} {k x : Key} {i : Nat} (hi : i ≤ at_ ks k) (hx : ks[i]? = some x) : if before x k then i + 1 ≤ at_ ks k else i = at_ ks k := by
  obtain ⟨hl, rfl⟩ := List.getElem?_eq_some_iff.1 hx
  split
  · rename_i hb
    rcases Nat.lt_or_eq_of_le hi with h | h
    · exact h
    · have h2 : at_ ks k < ks.length := by omega
      have := List.findIdx_getElem (p := fun x => !before x k) (xs := ks) (w := h2)
      have e : ks[List.findIdx (fun x => !before x k) ks] = ks[i] := by congr 1; exact h.symm
      rw [e, hb] at this; cases this
  · rename_i hb
    rcases Nat.lt_or_eq_of_le hi with h | h
    · have := List.not_of_lt_findIdx (p := fun x => !before x k) (xs := ks) h
      simp at this; exact (hb this).elim
    · exact h
theorem into_spec (a : Option Addr) (c : Nat) (ks : List Key) (hl : ks.length ≤ 1000) (k : Key) :
    Ct Tryd.prog 33 [.slice a ks.length c, keyV k] [sl 25 2 keyC a c ks] (fun v hs => ∃ a' c', v = .slice a' (intoL ks k).length c' ∧ hs = [sl 25 2 keyC a' c' (intoL ks k)]) := by
  have hle := at_le ks k
  refine Ct.intro Tryd.func33 rfl (by kernel_rfl) 44 Tryd.ntmps33 (Nat.le_of_ble_eq_true rfl) fun w0 R => ?_
  refine Gs.slAddr (SlH.own (by repeat constructor) : SlH _ _ 2 keyC a ks) fun ab ao ha => ?_
  refine Gs.slLen (E := 25) (sz := 2) (enc := keyC) (a := a) (c := c) (xs := ks) (by repeat constructor) fun hlc => ?_
  refine Gs.seq ?_
  refine Gs.reg ?_
  refine Go.Sl.L.ac rfl rfl trivial (ac_box rfl rfl) ?_
  rintro _ _ ⟨b3, rfl, rfl⟩
  refine Go.Sl.L.pu rfl rfl trivial (pu_assign rfl) ?_
  refine Go.Sl.L.nil ?_
  refine Gs.then_n ?_
  refine Gs.seq ?_
  refine Gs.reg ?_
  refine Go.Sl.L.pu rfl rfl trivial (pu_assign rfl) ?_
  refine Go.Sl.L.nil ?_
  refine Gs.then_n ?_
  refine Gs.seq ?_
  refine Gs.block ?_
  refine Gs.loop1 (fun i : Nat => i ≤ at_ ks k) (fun i => [(0, .slice a ks.length c), (3, ptr b3), (5, int i)]) (fun i => [cl b3 25 (keyC k), sl 25 2 keyC a c ks] ++ R) (fun i => ks.length - i) 0 (Nat.zero_le _) (by repeat constructor) (by repeat constructor) (fun i hi => ?_)
  refine Gs.seq ?_
  refine Gs.seq ?_
  refine Gs.regD mixed (by kernel_rfl) ?_
  refine Rg.pu 0 rfl rfl (by kernel_rfl) trivial (pu_move rfl) ?_
  refine Rg.pu 1 rfl rfl (by kernel_rfl) trivial (pu_move rfl) ?_
  refine Rg.pu 2 rfl rfl (by kernel_rfl) trivial (pu_len Tryd.underlying48 rfl) ?_
  refine Rg.pu 3 rfl rfl (by kernel_rfl) trivial (pu_lt rfl rfl) ?_
  refine Rg.puB 4 rfl rfl (by kernel_rfl) trivial (pu_move rfl) (fun hg4 => ?_) (fun hg4 => ?_)
  · skip
    have hlt : i < ks.length := by have := of_decide_eq_true hg4; omega
    obtain ⟨x, hx⟩ : ∃ x, ks[i]? = some x := ⟨ks[i], by simp [hlt]⟩
    have hst := at_step hi hx
    obtain rfl := ha (by rintro rfl; simp at hlt)
    refine Rg.pu 5 rfl rfl (by kernel_rfl) ⟨_, rfl, rfl⟩ (pu_move rfl) ?_
    refine Rg.pu 6 rfl rfl (by kernel_rfl) ⟨_, rfl, rfl⟩ (pu_move rfl) ?_
    refine Rg.pu 7 rfl rfl (by kernel_rfl) ⟨_, rfl, rfl⟩ (pu_ia se_48 rfl rfl (by omega) (by omega)) ?_
    refine Rg.rd 8 rfl rfl (by kernel_rfl) ⟨_, rfl, rfl⟩ (rd_lda ag_25 rfl (Rdc.el0 (SlH.own (by repeat constructor)) hx rfl rfl) rfl) ?_
    refine Rg.rd 9 rfl rfl (by kernel_rfl) ⟨_, rfl, rfl⟩ (rd_lda ag_25 rfl (Rdc.cl 2 (by repeat constructor) rfl) rfl) ?_
    refine Rg.one (by kernel_rfl) (Stp.ac 10 rfl rfl (by kernel_rfl) ⟨_, rfl, rfl⟩ (as_call (before4_spec x k) (by repeat constructor) (by repeat constructor))  ?_)
    rintro _ _ ⟨_, ⟨rfl, rfl⟩, rfl⟩
    refine Rg.pu 11 rfl rfl (by kernel_rfl) trivial (by first | exact pu_pick_t rfl rfl | exact pu_pick_f rfl rfl) ?_
    refine Rg.end (by kernel_rfl) ?_
    refine Gs.then_n ?_
    refine Gs.cond rfl (fun hc0 => ?_) (fun hc0 => ?_)
    · skip
      rw [if_pos hc0] at hst
      refine Gs.skip ?_
      refine Gs.then_n ?_
      refine Gs.block ?_
      refine Gs.reg ?_
      refine Go.Sl.L.pu rfl rfl trivial (pu_move rfl) ?_
      refine Go.Sl.L.pu rfl rfl trivial (by first | exact pu_addI rfl rfl rfl (by omega) (by omega) | exact pu_add rfl rfl) ?_
      refine Go.Sl.L.pu rfl rfl trivial (pu_assign rfl) ?_
      refine Go.Sl.L.nil ?_
      refine Gs.blk_n ?_
      refine Gs.then_n ?_
      exact Gs.again1 (i + 1) (by omega) (by omega) (by repeat constructor) (by repeat constructor)
    · skip
      rw [if_neg (by rw [hc0]; decide)] at hst
      have he := hst
      refine Gs.exit ?_
      refine Gs.then_x ?_
      refine Gs.then_x ?_
      refine Gs.blk_hit ?_
      refine Gs.then_n ?_
      refine Gs.seq ?_
      refine Gs.seq ?_
      refine Gs.regD mixed (by kernel_rfl) ?_
      refine Rg.pu 0 rfl rfl (by kernel_rfl) trivial (pu_move rfl) ?_
      refine Rg.pu 1 rfl rfl (by kernel_rfl) trivial (pu_move rfl) ?_
      refine Rg.pu 2 rfl rfl (by kernel_rfl) trivial (pu_len Tryd.underlying48 rfl) ?_
      refine Rg.pu 3 rfl rfl (by kernel_rfl) trivial (pu_lt rfl rfl) ?_
      refine Rg.puB 4 rfl rfl (by kernel_rfl) trivial (pu_move rfl) (fun hg4 => ?_) (fun hg4 => ?_)
      · skip
        have hlt2 : i < ks.length := by have := of_decide_eq_true hg4; omega
        obtain ⟨x2, hx2⟩ : ∃ x, ks[i]? = some x := ⟨ks[i], by simp [hlt2]⟩
        try obtain rfl := ha (by rintro rfl; simp at hlt2)
        refine Rg.pu 5 rfl rfl (by kernel_rfl) ⟨_, rfl, rfl⟩ (pu_move rfl) ?_
        refine Rg.pu 6 rfl rfl (by kernel_rfl) ⟨_, rfl, rfl⟩ (pu_move rfl) ?_
        refine Rg.pu 7 rfl rfl (by kernel_rfl) ⟨_, rfl, rfl⟩ (pu_ia se_48 rfl rfl (by omega) (by omega)) ?_
        refine Rg.rd 8 rfl rfl (by kernel_rfl) ⟨_, rfl, rfl⟩ (rd_lda ag_25 rfl (Rdc.el0 (SlH.own (by repeat constructor)) hx2 rfl rfl) rfl) ?_
        refine Rg.rd 9 rfl rfl (by kernel_rfl) ⟨_, rfl, rfl⟩ (rd_lda ag_25 rfl (Rdc.cl 2 (by repeat constructor) rfl) rfl) ?_
        refine Rg.pu 10 rfl rfl (by kernel_rfl) ⟨_, rfl, rfl⟩ (pu_eqT (a := x2) (b := k) cmp_25 (by decide) Tryd.eqGuardType25 rfl rfl) ?_
        refine Rg.pu 11 rfl rfl (by kernel_rfl) trivial (by first | exact pu_pick_t rfl rfl | exact pu_pick_f rfl rfl) ?_
        refine Rg.end (by kernel_rfl) ?_
        refine Gs.then_n ?_
        refine Gs.cond rfl (fun hc1 => ?_) (fun hc1 => ?_)
        · skip
          have hin : intoL ks k = ks := by
            have h1 : x2 = k := of_decide_eq_true hc1
            unfold intoL; rw [if_pos (by rw [← he, hx2, h1])]
          refine Gs.seq ?_
          refine Gs.reg ?_
          refine Go.Sl.L.pu rfl rfl trivial (pu_move rfl) ?_
          refine Go.Sl.L.pu rfl rfl trivial (pu_assign rfl) ?_
          refine Go.Sl.L.nil ?_
          refine Gs.then_n ?_
          refine Gs.ret ?_
          refine Gs.then_r ?_
          exact Gs.fin1 Tryd.results33 rfl _ (⟨_, _, by rw [hin], by rw [hin]⟩) (by repeat constructor)
        · skip
          have hne : ¬ ks[at_ ks k]? = some k := fun e => by
            have h1 : x2 ≠ k := of_decide_eq_false hc1
            rw [← he, hx2] at e; exact h1 (Option.some.inj e)
          refine Gs.skip ?_
          refine Gs.then_n ?_
          refine Gs.seq ?_
          have hin : ks.take i ++ [k] ++ ks.drop i = intoL ks k := by unfold intoL; rw [if_neg hne, he]
          refine Gs.regD mixed (by kernel_rfl) ?_
          refine Rg.pu 0 rfl rfl (by kernel_rfl) trivial (pu_move rfl) ?_
          refine Rg.pu 1 rfl rfl (by kernel_rfl) trivial (pu_move rfl) ?_
          refine Rg.pu 2 rfl rfl (by kernel_rfl) trivial (pu_sliceH et_48 rfl rfl (by omega) (by omega)) ?_
          refine Rg.rd 4 rfl rfl (by kernel_rfl) trivial (rd_lda ag_25 rfl (Rdc.cl 2 (by repeat constructor) rfl) rfl) ?_
          refine Rg.pu 7 rfl rfl (by kernel_rfl) trivial (pu_move rfl) ?_
          refine Rg.pu 8 rfl rfl (by kernel_rfl) trivial (pu_move rfl) ?_
          refine Rg.pu 9 rfl rfl (by kernel_rfl) trivial (pu_sliceL et_48 rfl rfl (by omega) (by omega)) ?_
          refine Rg.two (by kernel_rfl) (Stp.acK 3 rfl rfl (by kernel_rfl) trivial (ac_copy et_48 ek_25 rfl rfl (SrcH.sl' (ys := ks.take i) Tryd.underlying48 ek_25 (by simp <;> omega) (SlH.cutH (SlH.own (by repeat constructor)) _ _ hlc)) (by first | omega | (simp; omega)) (by first | omega | (simp; omega))) (by rintro _ _ ⟨a36, c36, rfl, rfl⟩ w s; first | exact s.drop | exact s | exact Ent.sat (by repeat constructor) s) ?_) (Stp.ac 5 rfl rfl (by kernel_rfl) trivial (ac_lit encC_25 ([k]) et_48 ek_25 rfl (by repeat constructor) rfl rfl (by decide))  ?_)
          · skip
            rintro _ _ ⟨a36, c36, rfl, rfl⟩
            refine Rg.one (by kernel_rfl) (Stp.ac 5 rfl rfl (by kernel_rfl) trivial (ac_lit encC_25 ([k]) et_48 ek_25 rfl (by repeat constructor) rfl rfl (by decide))  ?_)
            rintro _ _ ⟨a38, rfl, rfl⟩
            refine Rg.one (by kernel_rfl) (Stp.ac 6 rfl rfl (by kernel_rfl) trivial (ac_append et_48 ek_25 rfl rfl (by repeat constructor) (SrcH.sl Tryd.underlying48 ek_25 (SlH.own (by repeat constructor))) (by first | omega | (simp; omega)) (by first | omega | (simp; omega)))  ?_)
            rintro _ _ ⟨a39, c39, rfl, rfl⟩
            refine Rg.one (by kernel_rfl) (Stp.ac 10 rfl rfl (by kernel_rfl) trivial (ac_append et_48 ek_25 rfl rfl (by repeat constructor) (SrcH.sl' (ys := ks.drop i) Tryd.underlying48 ek_25 (by simp <;> omega) (SlH.cutL (SlH.own (by repeat constructor)) _ _ hlc)) (by first | omega | (simp; omega)) (by first | omega | (simp; omega)))  ?_)
            rintro _ _ ⟨a43, c43, rfl, rfl⟩
            rw [hin]
            refine Rg.pu 11 rfl rfl (by kernel_rfl) trivial (pu_assign rfl) ?_
            refine Rg.end (by kernel_rfl) ?_
            refine Gs.then_n ?_
            refine Gs.ret ?_
            exact Gs.fin1 Tryd.results33 rfl _ (⟨_, _, rfl, rfl⟩) (by repeat constructor)
          · skip
            rintro _ _ ⟨a38, rfl, rfl⟩
            refine Rg.one (by kernel_rfl) (Stp.ac 3 rfl rfl (by kernel_rfl) trivial (ac_copy et_48 ek_25 rfl rfl (SrcH.sl' (ys := ks.take i) Tryd.underlying48 ek_25 (by simp <;> omega) (SlH.cutH (SlH.own (by repeat constructor)) _ _ hlc)) (by first | omega | (simp; omega)) (by first | omega | (simp; omega)))  ?_)
            rintro _ _ ⟨a36, c36, rfl, rfl⟩
            refine Rg.one (by kernel_rfl) (Stp.ac 6 rfl rfl (by kernel_rfl) trivial (ac_append et_48 ek_25 rfl rfl (by repeat constructor) (SrcH.sl Tryd.underlying48 ek_25 (SlH.own (by repeat constructor))) (by first | omega | (simp; omega)) (by first | omega | (simp; omega)))  ?_)
            rintro _ _ ⟨a39, c39, rfl, rfl⟩
            refine Rg.one (by kernel_rfl) (Stp.ac 10 rfl rfl (by kernel_rfl) trivial (ac_append et_48 ek_25 rfl rfl (by repeat constructor) (SrcH.sl' (ys := ks.drop i) Tryd.underlying48 ek_25 (by simp <;> omega) (SlH.cutL (SlH.own (by repeat constructor)) _ _ hlc)) (by first | omega | (simp; omega)) (by first | omega | (simp; omega)))  ?_)
            rintro _ _ ⟨a43, c43, rfl, rfl⟩
            rw [hin]
            refine Rg.pu 11 rfl rfl (by kernel_rfl) trivial (pu_assign rfl) ?_
            refine Rg.end (by kernel_rfl) ?_
            refine Gs.then_n ?_
            refine Gs.ret ?_
            exact Gs.fin1 Tryd.results33 rfl _ (⟨_, _, rfl, rfl⟩) (by repeat constructor)
      · skip
        have hne : ¬ ks[at_ ks k]? = some k := fun e => by
          have h1 := of_decide_eq_false hg4
          have h2 := (List.getElem?_eq_some_iff.1 e).1
          omega
        refine Rg.off 5 rfl rfl (by kernel_rfl) rfl rfl rfl rfl ?_
        refine Rg.off 6 rfl rfl (by kernel_rfl) rfl rfl rfl rfl ?_
        refine Rg.off 7 rfl rfl (by kernel_rfl) rfl rfl rfl rfl ?_
        refine Rg.off 8 rfl rfl (by kernel_rfl) rfl rfl rfl rfl ?_
        refine Rg.off 9 rfl rfl (by kernel_rfl) rfl rfl rfl rfl ?_
        refine Rg.off 10 rfl rfl (by kernel_rfl) rfl rfl rfl rfl ?_
        refine Rg.pu 11 rfl rfl (by kernel_rfl) trivial (by first | exact pu_pick_t rfl rfl | exact pu_pick_f rfl rfl) ?_
        refine Rg.end (by kernel_rfl) ?_
        refine Gs.then_n ?_
        refine Gs.cond_f rfl ?_
        refine Gs.skip ?_
        refine Gs.then_n ?_
        refine Gs.seq ?_
        have hin : ks.take i ++ [k] ++ ks.drop i = intoL ks k := by unfold intoL; rw [if_neg hne, he]
        refine Gs.regD mixed (by kernel_rfl) ?_
        refine Rg.pu 0 rfl rfl (by kernel_rfl) trivial (pu_move rfl) ?_
        refine Rg.pu 1 rfl rfl (by kernel_rfl) trivial (pu_move rfl) ?_
        refine Rg.pu 2 rfl rfl (by kernel_rfl) trivial (pu_sliceH et_48 rfl rfl (by omega) (by omega)) ?_
        refine Rg.rd 4 rfl rfl (by kernel_rfl) trivial (rd_lda ag_25 rfl (Rdc.cl 2 (by repeat constructor) rfl) rfl) ?_
        refine Rg.pu 7 rfl rfl (by kernel_rfl) trivial (pu_move rfl) ?_
        refine Rg.pu 8 rfl rfl (by kernel_rfl) trivial (pu_move rfl) ?_
        refine Rg.pu 9 rfl rfl (by kernel_rfl) trivial (pu_sliceL et_48 rfl rfl (by omega) (by omega)) ?_
        refine Rg.two (by kernel_rfl) (Stp.acK 3 rfl rfl (by kernel_rfl) trivial (ac_copy et_48 ek_25 rfl rfl (SrcH.sl' (ys := ks.take i) Tryd.underlying48 ek_25 (by simp <;> omega) (SlH.cutH (SlH.own (by repeat constructor)) _ _ hlc)) (by first | omega | (simp; omega)) (by first | omega | (simp; omega))) (by rintro _ _ ⟨a36, c36, rfl, rfl⟩ w s; first | exact s.drop | exact s | exact Ent.sat (by repeat constructor) s) ?_) (Stp.ac 5 rfl rfl (by kernel_rfl) trivial (ac_lit encC_25 ([k]) et_48 ek_25 rfl (by repeat constructor) rfl rfl (by decide))  ?_)
        · skip
          rintro _ _ ⟨a36, c36, rfl, rfl⟩
          refine Rg.one (by kernel_rfl) (Stp.ac 5 rfl rfl (by kernel_rfl) trivial (ac_lit encC_25 ([k]) et_48 ek_25 rfl (by repeat constructor) rfl rfl (by decide))  ?_)
          rintro _ _ ⟨a38, rfl, rfl⟩
          refine Rg.one (by kernel_rfl) (Stp.ac 6 rfl rfl (by kernel_rfl) trivial (ac_append et_48 ek_25 rfl rfl (by repeat constructor) (SrcH.sl Tryd.underlying48 ek_25 (SlH.own (by repeat constructor))) (by first | omega | (simp; omega)) (by first | omega | (simp; omega)))  ?_)
          rintro _ _ ⟨a39, c39, rfl, rfl⟩
          refine Rg.one (by kernel_rfl) (Stp.ac 10 rfl rfl (by kernel_rfl) trivial (ac_append et_48 ek_25 rfl rfl (by repeat constructor) (SrcH.sl' (ys := ks.drop i) Tryd.underlying48 ek_25 (by simp <;> omega) (SlH.cutL (SlH.own (by repeat constructor)) _ _ hlc)) (by first | omega | (simp; omega)) (by first | omega | (simp; omega)))  ?_)
          rintro _ _ ⟨a43, c43, rfl, rfl⟩
          rw [hin]
          refine Rg.pu 11 rfl rfl (by kernel_rfl) trivial (pu_assign rfl) ?_
          refine Rg.end (by kernel_rfl) ?_
          refine Gs.then_n ?_
          refine Gs.ret ?_
          exact Gs.fin1 Tryd.results33 rfl _ (⟨_, _, rfl, rfl⟩) (by repeat constructor)
        · skip
          rintro _ _ ⟨a38, rfl, rfl⟩
          refine Rg.one (by kernel_rfl) (Stp.ac 3 rfl rfl (by kernel_rfl) trivial (ac_copy et_48 ek_25 rfl rfl (SrcH.sl' (ys := ks.take i) Tryd.underlying48 ek_25 (by simp <;> omega) (SlH.cutH (SlH.own (by repeat constructor)) _ _ hlc)) (by first | omega | (simp; omega)) (by first | omega | (simp; omega)))  ?_)
          rintro _ _ ⟨a36, c36, rfl, rfl⟩
          refine Rg.one (by kernel_rfl) (Stp.ac 6 rfl rfl (by kernel_rfl) trivial (ac_append et_48 ek_25 rfl rfl (by repeat constructor) (SrcH.sl Tryd.underlying48 ek_25 (SlH.own (by repeat constructor))) (by first | omega | (simp; omega)) (by first | omega | (simp; omega)))  ?_)
          rintro _ _ ⟨a39, c39, rfl, rfl⟩
          refine Rg.one (by kernel_rfl) (Stp.ac 10 rfl rfl (by kernel_rfl) trivial (ac_append et_48 ek_25 rfl rfl (by repeat constructor) (SrcH.sl' (ys := ks.drop i) Tryd.underlying48 ek_25 (by simp <;> omega) (SlH.cutL (SlH.own (by repeat constructor)) _ _ hlc)) (by first | omega | (simp; omega)) (by first | omega | (simp; omega)))  ?_)
          rintro _ _ ⟨a43, c43, rfl, rfl⟩
          rw [hin]
          refine Rg.pu 11 rfl rfl (by kernel_rfl) trivial (pu_assign rfl) ?_
          refine Rg.end (by kernel_rfl) ?_
          refine Gs.then_n ?_
          refine Gs.ret ?_
          exact Gs.fin1 Tryd.results33 rfl _ (⟨_, _, rfl, rfl⟩) (by repeat constructor)
  · skip
    have he : i = at_ ks k := by have := of_decide_eq_false hg4; omega
    refine Rg.off 5 rfl rfl (by kernel_rfl) rfl rfl rfl rfl ?_
    refine Rg.off 6 rfl rfl (by kernel_rfl) rfl rfl rfl rfl ?_
    refine Rg.off 7 rfl rfl (by kernel_rfl) rfl rfl rfl rfl ?_
    refine Rg.off 8 rfl rfl (by kernel_rfl) rfl rfl rfl rfl ?_
    refine Rg.off 9 rfl rfl (by kernel_rfl) rfl rfl rfl rfl ?_
    refine Rg.off 10 rfl rfl (by kernel_rfl) rfl rfl rfl rfl ?_
    refine Rg.pu 11 rfl rfl (by kernel_rfl) trivial (by first | exact pu_pick_t rfl rfl | exact pu_pick_f rfl rfl) ?_
    refine Rg.end (by kernel_rfl) ?_
    refine Gs.then_n ?_
    refine Gs.cond_f rfl ?_
    refine Gs.exit ?_
    refine Gs.then_x ?_
    refine Gs.then_x ?_
    refine Gs.blk_hit ?_
    refine Gs.then_n ?_
    refine Gs.seq ?_
    refine Gs.seq ?_
    refine Gs.regD mixed (by kernel_rfl) ?_
    refine Rg.pu 0 rfl rfl (by kernel_rfl) trivial (pu_move rfl) ?_
    refine Rg.pu 1 rfl rfl (by kernel_rfl) trivial (pu_move rfl) ?_
    refine Rg.pu 2 rfl rfl (by kernel_rfl) trivial (pu_len Tryd.underlying48 rfl) ?_
    refine Rg.pu 3 rfl rfl (by kernel_rfl) trivial (pu_lt rfl rfl) ?_
    refine Rg.puB 4 rfl rfl (by kernel_rfl) trivial (pu_move rfl) (fun hg4 => ?_) (fun hg4 => ?_)
    · skip
      have hlt2 : i < ks.length := by have := of_decide_eq_true hg4; omega
      obtain ⟨x2, hx2⟩ : ∃ x, ks[i]? = some x := ⟨ks[i], by simp [hlt2]⟩
      try obtain rfl := ha (by rintro rfl; simp at hlt2)
      refine Rg.pu 5 rfl rfl (by kernel_rfl) ⟨_, rfl, rfl⟩ (pu_move rfl) ?_
      refine Rg.pu 6 rfl rfl (by kernel_rfl) ⟨_, rfl, rfl⟩ (pu_move rfl) ?_
      refine Rg.pu 7 rfl rfl (by kernel_rfl) ⟨_, rfl, rfl⟩ (pu_ia se_48 rfl rfl (by omega) (by omega)) ?_
      refine Rg.rd 8 rfl rfl (by kernel_rfl) ⟨_, rfl, rfl⟩ (rd_lda ag_25 rfl (Rdc.el0 (SlH.own (by repeat constructor)) hx2 rfl rfl) rfl) ?_
      refine Rg.rd 9 rfl rfl (by kernel_rfl) ⟨_, rfl, rfl⟩ (rd_lda ag_25 rfl (Rdc.cl 2 (by repeat constructor) rfl) rfl) ?_
      refine Rg.pu 10 rfl rfl (by kernel_rfl) ⟨_, rfl, rfl⟩ (pu_eqT (a := x2) (b := k) cmp_25 (by decide) Tryd.eqGuardType25 rfl rfl) ?_
      refine Rg.pu 11 rfl rfl (by kernel_rfl) trivial (by first | exact pu_pick_t rfl rfl | exact pu_pick_f rfl rfl) ?_
      refine Rg.end (by kernel_rfl) ?_
      refine Gs.then_n ?_
      refine Gs.cond rfl (fun hc1 => ?_) (fun hc1 => ?_)
      · skip
        have hin : intoL ks k = ks := by
          have h1 : x2 = k := of_decide_eq_true hc1
          unfold intoL; rw [if_pos (by rw [← he, hx2, h1])]
        refine Gs.seq ?_
        refine Gs.reg ?_
        refine Go.Sl.L.pu rfl rfl trivial (pu_move rfl) ?_
        refine Go.Sl.L.pu rfl rfl trivial (pu_assign rfl) ?_
        refine Go.Sl.L.nil ?_
        refine Gs.then_n ?_
        refine Gs.ret ?_
        refine Gs.then_r ?_
        exact Gs.fin1 Tryd.results33 rfl _ (⟨_, _, by rw [hin], by rw [hin]⟩) (by repeat constructor)
      · skip
        have hne : ¬ ks[at_ ks k]? = some k := fun e => by
          have h1 : x2 ≠ k := of_decide_eq_false hc1
          rw [← he, hx2] at e; exact h1 (Option.some.inj e)
        refine Gs.skip ?_
        refine Gs.then_n ?_
        refine Gs.seq ?_
        have hin : ks.take i ++ [k] ++ ks.drop i = intoL ks k := by unfold intoL; rw [if_neg hne, he]
        refine Gs.regD mixed (by kernel_rfl) ?_
        refine Rg.pu 0 rfl rfl (by kernel_rfl) trivial (pu_move rfl) ?_
        refine Rg.pu 1 rfl rfl (by kernel_rfl) trivial (pu_move rfl) ?_
        refine Rg.pu 2 rfl rfl (by kernel_rfl) trivial (pu_sliceH et_48 rfl rfl (by omega) (by omega)) ?_
        refine Rg.rd 4 rfl rfl (by kernel_rfl) trivial (rd_lda ag_25 rfl (Rdc.cl 2 (by repeat constructor) rfl) rfl) ?_
        refine Rg.pu 7 rfl rfl (by kernel_rfl) trivial (pu_move rfl) ?_
        refine Rg.pu 8 rfl rfl (by kernel_rfl) trivial (pu_move rfl) ?_
        refine Rg.pu 9 rfl rfl (by kernel_rfl) trivial (pu_sliceL et_48 rfl rfl (by omega) (by omega)) ?_
        refine Rg.two (by kernel_rfl) (Stp.acK 3 rfl rfl (by kernel_rfl) trivial (ac_copy et_48 ek_25 rfl rfl (SrcH.sl' (ys := ks.take i) Tryd.underlying48 ek_25 (by simp <;> omega) (SlH.cutH (SlH.own (by repeat constructor)) _ _ hlc)) (by first | omega | (simp; omega)) (by first | omega | (simp; omega))) (by rintro _ _ ⟨a36, c36, rfl, rfl⟩ w s; first | exact s.drop | exact s | exact Ent.sat (by repeat constructor) s) ?_) (Stp.ac 5 rfl rfl (by kernel_rfl) trivial (ac_lit encC_25 ([k]) et_48 ek_25 rfl (by repeat constructor) rfl rfl (by decide))  ?_)
        · skip
          rintro _ _ ⟨a36, c36, rfl, rfl⟩
          refine Rg.one (by kernel_rfl) (Stp.ac 5 rfl rfl (by kernel_rfl) trivial (ac_lit encC_25 ([k]) et_48 ek_25 rfl (by repeat constructor) rfl rfl (by decide))  ?_)
          rintro _ _ ⟨a38, rfl, rfl⟩
          refine Rg.one (by kernel_rfl) (Stp.ac 6 rfl rfl (by kernel_rfl) trivial (ac_append et_48 ek_25 rfl rfl (by repeat constructor) (SrcH.sl Tryd.underlying48 ek_25 (SlH.own (by repeat constructor))) (by first | omega | (simp; omega)) (by first | omega | (simp; omega)))  ?_)
          rintro _ _ ⟨a39, c39, rfl, rfl⟩
          refine Rg.one (by kernel_rfl) (Stp.ac 10 rfl rfl (by kernel_rfl) trivial (ac_append et_48 ek_25 rfl rfl (by repeat constructor) (SrcH.sl' (ys := ks.drop i) Tryd.underlying48 ek_25 (by simp <;> omega) (SlH.cutL (SlH.own (by repeat constructor)) _ _ hlc)) (by first | omega | (simp; omega)) (by first | omega | (simp; omega)))  ?_)
          rintro _ _ ⟨a43, c43, rfl, rfl⟩
          rw [hin]
          refine Rg.pu 11 rfl rfl (by kernel_rfl) trivial (pu_assign rfl) ?_
          refine Rg.end (by kernel_rfl) ?_
          refine Gs.then_n ?_
          refine Gs.ret ?_
          exact Gs.fin1 Tryd.results33 rfl _ (⟨_, _, rfl, rfl⟩) (by repeat constructor)
        · skip
          rintro _ _ ⟨a38, rfl, rfl⟩
          refine Rg.one (by kernel_rfl) (Stp.ac 3 rfl rfl (by kernel_rfl) trivial (ac_copy et_48 ek_25 rfl rfl (SrcH.sl' (ys := ks.take i) Tryd.underlying48 ek_25 (by simp <;> omega) (SlH.cutH (SlH.own (by repeat constructor)) _ _ hlc)) (by first | omega | (simp; omega)) (by first | omega | (simp; omega)))  ?_)
          rintro _ _ ⟨a36, c36, rfl, rfl⟩
          refine Rg.one (by kernel_rfl) (Stp.ac 6 rfl rfl (by kernel_rfl) trivial (ac_append et_48 ek_25 rfl rfl (by repeat constructor) (SrcH.sl Tryd.underlying48 ek_25 (SlH.own (by repeat constructor))) (by first | omega | (simp; omega)) (by first | omega | (simp; omega)))  ?_)
          rintro _ _ ⟨a39, c39, rfl, rfl⟩
          refine Rg.one (by kernel_rfl) (Stp.ac 10 rfl rfl (by kernel_rfl) trivial (ac_append et_48 ek_25 rfl rfl (by repeat constructor) (SrcH.sl' (ys := ks.drop i) Tryd.underlying48 ek_25 (by simp <;> omega) (SlH.cutL (SlH.own (by repeat constructor)) _ _ hlc)) (by first | omega | (simp; omega)) (by first | omega | (simp; omega)))  ?_)
          rintro _ _ ⟨a43, c43, rfl, rfl⟩
          rw [hin]
          refine Rg.pu 11 rfl rfl (by kernel_rfl) trivial (pu_assign rfl) ?_
          refine Rg.end (by kernel_rfl) ?_
          refine Gs.then_n ?_
          refine Gs.ret ?_
          exact Gs.fin1 Tryd.results33 rfl _ (⟨_, _, rfl, rfl⟩) (by repeat constructor)
    · skip
      have hne : ¬ ks[at_ ks k]? = some k := fun e => by
        have h1 := of_decide_eq_false hg4
        have h2 := (List.getElem?_eq_some_iff.1 e).1
        omega
      refine Rg.off 5 rfl rfl (by kernel_rfl) rfl rfl rfl rfl ?_
      refine Rg.off 6 rfl rfl (by kernel_rfl) rfl rfl rfl rfl ?_
      refine Rg.off 7 rfl rfl (by kernel_rfl) rfl rfl rfl rfl ?_
      refine Rg.off 8 rfl rfl (by kernel_rfl) rfl rfl rfl rfl ?_
      refine Rg.off 9 rfl rfl (by kernel_rfl) rfl rfl rfl rfl ?_
      refine Rg.off 10 rfl rfl (by kernel_rfl) rfl rfl rfl rfl ?_
      refine Rg.pu 11 rfl rfl (by kernel_rfl) trivial (by first | exact pu_pick_t rfl rfl | exact pu_pick_f rfl rfl) ?_
      refine Rg.end (by kernel_rfl) ?_
      refine Gs.then_n ?_
      refine Gs.cond_f rfl ?_
      refine Gs.skip ?_
      refine Gs.then_n ?_
      refine Gs.seq ?_
      have hin : ks.take i ++ [k] ++ ks.drop i = intoL ks k := by unfold intoL; rw [if_neg hne, he]
      refine Gs.regD mixed (by kernel_rfl) ?_
      refine Rg.pu 0 rfl rfl (by kernel_rfl) trivial (pu_move rfl) ?_
      refine Rg.pu 1 rfl rfl (by kernel_rfl) trivial (pu_move rfl) ?_
      refine Rg.pu 2 rfl rfl (by kernel_rfl) trivial (pu_sliceH et_48 rfl rfl (by omega) (by omega)) ?_
      refine Rg.rd 4 rfl rfl (by kernel_rfl) trivial (rd_lda ag_25 rfl (Rdc.cl 2 (by repeat constructor) rfl) rfl) ?_
      refine Rg.pu 7 rfl rfl (by kernel_rfl) trivial (pu_move rfl) ?_
      refine Rg.pu 8 rfl rfl (by kernel_rfl) trivial (pu_move rfl) ?_
      refine Rg.pu 9 rfl rfl (by kernel_rfl) trivial (pu_sliceL et_48 rfl rfl (by omega) (by omega)) ?_
      refine Rg.two (by kernel_rfl) (Stp.acK 3 rfl rfl (by kernel_rfl) trivial (ac_copy et_48 ek_25 rfl rfl (SrcH.sl' (ys := ks.take i) Tryd.underlying48 ek_25 (by simp <;> omega) (SlH.cutH (SlH.own (by repeat constructor)) _ _ hlc)) (by first | omega | (simp; omega)) (by first | omega | (simp; omega))) (by rintro _ _ ⟨a36, c36, rfl, rfl⟩ w s; first | exact s.drop | exact s | exact Ent.sat (by repeat constructor) s) ?_) (Stp.ac 5 rfl rfl (by kernel_rfl) trivial (ac_lit encC_25 ([k]) et_48 ek_25 rfl (by repeat constructor) rfl rfl (by decide))  ?_)
      · skip
        rintro _ _ ⟨a36, c36, rfl, rfl⟩
        refine Rg.one (by kernel_rfl) (Stp.ac 5 rfl rfl (by kernel_rfl) trivial (ac_lit encC_25 ([k]) et_48 ek_25 rfl (by repeat constructor) rfl rfl (by decide))  ?_)
        rintro _ _ ⟨a38, rfl, rfl⟩
        refine Rg.one (by kernel_rfl) (Stp.ac 6 rfl rfl (by kernel_rfl) trivial (ac_append et_48 ek_25 rfl rfl (by repeat constructor) (SrcH.sl Tryd.underlying48 ek_25 (SlH.own (by repeat constructor))) (by first | omega | (simp; omega)) (by first | omega | (simp; omega)))  ?_)
        rintro _ _ ⟨a39, c39, rfl, rfl⟩
        refine Rg.one (by kernel_rfl) (Stp.ac 10 rfl rfl (by kernel_rfl) trivial (ac_append et_48 ek_25 rfl rfl (by repeat constructor) (SrcH.sl' (ys := ks.drop i) Tryd.underlying48 ek_25 (by simp <;> omega) (SlH.cutL (SlH.own (by repeat constructor)) _ _ hlc)) (by first | omega | (simp; omega)) (by first | omega | (simp; omega)))  ?_)
        rintro _ _ ⟨a43, c43, rfl, rfl⟩
        rw [hin]
        refine Rg.pu 11 rfl rfl (by kernel_rfl) trivial (pu_assign rfl) ?_
        refine Rg.end (by kernel_rfl) ?_
        refine Gs.then_n ?_
        refine Gs.ret ?_
        exact Gs.fin1 Tryd.results33 rfl _ (⟨_, _, rfl, rfl⟩) (by repeat constructor)
      · skip
        rintro _ _ ⟨a38, rfl, rfl⟩
        refine Rg.one (by kernel_rfl) (Stp.ac 3 rfl rfl (by kernel_rfl) trivial (ac_copy et_48 ek_25 rfl rfl (SrcH.sl' (ys := ks.take i) Tryd.underlying48 ek_25 (by simp <;> omega) (SlH.cutH (SlH.own (by repeat constructor)) _ _ hlc)) (by first | omega | (simp; omega)) (by first | omega | (simp; omega)))  ?_)
        rintro _ _ ⟨a36, c36, rfl, rfl⟩
        refine Rg.one (by kernel_rfl) (Stp.ac 6 rfl rfl (by kernel_rfl) trivial (ac_append et_48 ek_25 rfl rfl (by repeat constructor) (SrcH.sl Tryd.underlying48 ek_25 (SlH.own (by repeat constructor))) (by first | omega | (simp; omega)) (by first | omega | (simp; omega)))  ?_)
        rintro _ _ ⟨a39, c39, rfl, rfl⟩
        refine Rg.one (by kernel_rfl) (Stp.ac 10 rfl rfl (by kernel_rfl) trivial (ac_append et_48 ek_25 rfl rfl (by repeat constructor) (SrcH.sl' (ys := ks.drop i) Tryd.underlying48 ek_25 (by simp <;> omega) (SlH.cutL (SlH.own (by repeat constructor)) _ _ hlc)) (by first | omega | (simp; omega)) (by first | omega | (simp; omega)))  ?_)
        rintro _ _ ⟨a43, c43, rfl, rfl⟩
        rw [hin]
        refine Rg.pu 11 rfl rfl (by kernel_rfl) trivial (pu_assign rfl) ?_
        refine Rg.end (by kernel_rfl) ?_
        refine Gs.then_n ?_
        refine Gs.ret ?_
        exact Gs.fin1 Tryd.results33 rfl _ (⟨_, _, rfl, rfl⟩) (by repeat constructor)
theorem keys18_spec (b : Nat) (most : Int) (L : List Rec) (hL : L.length ≤ 1000) (hn : (L.map Rec.key).Nodup) (a : Option Addr) (c : Nat) :
    Ct Tryd.prog 20 [ptr b] [cl b 38 [.slice a L.length c, int most], sl 29 5 recC a c L]
      (fun v hs => ∃ a' c', v = .slice a' (sortK (L.map Rec.key)).length c' ∧ hs = [cl b 38 [.slice a L.length c, int most], sl 29 5 recC a c L, sl 25 2 keyC a' c' (sortK (L.map Rec.key))]) := by
  have hlen : ∀ i, (sortK ((L.take i).map Rec.key)).length ≤ 1000 := fun i => by rw [sortK_length, List.length_map, List.length_take]; omega
  refine Ct.intro Tryd.func20 rfl (by kernel_rfl) 25 Tryd.ntmps20 (Nat.le_of_ble_eq_true rfl) fun w0 R => ?_
  refine Gs.slAddr (SlH.own (by repeat constructor) : SlH _ _ 5 recC a L) fun ab ao ha => ?_
  refine Gs.seq ?_
  refine Gs.reg ?_
  refine Go.Sl.L.pu rfl rfl trivial (pu_assign rfl) ?_
  refine Go.Sl.L.nil ?_
  refine Gs.then_n ?_
  refine Gs.seq ?_
  refine Gs.reg ?_
  refine Go.Sl.L.pu rfl rfl trivial (pu_assign rfl) ?_
  refine Go.Sl.L.nil ?_
  refine Gs.then_n ?_
  refine Gs.seq ?_
  refine Gs.seq ?_
  refine Gs.reg ?_
  refine Go.Sl.L.pu rfl rfl trivial (pu_assign rfl) ?_
  refine Go.Sl.L.nil ?_
  refine Gs.slNil 25 2 keyC ?_
  refine Gs.then_n ?_
  refine Gs.block ?_
  refine Gs.loop1 (fun s : Nat × Option Addr × Nat => s.1 ≤ L.length) (fun s => [(0, ptr b), (3, .slice s.2.1 (sortK ((L.take s.1).map Rec.key)).length s.2.2), (4, int s.1)]) (fun s => [sl 25 2 keyC s.2.1 s.2.2 (sortK ((L.take s.1).map Rec.key)), cl b 38 [.slice a L.length c, int most], sl 29 5 recC a c L] ++ R) (fun s => L.length - s.1) (0, none, 0) (Nat.zero_le _) (by repeat constructor) (by repeat constructor) (fun s hi => ?_)
  obtain ⟨i, pa, pc⟩ := s
  dsimp only at hi ⊢
  refine Gs.seq ?_
  refine Gs.seq ?_
  refine Gs.reg ?_
  refine Go.Sl.L.pu rfl rfl trivial (pu_move rfl) ?_
  refine Go.Sl.L.pu rfl rfl trivial (pu_move rfl) ?_
  refine Go.Sl.L.pu rfl rfl trivial (by first | exact pu_nil rfl | exact pu_nilF rfl) ?_
  refine Go.Sl.L.pu rfl rfl trivial (pu_fa fa_38_0 rfl) ?_
  refine Go.Sl.L.rd rfl rfl trivial (rd_ld na_36 rfl (Rdc.cl1 (by repeat constructor) rfl)) ?_
  refine Go.Sl.L.pu rfl rfl trivial (pu_len Tryd.underlying36 rfl) ?_
  refine Go.Sl.L.pu rfl rfl trivial (pu_lt rfl rfl) ?_
  refine Go.Sl.L.nil ?_
  refine Gs.then_n ?_
  refine Gs.cond rfl (fun hc0 => ?_) (fun hc0 => ?_)
  · skip
    have hlt : i < L.length := by have := of_decide_eq_true hc0; omega
    obtain ⟨r, hr⟩ : ∃ r, L[i]? = some r := ⟨L[i], by simp [hlt]⟩
    obtain rfl := ha (by rintro rfl; simp at hlt)
    have hnew : intoL (sortK ((L.take i).map Rec.key)) r.key = sortK ((L.take (i + 1)).map Rec.key) := by
      have e : (L.take (i + 1)).map Rec.key = (L.take i).map Rec.key ++ [r.key] := by rw [List.take_add_one, hr]; simp
      rw [e, sortK_snoc]
      refine intoL_ins ?_
      rw [sortK_mem]
      have hn2 : ((L.take (i + 1)).map Rec.key).Nodup := List.Nodup.sublist ((List.take_sublist _ _).map _) hn
      rw [e] at hn2
      have := (List.nodup_append.1 hn2).2.2
      intro hm; exact this _ hm _ (by simp) rfl
    refine Gs.skip ?_
    refine Gs.then_n ?_
    refine Gs.seq ?_
    refine Gs.block ?_
    refine Gs.reg ?_
    refine Go.Sl.L.pu rfl rfl trivial (pu_move rfl) ?_
    refine Go.Sl.L.pu rfl rfl trivial (pu_move rfl) ?_
    refine Go.Sl.L.pu rfl rfl trivial (by first | exact pu_nil rfl | exact pu_nilF rfl) ?_
    refine Go.Sl.L.pu rfl rfl trivial (pu_fa fa_38_0 rfl) ?_
    refine Go.Sl.L.rd rfl rfl trivial (rd_ld na_36 rfl (Rdc.cl1 (by repeat constructor) rfl)) ?_
    refine Go.Sl.L.pu rfl rfl trivial (pu_move rfl) ?_
    refine Go.Sl.L.pu rfl rfl trivial (pu_ia se_36 rfl rfl (by omega) (by omega)) ?_
    refine Go.Sl.L.pu rfl rfl trivial (pu_fa fa_29_0 rfl) ?_
    refine Go.Sl.L.rd rfl rfl trivial (rd_lda ag_25 rfl (Rdc.elp 2 (SlH.own (by repeat constructor)) hr rfl rfl) rfl) ?_
    refine Go.Sl.L.ac rfl rfl trivial (as_call (into_spec pa pc _ (hlen i) r.key) (by repeat constructor) (by repeat constructor)) ?_
    rintro _ _ ⟨_, ⟨pa', pc', rfl, rfl⟩, rfl⟩
    rw [hnew]
    refine Go.Sl.L.pu rfl rfl trivial (pu_assign rfl) ?_
    refine Go.Sl.L.nil ?_
    refine Gs.blk_n ?_
    refine Gs.then_n ?_
    refine Gs.reg ?_
    refine Go.Sl.L.pu rfl rfl trivial (pu_move rfl) ?_
    refine Go.Sl.L.pu rfl rfl trivial (by first | exact pu_addI rfl rfl rfl (by omega) (by omega) | exact pu_add rfl rfl) ?_
    refine Go.Sl.L.pu rfl rfl trivial (pu_assign rfl) ?_
    refine Go.Sl.L.nil ?_
    refine Gs.then_n ?_
    exact Gs.again1 (i + 1, pa', pc') (by show i + 1 ≤ L.length; omega) (by show L.length - (i + 1) < L.length - i; omega) (by repeat constructor) (by repeat constructor)
  · skip
    have hge : i = L.length := by have := of_decide_eq_false hc0; omega
    subst hge
    rw [List.take_length]
    refine Gs.exit ?_
    refine Gs.then_x ?_
    refine Gs.then_x ?_
    refine Gs.blk_hit ?_
    refine Gs.then_n ?_
    refine Gs.seq ?_
    refine Gs.reg ?_
    refine Go.Sl.L.pu rfl rfl trivial (pu_move rfl) ?_
    refine Go.Sl.L.pu rfl rfl trivial (pu_assign rfl) ?_
    refine Go.Sl.L.nil ?_
    refine Gs.then_n ?_
    refine Gs.ret ?_
    exact Gs.fin1 Tryd.results20 rfl _ (⟨_, _, rfl, rfl⟩) (by repeat constructor)
end Go.Proofs.YthikmfpfbfjbiaaDoor
