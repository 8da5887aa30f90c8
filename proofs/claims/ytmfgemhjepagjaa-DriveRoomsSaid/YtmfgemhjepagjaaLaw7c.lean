/- Walk: grapevinelaw7.DriveRooms. -/
import Derived.Test.YtmfgemhjepagjaaLaw7b
namespace Go.Proofs.Ytmfgemhjepagjaa
open Go Go.Sl Go.Gv Go.Kv Go.Dv Go.Bst
set_option maxRecDepth 100000
def nmAB (i : Nat) : ByteArray := if i % 2 = 0 then nA else nB
theorem nmAB_at (i : Nat) : ([nA, nB] : List ByteArray)[i % 2]? = some (nmAB i) := by
  unfold nmAB
  rcases Nat.mod_two_eq_zero_or_one i with h | h <;> rw [h] <;> rfl
theorem nmAB_ok (i : Nat) : asciiB (nmAB i) = true ∧ namedB (nmAB i) = true ∧ (nmAB i).size ≤ 9223372036854775807 ∧ (nmAB i = nA ∨ nmAB i = nB) := by
  unfold nmAB
  split
  · exact ⟨by decide, by decide, by decide, .inl rfl⟩
  · exact ⟨by decide, by decide, by decide, .inr rfl⟩
theorem driveRooms_spec {h0 : Hp} {aa : Option Addr} {ca : Nat} {xs : List Int} (most0 cut0 : Int) (h1 : slR h0 1 intC aa xs) (hl1 : xs.length ≤ 9223372036854775807) :
    Ct Try.prog 6 [int most0, .slice aa xs.length ca, int cut0] [ro h0] (fun v hs => v = .bool true ∧ hs = [ro h0]) := by
  have hm1 := lowZ_in (a := most0) (b := 500) (by decide) (by decide)
  obtain ⟨M, hM⟩ : ∃ M : Nat, lowZ most0 500 = M := ⟨(lowZ most0 500).toNat, by omega⟩
  rw [hM] at hm1
  refine Ct.intro Try.func6 rfl (by kernel_rfl) 138 Try.ntmps6 (Nat.le_of_ble_eq_true rfl) fun w0 R => ?_
  refine Gs.slAddr (SlH.ro (by repeat constructor) h1) fun ab ao haa => ?_
  refine Gs.seq ?_
  refine Gs.reg ?_
  refine Go.Sl.L.pu rfl rfl trivial (pu_assign rfl) ?_
  refine Go.Sl.L.nil ?_
  refine Gs.then_n ?_
  refine Gs.seq ?_
  refine Gs.seq ?_
  refine Gs.reg ?_
  refine Go.Sl.L.pu rfl rfl trivial (pu_move rfl) ?_
  refine Go.Sl.L.pu rfl rfl trivial (pu_len Try.underlying44 rfl) ?_
  refine Go.Sl.L.pu rfl rfl trivial (pu_gt rfl rfl) ?_
  refine Go.Sl.L.nil ?_
  refine Gs.then_n ?_
  refine Gs.cond rfl (fun hc0 => ?_) (fun hc0 => ?_)
  · skip
    have hc0' := of_decide_eq_true hc0
    refine Gs.seq ?_
    refine Gs.reg ?_
    refine Go.Sl.L.ac rfl rfl trivial (as_call (awake7_spec) (by repeat constructor) (by repeat constructor)) ?_
    rintro _ _ ⟨_, ⟨rfl, rfl⟩, rfl⟩
    refine Go.Sl.L.pu rfl rfl trivial (pu_assign rfl) ?_
    refine Go.Sl.L.nil ?_
    refine Gs.then_n ?_
    refine Gs.ret ?_
    refine Gs.then_r ?_
    exact Gs.fin1 Try.results6 rfl _ (⟨rfl, rfl⟩) (by repeat constructor)
  · skip
    have hc0' := of_decide_eq_false hc0
    refine Gs.skip ?_
    refine Gs.then_n ?_
    refine Gs.seq ?_
    refine Gs.reg ?_
    refine Go.Sl.L.pu rfl rfl trivial (pu_move rfl) ?_
    refine Go.Sl.L.ac rfl rfl trivial (as_call (low_spec most0 500 (by decide) (by decide)) (by repeat constructor) (by repeat constructor)) ?_
    rintro _ _ ⟨_, ⟨rfl, rfl⟩, rfl⟩
    rw [hM]
    refine Go.Sl.L.pu rfl rfl trivial (pu_assign rfl) ?_
    refine Go.Sl.L.nil ?_
    refine Gs.then_n ?_
    refine Gs.seq ?_
    refine Gs.reg ?_
    refine Go.Sl.L.pu rfl rfl trivial (pu_move rfl) ?_
    refine Go.Sl.L.ac rfl rfl trivial (as_call (drvNew_ok M (by omega) (by omega)) (by repeat constructor) (by repeat constructor)) ?_
    rintro _ _ ⟨_, ⟨b, rfl, rfl⟩, rfl⟩
    refine Go.Sl.L.pu rfl rfl trivial (pu_assign rfl) ?_
    refine Go.Sl.L.nil ?_
    refine Gs.then_n ?_
    refine Gs.seq ?_
    refine Gs.seq ?_
    refine Gs.reg ?_
    refine Go.Sl.L.pu rfl rfl trivial (pu_move rfl) ?_
    refine Go.Sl.L.pu rfl rfl trivial (pu_eqN Try.underlying24 rfl rfl) ?_
    refine Go.Sl.L.nil ?_
    refine Gs.then_n ?_
    refine Gs.cond_f rfl ?_
    refine Gs.skip ?_
    refine Gs.then_n ?_
    refine Gs.seq ?_
    refine Gs.reg ?_
    refine Go.Sl.L.pu rfl rfl trivial (pu_assign rfl) ?_
    refine Go.Sl.L.nil ?_
    refine Gs.then_n ?_
    refine Gs.seq ?_
    refine Gs.seq ?_
    refine Gs.reg ?_
    refine Go.Sl.L.pu rfl rfl trivial (pu_assign rfl) ?_
    refine Go.Sl.L.nil ?_
    refine Gs.then_n ?_
    refine Gs.block ?_
    refine Gs.loop1 (fun s : Nat × List Fl => s.1 ≤ xs.length ∧ s.2.length ≤ s.1 ∧ ∀ f ∈ s.2, f.n = nA ∨ f.n = nB) (fun s => [(0, int M), (1, .slice aa xs.length ca), (2, int cut0), (7, ptr b), (8, int (used s.2)), (9, int s.1)]) (fun s => [ro h0, drv b M s.2] ++ R) (fun s => xs.length - s.1) (0, []) (⟨Nat.zero_le _, Nat.le_refl _, fun f hf => by cases hf⟩) (by repeat constructor) (by repeat constructor) (fun s hs => ?_)
    obtain ⟨i, D⟩ := s
    obtain ⟨hi, hDl, hDn⟩ := hs
    dsimp only at hi hDl hDn ⊢
    refine Gs.drvOk (by repeat constructor) fun hok => ?_
    have hroom := hok.room
    refine Gs.seq ?_
    refine Gs.seq ?_
    refine Gs.reg ?_
    refine Go.Sl.L.pu rfl rfl trivial (pu_move rfl) ?_
    refine Go.Sl.L.pu rfl rfl trivial (pu_move rfl) ?_
    refine Go.Sl.L.pu rfl rfl trivial (pu_len Try.underlying44 rfl) ?_
    refine Go.Sl.L.pu rfl rfl trivial (pu_lt rfl rfl) ?_
    refine Go.Sl.L.nil ?_
    refine Gs.then_n ?_
    refine Gs.cond rfl (fun hc2 => ?_) (fun hc2 => ?_)
    · skip
      have hlt : i < xs.length := by have := of_decide_eq_true hc2; omega
      obtain ⟨x, hx⟩ : ∃ x, xs[i]? = some x := ⟨xs[i], by simp [hlt]⟩
      obtain rfl := haa (by rintro rfl; simp at hlt)
      have hk1 := lowZ_in (a := x) (b := 41) (by decide) (by decide)
      obtain ⟨k, hk⟩ : ∃ k : Nat, lowZ x 41 = k := ⟨(lowZ x 41).toNat, by omega⟩
      rw [hk] at hk1
      obtain ⟨n1, n2, n3, n4⟩ := nmAB_ok i
      have hrem : ((i : Int)).tmod 2 = ((i % 2 : Nat) : Int) := by rw [Int.tmod_eq_emod_of_nonneg (by omega)]; omega
      have hl2 : ([nA, nB] : List ByteArray).length = 2 := rfl
      have hrem2 : i % 2 < 2 := Nat.mod_lt _ (by decide)
      obtain ⟨bs, hbs⟩ : ∃ bs : List UInt8, bs = List.replicate k 0 := ⟨_, rfl⟩
      have hbl : bs.length = k := by rw [hbs, List.length_replicate]
      obtain ⟨e, D', hE, hL, he⟩ : ∃ (e : Int) (D' : List Fl), appE M D (nmAB i) bs = e ∧ appL M D (nmAB i) bs = D' ∧ ((e = 0 ∧ used D + k ≤ M ∧ D' = appD D (nmAB i) bs) ∨ (e = 8 ∧ M < used D + k ∧ D' = D)) := by
        refine ⟨_, _, rfl, rfl, ?_⟩
        by_cases hfit : used D + k ≤ M
        · have h : appE M D (nmAB i) bs = 0 := by simp only [appE, n2, if_true]; rw [if_neg (by omega)]
          exact .inl ⟨h, hfit, by simp [appL, h]⟩
        · have h : appE M D (nmAB i) bs = 8 := by simp only [appE, n2, if_true]; rw [if_pos (by omega)]
          exact .inr ⟨h, by omega, by simp [appL, h]⟩
      refine Gs.skip ?_
      refine Gs.then_n ?_
      refine Gs.seq ?_
      refine Gs.block ?_
      refine Gs.seq ?_
      refine Gs.reg ?_
      refine Go.Sl.L.pu rfl rfl trivial (pu_move rfl) ?_
      refine Go.Sl.L.pu rfl rfl trivial (pu_move rfl) ?_
      refine Go.Sl.L.pu rfl rfl trivial (pu_ia se_44 rfl rfl (by omega) (by omega)) ?_
      refine Go.Sl.L.rd rfl rfl trivial (rd_ld na_3 rfl (Rdc.el0 (SlH.ro (by repeat constructor) h1) hx rfl rfl)) ?_
      refine Go.Sl.L.ac rfl rfl trivial (as_call (low_spec x 41 (by decide) (by decide)) (by repeat constructor) (by repeat constructor)) ?_
      rintro _ _ ⟨_, ⟨rfl, rfl⟩, rfl⟩
      rw [hk]
      refine Go.Sl.L.pu rfl rfl trivial (pu_assign rfl) ?_
      refine Go.Sl.L.nil ?_
      refine Gs.then_n ?_
      refine Gs.seq ?_
      refine Gs.regD mixed (by kernel_rfl) ?_
      refine Rg.pu 0 rfl rfl (by kernel_rfl) trivial (pu_move rfl) ?_
      refine Rg.pu 2 rfl rfl (by kernel_rfl) trivial (pu_move rfl) ?_
      refine Rg.pu 3 rfl rfl (by kernel_rfl) trivial (pu_rem rfl rfl (by omega)) ?_
      rw [hrem]
      refine Rg.pu 6 rfl rfl (by kernel_rfl) trivial (pu_move rfl) ?_
      refine Rg.two (by kernel_rfl) (Stp.ac 1 rfl rfl (by kernel_rfl) trivial (ac_lit encC_9 ([nA, nB]) et_37 ek_9 rfl (by repeat constructor) rfl rfl (by decide))  ?_) (Stp.ac 7 rfl rfl (by kernel_rfl) trivial (ac_make byteC 0 et_22 ek_5 zv_5 rfl rfl rfl (by omega) (by omega) (by omega) (by omega))  ?_)
      · skip
        rintro _ _ ⟨a38, rfl, rfl⟩
        refine Rg.pu 4 rfl rfl (by kernel_rfl) trivial (pu_ia se_37 rfl rfl (by omega) (by omega)) ?_
        refine Rg.rd 5 rfl rfl (by kernel_rfl) trivial (rd_ld na_9 rfl (Rdc.el0 (i := i % 2) (SlH.own (E := 9) (c := 2) (xs := [nA, nB]) (by repeat constructor)) (nmAB_at i) (by simp; omega) rfl)) ?_
        refine Rg.one (by kernel_rfl) (Stp.acK 7 rfl rfl (by kernel_rfl) trivial (ac_make byteC 0 et_22 ek_5 zv_5 rfl rfl rfl (by omega) (by omega) (by omega) (by omega)) (by rintro _ _ ⟨mb, rfl, rfl⟩ w s; first | exact s.drop | exact s | exact Ent.sat (by repeat constructor) s) ?_)
        rintro _ _ ⟨mb, rfl, rfl⟩
        rw [Int.toNat_natCast, ← hbs]
        refine Rg.one (by kernel_rfl) (Stp.ac 8 rfl rfl (by kernel_rfl) trivial (as_call (append_spec (S := sl 5 1 byteC (at0 mb) k bs) b M D (nmAB i) n1 n3 Srd.own (by omega) (by omega)) (by repeat constructor) (by repeat constructor))  ?_)
        rintro _ _ ⟨_, ⟨rfl, rfl⟩, rfl⟩
        rw [hE, hL]
        refine Rg.pu 9 rfl rfl (by kernel_rfl) trivial (pu_assign rfl) ?_
        refine Rg.end (by kernel_rfl) ?_
        refine Gs.then_n ?_
        refine Gs.seq ?_
        refine Gs.seq ?_
        refine Gs.reg ?_
        refine Go.Sl.L.pu rfl rfl trivial (pu_move rfl) ?_
        refine Go.Sl.L.pu rfl rfl trivial (pu_eq rfl rfl) ?_
        refine Go.Sl.L.pu rfl rfl trivial (pu_move rfl) ?_
        refine Go.Sl.L.pu rfl rfl trivial (pu_move rfl) ?_
        refine Go.Sl.L.pu rfl rfl trivial (pu_move rfl) ?_
        refine Go.Sl.L.pu rfl rfl trivial (by first | exact pu_subI rfl rfl rfl (by omega) (by omega) | exact pu_sub rfl rfl) ?_
        refine Go.Sl.L.pu rfl rfl trivial (pu_le rfl rfl) ?_
        refine Go.Sl.L.pu rfl rfl trivial (pu_neB Try.underlying4 rfl rfl) ?_
        refine Go.Sl.L.puBf rfl rfl trivial (pu_move rfl) (by rcases he with ⟨rfl, h, -⟩ | ⟨rfl, h, -⟩ <;> simp <;> omega) ?_
        refine Go.Sl.L.pu rfl rfl ⟨_, rfl, rfl⟩ (pu_move rfl) ?_
        refine Go.Sl.L.pu rfl rfl ⟨_, rfl, rfl⟩ (pu_ne rfl rfl) ?_
        refine Go.Sl.L.puB rfl rfl ⟨_, rfl, rfl⟩ (pu_move rfl) (fun hg11 => ?_) (fun hg11 => ?_)
        · skip
          refine Go.Sl.L.pu rfl rfl ⟨_, rfl, rfl⟩ (pu_move rfl) ?_
          refine Go.Sl.L.pu rfl rfl ⟨_, rfl, rfl⟩ (pu_ne rfl rfl) ?_
          refine Go.Sl.L.pu rfl rfl ⟨_, rfl, rfl⟩ (by first | exact pu_pick_t rfl rfl | exact pu_pick_f rfl rfl) ?_
          refine Go.Sl.L.pu rfl rfl trivial (by first | exact pu_pick_t rfl rfl | exact pu_pick_f rfl rfl) ?_
          refine Go.Sl.L.nil ?_
          refine Gs.then_n ?_
          refine Gs.cond_ff rfl (by rcases he with ⟨rfl, -, -⟩ | ⟨rfl, -, -⟩ <;> first | rfl | (simp at hg11)) ?_
          refine Gs.skip ?_
          refine Gs.then_n ?_
          refine Gs.seq ?_
          refine Gs.seq ?_
          refine Gs.reg ?_
          refine Go.Sl.L.pu rfl rfl trivial (pu_move rfl) ?_
          refine Go.Sl.L.pu rfl rfl trivial (pu_eq rfl rfl) ?_
          refine Go.Sl.L.nil ?_
          refine Gs.then_n ?_
          refine Gs.cond rfl (fun hc4 => ?_) (fun hc4 => ?_)
          · skip
            have h00 := of_decide_eq_true hc4
            obtain ⟨hfit, hD'⟩ : used D + k ≤ M ∧ D' = appD D (nmAB i) bs := by rcases he with ⟨-, h1, h2⟩ | ⟨h, -, -⟩ <;> first | exact ⟨h1, h2⟩ | omega
            have hu : (used D' : Int) = used D + k := by rw [hD', used_appD hok, hbl]; omega
            have hDl' : D'.length ≤ i + 1 := by have := length_appD D (nmAB i) bs; rw [hD']; omega
            have hDn' : ∀ f ∈ D', f.n = nA ∨ f.n = nB := fun f hf => by
              rw [hD'] at hf
              rcases mem_appD hf with h | h
              · obtain ⟨g, hg, e⟩ := List.mem_map.1 h; rw [← e]; exact hDn g hg
              · rw [h]; exact n4
            refine Gs.reg ?_
            refine Go.Sl.L.pu rfl rfl trivial (pu_move rfl) ?_
            refine Go.Sl.L.pu rfl rfl trivial (pu_move rfl) ?_
            refine Go.Sl.L.pu rfl rfl trivial (by first | exact pu_addI rfl rfl rfl (by omega) (by omega) | exact pu_add rfl rfl) ?_
            refine Go.Sl.L.pu rfl rfl trivial (pu_assign rfl) ?_
            refine Go.Sl.L.nil ?_
            rw [← hu]
            refine Gs.then_n ?_
            refine Gs.seq ?_
            refine Gs.reg ?_
            refine Go.Sl.L.pu rfl rfl trivial (pu_move rfl) ?_
            refine Go.Sl.L.ac rfl rfl trivial (as_call (used_spec b M D' (by omega)) (by repeat constructor) (by repeat constructor)) ?_
            rintro _ _ ⟨_, ⟨rfl, rfl⟩, rfl⟩
            refine Go.Sl.L.pu rfl rfl trivial (pu_move rfl) ?_
            refine Go.Sl.L.pu rfl rfl trivial (pu_ne rfl rfl) ?_
            refine Go.Sl.L.nil ?_
            refine Gs.then_n ?_
            refine Gs.cond_ff rfl (decide_eq_false (by omega)) ?_
            refine Gs.skip ?_
            refine Gs.blk_n ?_
            refine Gs.then_n ?_
            refine Gs.reg ?_
            refine Go.Sl.L.pu rfl rfl trivial (pu_move rfl) ?_
            refine Go.Sl.L.pu rfl rfl trivial (by first | exact pu_addI rfl rfl rfl (by omega) (by omega) | exact pu_add rfl rfl) ?_
            refine Go.Sl.L.pu rfl rfl trivial (pu_assign rfl) ?_
            refine Go.Sl.L.nil ?_
            refine Gs.then_n ?_
            exact Gs.again1 (i + 1, D') ⟨by show i + 1 ≤ xs.length; omega, by show D'.length ≤ i + 1; omega, hDn'⟩ (by show xs.length - (i + 1) < xs.length - i; omega) (by repeat constructor) (by repeat constructor)
          · skip
            have h00 := of_decide_eq_false hc4
            obtain rfl : D' = D := by rcases he with ⟨h, -, -⟩ | ⟨-, -, h⟩ <;> first | exact h | omega
            have hDl' : D'.length ≤ i + 1 := by omega
            have hDn' := hDn
            refine Gs.skip ?_
            refine Gs.then_n ?_
            refine Gs.seq ?_
            refine Gs.reg ?_
            refine Go.Sl.L.pu rfl rfl trivial (pu_move rfl) ?_
            refine Go.Sl.L.ac rfl rfl trivial (as_call (used_spec b M D' (by omega)) (by repeat constructor) (by repeat constructor)) ?_
            rintro _ _ ⟨_, ⟨rfl, rfl⟩, rfl⟩
            refine Go.Sl.L.pu rfl rfl trivial (pu_move rfl) ?_
            refine Go.Sl.L.pu rfl rfl trivial (pu_ne rfl rfl) ?_
            refine Go.Sl.L.nil ?_
            refine Gs.then_n ?_
            refine Gs.cond_ff rfl (decide_eq_false (by omega)) ?_
            refine Gs.skip ?_
            refine Gs.blk_n ?_
            refine Gs.then_n ?_
            refine Gs.reg ?_
            refine Go.Sl.L.pu rfl rfl trivial (pu_move rfl) ?_
            refine Go.Sl.L.pu rfl rfl trivial (by first | exact pu_addI rfl rfl rfl (by omega) (by omega) | exact pu_add rfl rfl) ?_
            refine Go.Sl.L.pu rfl rfl trivial (pu_assign rfl) ?_
            refine Go.Sl.L.nil ?_
            refine Gs.then_n ?_
            exact Gs.again1 (i + 1, D') ⟨by show i + 1 ≤ xs.length; omega, by show D'.length ≤ i + 1; omega, hDn'⟩ (by show xs.length - (i + 1) < xs.length - i; omega) (by repeat constructor) (by repeat constructor)
        · skip
          refine Go.Sl.L.off rfl rfl rfl rfl rfl rfl ?_
          refine Go.Sl.L.off rfl rfl rfl rfl rfl rfl ?_
          refine Go.Sl.L.pu rfl rfl ⟨_, rfl, rfl⟩ (by first | exact pu_pick_t rfl rfl | exact pu_pick_f rfl rfl) ?_
          refine Go.Sl.L.pu rfl rfl trivial (by first | exact pu_pick_t rfl rfl | exact pu_pick_f rfl rfl) ?_
          refine Go.Sl.L.nil ?_
          refine Gs.then_n ?_
          refine Gs.cond_f rfl ?_
          refine Gs.skip ?_
          refine Gs.then_n ?_
          refine Gs.seq ?_
          refine Gs.seq ?_
          refine Gs.reg ?_
          refine Go.Sl.L.pu rfl rfl trivial (pu_move rfl) ?_
          refine Go.Sl.L.pu rfl rfl trivial (pu_eq rfl rfl) ?_
          refine Go.Sl.L.nil ?_
          refine Gs.then_n ?_
          refine Gs.cond rfl (fun hc4 => ?_) (fun hc4 => ?_)
          · skip
            have h00 := of_decide_eq_true hc4
            obtain ⟨hfit, hD'⟩ : used D + k ≤ M ∧ D' = appD D (nmAB i) bs := by rcases he with ⟨-, h1, h2⟩ | ⟨h, -, -⟩ <;> first | exact ⟨h1, h2⟩ | omega
            have hu : (used D' : Int) = used D + k := by rw [hD', used_appD hok, hbl]; omega
            have hDl' : D'.length ≤ i + 1 := by have := length_appD D (nmAB i) bs; rw [hD']; omega
            have hDn' : ∀ f ∈ D', f.n = nA ∨ f.n = nB := fun f hf => by
              rw [hD'] at hf
              rcases mem_appD hf with h | h
              · obtain ⟨g, hg, e⟩ := List.mem_map.1 h; rw [← e]; exact hDn g hg
              · rw [h]; exact n4
            refine Gs.reg ?_
            refine Go.Sl.L.pu rfl rfl trivial (pu_move rfl) ?_
            refine Go.Sl.L.pu rfl rfl trivial (pu_move rfl) ?_
            refine Go.Sl.L.pu rfl rfl trivial (by first | exact pu_addI rfl rfl rfl (by omega) (by omega) | exact pu_add rfl rfl) ?_
            refine Go.Sl.L.pu rfl rfl trivial (pu_assign rfl) ?_
            refine Go.Sl.L.nil ?_
            rw [← hu]
            refine Gs.then_n ?_
            refine Gs.seq ?_
            refine Gs.reg ?_
            refine Go.Sl.L.pu rfl rfl trivial (pu_move rfl) ?_
            refine Go.Sl.L.ac rfl rfl trivial (as_call (used_spec b M D' (by omega)) (by repeat constructor) (by repeat constructor)) ?_
            rintro _ _ ⟨_, ⟨rfl, rfl⟩, rfl⟩
            refine Go.Sl.L.pu rfl rfl trivial (pu_move rfl) ?_
            refine Go.Sl.L.pu rfl rfl trivial (pu_ne rfl rfl) ?_
            refine Go.Sl.L.nil ?_
            refine Gs.then_n ?_
            refine Gs.cond_ff rfl (decide_eq_false (by omega)) ?_
            refine Gs.skip ?_
            refine Gs.blk_n ?_
            refine Gs.then_n ?_
            refine Gs.reg ?_
            refine Go.Sl.L.pu rfl rfl trivial (pu_move rfl) ?_
            refine Go.Sl.L.pu rfl rfl trivial (by first | exact pu_addI rfl rfl rfl (by omega) (by omega) | exact pu_add rfl rfl) ?_
            refine Go.Sl.L.pu rfl rfl trivial (pu_assign rfl) ?_
            refine Go.Sl.L.nil ?_
            refine Gs.then_n ?_
            exact Gs.again1 (i + 1, D') ⟨by show i + 1 ≤ xs.length; omega, by show D'.length ≤ i + 1; omega, hDn'⟩ (by show xs.length - (i + 1) < xs.length - i; omega) (by repeat constructor) (by repeat constructor)
          · skip
            have h00 := of_decide_eq_false hc4
            obtain rfl : D' = D := by rcases he with ⟨h, -, -⟩ | ⟨-, -, h⟩ <;> first | exact h | omega
            have hDl' : D'.length ≤ i + 1 := by omega
            have hDn' := hDn
            refine Gs.skip ?_
            refine Gs.then_n ?_
            refine Gs.seq ?_
            refine Gs.reg ?_
            refine Go.Sl.L.pu rfl rfl trivial (pu_move rfl) ?_
            refine Go.Sl.L.ac rfl rfl trivial (as_call (used_spec b M D' (by omega)) (by repeat constructor) (by repeat constructor)) ?_
            rintro _ _ ⟨_, ⟨rfl, rfl⟩, rfl⟩
            refine Go.Sl.L.pu rfl rfl trivial (pu_move rfl) ?_
            refine Go.Sl.L.pu rfl rfl trivial (pu_ne rfl rfl) ?_
            refine Go.Sl.L.nil ?_
            refine Gs.then_n ?_
            refine Gs.cond_ff rfl (decide_eq_false (by omega)) ?_
            refine Gs.skip ?_
            refine Gs.blk_n ?_
            refine Gs.then_n ?_
            refine Gs.reg ?_
            refine Go.Sl.L.pu rfl rfl trivial (pu_move rfl) ?_
            refine Go.Sl.L.pu rfl rfl trivial (by first | exact pu_addI rfl rfl rfl (by omega) (by omega) | exact pu_add rfl rfl) ?_
            refine Go.Sl.L.pu rfl rfl trivial (pu_assign rfl) ?_
            refine Go.Sl.L.nil ?_
            refine Gs.then_n ?_
            exact Gs.again1 (i + 1, D') ⟨by show i + 1 ≤ xs.length; omega, by show D'.length ≤ i + 1; omega, hDn'⟩ (by show xs.length - (i + 1) < xs.length - i; omega) (by repeat constructor) (by repeat constructor)
      · skip
        rintro _ _ ⟨mb, rfl, rfl⟩
        rw [Int.toNat_natCast, ← hbs]
        refine Rg.one (by kernel_rfl) (Stp.ac 1 rfl rfl (by kernel_rfl) trivial (ac_lit encC_9 ([nA, nB]) et_37 ek_9 rfl (by repeat constructor) rfl rfl (by decide))  ?_)
        rintro _ _ ⟨a38, rfl, rfl⟩
        refine Rg.pu 4 rfl rfl (by kernel_rfl) trivial (pu_ia se_37 rfl rfl (by omega) (by omega)) ?_
        refine Rg.rd 5 rfl rfl (by kernel_rfl) trivial (rd_ld na_9 rfl (Rdc.el0 (i := i % 2) (SlH.own (E := 9) (c := 2) (xs := [nA, nB]) (by repeat constructor)) (nmAB_at i) (by simp; omega) rfl)) ?_
        refine Rg.one (by kernel_rfl) (Stp.ac 8 rfl rfl (by kernel_rfl) trivial (as_call (append_spec (S := sl 5 1 byteC (at0 mb) k bs) b M D (nmAB i) n1 n3 Srd.own (by omega) (by omega)) (by repeat constructor) (by repeat constructor))  ?_)
        rintro _ _ ⟨_, ⟨rfl, rfl⟩, rfl⟩
        rw [hE, hL]
        refine Rg.pu 9 rfl rfl (by kernel_rfl) trivial (pu_assign rfl) ?_
        refine Rg.end (by kernel_rfl) ?_
        refine Gs.then_n ?_
        refine Gs.seq ?_
        refine Gs.seq ?_
        refine Gs.reg ?_
        refine Go.Sl.L.pu rfl rfl trivial (pu_move rfl) ?_
        refine Go.Sl.L.pu rfl rfl trivial (pu_eq rfl rfl) ?_
        refine Go.Sl.L.pu rfl rfl trivial (pu_move rfl) ?_
        refine Go.Sl.L.pu rfl rfl trivial (pu_move rfl) ?_
        refine Go.Sl.L.pu rfl rfl trivial (pu_move rfl) ?_
        refine Go.Sl.L.pu rfl rfl trivial (by first | exact pu_subI rfl rfl rfl (by omega) (by omega) | exact pu_sub rfl rfl) ?_
        refine Go.Sl.L.pu rfl rfl trivial (pu_le rfl rfl) ?_
        refine Go.Sl.L.pu rfl rfl trivial (pu_neB Try.underlying4 rfl rfl) ?_
        refine Go.Sl.L.puBf rfl rfl trivial (pu_move rfl) (by rcases he with ⟨rfl, h, -⟩ | ⟨rfl, h, -⟩ <;> simp <;> omega) ?_
        refine Go.Sl.L.pu rfl rfl ⟨_, rfl, rfl⟩ (pu_move rfl) ?_
        refine Go.Sl.L.pu rfl rfl ⟨_, rfl, rfl⟩ (pu_ne rfl rfl) ?_
        refine Go.Sl.L.puB rfl rfl ⟨_, rfl, rfl⟩ (pu_move rfl) (fun hg11 => ?_) (fun hg11 => ?_)
        · skip
          refine Go.Sl.L.pu rfl rfl ⟨_, rfl, rfl⟩ (pu_move rfl) ?_
          refine Go.Sl.L.pu rfl rfl ⟨_, rfl, rfl⟩ (pu_ne rfl rfl) ?_
          refine Go.Sl.L.pu rfl rfl ⟨_, rfl, rfl⟩ (by first | exact pu_pick_t rfl rfl | exact pu_pick_f rfl rfl) ?_
          refine Go.Sl.L.pu rfl rfl trivial (by first | exact pu_pick_t rfl rfl | exact pu_pick_f rfl rfl) ?_
          refine Go.Sl.L.nil ?_
          refine Gs.then_n ?_
          refine Gs.cond_ff rfl (by rcases he with ⟨rfl, -, -⟩ | ⟨rfl, -, -⟩ <;> first | rfl | (simp at hg11)) ?_
          refine Gs.skip ?_
          refine Gs.then_n ?_
          refine Gs.seq ?_
          refine Gs.seq ?_
          refine Gs.reg ?_
          refine Go.Sl.L.pu rfl rfl trivial (pu_move rfl) ?_
          refine Go.Sl.L.pu rfl rfl trivial (pu_eq rfl rfl) ?_
          refine Go.Sl.L.nil ?_
          refine Gs.then_n ?_
          refine Gs.cond rfl (fun hc4 => ?_) (fun hc4 => ?_)
          · skip
            have h00 := of_decide_eq_true hc4
            obtain ⟨hfit, hD'⟩ : used D + k ≤ M ∧ D' = appD D (nmAB i) bs := by rcases he with ⟨-, h1, h2⟩ | ⟨h, -, -⟩ <;> first | exact ⟨h1, h2⟩ | omega
            have hu : (used D' : Int) = used D + k := by rw [hD', used_appD hok, hbl]; omega
            have hDl' : D'.length ≤ i + 1 := by have := length_appD D (nmAB i) bs; rw [hD']; omega
            have hDn' : ∀ f ∈ D', f.n = nA ∨ f.n = nB := fun f hf => by
              rw [hD'] at hf
              rcases mem_appD hf with h | h
              · obtain ⟨g, hg, e⟩ := List.mem_map.1 h; rw [← e]; exact hDn g hg
              · rw [h]; exact n4
            refine Gs.reg ?_
            refine Go.Sl.L.pu rfl rfl trivial (pu_move rfl) ?_
            refine Go.Sl.L.pu rfl rfl trivial (pu_move rfl) ?_
            refine Go.Sl.L.pu rfl rfl trivial (by first | exact pu_addI rfl rfl rfl (by omega) (by omega) | exact pu_add rfl rfl) ?_
            refine Go.Sl.L.pu rfl rfl trivial (pu_assign rfl) ?_
            refine Go.Sl.L.nil ?_
            rw [← hu]
            refine Gs.then_n ?_
            refine Gs.seq ?_
            refine Gs.reg ?_
            refine Go.Sl.L.pu rfl rfl trivial (pu_move rfl) ?_
            refine Go.Sl.L.ac rfl rfl trivial (as_call (used_spec b M D' (by omega)) (by repeat constructor) (by repeat constructor)) ?_
            rintro _ _ ⟨_, ⟨rfl, rfl⟩, rfl⟩
            refine Go.Sl.L.pu rfl rfl trivial (pu_move rfl) ?_
            refine Go.Sl.L.pu rfl rfl trivial (pu_ne rfl rfl) ?_
            refine Go.Sl.L.nil ?_
            refine Gs.then_n ?_
            refine Gs.cond_ff rfl (decide_eq_false (by omega)) ?_
            refine Gs.skip ?_
            refine Gs.blk_n ?_
            refine Gs.then_n ?_
            refine Gs.reg ?_
            refine Go.Sl.L.pu rfl rfl trivial (pu_move rfl) ?_
            refine Go.Sl.L.pu rfl rfl trivial (by first | exact pu_addI rfl rfl rfl (by omega) (by omega) | exact pu_add rfl rfl) ?_
            refine Go.Sl.L.pu rfl rfl trivial (pu_assign rfl) ?_
            refine Go.Sl.L.nil ?_
            refine Gs.then_n ?_
            exact Gs.again1 (i + 1, D') ⟨by show i + 1 ≤ xs.length; omega, by show D'.length ≤ i + 1; omega, hDn'⟩ (by show xs.length - (i + 1) < xs.length - i; omega) (by repeat constructor) (by repeat constructor)
          · skip
            have h00 := of_decide_eq_false hc4
            obtain rfl : D' = D := by rcases he with ⟨h, -, -⟩ | ⟨-, -, h⟩ <;> first | exact h | omega
            have hDl' : D'.length ≤ i + 1 := by omega
            have hDn' := hDn
            refine Gs.skip ?_
            refine Gs.then_n ?_
            refine Gs.seq ?_
            refine Gs.reg ?_
            refine Go.Sl.L.pu rfl rfl trivial (pu_move rfl) ?_
            refine Go.Sl.L.ac rfl rfl trivial (as_call (used_spec b M D' (by omega)) (by repeat constructor) (by repeat constructor)) ?_
            rintro _ _ ⟨_, ⟨rfl, rfl⟩, rfl⟩
            refine Go.Sl.L.pu rfl rfl trivial (pu_move rfl) ?_
            refine Go.Sl.L.pu rfl rfl trivial (pu_ne rfl rfl) ?_
            refine Go.Sl.L.nil ?_
            refine Gs.then_n ?_
            refine Gs.cond_ff rfl (decide_eq_false (by omega)) ?_
            refine Gs.skip ?_
            refine Gs.blk_n ?_
            refine Gs.then_n ?_
            refine Gs.reg ?_
            refine Go.Sl.L.pu rfl rfl trivial (pu_move rfl) ?_
            refine Go.Sl.L.pu rfl rfl trivial (by first | exact pu_addI rfl rfl rfl (by omega) (by omega) | exact pu_add rfl rfl) ?_
            refine Go.Sl.L.pu rfl rfl trivial (pu_assign rfl) ?_
            refine Go.Sl.L.nil ?_
            refine Gs.then_n ?_
            exact Gs.again1 (i + 1, D') ⟨by show i + 1 ≤ xs.length; omega, by show D'.length ≤ i + 1; omega, hDn'⟩ (by show xs.length - (i + 1) < xs.length - i; omega) (by repeat constructor) (by repeat constructor)
        · skip
          refine Go.Sl.L.off rfl rfl rfl rfl rfl rfl ?_
          refine Go.Sl.L.off rfl rfl rfl rfl rfl rfl ?_
          refine Go.Sl.L.pu rfl rfl ⟨_, rfl, rfl⟩ (by first | exact pu_pick_t rfl rfl | exact pu_pick_f rfl rfl) ?_
          refine Go.Sl.L.pu rfl rfl trivial (by first | exact pu_pick_t rfl rfl | exact pu_pick_f rfl rfl) ?_
          refine Go.Sl.L.nil ?_
          refine Gs.then_n ?_
          refine Gs.cond_f rfl ?_
          refine Gs.skip ?_
          refine Gs.then_n ?_
          refine Gs.seq ?_
          refine Gs.seq ?_
          refine Gs.reg ?_
          refine Go.Sl.L.pu rfl rfl trivial (pu_move rfl) ?_
          refine Go.Sl.L.pu rfl rfl trivial (pu_eq rfl rfl) ?_
          refine Go.Sl.L.nil ?_
          refine Gs.then_n ?_
          refine Gs.cond rfl (fun hc4 => ?_) (fun hc4 => ?_)
          · skip
            have h00 := of_decide_eq_true hc4
            obtain ⟨hfit, hD'⟩ : used D + k ≤ M ∧ D' = appD D (nmAB i) bs := by rcases he with ⟨-, h1, h2⟩ | ⟨h, -, -⟩ <;> first | exact ⟨h1, h2⟩ | omega
            have hu : (used D' : Int) = used D + k := by rw [hD', used_appD hok, hbl]; omega
            have hDl' : D'.length ≤ i + 1 := by have := length_appD D (nmAB i) bs; rw [hD']; omega
            have hDn' : ∀ f ∈ D', f.n = nA ∨ f.n = nB := fun f hf => by
              rw [hD'] at hf
              rcases mem_appD hf with h | h
              · obtain ⟨g, hg, e⟩ := List.mem_map.1 h; rw [← e]; exact hDn g hg
              · rw [h]; exact n4
            refine Gs.reg ?_
            refine Go.Sl.L.pu rfl rfl trivial (pu_move rfl) ?_
            refine Go.Sl.L.pu rfl rfl trivial (pu_move rfl) ?_
            refine Go.Sl.L.pu rfl rfl trivial (by first | exact pu_addI rfl rfl rfl (by omega) (by omega) | exact pu_add rfl rfl) ?_
            refine Go.Sl.L.pu rfl rfl trivial (pu_assign rfl) ?_
            refine Go.Sl.L.nil ?_
            rw [← hu]
            refine Gs.then_n ?_
            refine Gs.seq ?_
            refine Gs.reg ?_
            refine Go.Sl.L.pu rfl rfl trivial (pu_move rfl) ?_
            refine Go.Sl.L.ac rfl rfl trivial (as_call (used_spec b M D' (by omega)) (by repeat constructor) (by repeat constructor)) ?_
            rintro _ _ ⟨_, ⟨rfl, rfl⟩, rfl⟩
            refine Go.Sl.L.pu rfl rfl trivial (pu_move rfl) ?_
            refine Go.Sl.L.pu rfl rfl trivial (pu_ne rfl rfl) ?_
            refine Go.Sl.L.nil ?_
            refine Gs.then_n ?_
            refine Gs.cond_ff rfl (decide_eq_false (by omega)) ?_
            refine Gs.skip ?_
            refine Gs.blk_n ?_
            refine Gs.then_n ?_
            refine Gs.reg ?_
            refine Go.Sl.L.pu rfl rfl trivial (pu_move rfl) ?_
            refine Go.Sl.L.pu rfl rfl trivial (by first | exact pu_addI rfl rfl rfl (by omega) (by omega) | exact pu_add rfl rfl) ?_
            refine Go.Sl.L.pu rfl rfl trivial (pu_assign rfl) ?_
            refine Go.Sl.L.nil ?_
            refine Gs.then_n ?_
            exact Gs.again1 (i + 1, D') ⟨by show i + 1 ≤ xs.length; omega, by show D'.length ≤ i + 1; omega, hDn'⟩ (by show xs.length - (i + 1) < xs.length - i; omega) (by repeat constructor) (by repeat constructor)
          · skip
            have h00 := of_decide_eq_false hc4
            obtain rfl : D' = D := by rcases he with ⟨h, -, -⟩ | ⟨-, -, h⟩ <;> first | exact h | omega
            have hDl' : D'.length ≤ i + 1 := by omega
            have hDn' := hDn
            refine Gs.skip ?_
            refine Gs.then_n ?_
            refine Gs.seq ?_
            refine Gs.reg ?_
            refine Go.Sl.L.pu rfl rfl trivial (pu_move rfl) ?_
            refine Go.Sl.L.ac rfl rfl trivial (as_call (used_spec b M D' (by omega)) (by repeat constructor) (by repeat constructor)) ?_
            rintro _ _ ⟨_, ⟨rfl, rfl⟩, rfl⟩
            refine Go.Sl.L.pu rfl rfl trivial (pu_move rfl) ?_
            refine Go.Sl.L.pu rfl rfl trivial (pu_ne rfl rfl) ?_
            refine Go.Sl.L.nil ?_
            refine Gs.then_n ?_
            refine Gs.cond_ff rfl (decide_eq_false (by omega)) ?_
            refine Gs.skip ?_
            refine Gs.blk_n ?_
            refine Gs.then_n ?_
            refine Gs.reg ?_
            refine Go.Sl.L.pu rfl rfl trivial (pu_move rfl) ?_
            refine Go.Sl.L.pu rfl rfl trivial (by first | exact pu_addI rfl rfl rfl (by omega) (by omega) | exact pu_add rfl rfl) ?_
            refine Go.Sl.L.pu rfl rfl trivial (pu_assign rfl) ?_
            refine Go.Sl.L.nil ?_
            refine Gs.then_n ?_
            exact Gs.again1 (i + 1, D') ⟨by show i + 1 ≤ xs.length; omega, by show D'.length ≤ i + 1; omega, hDn'⟩ (by show xs.length - (i + 1) < xs.length - i; omega) (by repeat constructor) (by repeat constructor)
    · skip
      have hge : i = xs.length := by have := of_decide_eq_false hc2; omega
      refine Gs.exit ?_
      refine Gs.then_x ?_
      refine Gs.then_x ?_
      refine Gs.blk_hit ?_
      refine Gs.then_n ?_
      refine Gs.seq ?_
      refine Gs.reg ?_
      refine Go.Sl.L.pu rfl rfl trivial (pu_move rfl) ?_
      refine Go.Sl.L.ac rfl rfl trivial (as_call (read_spec b M D nA) (by repeat constructor) (by repeat constructor)) ?_
      rintro _ _ ⟨_, ⟨ra, rc, rfl, rfl⟩, rfl⟩
      obtain ⟨e, he, hes⟩ : ∃ e : Int, readE D nA = e ∧ ((e = 13 ∧ lookF D nA = none) ∨ (e = 0 ∧ ∃ f, lookF D nA = some f ∧ readL D nA = f.b)) := by
        cases hl : lookF D nA with
        | none => exact ⟨13, by simp [readE, hl], .inl ⟨rfl, rfl⟩⟩
        | some f => exact ⟨0, by simp [readE, hl], .inr ⟨rfl, f, rfl, by simp [readL, hl]⟩⟩
      rw [he]
      refine Go.Sl.L.pu rfl rfl trivial (pu_move rfl) ?_
      refine Go.Sl.L.pu rfl rfl trivial (pu_extract rfl rfl) ?_
      refine Go.Sl.L.pu rfl rfl trivial (pu_extract rfl rfl) ?_
      refine Go.Sl.L.pu rfl rfl trivial (pu_assign rfl) ?_
      refine Go.Sl.L.pu rfl rfl trivial (pu_assign rfl) ?_
      refine Go.Sl.L.nil ?_
      refine Gs.then_n ?_
      refine Gs.seq ?_
      refine Gs.seq ?_
      refine Gs.reg ?_
      refine Go.Sl.L.pu rfl rfl trivial (pu_move rfl) ?_
      refine Go.Sl.L.pu rfl rfl trivial (pu_ne rfl rfl) ?_
      refine Go.Sl.L.nil ?_
      refine Gs.then_n ?_
      refine Gs.cond rfl (fun hc6 => ?_) (fun hc6 => ?_)
      · skip
        have h6 := of_decide_eq_true hc6
        obtain ⟨rfl, hno⟩ : e = 13 ∧ lookF D nA = none := by rcases hes with h | ⟨h, -⟩ <;> first | exact h | omega
        have hcut : cutE D nA 0 = 13 := by simp [cutE, hno]
        refine Gs.seq ?_
        refine Gs.reg ?_
        refine Go.Sl.L.pu rfl rfl trivial (pu_move rfl) ?_
        refine Go.Sl.L.pu rfl rfl trivial (pu_eq rfl rfl) ?_
        refine Go.Sl.L.puBt rfl rfl trivial (pu_move rfl) rfl ?_
        refine Go.Sl.L.pu rfl rfl ⟨_, rfl, rfl⟩ (pu_move rfl) ?_
        refine Go.Sl.L.ac rfl rfl ⟨_, rfl, rfl⟩ (as_call (cut_spec b M D nA 0) (by repeat constructor) (by repeat constructor)) ?_
        rintro _ _ ⟨_, ⟨rfl, rfl⟩, rfl⟩
        rw [hcut]
        refine Go.Sl.L.pu rfl rfl ⟨_, rfl, rfl⟩ (pu_eq rfl rfl) ?_
        refine Go.Sl.L.pu rfl rfl trivial (by first | exact pu_pick_t rfl rfl | exact pu_pick_f rfl rfl) ?_
        refine Go.Sl.L.puBt rfl rfl trivial (pu_move rfl) rfl ?_
        refine Go.Sl.L.ac rfl rfl ⟨_, rfl, rfl⟩ (as_call (awake7_spec) (by repeat constructor) (by repeat constructor)) ?_
        rintro _ _ ⟨_, ⟨rfl, rfl⟩, rfl⟩
        refine Go.Sl.L.pu rfl rfl trivial (by first | exact pu_pick_t rfl rfl | exact pu_pick_f rfl rfl) ?_
        refine Go.Sl.L.pu rfl rfl trivial (pu_assign rfl) ?_
        refine Go.Sl.L.nil ?_
        refine Gs.then_n ?_
        refine Gs.ret ?_
        refine Gs.then_r ?_
        exact Gs.fin1 Try.results6 rfl _ (⟨rfl, rfl⟩) (by repeat constructor)
      · skip
        have h6 := of_decide_eq_false hc6
        obtain ⟨f, hf1, hf2⟩ : ∃ f, lookF D nA = some f ∧ readL D nA = f.b := by rcases hes with ⟨h, -⟩ | ⟨-, h⟩ <;> first | exact h | omega
        have hfm : f ∈ D := List.mem_of_find?_eq_some hf1
        have hfu := used_mem hfm
        rw [hf2]
        have hk1 := lowZ_in (a := cut0) (b := (f.b.length : Int) + 1) (by omega) (by omega)
        obtain ⟨k, hk⟩ : ∃ k : Nat, lowZ cut0 ((f.b.length : Int) + 1) = k := ⟨(lowZ cut0 ((f.b.length : Int) + 1)).toNat, by omega⟩
        rw [hk] at hk1
        obtain ⟨hc1, hc2', hc3⟩ := used_cut hok hf1 (k := (k : Int)) (by omega) (by omega)
        obtain ⟨D2, hD2⟩ : ∃ D2, D2 = cutL D nA (k : Int) := ⟨_, rfl⟩
        rw [← hD2] at hc2' hc3
        have hnC : lookF D2 nC = none := by
          rw [lookF_none, hc3]
          intro h
          obtain ⟨g, hg, e⟩ := List.mem_map.1 h
          rcases hDn g hg with h' | h' <;> rw [h'] at e <;> exact absurd e (by decide)
        have hD2l : D2.length = D.length := by have := congrArg List.length hc3; simpa using this
        obtain ⟨r, hr⟩ : ∃ r : Nat, (M : Int) - (used D : Int) + (f.b.length : Int) - (k : Int) = r := ⟨((M : Int) - (used D : Int) + (f.b.length : Int) - (k : Int)).toNat, by omega⟩
        obtain ⟨bs, hbs⟩ : ∃ bs : List UInt8, bs = List.replicate r 0 := ⟨_, rfl⟩
        have hbl : bs.length = r := by rw [hbs, List.length_replicate]
        have hE : appE M D2 nC bs = 0 := by simp only [appE, show namedB nC = true by decide, if_true]; rw [if_neg (by omega)]
        have hL : appL M D2 nC bs = D2 ++ [⟨nC, bs, 0⟩] := by simp [appL, hE, appD, hnC]
        have hU : used (D2 ++ [⟨nC, bs, 0⟩]) = M := by rw [used_app, show used [(⟨nC, bs, 0⟩ : Fl)] = bs.length by simp [used]]; omega
        have hR : remE (D2 ++ [⟨nC, bs, 0⟩]) nC = 0 := by simp [remE, lookF, List.find?_append]
        have hR2 : del (D2 ++ [⟨nC, bs, 0⟩]) nC = D2 := by
          have := del_none hnC
          unfold del at this ⊢
          rw [List.filter_append, this]; simp
        refine Gs.skip ?_
        refine Gs.then_n ?_
        refine Gs.seq ?_
        refine Gs.reg ?_
        refine Go.Sl.L.pu rfl rfl trivial (pu_move rfl) ?_
        refine Go.Sl.L.pu rfl rfl trivial (pu_move rfl) ?_
        refine Go.Sl.L.pu rfl rfl trivial (pu_len Try.underlying22 rfl) ?_
        refine Go.Sl.L.pu rfl rfl trivial (by first | exact pu_addI rfl rfl rfl (by omega) (by omega) | exact pu_add rfl rfl) ?_
        refine Go.Sl.L.ac rfl rfl trivial (as_call (low_spec cut0 ((f.b.length : Int) + 1) (by omega) (by omega)) (by repeat constructor) (by repeat constructor)) ?_
        rintro _ _ ⟨_, ⟨rfl, rfl⟩, rfl⟩
        rw [hk]
        refine Go.Sl.L.pu rfl rfl trivial (pu_assign rfl) ?_
        refine Go.Sl.L.nil ?_
        refine Gs.then_n ?_
        refine Gs.seq ?_
        refine Gs.reg ?_
        refine Go.Sl.L.pu rfl rfl trivial (pu_move rfl) ?_
        refine Go.Sl.L.pu rfl rfl trivial (pu_move rfl) ?_
        refine Go.Sl.L.ac rfl rfl trivial (as_call (cut_spec b M D nA k) (by repeat constructor) (by repeat constructor)) ?_
        rintro _ _ ⟨_, ⟨rfl, rfl⟩, rfl⟩
        rw [hc1, ← hD2]
        refine Go.Sl.L.pu rfl rfl trivial (pu_assign rfl) ?_
        refine Go.Sl.L.nil ?_
        refine Gs.then_n ?_
        refine Gs.seq ?_
        refine Gs.reg ?_
        refine Go.Sl.L.pu rfl rfl trivial (pu_move rfl) ?_
        refine Go.Sl.L.pu rfl rfl trivial (pu_move rfl) ?_
        refine Go.Sl.L.pu rfl rfl trivial (pu_move rfl) ?_
        refine Go.Sl.L.pu rfl rfl trivial (by first | exact pu_subI rfl rfl rfl (by omega) (by omega) | exact pu_sub rfl rfl) ?_
        refine Go.Sl.L.pu rfl rfl trivial (pu_move rfl) ?_
        refine Go.Sl.L.pu rfl rfl trivial (pu_len Try.underlying22 rfl) ?_
        refine Go.Sl.L.pu rfl rfl trivial (by first | exact pu_addI rfl rfl rfl (by omega) (by omega) | exact pu_add rfl rfl) ?_
        refine Go.Sl.L.pu rfl rfl trivial (pu_move rfl) ?_
        refine Go.Sl.L.pu rfl rfl trivial (pu_subI (z := (r : Int)) rfl rfl (by omega) (by omega) (by omega)) ?_
        refine Go.Sl.L.ac rfl rfl trivial (ac_make byteC 0 et_22 ek_5 zv_5 rfl rfl rfl (by omega) (by omega) (by omega) (by omega)) ?_
        rintro _ _ ⟨mb, rfl, rfl⟩
        rw [Int.toNat_natCast, ← hbs]
        refine Go.Sl.L.ac rfl rfl trivial (as_call (append_spec (S := sl 5 1 byteC (at0 mb) r bs) b M D2 nC (by decide) (by decide) Srd.own (by omega) (by omega)) (by repeat constructor) (by repeat constructor)) ?_
        rintro _ _ ⟨_, ⟨rfl, rfl⟩, rfl⟩
        rw [hE, hL]
        refine Go.Sl.L.pu rfl rfl trivial (pu_assign rfl) ?_
        refine Go.Sl.L.nil ?_
        refine Gs.then_n ?_
        refine Gs.seq ?_
        refine Gs.reg ?_
        refine Go.Sl.L.pu rfl rfl trivial (pu_move rfl) ?_
        refine Go.Sl.L.pu rfl rfl trivial (pu_eq rfl rfl) ?_
        refine Go.Sl.L.puBt rfl rfl trivial (pu_move rfl) rfl ?_
        refine Go.Sl.L.pu rfl rfl ⟨_, rfl, rfl⟩ (pu_move rfl) ?_
        refine Go.Sl.L.pu rfl rfl ⟨_, rfl, rfl⟩ (pu_eq rfl rfl) ?_
        refine Go.Sl.L.pu rfl rfl trivial (by first | exact pu_pick_t rfl rfl | exact pu_pick_f rfl rfl) ?_
        refine Go.Sl.L.puBt rfl rfl trivial (pu_move rfl) rfl ?_
        refine Go.Sl.L.pu rfl rfl ⟨_, rfl, rfl⟩ (pu_move rfl) ?_
        refine Go.Sl.L.ac rfl rfl ⟨_, rfl, rfl⟩ (as_call (used_spec b M (D2 ++ [⟨nC, bs, 0⟩]) (by simp; omega)) (by repeat constructor) (by repeat constructor)) ?_
        rintro _ _ ⟨_, ⟨rfl, rfl⟩, rfl⟩
        rw [hU]
        refine Go.Sl.L.pu rfl rfl ⟨_, rfl, rfl⟩ (pu_move rfl) ?_
        refine Go.Sl.L.pu rfl rfl ⟨_, rfl, rfl⟩ (pu_eq rfl rfl) ?_
        refine Go.Sl.L.pu rfl rfl trivial (by first | exact pu_pick_t rfl rfl | exact pu_pick_f rfl rfl) ?_
        refine Go.Sl.L.puBt rfl rfl trivial (pu_move rfl) (by simp) ?_
        refine Go.Sl.L.pu rfl rfl ⟨_, rfl, rfl⟩ (pu_move rfl) ?_
        refine Go.Sl.L.ac rfl rfl ⟨_, rfl, rfl⟩ (as_call (remove_spec b M (D2 ++ [⟨nC, bs, 0⟩]) nC) (by repeat constructor) (by repeat constructor)) ?_
        rintro _ _ ⟨_, ⟨rfl, rfl⟩, rfl⟩
        rw [hR, hR2]
        refine Go.Sl.L.pu rfl rfl ⟨_, rfl, rfl⟩ (pu_eq rfl rfl) ?_
        refine Go.Sl.L.pu rfl rfl trivial (by first | exact pu_pick_t rfl rfl | exact pu_pick_f rfl rfl) ?_
        refine Go.Sl.L.puBt rfl rfl trivial (pu_move rfl) rfl ?_
        refine Go.Sl.L.pu rfl rfl ⟨_, rfl, rfl⟩ (pu_move rfl) ?_
        refine Go.Sl.L.ac rfl rfl ⟨_, rfl, rfl⟩ (as_call (used_spec b M D2 (by omega)) (by repeat constructor) (by repeat constructor)) ?_
        rintro _ _ ⟨_, ⟨rfl, rfl⟩, rfl⟩
        refine Go.Sl.L.pu rfl rfl ⟨_, rfl, rfl⟩ (pu_move rfl) ?_
        refine Go.Sl.L.pu rfl rfl ⟨_, rfl, rfl⟩ (pu_move rfl) ?_
        refine Go.Sl.L.pu rfl rfl ⟨_, rfl, rfl⟩ (pu_len Try.underlying22 rfl) ?_
        refine Go.Sl.L.pu rfl rfl ⟨_, rfl, rfl⟩ (by first | exact pu_subI rfl rfl rfl (by omega) (by omega) | exact pu_sub rfl rfl) ?_
        refine Go.Sl.L.pu rfl rfl ⟨_, rfl, rfl⟩ (pu_move rfl) ?_
        refine Go.Sl.L.pu rfl rfl ⟨_, rfl, rfl⟩ (by first | exact pu_addI rfl rfl rfl (by omega) (by omega) | exact pu_add rfl rfl) ?_
        refine Go.Sl.L.pu rfl rfl ⟨_, rfl, rfl⟩ (pu_eq rfl rfl) ?_
        refine Go.Sl.L.pu rfl rfl trivial (by first | exact pu_pick_t rfl rfl | exact pu_pick_f rfl rfl) ?_
        refine Go.Sl.L.puBt rfl rfl trivial (pu_move rfl) (decide_eq_true (by omega)) ?_
        refine Go.Sl.L.ac rfl rfl ⟨_, rfl, rfl⟩ (as_call (awake7_spec) (by repeat constructor) (by repeat constructor)) ?_
        rintro _ _ ⟨_, ⟨rfl, rfl⟩, rfl⟩
        refine Go.Sl.L.pu rfl rfl trivial (by first | exact pu_pick_t rfl rfl | exact pu_pick_f rfl rfl) ?_
        refine Go.Sl.L.pu rfl rfl trivial (pu_assign rfl) ?_
        refine Go.Sl.L.nil ?_
        refine Gs.then_n ?_
        refine Gs.ret ?_
        exact Gs.fin1 Try.results6 rfl _ (⟨rfl, rfl⟩) (by repeat constructor)
end Go.Proofs.Ytmfgemhjepagjaa
