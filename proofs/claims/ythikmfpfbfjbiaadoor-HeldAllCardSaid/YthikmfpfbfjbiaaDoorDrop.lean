/- Walks: held.Drop, held.Keys on nil; the second copy's find, Put, Next, Drop. -/
import Derived.Test.YthikmfpfbfjbiaaDoorKs
namespace Go.Proofs.YthikmfpfbfjbiaaDoor
open Go Go.Sl Go.Gv Go.Kv
set_option maxRecDepth 100000

theorem keysNil_spec : Ct Tryd.prog 17 [.pointer none] [] (fun v hs => v = .slice none 0 0 ∧ hs = []) := by
  refine Ct.intro Tryd.func17 rfl (by kernel_rfl) 11 Tryd.ntmps17 (Nat.le_of_ble_eq_true rfl) fun w0 R => ?_
  refine Gs.seq ?_
  refine Gs.reg ?_
  refine Go.Sl.L.pu rfl rfl trivial (pu_assign rfl) ?_
  refine Go.Sl.L.nil ?_
  refine Gs.then_n ?_
  refine Gs.seq ?_
  refine Gs.seq ?_
  refine Gs.reg ?_
  refine Go.Sl.L.pu rfl rfl trivial (pu_move rfl) ?_
  refine Go.Sl.L.pu rfl rfl trivial (pu_eqN Tryd.underlying33 rfl rfl) ?_
  refine Go.Sl.L.nil ?_
  refine Gs.then_n ?_
  refine Gs.cond_t rfl ?_
  refine Gs.seq ?_
  refine Gs.reg ?_
  refine Go.Sl.L.pu rfl rfl trivial (pu_assign rfl) ?_
  refine Go.Sl.L.nil ?_
  refine Gs.then_n ?_
  refine Gs.ret ?_
  refine Gs.then_r ?_
  exact Gs.fin1 Tryd.results17 rfl _ (⟨rfl, rfl⟩) (by repeat constructor)
def dropB (ws : List Int) (k : Key) : Bool := match ws[k.o.toNat]? with
  | some x => decide (k.q ≤ x)
  | none => false
/-- What is left when the first i keys have been looked at. -/
def remL (ws : List Int) (ks : List Key) (i : Nat) (L : List Rec) : List Rec := L.filter fun r => !(decide (r.key ∈ ks.take i) && dropB ws r.key)
def dropL (ws : List Int) (L : List Rec) : List Rec := L.filter fun r => !dropB ws r.key
theorem remL_zero (ws : List Int) (ks : List Key) (L : List Rec) : remL ws ks 0 L = L := by simp [remL]
theorem remL_all (ws : List Int) (ks : List Key) (L : List Rec) (h : ∀ r ∈ L, r.key ∈ ks) : remL ws ks ks.length L = dropL ws L := by
  unfold remL dropL
  apply List.filter_congr
  intro r hr
  simp [h r hr]
theorem remL_off {ws : List Int} {ks : List Key} {i : Nat} {k : Key} {L : List Rec} (hk : ks[i]? = some k) (hd : dropB ws k = false) : remL ws ks (i + 1) L = remL ws ks i L := by
  unfold remL
  apply List.filter_congr
  intro r _
  have hlt := (List.getElem?_eq_some_iff.1 hk).1
  rw [List.take_add_one, hk]
  by_cases h : r.key = k
  · rw [h, hd]; simp
  · simp [h]
theorem remL_on {ws : List Int} {ks : List Key} {i : Nat} {k : Key} {L : List Rec} (hk : ks[i]? = some k) (hd : dropB ws k = true) : remL ws ks (i + 1) L = delL (remL ws ks i L) k := by
  unfold remL delL
  rw [List.filter_filter]
  apply List.filter_congr
  intro r _
  rw [List.take_add_one, hk]
  by_cases h : r.key = k
  · rw [h, hd]; simp
  · simp [h]
theorem drop_spec (b m : Nat) (most : Int) (L : List Rec) (hL : L.length ≤ 1000) (hK : ∀ r ∈ L, 0 ≤ r.o) {S : HProp} {a : Option Addr} {c : Nat} {ws : List Int} (hS : Srd S 1 intC a ws) :
    Ct Tryd.prog 14 [ptr b, .slice a ws.length c] [cl b 61 (heldC most m), mp keyV recV m (ents L), S]
      (fun v hs => v = int (L.length - (dropL ws L).length) ∧ hs = [cl b 61 (heldC most m), mp keyV recV m (ents (dropL ws L)), S]) := by
  obtain ⟨ks, hks⟩ : ∃ ks, ks = sortK (L.map Rec.key) := ⟨_, rfl⟩
  have hmem : ∀ r ∈ L, r.key ∈ ks := fun r hr => by rw [hks, sortK_mem]; exact List.mem_map_of_mem hr
  have hpos : ∀ k ∈ ks, 0 ≤ k.o := fun k hk => by
    rw [hks, sortK_mem] at hk
    obtain ⟨r, hr, rfl⟩ := List.mem_map.1 hk
    exact hK r hr
  have hkl : ks.length = L.length := by rw [hks, sortK_length, List.length_map]
  have hlen : (dropL ws L).length ≤ L.length := List.length_filter_le ..
  refine Ct.intro Tryd.func14 rfl (by kernel_rfl) 40 Tryd.ntmps14 (Nat.le_of_ble_eq_true rfl) fun w0 R => ?_
  refine Gs.slAddr (hS.h (by repeat constructor)) fun ab ao ha => ?_
  refine Gs.seq ?_
  refine Gs.reg ?_
  refine Go.Sl.L.pu rfl rfl trivial (pu_assign rfl) ?_
  refine Go.Sl.L.nil ?_
  refine Gs.then_n ?_
  refine Gs.seq ?_
  refine Gs.reg ?_
  refine Go.Sl.L.pu rfl rfl trivial (pu_move rfl) ?_
  refine Go.Sl.L.ac rfl rfl trivial (as_call (len_spec b m most L) (by repeat constructor) (by repeat constructor)) ?_
  rintro _ _ ⟨_, ⟨rfl, rfl⟩, rfl⟩
  refine Go.Sl.L.pu rfl rfl trivial (pu_assign rfl) ?_
  refine Go.Sl.L.nil ?_
  refine Gs.then_n ?_
  refine Gs.seq ?_
  refine Gs.seq ?_
  refine Gs.reg ?_
  refine Go.Sl.L.pu rfl rfl trivial (pu_move rfl) ?_
  refine Go.Sl.L.ac rfl rfl trivial (as_call (keys_spec b m most L hL) (by repeat constructor) (by repeat constructor)) ?_
  rintro _ _ ⟨_, ⟨a2, c2, rfl, rfl⟩, rfl⟩
  rw [← hks]
  refine Gs.slAddr (SlH.own (by repeat constructor) : SlH _ _ 2 keyC a2 ks) fun kb ko hka => ?_
  refine Go.Sl.L.pu rfl rfl trivial (pu_len Tryd.underlying48 rfl) ?_
  refine Go.Sl.L.pu rfl rfl trivial (pu_move rfl) ?_
  rw [show ents L = ents (remL ws ks 0 L) by rw [remL_zero]]
  refine Go.Sl.L.nil ?_
  refine Gs.then_n ?_
  refine Gs.block ?_
  refine Gs.loop1 (fun i : Nat => i ≤ ks.length) (fun i => [(0, ptr b), (1, .slice a ws.length c), (5, int L.length), (11, .slice a2 ks.length c2), (12, int ks.length), (13, int i)]) (fun i => [cl b 61 (heldC most m), mp keyV recV m (ents (remL ws ks i L)), S, sl 25 2 keyC a2 c2 ks] ++ R) (fun i => ks.length - i) 0 (Nat.zero_le _) (by repeat constructor) (by repeat constructor) (fun i hi => ?_)
  refine Gs.seq ?_
  refine Gs.reg ?_
  refine Go.Sl.L.pu rfl rfl trivial (pu_lt rfl rfl) ?_
  refine Go.Sl.L.nil ?_
  refine Gs.then_n ?_
  refine Gs.seq ?_
  refine Gs.cond rfl (fun hc0 => ?_) (fun hc0 => ?_)
  · skip
    have hlt : i < ks.length := by have := of_decide_eq_true hc0; omega
    obtain ⟨k, hk⟩ : ∃ k, ks[i]? = some k := ⟨ks[i], by simp [hlt]⟩
    obtain rfl := hka (by rintro rfl; simp at hlt)
    refine Gs.skip ?_
    refine Gs.then_n ?_
    refine Gs.seq ?_
    refine Gs.block ?_
    refine Gs.seq ?_
    refine Gs.reg ?_
    refine Go.Sl.L.pu rfl rfl trivial (pu_ia se_48 rfl rfl (by omega) (by omega)) ?_
    refine Go.Sl.L.rd rfl rfl trivial (rd_lda ag_25 rfl (Rdc.el0 (SlH.own (by repeat constructor)) hk rfl rfl) rfl) ?_
    refine Go.Sl.L.ac rfl rfl trivial (ac_alloc zv_25 rfl) ?_
    rintro _ _ ⟨b7, rfl, rfl⟩
    refine Go.Sl.L.ac0 rfl trivial (ac_st sz_25 rfl rfl (by repeat constructor) rfl rfl rfl rfl) ?_
    rintro _ _ rfl
    refine Go.Sl.L.nil ?_
    refine Gs.then_n ?_
    refine Gs.seq ?_
    refine Gs.regD mixed (by kernel_rfl) ?_
    refine Rg.pu 0 rfl rfl (by kernel_rfl) trivial (pu_fa fa_25_0 rfl) ?_
    refine Rg.rd 1 rfl rfl (by kernel_rfl) trivial (rd_ld na_3 rfl (Rdc.cl1 (by repeat constructor) rfl)) ?_
    refine Rg.pu 2 rfl rfl (by kernel_rfl) trivial (pu_move rfl) ?_
    refine Rg.pu 3 rfl rfl (by kernel_rfl) trivial (pu_len Tryd.underlying30 rfl) ?_
    refine Rg.pu 4 rfl rfl (by kernel_rfl) trivial (pu_lt rfl rfl) ?_
    refine Rg.puB 5 rfl rfl (by kernel_rfl) trivial (pu_move rfl) (fun hg5 => ?_) (fun hg5 => ?_)
    · skip
      have hg5' := of_decide_eq_true hg5
      have h0k := hpos k (List.mem_of_getElem? hk)
      obtain ⟨x, hx⟩ : ∃ x, ws[k.o.toNat]? = some x := ⟨ws[k.o.toNat]'(by omega), by simp⟩
      obtain rfl := ha (by rintro rfl; simp at hg5'; omega)
      refine Rg.pu 6 rfl rfl (by kernel_rfl) ⟨_, rfl, rfl⟩ (pu_fa fa_25_1 rfl) ?_
      refine Rg.rd 7 rfl rfl (by kernel_rfl) ⟨_, rfl, rfl⟩ (rd_ld na_3 rfl (Rdc.cl1 (by repeat constructor) rfl)) ?_
      refine Rg.pu 8 rfl rfl (by kernel_rfl) ⟨_, rfl, rfl⟩ (pu_move rfl) ?_
      refine Rg.pu 9 rfl rfl (by kernel_rfl) ⟨_, rfl, rfl⟩ (pu_fa fa_25_0 rfl) ?_
      refine Rg.rd 10 rfl rfl (by kernel_rfl) ⟨_, rfl, rfl⟩ (rd_ld na_3 rfl (Rdc.cl1 (by repeat constructor) rfl)) ?_
      refine Rg.pu 11 rfl rfl (by kernel_rfl) ⟨_, rfl, rfl⟩ (pu_ia se_30 rfl rfl (by omega) (by omega)) ?_
      refine Rg.rd 12 rfl rfl (by kernel_rfl) ⟨_, rfl, rfl⟩ (rd_ld na_3 rfl (Rdc.el0 (hS.h (by repeat constructor)) hx rfl rfl)) ?_
      refine Rg.pu 13 rfl rfl (by kernel_rfl) ⟨_, rfl, rfl⟩ (pu_le rfl rfl) ?_
      refine Rg.pu 14 rfl rfl (by kernel_rfl) trivial (by first | exact pu_pick_t rfl rfl | exact pu_pick_f rfl rfl) ?_
      refine Rg.end (by kernel_rfl) ?_
      refine Gs.then_n ?_
      refine Gs.cond rfl (fun hc1 => ?_) (fun hc1 => ?_)
      · skip
        have hd : dropB ws k = true := by simpa [dropB, hx] using hc1
        refine Gs.reg ?_
        refine Go.Sl.L.pu rfl rfl trivial (pu_move rfl) ?_
        refine Go.Sl.L.rd rfl rfl trivial (rd_lda ag_25 rfl (Rdc.cl 2 (by repeat constructor) rfl) rfl) ?_
        refine Go.Sl.L.ac rfl rfl trivial (as_call (next_spec b m most _ k) (by repeat constructor) (by repeat constructor)) ?_
        rintro _ _ ⟨_, ⟨rfl, rfl⟩, rfl⟩
        rw [← remL_on hk hd]
        refine Go.Sl.L.nil ?_
        refine Gs.blk_n ?_
        refine Gs.then_n ?_
        refine Gs.reg ?_
        refine Go.Sl.L.pu rfl rfl trivial (by first | exact pu_addI rfl rfl rfl (by omega) (by omega) | exact pu_add rfl rfl) ?_
        refine Go.Sl.L.pu rfl rfl trivial (pu_move rfl) ?_
        refine Go.Sl.L.nil ?_
        refine Gs.then_n ?_
        exact Gs.again1 (i + 1) (by omega) (by omega) (by repeat constructor) (by repeat constructor)
      · skip
        have hd : dropB ws k = false := by simpa [dropB, hx] using hc1
        rw [← remL_off hk hd]
        refine Gs.skip ?_
        refine Gs.blk_n ?_
        refine Gs.then_n ?_
        refine Gs.reg ?_
        refine Go.Sl.L.pu rfl rfl trivial (by first | exact pu_addI rfl rfl rfl (by omega) (by omega) | exact pu_add rfl rfl) ?_
        refine Go.Sl.L.pu rfl rfl trivial (pu_move rfl) ?_
        refine Go.Sl.L.nil ?_
        refine Gs.then_n ?_
        exact Gs.again1 (i + 1) (by omega) (by omega) (by repeat constructor) (by repeat constructor)
    · skip
      have hg5' := of_decide_eq_false hg5
      have h0k := hpos k (List.mem_of_getElem? hk)
      have hd : dropB ws k = false := by unfold dropB; rw [List.getElem?_eq_none (by omega)]
      rw [← remL_off hk hd]
      refine Rg.off 6 rfl rfl (by kernel_rfl) rfl rfl rfl rfl ?_
      refine Rg.off 7 rfl rfl (by kernel_rfl) rfl rfl rfl rfl ?_
      refine Rg.off 8 rfl rfl (by kernel_rfl) rfl rfl rfl rfl ?_
      refine Rg.off 9 rfl rfl (by kernel_rfl) rfl rfl rfl rfl ?_
      refine Rg.off 10 rfl rfl (by kernel_rfl) rfl rfl rfl rfl ?_
      refine Rg.off 11 rfl rfl (by kernel_rfl) rfl rfl rfl rfl ?_
      refine Rg.off 12 rfl rfl (by kernel_rfl) rfl rfl rfl rfl ?_
      refine Rg.off 13 rfl rfl (by kernel_rfl) rfl rfl rfl rfl ?_
      refine Rg.pu 14 rfl rfl (by kernel_rfl) trivial (by first | exact pu_pick_t rfl rfl | exact pu_pick_f rfl rfl) ?_
      refine Rg.end (by kernel_rfl) ?_
      refine Gs.then_n ?_
      refine Gs.cond_f rfl ?_
      refine Gs.skip ?_
      refine Gs.blk_n ?_
      refine Gs.then_n ?_
      refine Gs.reg ?_
      refine Go.Sl.L.pu rfl rfl trivial (by first | exact pu_addI rfl rfl rfl (by omega) (by omega) | exact pu_add rfl rfl) ?_
      refine Go.Sl.L.pu rfl rfl trivial (pu_move rfl) ?_
      refine Go.Sl.L.nil ?_
      refine Gs.then_n ?_
      exact Gs.again1 (i + 1) (by omega) (by omega) (by repeat constructor) (by repeat constructor)
  · skip
    have hge : i = ks.length := by have := of_decide_eq_false hc0; omega
    subst hge
    rw [remL_all ws ks L hmem]
    refine Gs.exit ?_
    refine Gs.then_x ?_
    refine Gs.then_x ?_
    refine Gs.blk_hit ?_
    refine Gs.then_n ?_
    refine Gs.seq ?_
    refine Gs.reg ?_
    refine Go.Sl.L.pu rfl rfl trivial (pu_move rfl) ?_
    refine Go.Sl.L.pu rfl rfl trivial (pu_move rfl) ?_
    refine Go.Sl.L.ac rfl rfl trivial (as_call (len_spec b m most _) (by repeat constructor) (by repeat constructor)) ?_
    rintro _ _ ⟨_, ⟨rfl, rfl⟩, rfl⟩
    refine Go.Sl.L.pu rfl rfl trivial (by first | exact pu_subI rfl rfl rfl (by omega) (by omega) | exact pu_sub rfl rfl) ?_
    refine Go.Sl.L.pu rfl rfl trivial (pu_assign rfl) ?_
    refine Go.Sl.L.nil ?_
    refine Gs.then_n ?_
    refine Gs.ret ?_
    exact Gs.fin1 Tryd.results14 rfl _ (⟨rfl, rfl⟩) (by repeat constructor)
theorem dropNil_spec : Ct Tryd.prog 14 [.pointer none, .slice none 0 0] [] (fun v hs => v = int 0 ∧ hs = []) := by
  refine Ct.intro Tryd.func14 rfl (by kernel_rfl) 40 Tryd.ntmps14 (Nat.le_of_ble_eq_true rfl) fun w0 R => ?_
  refine Gs.seq ?_
  refine Gs.reg ?_
  refine Go.Sl.L.pu rfl rfl trivial (pu_assign rfl) ?_
  refine Go.Sl.L.nil ?_
  refine Gs.then_n ?_
  refine Gs.seq ?_
  refine Gs.reg ?_
  refine Go.Sl.L.pu rfl rfl trivial (pu_move rfl) ?_
  refine Go.Sl.L.ac rfl rfl trivial (as_call (lenNil_spec) (by repeat constructor) (by repeat constructor)) ?_
  rintro _ _ ⟨_, ⟨rfl, rfl⟩, rfl⟩
  refine Go.Sl.L.pu rfl rfl trivial (pu_assign rfl) ?_
  refine Go.Sl.L.nil ?_
  refine Gs.then_n ?_
  refine Gs.seq ?_
  refine Gs.seq ?_
  refine Gs.reg ?_
  refine Go.Sl.L.pu rfl rfl trivial (pu_move rfl) ?_
  refine Go.Sl.L.ac rfl rfl trivial (as_call (keysNil_spec) (by repeat constructor) (by repeat constructor)) ?_
  rintro _ _ ⟨_, ⟨rfl, rfl⟩, rfl⟩
  rename_i RR
  refine Go.Sl.L.pu rfl rfl trivial (pu_len Tryd.underlying48 rfl) ?_
  refine Go.Sl.L.pu rfl rfl trivial (pu_move rfl) ?_
  refine Go.Sl.L.nil ?_
  refine Gs.then_n ?_
  refine Gs.block ?_
  refine Gs.loop1 (fun _ : Unit => True) (fun _ => [(0, .pointer none), (5, int 0), (12, int 0), (13, int 0)]) (fun _ => RR) (fun _ => 0) () (trivial) (by repeat constructor) (by repeat constructor) (fun i hi => ?_)
  refine Gs.seq ?_
  refine Gs.reg ?_
  refine Go.Sl.L.pu rfl rfl trivial (pu_lt rfl rfl) ?_
  refine Go.Sl.L.nil ?_
  refine Gs.then_n ?_
  refine Gs.seq ?_
  refine Gs.cond_f rfl ?_
  refine Gs.exit ?_
  refine Gs.then_x ?_
  refine Gs.then_x ?_
  refine Gs.blk_hit ?_
  refine Gs.then_n ?_
  refine Gs.seq ?_
  refine Gs.reg ?_
  refine Go.Sl.L.pu rfl rfl trivial (pu_move rfl) ?_
  refine Go.Sl.L.pu rfl rfl trivial (pu_move rfl) ?_
  refine Go.Sl.L.ac rfl rfl trivial (as_call (lenNil_spec) (by repeat constructor) (by repeat constructor)) ?_
  rintro _ _ ⟨_, ⟨rfl, rfl⟩, rfl⟩
  refine Go.Sl.L.pu rfl rfl trivial (by first | exact pu_subI rfl rfl rfl (by omega) (by omega) | exact pu_sub rfl rfl) ?_
  refine Go.Sl.L.pu rfl rfl trivial (pu_assign rfl) ?_
  refine Go.Sl.L.nil ?_
  refine Gs.then_n ?_
  refine Gs.ret ?_
  exact Gs.fin1 Tryd.results14 rfl _ (⟨rfl, rfl⟩) (by repeat constructor)
end Go.Proofs.YthikmfpfbfjbiaaDoor
