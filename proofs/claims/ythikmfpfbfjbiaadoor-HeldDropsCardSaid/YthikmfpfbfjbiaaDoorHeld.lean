/- Walks: held. -/
import Derived.Test.YthikmfpfbfjbiaaDoorMay
namespace Go.Proofs.YthikmfpfbfjbiaaDoor
open Go Go.Sl Go.Gv Go.Kv
set_option maxRecDepth 100000

/-- Records that wait, in the order in which they came, as the map has them. -/
def ents (L : List Rec) : List (Key × Rec) := L.map fun r => (r.key, r)
def look (L : List Rec) (k : Key) : Option Rec := L.find? fun r => r.key = k
def putE (most : Int) (L : List Rec) (r : Rec) : Int := if recB r then if (look L r.key).isSome then 6 else if most ≤ L.length then 9 else 0 else 2
def putL (most : Int) (L : List Rec) (r : Rec) : List Rec := if putE most L r = 0 then L ++ [r] else L
def delL (L : List Rec) (k : Key) : List Rec := L.filter fun r => r.key ≠ k
theorem mget_ents (L : List Rec) (k : Key) : mget (ents L) k = look L k := by
  induction L with
  | nil => rfl
  | cons r L ih =>
    simp only [ents, List.map_cons, mget, look, List.find?_cons]
    by_cases h : k = r.key
    · simp [h]
    · have h' : ¬ r.key = k := fun e => h e.symm
      simp only [h, h', if_false, decide_false]; exact ih
theorem mput_ents (L : List Rec) (r : Rec) (h : (look L r.key).isSome = false) : mput (ents L) r.key r = ents (L ++ [r]) := by
  induction L with
  | nil => rfl
  | cons x L ih =>
    simp only [look, List.find?_cons] at h
    simp only [ents, List.map_cons, mput, List.cons_append]
    by_cases hx : x.key = r.key
    · simp [hx] at h
    · have hx' : ¬ r.key = x.key := fun e => hx e.symm
      simp only [hx, decide_false] at h
      simp only [hx', if_false]
      have := ih (by simpa [look] using h)
      simp only [ents] at this; rw [this]
theorem mkeys_ents (L : List Rec) : mkeys (ents L) = L.map Rec.key := by simp [mkeys, ents, Function.comp_def]
theorem mdel_ents (L : List Rec) (k : Key) (hn : (mkeys (ents L)).Nodup) : mdel (ents L) k = ents (delL L k) := by
  induction L with
  | nil => rfl
  | cons x L ih =>
    simp only [mkeys_ents, List.map_cons, List.nodup_cons] at hn
    simp only [ents, List.map_cons, mdel, delL, List.filter_cons]
    by_cases hx : k = x.key
    · subst hx
      have : L.filter (fun r => !decide (r.key = x.key)) = L := List.filter_eq_self.2 fun r hr => by
        have : r.key ≠ x.key := fun e => hn.1 (e ▸ List.mem_map_of_mem hr)
        simpa using this
      simp [this]
    · have hx' : ¬ x.key = k := fun e => hx e.symm
      have := ih (by rw [mkeys_ents]; exact hn.2)
      simp only [ents, delL] at this
      simp [hx, hx', this]
theorem length_ents (L : List Rec) : (ents L).length = L.length := by simp [ents]

abbrev heldC (most : Int) (m : Nat) : List Value := [int most, .map (some m)]
abbrev ptr (b : Nat) : Value := .pointer (some ⟨b, 0, none⟩)
theorem new_spec (most : Int) : Ct Tryd.prog 7 [int most] [] (fun v hs => ((most < 0 ∨ 12 < most) ∧ v = .pointer none ∧ hs = []) ∨
    (0 ≤ most ∧ most ≤ 12 ∧ ∃ b m, v = ptr b ∧ hs = [cl b 61 (heldC most m), mp keyV recV m (ents [])])) := by
  refine Ct.intro Tryd.func7 rfl (by kernel_rfl) 13 Tryd.ntmps7 (Nat.le_of_ble_eq_true rfl) fun w0 R => ?_
  refine Gs.seq ?_
  refine Gs.reg ?_
  refine Go.Sl.L.pu rfl rfl trivial (pu_assign rfl) ?_
  refine Go.Sl.L.nil ?_
  refine Gs.then_n ?_
  refine Gs.seq ?_
  refine Gs.seq ?_
  refine Gs.reg ?_
  refine Go.Sl.L.pu rfl rfl trivial (pu_move rfl) ?_
  refine Go.Sl.L.pu rfl rfl trivial (pu_lt rfl rfl) ?_
  refine Go.Sl.L.puB rfl rfl trivial (pu_move rfl) (fun hg2 => ?_) (fun hg2 => ?_)
  · skip
    have hg2' := of_decide_eq_true hg2
    refine Go.Sl.L.off rfl rfl rfl rfl rfl rfl ?_
    refine Go.Sl.L.off rfl rfl rfl rfl rfl rfl ?_
    refine Go.Sl.L.pu rfl rfl trivial (by first | exact pu_pick_t rfl rfl | exact pu_pick_f rfl rfl) ?_
    refine Go.Sl.L.nil ?_
    refine Gs.then_n ?_
    refine Gs.cond_t rfl ?_
    refine Gs.seq ?_
    refine Gs.reg ?_
    refine Go.Sl.L.pu rfl rfl trivial (pu_assign rfl) ?_
    refine Go.Sl.L.nil ?_
    refine Gs.then_n ?_
    refine Gs.ret ?_
    refine Gs.then_r ?_
    exact Gs.fin1 Tryd.results7 rfl _ (.inl ⟨by omega, rfl, rfl⟩) (by repeat constructor)
  · skip
    have hg2' := of_decide_eq_false hg2
    refine Go.Sl.L.pu rfl rfl ⟨_, rfl, rfl⟩ (pu_move rfl) ?_
    refine Go.Sl.L.pu rfl rfl ⟨_, rfl, rfl⟩ (pu_gt rfl rfl) ?_
    refine Go.Sl.L.pu rfl rfl trivial (by first | exact pu_pick_t rfl rfl | exact pu_pick_f rfl rfl) ?_
    refine Go.Sl.L.nil ?_
    refine Gs.then_n ?_
    refine Gs.cond rfl (fun hc => ?_) (fun hc => ?_)
    · skip
      have hc' := of_decide_eq_true hc
      refine Gs.seq ?_
      refine Gs.reg ?_
      refine Go.Sl.L.pu rfl rfl trivial (pu_assign rfl) ?_
      refine Go.Sl.L.nil ?_
      refine Gs.then_n ?_
      refine Gs.ret ?_
      refine Gs.then_r ?_
      exact Gs.fin1 Tryd.results7 rfl _ (.inl ⟨by omega, rfl, rfl⟩) (by repeat constructor)
    · skip
      have hc' := of_decide_eq_false hc
      refine Gs.skip ?_
      refine Gs.then_n ?_
      refine Gs.seq ?_
      refine Gs.reg ?_
      refine Go.Sl.L.pu rfl rfl trivial (pu_move rfl) ?_
      refine Go.Sl.L.ac rfl rfl trivial (ac_mkmap enck_25 encv_29) ?_
      rintro _ _ ⟨m, rfl, rfl⟩
      refine Go.Sl.L.pu rfl rfl trivial (pu_build bd_61 (by repeat constructor) rfl) ?_
      refine Go.Sl.L.ac rfl rfl trivial (ac_box rfl rfl) ?_
      rintro _ _ ⟨b, rfl, rfl⟩
      refine Go.Sl.L.pu rfl rfl trivial (pu_assign rfl) ?_
      refine Go.Sl.L.nil ?_
      refine Gs.then_n ?_
      refine Gs.ret ?_
      exact Gs.fin1 Tryd.results7 rfl _ (.inr ⟨by omega, by omega, b, m, rfl, rfl⟩) (by repeat constructor)
theorem len_spec (b m : Nat) (most : Int) (L : List Rec) : Ct Tryd.prog 18 [ptr b] [cl b 61 (heldC most m), mp keyV recV m (ents L)]
    (fun v hs => v = int L.length ∧ hs = [cl b 61 (heldC most m), mp keyV recV m (ents L)]) := by
  refine Ct.intro Tryd.func18 rfl (by kernel_rfl) 10 Tryd.ntmps18 (Nat.le_of_ble_eq_true rfl) fun w0 R => ?_
  refine Gs.seq ?_
  refine Gs.reg ?_
  refine Go.Sl.L.pu rfl rfl trivial (pu_assign rfl) ?_
  refine Go.Sl.L.nil ?_
  refine Gs.then_n ?_
  refine Gs.seq ?_
  refine Gs.seq ?_
  refine Gs.reg ?_
  refine Go.Sl.L.pu rfl rfl trivial (pu_move rfl) ?_
  refine Go.Sl.L.pu rfl rfl trivial (pu_eqN Tryd.underlying33 rfl rfl) ?_
  refine Go.Sl.L.nil ?_
  refine Gs.then_n ?_
  refine Gs.cond_f rfl ?_
  refine Gs.skip ?_
  refine Gs.then_n ?_
  refine Gs.seq ?_
  refine Gs.reg ?_
  refine Go.Sl.L.pu rfl rfl trivial (pu_move rfl) ?_
  refine Go.Sl.L.pu rfl rfl trivial (by first | exact pu_nil rfl | exact pu_nilF rfl) ?_
  refine Go.Sl.L.pu rfl rfl trivial (pu_fa fa_61_1 rfl) ?_
  refine Go.Sl.L.rd rfl rfl trivial (rd_ld na_59 rfl (Rdc.cl1 (by repeat constructor) rfl)) ?_
  refine Go.Sl.L.rd rfl rfl trivial (rd_lenM Tryd.underlying59 rfl (by repeat constructor)) ?_
  refine Go.Sl.L.pu rfl rfl trivial (pu_assign rfl) ?_
  refine Go.Sl.L.nil ?_
  refine Gs.then_n ?_
  refine Gs.ret ?_
  exact Gs.fin1 Tryd.results18 rfl _ (⟨by rw [length_ents], rfl⟩) (by repeat constructor)
theorem lenNil_spec : Ct Tryd.prog 18 [.pointer none] [] (fun v hs => v = int 0 ∧ hs = []) := by
  refine Ct.intro Tryd.func18 rfl (by kernel_rfl) 10 Tryd.ntmps18 (Nat.le_of_ble_eq_true rfl) fun w0 R => ?_
  refine Gs.seq ?_
  refine Gs.reg ?_
  refine Go.Sl.L.pu rfl rfl trivial (pu_assign rfl) ?_
  refine Go.Sl.L.nil ?_
  refine Gs.then_n ?_
  refine Gs.seq ?_
  refine Gs.seq ?_
  refine Gs.reg ?_
  refine Go.Sl.L.pu rfl rfl trivial (pu_move rfl) ?_
  refine Go.Sl.L.pu rfl rfl trivial (pu_eqN Tryd.underlying33 rfl rfl) ?_
  refine Go.Sl.L.nil ?_
  refine Gs.then_n ?_
  refine Gs.cond_t rfl ?_
  refine Gs.seq ?_
  refine Gs.reg ?_
  refine Go.Sl.L.pu rfl rfl trivial (pu_assign rfl) ?_
  refine Go.Sl.L.nil ?_
  refine Gs.then_n ?_
  refine Gs.ret ?_
  refine Gs.then_r ?_
  exact Gs.fin1 Tryd.results18 rfl _ (⟨rfl, rfl⟩) (by repeat constructor)
theorem put_spec {h0 : Hp} (T : Tabs h0) (b m : Nat) (most : Int) (L : List Rec) (r : Rec) :
    Ct Tryd.prog 9 [ptr b, recV r] [ro h0, cl b 61 (heldC most m), mp keyV recV m (ents L)]
      (fun v hs => v = int (putE most L r) ∧ hs = [ro h0, cl b 61 (heldC most m), mp keyV recV m (ents (putL most L r))]) := by
  refine Ct.intro Tryd.func9 rfl (by kernel_rfl) 43 Tryd.ntmps9 (Nat.le_of_ble_eq_true rfl) fun w0 R => ?_
  refine Gs.seq ?_
  refine Gs.reg ?_
  refine Go.Sl.L.ac rfl rfl trivial (ac_box rfl rfl) ?_
  rintro _ _ ⟨b3, rfl, rfl⟩
  refine Go.Sl.L.pu rfl rfl trivial (pu_assign rfl) ?_
  refine Go.Sl.L.nil ?_
  refine Gs.then_n ?_
  refine Gs.seq ?_
  refine Gs.seq ?_
  refine Gs.reg ?_
  refine Go.Sl.L.pu rfl rfl trivial (pu_move rfl) ?_
  refine Go.Sl.L.pu rfl rfl trivial (pu_eqN Tryd.underlying33 rfl rfl) ?_
  refine Go.Sl.L.nil ?_
  refine Gs.then_n ?_
  refine Gs.cond_f rfl ?_
  refine Gs.skip ?_
  refine Gs.then_n ?_
  refine Gs.seq ?_
  refine Gs.regD mixed (by kernel_rfl) ?_
  refine Rg.pu 0 rfl rfl (by kernel_rfl) trivial (pu_move rfl) ?_
  refine Rg.pu 1 rfl rfl (by kernel_rfl) trivial (by first | exact pu_nil rfl | exact pu_nilF rfl) ?_
  refine Rg.pu 2 rfl rfl (by kernel_rfl) trivial (pu_fa fa_61_1 rfl) ?_
  refine Rg.rd 3 rfl rfl (by kernel_rfl) trivial (rd_ld na_59 rfl (Rdc.cl1 (by repeat constructor) rfl)) ?_
  refine Rg.pu 4 rfl rfl (by kernel_rfl) trivial (pu_fa fa_29_0 rfl) ?_
  refine Rg.rd 5 rfl rfl (by kernel_rfl) trivial (rd_lda ag_25 rfl (Rdc.cl 2 (by repeat constructor) rfl) rfl) ?_
  refine Rg.rd 6 rfl rfl (by kernel_rfl) trivial (rd_look2 (k := r.key) Tryd.underlying59 kt_25 zvk_29 rfl rfl (by repeat constructor)) ?_
  rw [mget_ents]
  refine Rg.pu 7 rfl rfl (by kernel_rfl) trivial (pu_move rfl) ?_
  refine Rg.pu 8 rfl rfl (by kernel_rfl) trivial (pu_extract rfl rfl) ?_
  refine Rg.pu 9 rfl rfl (by kernel_rfl) trivial (pu_extract rfl rfl) ?_
  refine Rg.one (by kernel_rfl) (Stp.acK 10 rfl rfl (by kernel_rfl) trivial (ac_alloc zv_29 rfl) (by rintro _ _ ⟨b5, rfl, rfl⟩ w s; first | exact s.drop | exact s | exact Ent.sat (by repeat constructor) s) ?_)
  rintro _ _ ⟨b5, rfl, rfl⟩
  refine Rg.one (by kernel_rfl) (Stp.ac0 11 rfl rfl (by kernel_rfl) trivial (ac_st sz_29 rfl rfl (by repeat constructor) rfl rfl rfl rfl)  ?_)
  rintro _ _ rfl
  refine Rg.pu 12 rfl rfl (by kernel_rfl) trivial (pu_assign rfl) ?_
  refine Rg.end (by kernel_rfl) ?_
  refine Gs.then_n ?_
  refine Gs.seq ?_
  refine Gs.block ?_
  refine Gs.seq ?_
  refine Gs.reg ?_
  refine Go.Sl.L.rd rfl rfl trivial (rd_lda ag_29 rfl (Rdc.cl 5 (by repeat constructor) rfl) rfl) ?_
  refine Go.Sl.L.ac rfl rfl trivial (as_call (recMay_spec T r) (by repeat constructor) (by repeat constructor)) ?_
  rintro _ _ ⟨_, ⟨rfl, rfl⟩, rfl⟩
  refine Go.Sl.L.pu rfl rfl trivial (pu_not rfl) ?_
  refine Go.Sl.L.pu rfl rfl trivial (pu_assign rfl) ?_
  refine Go.Sl.L.nil ?_
  refine Gs.then_n ?_
  refine Gs.cond rfl (fun hc1 => ?_) (fun hc1 => ?_)
  · skip
    refine Gs.seq ?_
    refine Gs.reg ?_
    refine Go.Sl.L.pu rfl rfl trivial (pu_assign rfl) ?_
    refine Go.Sl.L.nil ?_
    refine Gs.then_n ?_
    refine Gs.ret ?_
    refine Gs.blk_r ?_
    refine Gs.then_r ?_
    exact Gs.fin1 Tryd.results9 rfl _ (⟨by simp [putE]; simp at hc1; simp [hc1], by simp at hc1; simp [putL, putE, hc1]; rfl⟩) (by repeat constructor)
  · skip
    have hc1' : recB r = true := by simpa using hc1
    refine Gs.seq ?_
    refine Gs.reg ?_
    refine Go.Sl.L.pu rfl rfl trivial (pu_move rfl) ?_
    refine Go.Sl.L.pu rfl rfl trivial (pu_assign rfl) ?_
    refine Go.Sl.L.nil ?_
    refine Gs.then_n ?_
    refine Gs.cond rfl (fun hc2 => ?_) (fun hc2 => ?_)
    · skip
      refine Gs.seq ?_
      refine Gs.reg ?_
      refine Go.Sl.L.pu rfl rfl trivial (pu_assign rfl) ?_
      refine Go.Sl.L.nil ?_
      refine Gs.then_n ?_
      refine Gs.ret ?_
      refine Gs.blk_r ?_
      refine Gs.then_r ?_
      exact Gs.fin1 Tryd.results9 rfl _ (⟨by simp [putE, hc1', hc2], by simp [putL, putE, hc1', hc2]; rfl⟩) (by repeat constructor)
    · skip
      have hc2' : (look L r.key).isSome = false := by simpa using hc2
      refine Gs.seq ?_
      refine Gs.regD mixed (by kernel_rfl) ?_
      refine Rg.pu 0 rfl rfl (by kernel_rfl) trivial (pu_move rfl) ?_
      refine Rg.pu 1 rfl rfl (by kernel_rfl) trivial (by first | exact pu_nil rfl | exact pu_nilF rfl) ?_
      refine Rg.pu 2 rfl rfl (by kernel_rfl) trivial (pu_fa fa_61_1 rfl) ?_
      refine Rg.rd 3 rfl rfl (by kernel_rfl) trivial (rd_ld na_59 rfl (Rdc.cl1 (by repeat constructor) rfl)) ?_
      refine Rg.rd 4 rfl rfl (by kernel_rfl) trivial (rd_lenM Tryd.underlying59 rfl (by repeat constructor)) ?_
      refine Rg.pu 5 rfl rfl (by kernel_rfl) trivial (pu_move rfl) ?_
      refine Rg.pu 6 rfl rfl (by kernel_rfl) trivial (by first | exact pu_nil rfl | exact pu_nilF rfl) ?_
      refine Rg.pu 7 rfl rfl (by kernel_rfl) trivial (pu_fa fa_61_0 rfl) ?_
      refine Rg.rd 8 rfl rfl (by kernel_rfl) trivial (rd_ld na_3 rfl (Rdc.cl1 (by repeat constructor) rfl)) ?_
      refine Rg.pu 9 rfl rfl (by kernel_rfl) trivial (pu_ge rfl rfl) ?_
      refine Rg.pu 10 rfl rfl (by kernel_rfl) trivial (pu_assign rfl) ?_
      refine Rg.end (by kernel_rfl) ?_
      refine Gs.then_n ?_
      refine Gs.cond rfl (fun hc3 => ?_) (fun hc3 => ?_)
      · skip
        have hc3' : most ≤ L.length := by simpa [length_ents] using hc3
        refine Gs.seq ?_
        refine Gs.reg ?_
        refine Go.Sl.L.pu rfl rfl trivial (pu_assign rfl) ?_
        refine Go.Sl.L.nil ?_
        refine Gs.then_n ?_
        refine Gs.ret ?_
        refine Gs.blk_r ?_
        refine Gs.then_r ?_
        exact Gs.fin1 Tryd.results9 rfl _ (⟨by simp [putE, hc1', hc2', hc3'], by simp [putL, putE, hc1', hc2', hc3']; rfl⟩) (by repeat constructor)
      · skip
        have hc3' : ¬ most ≤ L.length := by simpa [length_ents] using hc3
        refine Gs.skip ?_
        refine Gs.blk_n ?_
        refine Gs.then_n ?_
        refine Gs.seq ?_
        refine Gs.regD mixed (by kernel_rfl) ?_
        refine Rg.pu 0 rfl rfl (by kernel_rfl) trivial (pu_move rfl) ?_
        refine Rg.pu 1 rfl rfl (by kernel_rfl) trivial (by first | exact pu_nil rfl | exact pu_nilF rfl) ?_
        refine Rg.pu 2 rfl rfl (by kernel_rfl) trivial (pu_fa fa_61_1 rfl) ?_
        refine Rg.rd 3 rfl rfl (by kernel_rfl) trivial (rd_ld na_59 rfl (Rdc.cl1 (by repeat constructor) rfl)) ?_
        refine Rg.pu 4 rfl rfl (by kernel_rfl) trivial (pu_fa fa_29_0 rfl) ?_
        refine Rg.rd 5 rfl rfl (by kernel_rfl) trivial (rd_lda ag_25 rfl (Rdc.cl 2 (by repeat constructor) rfl) rfl) ?_
        refine Rg.rd 6 rfl rfl (by kernel_rfl) trivial (rd_lda ag_29 rfl (Rdc.cl 5 (by repeat constructor) rfl) rfl) ?_
        refine Rg.one (by kernel_rfl) (Stp.ac0 7 rfl rfl (by kernel_rfl) trivial (ac_put (k := r.key) (v := r) (encv := encv_29) Tryd.underlying59 kt_25 rfl rfl rfl (by repeat constructor))  ?_)
        rintro _ _ rfl
        rw [mput_ents L r hc2']
        refine Rg.end (by kernel_rfl) ?_
        refine Gs.then_n ?_
        refine Gs.seq ?_
        refine Gs.reg ?_
        refine Go.Sl.L.pu rfl rfl trivial (pu_assign rfl) ?_
        refine Go.Sl.L.nil ?_
        refine Gs.then_n ?_
        refine Gs.ret ?_
        exact Gs.fin1 Tryd.results9 rfl _ (⟨by simp [putE, hc1', hc2', hc3'], by simp [putL, putE, hc1', hc2', hc3']; rfl⟩) (by repeat constructor)
theorem putNil_spec (r : Rec) : Ct Tryd.prog 9 [.pointer none, recV r] [] (fun v hs => v = int 1 ∧ hs = []) := by
  refine Ct.intro Tryd.func9 rfl (by kernel_rfl) 43 Tryd.ntmps9 (Nat.le_of_ble_eq_true rfl) fun w0 R => ?_
  refine Gs.seq ?_
  refine Gs.reg ?_
  refine Go.Sl.L.ac rfl rfl trivial (ac_box rfl rfl) ?_
  rintro _ _ ⟨b3, rfl, rfl⟩
  refine Go.Sl.L.pu rfl rfl trivial (pu_assign rfl) ?_
  refine Go.Sl.L.nil ?_
  refine Gs.then_n ?_
  refine Gs.seq ?_
  refine Gs.seq ?_
  refine Gs.reg ?_
  refine Go.Sl.L.pu rfl rfl trivial (pu_move rfl) ?_
  refine Go.Sl.L.pu rfl rfl trivial (pu_eqN Tryd.underlying33 rfl rfl) ?_
  refine Go.Sl.L.nil ?_
  refine Gs.then_n ?_
  refine Gs.cond_t rfl ?_
  refine Gs.seq ?_
  refine Gs.reg ?_
  refine Go.Sl.L.pu rfl rfl trivial (pu_assign rfl) ?_
  refine Go.Sl.L.nil ?_
  refine Gs.then_n ?_
  refine Gs.ret ?_
  refine Gs.then_r ?_
  exact Gs.fin1 Tryd.results9 rfl _ (⟨rfl, rfl⟩) (by repeat constructor)
theorem next_spec (b m : Nat) (most : Int) (L : List Rec) (k : Key) :
    Ct Tryd.prog 11 [ptr b, keyV k] [cl b 61 (heldC most m), mp keyV recV m (ents L)]
      (fun v hs => v = .tuple #[recV ((look L k).getD Rec.zero), .bool (look L k).isSome] ∧ hs = [cl b 61 (heldC most m), mp keyV recV m (ents (delL L k))]) := by
  refine Ct.intro Tryd.func11 rfl (by kernel_rfl) 27 Tryd.ntmps11 (Nat.le_of_ble_eq_true rfl) fun w0 R => ?_
  refine Gs.mpNodup (by repeat constructor) fun hnd => ?_
  refine Gs.seq ?_
  refine Gs.reg ?_
  refine Go.Sl.L.ac rfl rfl trivial (ac_box rfl rfl) ?_
  rintro _ _ ⟨b3, rfl, rfl⟩
  refine Go.Sl.L.ac rfl rfl trivial (ac_alloc zv_29 rfl) ?_
  rintro _ _ ⟨b4, rfl, rfl⟩
  refine Go.Sl.L.pu rfl rfl trivial (pu_assign rfl) ?_
  refine Go.Sl.L.nil ?_
  refine Gs.then_n ?_
  refine Gs.seq ?_
  refine Gs.seq ?_
  refine Gs.reg ?_
  refine Go.Sl.L.pu rfl rfl trivial (pu_move rfl) ?_
  refine Go.Sl.L.pu rfl rfl trivial (pu_eqN Tryd.underlying33 rfl rfl) ?_
  refine Go.Sl.L.nil ?_
  refine Gs.then_n ?_
  refine Gs.cond_f rfl ?_
  refine Gs.skip ?_
  refine Gs.then_n ?_
  refine Gs.seq ?_
  refine Gs.regD mixed (by kernel_rfl) ?_
  refine Rg.pu 0 rfl rfl (by kernel_rfl) trivial (pu_move rfl) ?_
  refine Rg.pu 1 rfl rfl (by kernel_rfl) trivial (by first | exact pu_nil rfl | exact pu_nilF rfl) ?_
  refine Rg.pu 2 rfl rfl (by kernel_rfl) trivial (pu_fa fa_61_1 rfl) ?_
  refine Rg.rd 3 rfl rfl (by kernel_rfl) trivial (rd_ld na_59 rfl (Rdc.cl1 (by repeat constructor) rfl)) ?_
  refine Rg.rd 4 rfl rfl (by kernel_rfl) trivial (rd_lda ag_25 rfl (Rdc.cl 2 (by repeat constructor) rfl) rfl) ?_
  refine Rg.rd 5 rfl rfl (by kernel_rfl) trivial (rd_look2 (k := k) Tryd.underlying59 kt_25 zvk_29 rfl rfl (by repeat constructor)) ?_
  rw [mget_ents]
  refine Rg.pu 6 rfl rfl (by kernel_rfl) trivial (pu_move rfl) ?_
  refine Rg.pu 7 rfl rfl (by kernel_rfl) trivial (pu_extract rfl rfl) ?_
  refine Rg.pu 8 rfl rfl (by kernel_rfl) trivial (pu_extract rfl rfl) ?_
  refine Rg.one (by kernel_rfl) (Stp.acK 9 rfl rfl (by kernel_rfl) trivial (ac_alloc zv_29 rfl) (by rintro _ _ ⟨b6, rfl, rfl⟩ w s; first | exact s.drop | exact s | exact Ent.sat (by repeat constructor) s) ?_)
  rintro _ _ ⟨b6, rfl, rfl⟩
  refine Rg.one (by kernel_rfl) (Stp.ac0 10 rfl rfl (by kernel_rfl) trivial (ac_st sz_29 rfl rfl (by repeat constructor) rfl rfl rfl rfl)  ?_)
  rintro _ _ rfl
  refine Rg.pu 11 rfl rfl (by kernel_rfl) trivial (pu_assign rfl) ?_
  refine Rg.end (by kernel_rfl) ?_
  refine Gs.then_n ?_
  refine Gs.seq ?_
  refine Gs.regD mixed (by kernel_rfl) ?_
  refine Rg.pu 0 rfl rfl (by kernel_rfl) trivial (pu_move rfl) ?_
  refine Rg.pu 1 rfl rfl (by kernel_rfl) trivial (by first | exact pu_nil rfl | exact pu_nilF rfl) ?_
  refine Rg.pu 2 rfl rfl (by kernel_rfl) trivial (pu_fa fa_61_1 rfl) ?_
  refine Rg.rd 3 rfl rfl (by kernel_rfl) trivial (rd_ld na_59 rfl (Rdc.cl1 (by repeat constructor) rfl)) ?_
  refine Rg.rd 4 rfl rfl (by kernel_rfl) trivial (rd_lda ag_25 rfl (Rdc.cl 2 (by repeat constructor) rfl) rfl) ?_
  refine Rg.one (by kernel_rfl) (Stp.ac0 5 rfl rfl (by kernel_rfl) trivial (ac_del (k := k) (encv := encv_29) Tryd.underlying59 kt_25 rfl rfl rfl (by repeat constructor))  ?_)
  rintro _ _ rfl
  rw [mdel_ents L k hnd]
  refine Rg.end (by kernel_rfl) ?_
  refine Gs.then_n ?_
  refine Gs.seq ?_
  refine Gs.reg ?_
  refine Go.Sl.L.rd rfl rfl trivial (rd_lda ag_29 rfl (Rdc.cl 5 (by repeat constructor) rfl) rfl) ?_
  refine Go.Sl.L.pu rfl rfl trivial (pu_move rfl) ?_
  refine Go.Sl.L.ac0 rfl trivial (ac_st sz_29 rfl rfl (by repeat constructor) rfl rfl rfl rfl) ?_
  rintro _ _ rfl
  refine Go.Sl.L.pu rfl rfl trivial (pu_assign rfl) ?_
  refine Go.Sl.L.nil ?_
  refine Gs.then_n ?_
  refine Gs.ret ?_
  exact Gs.finc2 Tryd.results11 ag_29 rfl (Rdc.cl 5 (by repeat constructor) rfl) rfl rfl _ (⟨rfl, rfl⟩) (by repeat constructor)
theorem nextNil_spec (k : Key) : Ct Tryd.prog 11 [.pointer none, keyV k] [] (fun v hs => v = .tuple #[recV Rec.zero, .bool false] ∧ hs = []) := by
  refine Ct.intro Tryd.func11 rfl (by kernel_rfl) 27 Tryd.ntmps11 (Nat.le_of_ble_eq_true rfl) fun w0 R => ?_
  refine Gs.seq ?_
  refine Gs.reg ?_
  refine Go.Sl.L.ac rfl rfl trivial (ac_box rfl rfl) ?_
  rintro _ _ ⟨b3, rfl, rfl⟩
  refine Go.Sl.L.ac rfl rfl trivial (ac_alloc zv_29 rfl) ?_
  rintro _ _ ⟨b4, rfl, rfl⟩
  refine Go.Sl.L.pu rfl rfl trivial (pu_assign rfl) ?_
  refine Go.Sl.L.nil ?_
  refine Gs.then_n ?_
  refine Gs.seq ?_
  refine Gs.seq ?_
  refine Gs.reg ?_
  refine Go.Sl.L.pu rfl rfl trivial (pu_move rfl) ?_
  refine Go.Sl.L.pu rfl rfl trivial (pu_eqN Tryd.underlying33 rfl rfl) ?_
  refine Go.Sl.L.nil ?_
  refine Gs.then_n ?_
  refine Gs.cond_t rfl ?_
  refine Gs.seq ?_
  refine Gs.reg ?_
  refine Go.Sl.L.pu rfl rfl trivial (pu_build bd_29 (by repeat constructor) rfl) ?_
  refine Go.Sl.L.ac0 rfl trivial (ac_st sz_29 rfl rfl (by repeat constructor) rfl rfl rfl rfl) ?_
  rintro _ _ rfl
  refine Go.Sl.L.pu rfl rfl trivial (pu_assign rfl) ?_
  refine Go.Sl.L.nil ?_
  refine Gs.then_n ?_
  refine Gs.ret ?_
  refine Gs.then_r ?_
  exact Gs.finc2 Tryd.results11 ag_29 rfl (Rdc.cl 5 (by repeat constructor) rfl) rfl rfl _ (⟨rfl, rfl⟩) (by repeat constructor)
end Go.Proofs.YthikmfpfbfjbiaaDoor
