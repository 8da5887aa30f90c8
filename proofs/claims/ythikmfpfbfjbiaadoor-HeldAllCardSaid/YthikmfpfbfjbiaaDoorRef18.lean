/- Walks: the second copy of held (grapevineref18, grapevineref10.Into, grapevineref4.Before). -/
import Derived.Test.YthikmfpfbfjbiaaDoorDrop
namespace Go.Proofs.YthikmfpfbfjbiaaDoor
open Go Go.Sl Go.Gv Go.Kv
set_option maxRecDepth 100000

/-- The second copy's cells: a slice of the records and how many may wait. -/
def rh (b : Nat) (most : Int) (L : List Rec) : HProp := fun h => ∃ p : Option Addr × Nat, two (cl b 38 [.slice p.1 L.length p.2, int most]) (sl 29 5 recC p.1 p.2 L) h
theorem Gs.rhOpen {w0 : World} {n : Nat} {env : Env} {H H' : List HProp} {X : Act → World → Prop} {b : Nat} {most : Int} {L : List Rec} (t : Take (rh b most L) H H')
    (g : ∀ a c, Gs w0 n env (cl b 38 [.slice a L.length c, int most] :: sl 29 5 recC a c L :: H') X) : Gs w0 n env H X :=
  Gs.take t (Gs.ex fun p => Gs.two (g p.1 p.2))
theorem Gs.rhClose {w0 : World} {n : Nat} {env : Env} {H H' : List HProp} {X : Act → World → Prop} {b : Nat} {most : Int} {L : List Rec} (a : Option Addr) (c : Nat) (t : Takes [cl b 38 [.slice a L.length c, int most], sl 29 5 recC a c L] H H')
    (g : Gs w0 n env (rh b most L :: H') X) : Gs w0 n env H X :=
  Gs.takes t (Gs.toTwo (Gs.ent (fun h x => ⟨(a, c), x⟩) g))
/-- Where a key stands. -/
def ix (L : List Rec) (k : Key) : Nat := L.findIdx fun r => r.key = k
theorem ix_lt {L : List Rec} {k : Key} : ix L k < L.length ↔ (look L k).isSome = true := by
  unfold ix look; rw [List.findIdx_lt_length, List.find?_isSome]
theorem ix_not {L : List Rec} {k : Key} {i : Nat} {r : Rec} (hi : i < ix L k) (hr : L[i]? = some r) : r.key ≠ k := by
  obtain ⟨hl, rfl⟩ := List.getElem?_eq_some_iff.1 hr
  have := List.not_of_lt_findIdx (p := fun r : Rec => decide (r.key = k)) (xs := L) hi
  simpa using this
theorem ix_at : ∀ {L : List Rec} {k : Key} {r : Rec}, L[ix L k]? = some r → look L k = some r
  | [], k, r, h => by simp at h
  | x :: L, k, r, h => by
    unfold ix look at *
    rw [List.findIdx_cons] at h
    rw [List.find?_cons]
    by_cases hx : x.key = k
    · simp [hx] at h ⊢; exact h
    · simp [hx] at h ⊢; exact ix_at (L := L) h
theorem find_spec (b : Nat) (a : Option Addr) (c : Nat) (most : Int) (L : List Rec) (hL : L.length ≤ 1000) (k : Key) :
    Ct Tryd.prog 27 [ptr b, keyV k] [cl b 38 [.slice a L.length c, int most], sl 29 5 recC a c L]
      (fun v hs => v = int (if (look L k).isSome then ix L k else -1) ∧ hs = [cl b 38 [.slice a L.length c, int most], sl 29 5 recC a c L]) := by
  refine Ct.intro Tryd.func27 rfl (by kernel_rfl) 26 Tryd.ntmps27 (Nat.le_of_ble_eq_true rfl) fun w0 R => ?_
  refine Gs.slAddr (SlH.own (by repeat constructor) : SlH _ _ 5 recC a L) fun ab ao ha => ?_
  refine Gs.seq ?_
  refine Gs.reg ?_
  refine Go.Sl.L.ac rfl rfl trivial (ac_box rfl rfl) ?_
  rintro _ _ ⟨b3, rfl, rfl⟩
  refine Go.Sl.L.pu rfl rfl trivial (pu_assign rfl) ?_
  refine Go.Sl.L.nil ?_
  refine Gs.then_n ?_
  refine Gs.seq ?_
  refine Gs.seq ?_
  refine Gs.reg ?_
  refine Go.Sl.L.pu rfl rfl trivial (pu_assign rfl) ?_
  refine Go.Sl.L.nil ?_
  refine Gs.then_n ?_
  refine Gs.block ?_
  refine Gs.loop1 (fun i : Nat => i ≤ ix L k ∧ i ≤ L.length) (fun i => [(0, ptr b), (3, ptr b3), (5, int i)]) (fun i => [cl b3 25 (keyC k), cl b 38 [.slice a L.length c, int most], sl 29 5 recC a c L] ++ R) (fun i => L.length - i) 0 (⟨Nat.zero_le _, Nat.zero_le _⟩) (by repeat constructor) (by repeat constructor) (fun i ⟨hi, hi2⟩ => ?_)
  refine Gs.seq ?_
  refine Gs.seq ?_
  refine Gs.reg ?_
  refine Go.Sl.L.pu rfl rfl trivial (pu_move rfl) ?_
  refine Go.Sl.L.pu rfl rfl trivial (pu_move rfl) ?_
  refine Go.Sl.L.pu rfl rfl trivial (by first | exact pu_nil rfl | exact pu_nilF rfl) ?_
  refine Go.Sl.L.pu rfl rfl trivial (pu_fa fa_38_0 rfl) ?_
  refine Go.Sl.L.rd rfl rfl trivial (rd_ld na_36 rfl (Rdc.cl1 (by repeat constructor) rfl)) ?_
  refine Go.Sl.L.pu rfl rfl trivial (pu_len Tryd.underlying36 rfl) ?_
  refine Go.Sl.L.pu rfl rfl trivial (pu_lt rfl rfl) ?_
  refine Go.Sl.L.nil ?_
  refine Gs.then_n ?_
  refine Gs.cond rfl (fun hc0 => ?_) (fun hc0 => ?_)
  · skip
    have hlt : i < L.length := by have := of_decide_eq_true hc0; omega
    obtain ⟨r, hr⟩ : ∃ r, L[i]? = some r := ⟨L[i], by simp [hlt]⟩
    obtain rfl := ha (by rintro rfl; simp at hlt)
    refine Gs.skip ?_
    refine Gs.then_n ?_
    refine Gs.seq ?_
    refine Gs.block ?_
    refine Gs.seq ?_
    refine Gs.regD mixed (by kernel_rfl) ?_
    refine Rg.pu 0 rfl rfl (by kernel_rfl) trivial (pu_move rfl) ?_
    refine Rg.pu 1 rfl rfl (by kernel_rfl) trivial (by first | exact pu_nil rfl | exact pu_nilF rfl) ?_
    refine Rg.pu 2 rfl rfl (by kernel_rfl) trivial (pu_fa fa_38_0 rfl) ?_
    refine Rg.rd 3 rfl rfl (by kernel_rfl) trivial (rd_ld na_36 rfl (Rdc.cl1 (by repeat constructor) rfl)) ?_
    refine Rg.pu 4 rfl rfl (by kernel_rfl) trivial (pu_move rfl) ?_
    refine Rg.pu 5 rfl rfl (by kernel_rfl) trivial (pu_ia se_36 rfl rfl (by omega) (by omega)) ?_
    refine Rg.pu 6 rfl rfl (by kernel_rfl) trivial (pu_fa fa_29_0 rfl) ?_
    refine Rg.rd 7 rfl rfl (by kernel_rfl) trivial (rd_lda ag_25 rfl (Rdc.elp 2 (SlH.own (by repeat constructor)) hr rfl rfl) rfl) ?_
    refine Rg.rd 8 rfl rfl (by kernel_rfl) trivial (rd_lda ag_25 rfl (Rdc.cl 2 (by repeat constructor) rfl) rfl) ?_
    refine Rg.pu 9 rfl rfl (by kernel_rfl) trivial (pu_eqT (a := r.key) (b := k) cmp_25 (by decide) Tryd.eqGuardType25 rfl rfl) ?_
    refine Rg.end (by kernel_rfl) ?_
    refine Gs.then_n ?_
    refine Gs.cond rfl (fun hc1 => ?_) (fun hc1 => ?_)
    · skip
      have hk : r.key = k := of_decide_eq_true hc1
      have he : i = ix L k := by
        rcases Nat.lt_or_eq_of_le hi with h | h
        · exact (ix_not h hr hk).elim
        · exact h
      have hs : (look L k).isSome = true := ix_lt.1 (he ▸ hlt)
      refine Gs.seq ?_
      refine Gs.reg ?_
      refine Go.Sl.L.pu rfl rfl trivial (pu_move rfl) ?_
      refine Go.Sl.L.pu rfl rfl trivial (pu_assign rfl) ?_
      refine Go.Sl.L.nil ?_
      refine Gs.then_n ?_
      refine Gs.ret ?_
      refine Gs.blk_r ?_
      refine Gs.then_r ?_
      refine Gs.then_r ?_
      refine Gs.blk_r ?_
      refine Gs.then_r ?_
      exact Gs.fin1 Tryd.results27 rfl _ (⟨by simp [hs, he], rfl⟩) (by repeat constructor)
    · skip
      have hk : r.key ≠ k := of_decide_eq_false hc1
      have hne : i ≠ ix L k := fun he => hk (by
        have h1 := ix_at (L := L) (k := k) (r := r) (by rw [← he]; exact hr)
        unfold look at h1
        simpa using List.find?_some h1)
      refine Gs.skip ?_
      refine Gs.blk_n ?_
      refine Gs.then_n ?_
      refine Gs.reg ?_
      refine Go.Sl.L.pu rfl rfl trivial (pu_move rfl) ?_
      refine Go.Sl.L.pu rfl rfl trivial (by first | exact pu_addI rfl rfl rfl (by omega) (by omega) | exact pu_add rfl rfl) ?_
      refine Go.Sl.L.pu rfl rfl trivial (pu_assign rfl) ?_
      refine Go.Sl.L.nil ?_
      refine Gs.then_n ?_
      exact Gs.again1 (i + 1) (by omega) (by omega) (by repeat constructor) (by repeat constructor)
  · skip
    have hge : i = L.length := by have := of_decide_eq_false hc0; omega
    have hn : (look L k).isSome = false := by
      cases h : (look L k).isSome with
      | false => rfl
      | true => have := ix_lt.2 h; omega
    refine Gs.exit ?_
    refine Gs.then_x ?_
    refine Gs.then_x ?_
    refine Gs.blk_hit ?_
    refine Gs.then_n ?_
    refine Gs.seq ?_
    refine Gs.reg ?_
    refine Go.Sl.L.pu rfl rfl trivial (pu_assign rfl) ?_
    refine Go.Sl.L.nil ?_
    refine Gs.then_n ?_
    refine Gs.ret ?_
    exact Gs.fin1 Tryd.results27 rfl _ (⟨by simp [hn], rfl⟩) (by repeat constructor)
theorem put18_spec {h0 : Hp} (T : Tabs h0) (b : Nat) (most : Int) (L : List Rec) (hL : L.length ≤ 1000) (r : Rec) :
    Ct Tryd.prog 10 [ptr b, recV r] [ro h0, rh b most L] (fun v hs => v = int (putE most L r) ∧ hs = [ro h0, rh b most (putL most L r)]) := by
  refine Ct.intro Tryd.func10 rfl (by kernel_rfl) 37 Tryd.ntmps10 (Nat.le_of_ble_eq_true rfl) fun w0 R => ?_
  refine Gs.rhOpen (by repeat constructor) fun a c => ?_
  refine Gs.seq ?_
  refine Gs.reg ?_
  refine Go.Sl.L.ac rfl rfl trivial (ac_box rfl rfl) ?_
  rintro _ _ ⟨b3, rfl, rfl⟩
  refine Go.Sl.L.pu rfl rfl trivial (pu_assign rfl) ?_
  refine Go.Sl.L.nil ?_
  refine Gs.then_n ?_
  refine Gs.seq ?_
  refine Gs.block ?_
  refine Gs.seq ?_
  refine Gs.reg ?_
  refine Go.Sl.L.rd rfl rfl trivial (rd_lda ag_29 rfl (Rdc.cl 5 (by repeat constructor) rfl) rfl) ?_
  refine Go.Sl.L.ac rfl rfl trivial (as_call (recMay4_spec T r) (by repeat constructor) (by repeat constructor)) ?_
  rintro _ _ ⟨_, ⟨rfl, rfl⟩, rfl⟩
  refine Go.Sl.L.pu rfl rfl trivial (pu_not rfl) ?_
  refine Go.Sl.L.pu rfl rfl trivial (pu_assign rfl) ?_
  refine Go.Sl.L.nil ?_
  refine Gs.then_n ?_
  refine Gs.cond rfl (fun hc0 => ?_) (fun hc0 => ?_)
  · skip
    refine Gs.seq ?_
    refine Gs.reg ?_
    refine Go.Sl.L.pu rfl rfl trivial (pu_assign rfl) ?_
    refine Go.Sl.L.nil ?_
    refine Gs.then_n ?_
    refine Gs.ret ?_
    refine Gs.blk_r ?_
    refine Gs.then_r ?_
    refine Gs.rhClose a c (by repeat constructor) ?_
    exact Gs.fin1 Tryd.results10 rfl _ (⟨by simp at hc0; simp [putE, hc0], by simp at hc0; simp [putL, putE, hc0]; rfl⟩) (by repeat constructor)
  · skip
    have hc0' : recB r = true := by simpa using hc0
    refine Gs.seq ?_
    refine Gs.reg ?_
    refine Go.Sl.L.pu rfl rfl trivial (pu_move rfl) ?_
    refine Go.Sl.L.pu rfl rfl trivial (pu_fa fa_29_0 rfl) ?_
    refine Go.Sl.L.rd rfl rfl trivial (rd_lda ag_25 rfl (Rdc.cl 2 (by repeat constructor) rfl) rfl) ?_
    refine Go.Sl.L.ac rfl rfl trivial (as_call (find_spec b a c most L hL r.key) (by repeat constructor) (by repeat constructor)) ?_
    rintro _ _ ⟨_, ⟨rfl, rfl⟩, rfl⟩
    refine Go.Sl.L.pu rfl rfl trivial (pu_ge rfl rfl) ?_
    refine Go.Sl.L.pu rfl rfl trivial (pu_assign rfl) ?_
    refine Go.Sl.L.nil ?_
    refine Gs.then_n ?_
    refine Gs.cond rfl (fun hc1 => ?_) (fun hc1 => ?_)
    · skip
      have hc1' : (look L r.key).isSome = true := by
        have := of_decide_eq_true hc1
        cases h : (look L r.key).isSome with
        | true => rfl
        | false => rw [h] at this; simp at this
      refine Gs.seq ?_
      refine Gs.reg ?_
      refine Go.Sl.L.pu rfl rfl trivial (pu_assign rfl) ?_
      refine Go.Sl.L.nil ?_
      refine Gs.then_n ?_
      refine Gs.ret ?_
      refine Gs.blk_r ?_
      refine Gs.then_r ?_
      refine Gs.rhClose a c (by repeat constructor) ?_
      exact Gs.fin1 Tryd.results10 rfl _ (⟨by simp [putE, hc0', hc1'], by simp [putL, putE, hc0', hc1']; rfl⟩) (by repeat constructor)
    · skip
      have hc1' : (look L r.key).isSome = false := by
        have := of_decide_eq_false hc1
        cases h : (look L r.key).isSome with
        | false => rfl
        | true => rw [h] at this; simp at this
      refine Gs.seq ?_
      refine Gs.regD mixed (by kernel_rfl) ?_
      refine Rg.pu 0 rfl rfl (by kernel_rfl) trivial (pu_move rfl) ?_
      refine Rg.pu 1 rfl rfl (by kernel_rfl) trivial (by first | exact pu_nil rfl | exact pu_nilF rfl) ?_
      refine Rg.pu 2 rfl rfl (by kernel_rfl) trivial (pu_fa fa_38_0 rfl) ?_
      refine Rg.rd 3 rfl rfl (by kernel_rfl) trivial (rd_ld na_36 rfl (Rdc.cl1 (by repeat constructor) rfl)) ?_
      refine Rg.pu 4 rfl rfl (by kernel_rfl) trivial (pu_len Tryd.underlying36 rfl) ?_
      refine Rg.pu 5 rfl rfl (by kernel_rfl) trivial (pu_move rfl) ?_
      refine Rg.pu 6 rfl rfl (by kernel_rfl) trivial (by first | exact pu_nil rfl | exact pu_nilF rfl) ?_
      refine Rg.pu 7 rfl rfl (by kernel_rfl) trivial (pu_fa fa_38_1 rfl) ?_
      refine Rg.rd 8 rfl rfl (by kernel_rfl) trivial (rd_ld na_3 rfl (Rdc.cl1 (by repeat constructor) rfl)) ?_
      refine Rg.pu 9 rfl rfl (by kernel_rfl) trivial (pu_ge rfl rfl) ?_
      refine Rg.pu 10 rfl rfl (by kernel_rfl) trivial (pu_assign rfl) ?_
      refine Rg.end (by kernel_rfl) ?_
      refine Gs.then_n ?_
      refine Gs.cond rfl (fun hc2 => ?_) (fun hc2 => ?_)
      · skip
        have hc2' : most ≤ L.length := of_decide_eq_true hc2
        refine Gs.seq ?_
        refine Gs.reg ?_
        refine Go.Sl.L.pu rfl rfl trivial (pu_assign rfl) ?_
        refine Go.Sl.L.nil ?_
        refine Gs.then_n ?_
        refine Gs.ret ?_
        refine Gs.blk_r ?_
        refine Gs.then_r ?_
        refine Gs.rhClose a c (by repeat constructor) ?_
        exact Gs.fin1 Tryd.results10 rfl _ (⟨by simp [putE, hc0', hc1', hc2'], by simp [putL, putE, hc0', hc1', hc2']; rfl⟩) (by repeat constructor)
      · skip
        have hc2' : ¬ most ≤ L.length := of_decide_eq_false hc2
        refine Gs.skip ?_
        refine Gs.blk_n ?_
        refine Gs.then_n ?_
        refine Gs.seq ?_
        refine Gs.regD mixed (by kernel_rfl) ?_
        refine Rg.pu 0 rfl rfl (by kernel_rfl) trivial (pu_move rfl) ?_
        refine Rg.pu 1 rfl rfl (by kernel_rfl) trivial (pu_move rfl) ?_
        refine Rg.pu 2 rfl rfl (by kernel_rfl) trivial (by first | exact pu_nil rfl | exact pu_nilF rfl) ?_
        refine Rg.pu 3 rfl rfl (by kernel_rfl) trivial (pu_fa fa_38_0 rfl) ?_
        refine Rg.rd 4 rfl rfl (by kernel_rfl) trivial (rd_ld na_36 rfl (Rdc.cl1 (by repeat constructor) rfl)) ?_
        refine Rg.rd 6 rfl rfl (by kernel_rfl) trivial (rd_lda ag_29 rfl (Rdc.cl 5 (by repeat constructor) rfl) rfl) ?_
        refine Rg.two (by kernel_rfl) (Stp.acK 5 rfl rfl (by kernel_rfl) trivial (ac_copy et_36 ek_29 rfl rfl (SrcH.sl Tryd.underlying36 ek_29 (SlH.own (by repeat constructor))) (by first | omega | (simp; omega)) (by first | omega | (simp; omega))) (by rintro _ _ ⟨a31, c31, rfl, rfl⟩ w s; first | exact s.drop | exact s | exact Ent.sat (by repeat constructor) s) ?_) (Stp.acK 7 rfl rfl (by kernel_rfl) trivial (ac_lit encC_29 ([r]) et_36 ek_29 rfl (by repeat constructor) rfl rfl (by decide)) (by rintro _ _ ⟨a33, rfl, rfl⟩ w s; first | exact s.drop | exact s | exact Ent.sat (by repeat constructor) s) ?_)
        · skip
          rintro _ _ ⟨a31, c31, rfl, rfl⟩
          refine Rg.one (by kernel_rfl) (Stp.ac 7 rfl rfl (by kernel_rfl) trivial (ac_lit encC_29 ([r]) et_36 ek_29 rfl (by repeat constructor) rfl rfl (by decide))  ?_)
          rintro _ _ ⟨a33, rfl, rfl⟩
          refine Rg.one (by kernel_rfl) (Stp.ac 8 rfl rfl (by kernel_rfl) trivial (ac_append et_36 ek_29 rfl rfl (by repeat constructor) (SrcH.sl Tryd.underlying36 ek_29 (SlH.own (by repeat constructor))) (by first | omega | (simp; omega)) (by first | omega | (simp; omega)))  ?_)
          rintro _ _ ⟨a34, c34, rfl, rfl⟩
          refine Rg.pu 9 rfl rfl (by kernel_rfl) trivial (by first | exact pu_nil rfl | exact pu_nilF rfl) ?_
          refine Rg.pu 10 rfl rfl (by kernel_rfl) trivial (pu_fa fa_38_0 rfl) ?_
          refine Rg.one (by kernel_rfl) (Stp.ac0 11 rfl rfl (by kernel_rfl) trivial (ac_st sz_36 rfl rfl (by repeat constructor) rfl rfl rfl rfl)  ?_)
          rintro _ _ rfl
          refine Rg.end (by kernel_rfl) ?_
          refine Gs.then_n ?_
          refine Gs.seq ?_
          refine Gs.reg ?_
          refine Go.Sl.L.pu rfl rfl trivial (pu_assign rfl) ?_
          refine Go.Sl.L.nil ?_
          refine Gs.then_n ?_
          refine Gs.ret ?_
          refine Gs.rhClose _ _ (by repeat constructor) ?_
          exact Gs.fin1 Tryd.results10 rfl _ (⟨by simp [putE, hc0', hc1', hc2'], by simp [putL, putE, hc0', hc1', hc2']; rfl⟩) (by repeat constructor)
        · skip
          rintro _ _ ⟨a33, rfl, rfl⟩
          refine Rg.one (by kernel_rfl) (Stp.ac 5 rfl rfl (by kernel_rfl) trivial (ac_copy et_36 ek_29 rfl rfl (SrcH.sl Tryd.underlying36 ek_29 (SlH.own (by repeat constructor))) (by first | omega | (simp; omega)) (by first | omega | (simp; omega)))  ?_)
          rintro _ _ ⟨a31, c31, rfl, rfl⟩
          refine Rg.one (by kernel_rfl) (Stp.ac 8 rfl rfl (by kernel_rfl) trivial (ac_append et_36 ek_29 rfl rfl (by repeat constructor) (SrcH.sl Tryd.underlying36 ek_29 (SlH.own (by repeat constructor))) (by first | omega | (simp; omega)) (by first | omega | (simp; omega)))  ?_)
          rintro _ _ ⟨a34, c34, rfl, rfl⟩
          refine Rg.pu 9 rfl rfl (by kernel_rfl) trivial (by first | exact pu_nil rfl | exact pu_nilF rfl) ?_
          refine Rg.pu 10 rfl rfl (by kernel_rfl) trivial (pu_fa fa_38_0 rfl) ?_
          refine Rg.one (by kernel_rfl) (Stp.ac0 11 rfl rfl (by kernel_rfl) trivial (ac_st sz_36 rfl rfl (by repeat constructor) rfl rfl rfl rfl)  ?_)
          rintro _ _ rfl
          refine Rg.end (by kernel_rfl) ?_
          refine Gs.then_n ?_
          refine Gs.seq ?_
          refine Gs.reg ?_
          refine Go.Sl.L.pu rfl rfl trivial (pu_assign rfl) ?_
          refine Go.Sl.L.nil ?_
          refine Gs.then_n ?_
          refine Gs.ret ?_
          refine Gs.rhClose _ _ (by repeat constructor) ?_
          exact Gs.fin1 Tryd.results10 rfl _ (⟨by simp [putE, hc0', hc1', hc2'], by simp [putL, putE, hc0', hc1', hc2']; rfl⟩) (by repeat constructor)
theorem cut_del {L : List Rec} {k : Key} (hn : (L.map Rec.key).Nodup) (hs : (look L k).isSome = true) : L.take (ix L k) ++ L.drop (ix L k + 1) = delL L k := by
  induction L with
  | nil => simp [look] at hs
  | cons x L ih =>
    simp only [List.map_cons, List.nodup_cons] at hn
    unfold ix look delL at *
    rw [List.findIdx_cons]
    by_cases hx : x.key = k
    · have : L.filter (fun r => !decide (r.key = k)) = L := List.filter_eq_self.2 fun r hr => by
        have : r.key ≠ k := fun e => hn.1 (hx.trans e.symm ▸ List.mem_map_of_mem hr)
        simp [this]
      simp [hx, this]
    · have := ih hn.2 (by simpa [hx] using hs)
      simp [hx] at this ⊢; exact this
theorem del_none {L : List Rec} {k : Key} (hs : (look L k).isSome = false) : delL L k = L := by
  have hs' : look L k = none := by simpa using hs
  unfold look at hs'; unfold delL
  rw [List.filter_eq_self]
  intro r hr
  have := List.find?_eq_none.1 hs' r hr
  simpa using this
theorem next18_spec (b : Nat) (most : Int) (L : List Rec) (hL : L.length ≤ 1000) (hn : (L.map Rec.key).Nodup) (k : Key) :
    Ct Tryd.prog 12 [ptr b, keyV k] [rh b most L] (fun v hs => v = .tuple #[recV ((look L k).getD Rec.zero), .bool (look L k).isSome] ∧ hs = [rh b most (delL L k)]) := by
  refine Ct.intro Tryd.func12 rfl (by kernel_rfl) 40 Tryd.ntmps12 (Nat.le_of_ble_eq_true rfl) fun w0 R => ?_
  refine Gs.rhOpen (by repeat constructor) fun a c => ?_
  refine Gs.slAddr (SlH.own (by repeat constructor) : SlH _ _ 5 recC a L) fun ab ao ha => ?_
  refine Gs.slLen (E := 29) (sz := 5) (enc := recC) (a := a) (c := c) (xs := L) (by repeat constructor) fun hlc => ?_
  refine Gs.seq ?_
  refine Gs.reg ?_
  refine Go.Sl.L.ac rfl rfl trivial (ac_box rfl rfl) ?_
  rintro _ _ ⟨b3, rfl, rfl⟩
  refine Go.Sl.L.ac rfl rfl trivial (ac_alloc zv_29 rfl) ?_
  rintro _ _ ⟨b4, rfl, rfl⟩
  refine Go.Sl.L.pu rfl rfl trivial (pu_assign rfl) ?_
  refine Go.Sl.L.nil ?_
  refine Gs.then_n ?_
  refine Gs.seq ?_
  refine Gs.reg ?_
  refine Go.Sl.L.pu rfl rfl trivial (pu_move rfl) ?_
  refine Go.Sl.L.rd rfl rfl trivial (rd_lda ag_25 rfl (Rdc.cl 2 (by repeat constructor) rfl) rfl) ?_
  refine Go.Sl.L.ac rfl rfl trivial (as_call (find_spec b a c most L hL k) (by repeat constructor) (by repeat constructor)) ?_
  rintro _ _ ⟨_, ⟨rfl, rfl⟩, rfl⟩
  refine Go.Sl.L.pu rfl rfl trivial (pu_assign rfl) ?_
  refine Go.Sl.L.nil ?_
  refine Gs.then_n ?_
  refine Gs.seq ?_
  refine Gs.seq ?_
  refine Gs.reg ?_
  refine Go.Sl.L.pu rfl rfl trivial (pu_move rfl) ?_
  refine Go.Sl.L.pu rfl rfl trivial (pu_lt rfl rfl) ?_
  refine Go.Sl.L.nil ?_
  refine Gs.then_n ?_
  refine Gs.cond rfl (fun hc0 => ?_) (fun hc0 => ?_)
  · skip
    have hs : (look L k).isSome = false := by
      have := of_decide_eq_true hc0
      cases h : (look L k).isSome with
      | false => rfl
      | true => rw [h] at this; simp at this; omega
    have hlk : look L k = none := by simpa using hs
    refine Gs.seq ?_
    refine Gs.reg ?_
    refine Go.Sl.L.pu rfl rfl trivial (pu_build bd_29 (by repeat constructor) rfl) ?_
    refine Go.Sl.L.ac0 rfl trivial (ac_st sz_29 rfl rfl (by repeat constructor) rfl rfl rfl rfl) ?_
    rintro _ _ rfl
    refine Go.Sl.L.pu rfl rfl trivial (pu_assign rfl) ?_
    refine Go.Sl.L.nil ?_
    refine Gs.then_n ?_
    refine Gs.ret ?_
    refine Gs.then_r ?_
    refine Gs.rhClose a c (by repeat constructor) ?_
    exact Gs.finc2 Tryd.results12 ag_29 rfl (Rdc.cl 5 (by repeat constructor) rfl) rfl rfl _ (⟨by rw [hlk]; rfl, by rw [del_none hs]⟩) (by repeat constructor)
  · skip
    have hs : (look L k).isSome = true := by
      have := of_decide_eq_false hc0
      cases h : (look L k).isSome with
      | true => rfl
      | false => rw [h] at this; simp at this
    have hix := ix_lt.2 hs
    obtain ⟨r, hr⟩ : ∃ r, L[ix L k]? = some r := ⟨L[ix L k], by simp [hix]⟩
    have hlk := ix_at hr
    obtain rfl := ha (by rintro rfl; simp at hr)
    rw [if_pos hs]
    refine Gs.skip ?_
    refine Gs.then_n ?_
    refine Gs.seq ?_
    refine Gs.reg ?_
    refine Go.Sl.L.pu rfl rfl trivial (pu_move rfl) ?_
    refine Go.Sl.L.pu rfl rfl trivial (by first | exact pu_nil rfl | exact pu_nilF rfl) ?_
    refine Go.Sl.L.pu rfl rfl trivial (pu_fa fa_38_0 rfl) ?_
    refine Go.Sl.L.rd rfl rfl trivial (rd_ld na_36 rfl (Rdc.cl1 (by repeat constructor) rfl)) ?_
    refine Go.Sl.L.pu rfl rfl trivial (pu_move rfl) ?_
    refine Go.Sl.L.pu rfl rfl trivial (pu_ia se_36 rfl rfl (by omega) (by omega)) ?_
    refine Go.Sl.L.rd rfl rfl trivial (rd_lda ag_29 rfl (Rdc.el0 (SlH.own (by repeat constructor)) hr rfl rfl) rfl) ?_
    refine Go.Sl.L.ac rfl rfl trivial (ac_alloc zv_29 rfl) ?_
    rintro _ _ ⟨b7, rfl, rfl⟩
    refine Go.Sl.L.ac0 rfl trivial (ac_st sz_29 rfl rfl (by repeat constructor) rfl rfl rfl rfl) ?_
    rintro _ _ rfl
    refine Go.Sl.L.nil ?_
    refine Gs.then_n ?_
    refine Gs.seq ?_
    refine Gs.regD mixed (by kernel_rfl) ?_
    refine Rg.pu 0 rfl rfl (by kernel_rfl) trivial (pu_move rfl) ?_
    refine Rg.pu 1 rfl rfl (by kernel_rfl) trivial (pu_move rfl) ?_
    refine Rg.pu 2 rfl rfl (by kernel_rfl) trivial (by first | exact pu_nil rfl | exact pu_nilF rfl) ?_
    refine Rg.pu 3 rfl rfl (by kernel_rfl) trivial (pu_fa fa_38_0 rfl) ?_
    refine Rg.rd 4 rfl rfl (by kernel_rfl) trivial (rd_ld na_36 rfl (Rdc.cl1 (by repeat constructor) rfl)) ?_
    refine Rg.pu 5 rfl rfl (by kernel_rfl) trivial (pu_move rfl) ?_
    refine Rg.pu 6 rfl rfl (by kernel_rfl) trivial (pu_sliceH et_36 rfl rfl (by omega) (by omega)) ?_
    refine Rg.pu 8 rfl rfl (by kernel_rfl) trivial (pu_move rfl) ?_
    refine Rg.pu 9 rfl rfl (by kernel_rfl) trivial (by first | exact pu_nil rfl | exact pu_nilF rfl) ?_
    refine Rg.pu 10 rfl rfl (by kernel_rfl) trivial (pu_fa fa_38_0 rfl) ?_
    refine Rg.rd 11 rfl rfl (by kernel_rfl) trivial (rd_ld na_36 rfl (Rdc.cl1 (by repeat constructor) rfl)) ?_
    refine Rg.pu 12 rfl rfl (by kernel_rfl) trivial (pu_move rfl) ?_
    refine Rg.pu 13 rfl rfl (by kernel_rfl) trivial (by first | exact pu_addI rfl rfl rfl (by omega) (by omega) | exact pu_add rfl rfl) ?_
    refine Rg.pu 14 rfl rfl (by kernel_rfl) trivial (pu_sliceL et_36 rfl rfl (by omega) (by omega)) ?_
    refine Rg.one (by kernel_rfl) (Stp.acK 7 rfl rfl (by kernel_rfl) trivial (ac_copy et_36 ek_29 rfl rfl (SrcH.sl' (ys := L.take (ix L k)) Tryd.underlying36 ek_29 (by simp <;> omega) (SlH.cutH (SlH.own (by repeat constructor)) _ _ hlc)) (by first | omega | (simp; omega)) (by first | omega | (simp; omega))) (by rintro _ _ ⟨a28, c28, rfl, rfl⟩ w s; first | exact s.drop | exact s | exact Ent.sat (by repeat constructor) s) ?_)
    rintro _ _ ⟨a28, c28, rfl, rfl⟩
    refine Rg.one (by kernel_rfl) (Stp.ac 15 rfl rfl (by kernel_rfl) trivial (ac_append et_36 ek_29 rfl rfl (by repeat constructor) (SrcH.sl' (ys := L.drop (ix L k + 1)) Tryd.underlying36 ek_29 (by simp <;> omega) (SlH.cutL (SlH.own (by repeat constructor)) _ _ hlc)) (by first | omega | (simp; omega)) (by first | omega | (simp; omega)))  ?_)
    rintro _ _ ⟨a36, c36, rfl, rfl⟩
    rw [cut_del hn hs]
    refine Rg.pu 16 rfl rfl (by kernel_rfl) trivial (by first | exact pu_nil rfl | exact pu_nilF rfl) ?_
    refine Rg.pu 17 rfl rfl (by kernel_rfl) trivial (pu_fa fa_38_0 rfl) ?_
    refine Rg.one (by kernel_rfl) (Stp.ac0 18 rfl rfl (by kernel_rfl) trivial (ac_st sz_36 rfl rfl (by repeat constructor) rfl rfl rfl rfl)  ?_)
    rintro _ _ rfl
    refine Rg.end (by kernel_rfl) ?_
    refine Gs.then_n ?_
    refine Gs.seq ?_
    refine Gs.reg ?_
    refine Go.Sl.L.rd rfl rfl trivial (rd_lda ag_29 rfl (Rdc.cl 5 (by repeat constructor) rfl) rfl) ?_
    refine Go.Sl.L.ac0 rfl trivial (ac_st sz_29 rfl rfl (by repeat constructor) rfl rfl rfl rfl) ?_
    rintro _ _ rfl
    refine Go.Sl.L.pu rfl rfl trivial (pu_assign rfl) ?_
    refine Go.Sl.L.nil ?_
    refine Gs.then_n ?_
    refine Gs.ret ?_
    refine Gs.rhClose _ _ (by repeat constructor) ?_
    exact Gs.finc2 Tryd.results12 ag_29 rfl (Rdc.cl 5 (by repeat constructor) rfl) rfl rfl _ (⟨by rw [hlk]; rfl, rfl⟩) (by repeat constructor)
end Go.Proofs.YthikmfpfbfjbiaaDoor
