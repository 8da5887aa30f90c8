/- Walks: the second copy of tree (grapevineref12). -/
import Derived.Test.YthlnjkfahmebjaaDoorClash
namespace Go.Proofs.YthlnjkfahmebjaaDoor
open Go Go.Sl Go.Gv Go.Kv
set_option maxRecDepth 100000
abbrev rtC (a : Option Addr) (L : List Rec) (c : Nat) : List Value := [.slice a L.length c]
/-- The second copy's cells: a slice of the records. -/
def rt (b : Nat) (L : List Rec) : HProp := fun h => ∃ p : Option Addr × Nat, two (cl b 35 (rtC p.1 L p.2)) (sl 42 5 recC p.1 p.2 L) h
theorem Gs.rtOpen {w0 : World} {n : Nat} {env : Env} {H H' : List HProp} {X : Act → World → Prop} {b : Nat} {L : List Rec} (t : Take (rt b L) H H')
    (g : ∀ a c, Gs w0 n env (cl b 35 (rtC a L c) :: sl 42 5 recC a c L :: H') X) : Gs w0 n env H X :=
  Gs.take t (Gs.ex fun p => Gs.two (g p.1 p.2))
theorem Gs.rtClose {w0 : World} {n : Nat} {env : Env} {H H' : List HProp} {X : Act → World → Prop} {b : Nat} {L : List Rec} (a : Option Addr) (c : Nat) (t : Takes [cl b 35 (rtC a L c), sl 42 5 recC a c L] H H')
    (g : Gs w0 n env (rt b L :: H') X) : Gs w0 n env H X :=
  Gs.takes t (Gs.toTwo (Gs.ent (fun h x => ⟨(a, c), x⟩) g))
/-- Where a key stands. -/
def ixR (L : List Rec) (k : Key) : Nat := L.findIdx fun r => r.key = k
theorem ixR_lt {L : List Rec} {k : Key} : ixR L k < L.length ↔ (lookR L k).isSome = true := by
  unfold ixR lookR; rw [List.findIdx_lt_length, List.find?_isSome]
theorem ixR_not {L : List Rec} {k : Key} {i : Nat} {r : Rec} (hi : i < ixR L k) (hr : L[i]? = some r) : r.key ≠ k := by
  obtain ⟨hl, rfl⟩ := List.getElem?_eq_some_iff.1 hr
  have := List.not_of_lt_findIdx (p := fun r : Rec => decide (r.key = k)) (xs := L) hi
  simpa using this
theorem ixR_at : ∀ {L : List Rec} {k : Key} {r : Rec}, L[ixR L k]? = some r → lookR L k = some r
  | [], k, r, h => by simp at h
  | x :: L, k, r, h => by
    unfold ixR lookR at *
    rw [List.findIdx_cons] at h
    rw [List.find?_cons]
    by_cases hx : x.key = k
    · simp [hx] at h ⊢; exact h
    · simp [hx] at h ⊢; exact ixR_at (L := L) h
theorem find12_spec (b : Nat) (a : Option Addr) (c : Nat) (L : List Rec) (hL : L.length ≤ 1000) (k : Key) :
    Ct Tryd.prog 14 [ptr b, keyV k] [cl b 35 (rtC a L c), sl 42 5 recC a c L]
      (fun v hs => v = int (if (lookR L k).isSome then ixR L k else -1) ∧ hs = [cl b 35 (rtC a L c), sl 42 5 recC a c L]) := by
  refine Ct.intro Tryd.func14 rfl (by kernel_rfl) 26 Tryd.ntmps14 (Nat.le_of_ble_eq_true rfl) fun w0 R => ?_
  refine Gs.slAddr (SlH.own (by repeat constructor) : SlH _ _ 5 recC a L) fun ab ao ha => ?_
  refine Gs.seq ?_
  refine Gs.reg ?_
  refine Go.Sl.L.ac rfl rfl trivial (ac_box rfl rfl) ?_
  rintro _ _ ⟨kb, rfl, rfl⟩
  refine Go.Sl.L.pu rfl rfl trivial (pu_assign rfl) ?_
  refine Go.Sl.L.nil ?_
  refine Gs.then_n ?_
  refine Gs.seq ?_
  refine Gs.seq ?_
  refine Gs.reg ?_
  refine Go.Sl.L.pu rfl rfl trivial (pu_assign rfl) ?_
  refine Go.Sl.L.nil ?_
  refine Gs.then_n ?_
  refine Gs.block ?_
  refine Gs.loop1 (fun i : Nat => i ≤ ixR L k ∧ i ≤ L.length) (fun i => [(0, ptr b), (3, ptr kb), (5, int i)]) (fun i => [cl kb 38 (keyC k), cl b 35 (rtC a L c), sl 42 5 recC a c L] ++ R) (fun i => L.length - i) 0 (⟨Nat.zero_le _, Nat.zero_le _⟩) (by repeat constructor) (by repeat constructor) (fun i ⟨hi, hi2⟩ => ?_)
  refine Gs.seq ?_
  refine Gs.seq ?_
  refine Gs.reg ?_
  refine Go.Sl.L.pu rfl rfl trivial (pu_move rfl) ?_
  refine Go.Sl.L.pu rfl rfl trivial (pu_move rfl) ?_
  refine Go.Sl.L.pu rfl rfl trivial (by first | exact pu_nil rfl | exact pu_nilF rfl) ?_
  refine Go.Sl.L.pu rfl rfl trivial (pu_fa fa_35_0 rfl) ?_
  refine Go.Sl.L.rd rfl rfl trivial (rd_ld na_22 rfl (Rdc.cl1 (by repeat constructor) rfl)) ?_
  refine Go.Sl.L.pu rfl rfl trivial (pu_len Tryd.underlying22 rfl) ?_
  refine Go.Sl.L.pu rfl rfl trivial (pu_lt rfl rfl) ?_
  refine Go.Sl.L.nil ?_
  refine Gs.then_n ?_
  refine Gs.cond rfl (fun hc0 => ?_) (fun hc0 => ?_)
  · skip
    have hlt : i < L.length := by have := of_decide_eq_true hc0; omega
    obtain ⟨r, hr⟩ : ∃ r, L[i]? = some r := ⟨L[i], by simp [hlt]⟩
    obtain rfl := ha (by rintro rfl; simp at hlt)
    refine Gs.skip ?_
    refine Gs.then_n ?_
    refine Gs.seq ?_
    refine Gs.block ?_
    refine Gs.seq ?_
    refine Gs.regD mixed (by kernel_rfl) ?_
    refine Rg.pu 0 rfl rfl (by kernel_rfl) trivial (pu_move rfl) ?_
    refine Rg.pu 1 rfl rfl (by kernel_rfl) trivial (by first | exact pu_nil rfl | exact pu_nilF rfl) ?_
    refine Rg.pu 2 rfl rfl (by kernel_rfl) trivial (pu_fa fa_35_0 rfl) ?_
    refine Rg.rd 3 rfl rfl (by kernel_rfl) trivial (rd_ld na_22 rfl (Rdc.cl1 (by repeat constructor) rfl)) ?_
    refine Rg.pu 4 rfl rfl (by kernel_rfl) trivial (pu_move rfl) ?_
    refine Rg.pu 5 rfl rfl (by kernel_rfl) trivial (pu_ia se_22 rfl rfl (by omega) (by omega)) ?_
    refine Rg.pu 6 rfl rfl (by kernel_rfl) trivial (pu_fa fa_42_0 rfl) ?_
    refine Rg.rd 7 rfl rfl (by kernel_rfl) trivial (rd_lda ag_38 rfl (Rdc.elp 2 (SlH.own (by repeat constructor)) hr rfl rfl) rfl) ?_
    refine Rg.rd 8 rfl rfl (by kernel_rfl) trivial (rd_lda ag_38 rfl (Rdc.cl 2 (by repeat constructor) rfl) rfl) ?_
    refine Rg.pu 9 rfl rfl (by kernel_rfl) trivial (pu_eqT (a := r.key) (b := k) cmp_38 (by decide) Tryd.eqGuardType38 rfl rfl) ?_
    refine Rg.end (by kernel_rfl) ?_
    refine Gs.then_n ?_
    refine Gs.cond rfl (fun hc1 => ?_) (fun hc1 => ?_)
    · skip
      have hk : r.key = k := of_decide_eq_true hc1
      have he : i = ixR L k := by
        rcases Nat.lt_or_eq_of_le hi with h | h
        · exact (ixR_not h hr hk).elim
        · exact h
      have hs : (lookR L k).isSome = true := ixR_lt.1 (he ▸ hlt)
      refine Gs.seq ?_
      refine Gs.reg ?_
      refine Go.Sl.L.pu rfl rfl trivial (pu_move rfl) ?_
      refine Go.Sl.L.pu rfl rfl trivial (pu_assign rfl) ?_
      refine Go.Sl.L.nil ?_
      refine Gs.then_n ?_
      refine Gs.ret ?_
      refine Gs.blk_r ?_
      refine Gs.then_r ?_
      refine Gs.then_r ?_
      refine Gs.blk_r ?_
      refine Gs.then_r ?_
      exact Gs.fin1 Tryd.results14 rfl _ (⟨by simp [hs, he], rfl⟩) (by repeat constructor)
    · skip
      have hk : r.key ≠ k := of_decide_eq_false hc1
      have hne : i ≠ ixR L k := fun he => hk (by
        have h1 := ixR_at (L := L) (k := k) (r := r) (by rw [← he]; exact hr)
        exact (lookR_key h1).1)
      refine Gs.skip ?_
      refine Gs.blk_n ?_
      refine Gs.then_n ?_
      refine Gs.reg ?_
      refine Go.Sl.L.pu rfl rfl trivial (pu_move rfl) ?_
      refine Go.Sl.L.pu rfl rfl trivial (by first | exact pu_addI rfl rfl rfl (by omega) (by omega) | exact pu_add rfl rfl) ?_
      refine Go.Sl.L.pu rfl rfl trivial (pu_assign rfl) ?_
      refine Go.Sl.L.nil ?_
      refine Gs.then_n ?_
      exact Gs.again1 (i + 1) (by omega) (by omega) (by repeat constructor) (by repeat constructor)
  · skip
    have hge : i = L.length := by have := of_decide_eq_false hc0; omega
    have hn : (lookR L k).isSome = false := by
      cases h : (lookR L k).isSome with
      | false => rfl
      | true => have := ixR_lt.2 h; omega
    refine Gs.exit ?_
    refine Gs.then_x ?_
    refine Gs.then_x ?_
    refine Gs.blk_hit ?_
    refine Gs.then_n ?_
    refine Gs.seq ?_
    refine Gs.reg ?_
    refine Go.Sl.L.pu rfl rfl trivial (pu_assign rfl) ?_
    refine Go.Sl.L.nil ?_
    refine Gs.then_n ?_
    refine Gs.ret ?_
    exact Gs.fin1 Tryd.results14 rfl _ (⟨by simp [hn], rfl⟩) (by repeat constructor)
theorem put12_spec {h0 : Hp} (T : Tabs h0) {S : HProp} (b : Nat) (L : List Rec) {a : Option Addr} {c : Nat} {rs : List Rec} (hS : Srd S 5 recC a rs) (hl : L.length + rs.length ≤ 1000) :
    Ct Tryd.prog 28 [ptr b, .slice a rs.length c] [ro h0, rt b L, S] (fun v hs => (∃ z, v = int z) ∧ hs = [ro h0, rt b (putAll L rs), S]) := by
  refine Ct.intro Tryd.func28 rfl (by kernel_rfl) 45 Tryd.ntmps28 (Nat.le_of_ble_eq_true rfl) fun w0 R => ?_
  refine Gs.slAddr (hS.h (by repeat constructor)) fun ab ao ha => ?_
  refine Gs.seq ?_
  refine Gs.reg ?_
  refine Go.Sl.L.pu rfl rfl trivial (pu_assign rfl) ?_
  refine Go.Sl.L.nil ?_
  refine Gs.then_n ?_
  refine Gs.seq ?_
  refine Gs.reg ?_
  refine Go.Sl.L.pu rfl rfl trivial (pu_assign rfl) ?_
  refine Go.Sl.L.nil ?_
  refine Gs.then_n ?_
  refine Gs.seq ?_
  refine Gs.seq ?_
  refine Gs.reg ?_
  refine Go.Sl.L.pu rfl rfl trivial (pu_assign rfl) ?_
  refine Go.Sl.L.nil ?_
  refine Gs.then_n ?_
  refine Gs.block ?_
  refine Gs.loop1 (fun s : Nat × List Rec × Nat => s.1 ≤ rs.length ∧ s.2.1 = putAll L (rs.take s.1) ∧ s.2.2 ≤ s.1) (fun s => [(0, ptr b), (1, .slice a rs.length c), (5, int s.2.2), (6, int s.1)]) (fun s => [ro h0, rt b s.2.1, S] ++ R) (fun s => rs.length - s.1) (0, L, 0) (⟨Nat.zero_le _, rfl, Nat.le_refl _⟩) (by repeat constructor) (by repeat constructor) (fun s hs => ?_)
  obtain ⟨i, K, n⟩ := s
  obtain ⟨hi, hK, hn⟩ := hs
  dsimp only at hi hK hn ⊢
  have hKl : K.length ≤ L.length + i := by rw [hK]; have := (putAll_length L (rs.take i)).2; rw [List.length_take] at this; omega
  refine Gs.seq ?_
  refine Gs.seq ?_
  refine Gs.reg ?_
  refine Go.Sl.L.pu rfl rfl trivial (pu_move rfl) ?_
  refine Go.Sl.L.pu rfl rfl trivial (pu_move rfl) ?_
  refine Go.Sl.L.pu rfl rfl trivial (pu_len Tryd.underlying22 rfl) ?_
  refine Go.Sl.L.pu rfl rfl trivial (pu_lt rfl rfl) ?_
  refine Go.Sl.L.nil ?_
  refine Gs.then_n ?_
  refine Gs.cond rfl (fun hc0 => ?_) (fun hc0 => ?_)
  · skip
    have hlt : i < rs.length := by have := of_decide_eq_true hc0; omega
    obtain ⟨r, hr⟩ : ∃ x, rs[i]? = some x := ⟨rs[i], by simp [hlt]⟩
    obtain rfl := ha (by rintro rfl; simp at hlt)
    have hstep := putAll_take (L := L) hr
    rw [← hK] at hstep
    refine Gs.skip ?_
    refine Gs.then_n ?_
    refine Gs.seq ?_
    refine Gs.block ?_
    refine Gs.seq ?_
    refine Gs.reg ?_
    refine Go.Sl.L.pu rfl rfl trivial (pu_move rfl) ?_
    refine Go.Sl.L.pu rfl rfl trivial (pu_move rfl) ?_
    refine Go.Sl.L.pu rfl rfl trivial (pu_ia se_22 rfl rfl (by omega) (by omega)) ?_
    refine Go.Sl.L.rd rfl rfl trivial (rd_lda ag_42 rfl (Rdc.el0 (hS.h (by repeat constructor)) hr rfl rfl) rfl) ?_
    refine Go.Sl.L.ac rfl rfl trivial (as_call (recMay4_spec T r) (by repeat constructor) (by repeat constructor)) ?_
    rintro _ _ ⟨_, ⟨rfl, rfl⟩, rfl⟩
    refine Go.Sl.L.puB rfl rfl trivial (pu_move rfl) (fun hg5 => ?_) (fun hg5 => ?_)
    · skip
      refine Gs.rtOpen (by repeat constructor) fun ka kc => ?_
      refine Go.Sl.L.pu rfl rfl ⟨_, rfl, rfl⟩ (pu_move rfl) ?_
      refine Go.Sl.L.pu rfl rfl ⟨_, rfl, rfl⟩ (pu_move rfl) ?_
      refine Go.Sl.L.pu rfl rfl ⟨_, rfl, rfl⟩ (pu_move rfl) ?_
      refine Go.Sl.L.pu rfl rfl ⟨_, rfl, rfl⟩ (pu_ia se_22 rfl rfl (by omega) (by omega)) ?_
      refine Go.Sl.L.pu rfl rfl ⟨_, rfl, rfl⟩ (pu_fa fa_42_0 rfl) ?_
      refine Go.Sl.L.rd rfl rfl ⟨_, rfl, rfl⟩ (rd_lda ag_38 rfl (Rdc.elp 2 (hS.h (by repeat constructor)) hr rfl rfl) rfl) ?_
      refine Go.Sl.L.ac rfl rfl ⟨_, rfl, rfl⟩ (as_call (find12_spec b ka kc K (by omega) r.key) (by repeat constructor) (by repeat constructor)) ?_
      rintro _ _ ⟨_, ⟨rfl, rfl⟩, rfl⟩
      refine Go.Sl.L.pu rfl rfl ⟨_, rfl, rfl⟩ (pu_lt rfl rfl) ?_
      refine Go.Sl.L.pu rfl rfl trivial (by first | exact pu_pick_t rfl rfl | exact pu_pick_f rfl rfl) ?_
      refine Go.Sl.L.nil ?_
      refine Gs.then_n ?_
      refine Gs.cond rfl (fun hc1 => ?_) (fun hc1 => ?_)
      · skip
        have hlk : (lookR K r.key).isSome = false := by
          cases h : (lookR K r.key).isSome with
          | false => rfl
          | true => rw [h] at hc1; have := of_decide_eq_true hc1; simp at this; omega
        have hyes : putOne K r = K ++ [r] := by simp [putOne, putOk, hg5, Option.isNone_iff_eq_none, Option.isSome_eq_false_iff.1 hlk, Option.isNone_iff_eq_none.1 (Option.isSome_eq_false_iff.1 hlk)]
        refine Gs.seq ?_
        refine Gs.regD mixed (by kernel_rfl) ?_
        refine Rg.pu 0 rfl rfl (by kernel_rfl) trivial (pu_move rfl) ?_
        refine Rg.pu 1 rfl rfl (by kernel_rfl) trivial (pu_move rfl) ?_
        refine Rg.pu 2 rfl rfl (by kernel_rfl) trivial (by first | exact pu_nil rfl | exact pu_nilF rfl) ?_
        refine Rg.pu 3 rfl rfl (by kernel_rfl) trivial (pu_fa fa_35_0 rfl) ?_
        refine Rg.rd 4 rfl rfl (by kernel_rfl) trivial (rd_ld na_22 rfl (Rdc.cl1 (by repeat constructor) rfl)) ?_
        refine Rg.pu 6 rfl rfl (by kernel_rfl) trivial (pu_move rfl) ?_
        refine Rg.pu 7 rfl rfl (by kernel_rfl) trivial (pu_move rfl) ?_
        refine Rg.pu 8 rfl rfl (by kernel_rfl) trivial (pu_ia se_22 rfl rfl (by omega) (by omega)) ?_
        refine Rg.rd 9 rfl rfl (by kernel_rfl) trivial (rd_lda ag_42 rfl (Rdc.el0 (hS.h (by repeat constructor)) hr rfl rfl) rfl) ?_
        refine Rg.two (by kernel_rfl) (Stp.acK 5 rfl rfl (by kernel_rfl) trivial (ac_copy et_22 ek_42 rfl rfl (SrcH.sl Tryd.underlying22 ek_42 (SlH.own (by repeat constructor))) (by first | omega | (simp; omega)) (by first | omega | (simp; omega))) (by rintro _ _ ⟨a33, c33, rfl, rfl⟩ w s; first | exact s.drop | exact s | exact Ent.sat (by repeat constructor) s) ?_) (Stp.acK 10 rfl rfl (by kernel_rfl) trivial (ac_lit encC_42 ([r]) et_22 ek_42 rfl (by repeat constructor) rfl rfl (by decide)) (by rintro _ _ ⟨a38, rfl, rfl⟩ w s; first | exact s.drop | exact s | exact Ent.sat (by repeat constructor) s) ?_)
        · skip
          rintro _ _ ⟨a33, c33, rfl, rfl⟩
          refine Rg.one (by kernel_rfl) (Stp.ac 10 rfl rfl (by kernel_rfl) trivial (ac_lit encC_42 ([r]) et_22 ek_42 rfl (by repeat constructor) rfl rfl (by decide))  ?_)
          rintro _ _ ⟨a38, rfl, rfl⟩
          refine Rg.one (by kernel_rfl) (Stp.ac 11 rfl rfl (by kernel_rfl) trivial (ac_append et_22 ek_42 rfl rfl (by repeat constructor) (SrcH.sl Tryd.underlying22 ek_42 (SlH.own (by repeat constructor))) (by first | omega | (simp; omega)) (by first | omega | (simp; omega)))  ?_)
          rintro _ _ ⟨a39, c39, rfl, rfl⟩
          refine Rg.pu 12 rfl rfl (by kernel_rfl) trivial (by first | exact pu_nil rfl | exact pu_nilF rfl) ?_
          refine Rg.pu 13 rfl rfl (by kernel_rfl) trivial (pu_fa fa_35_0 rfl) ?_
          refine Rg.one (by kernel_rfl) (Stp.ac0 14 rfl rfl (by kernel_rfl) trivial (ac_st sz_22 rfl rfl (by repeat constructor) rfl rfl rfl rfl)  ?_)
          rintro _ _ rfl
          refine Rg.end (by kernel_rfl) ?_
          refine Gs.then_n ?_
          refine Gs.reg ?_
          refine Go.Sl.L.pu rfl rfl trivial (pu_move rfl) ?_
          refine Go.Sl.L.pu rfl rfl trivial (pu_addI (z := ((n + 1 : Nat) : Int)) rfl rfl (by omega) (by omega) (by omega)) ?_
          refine Go.Sl.L.pu rfl rfl trivial (pu_assign rfl) ?_
          refine Go.Sl.L.nil ?_
          refine Gs.blk_n ?_
          refine Gs.then_n ?_
          first | (have hX := hyes; refine Gs.rtClose (L := K ++ [r]) a39 c39 (by repeat constructor) ?_) | (have hX := hno; refine Gs.rtClose (L := K) ka kc (by repeat constructor) ?_) | (have hX := hno; skip)
          refine Gs.reg ?_
          refine Go.Sl.L.pu rfl rfl trivial (pu_move rfl) ?_
          refine Go.Sl.L.pu rfl rfl trivial (by first | exact pu_addI rfl rfl rfl (by omega) (by omega) | exact pu_add rfl rfl) ?_
          refine Go.Sl.L.pu rfl rfl trivial (pu_assign rfl) ?_
          refine Go.Sl.L.nil ?_
          refine Gs.then_n ?_
          first | (have hX := hyes; exact Gs.again1 (i + 1, K ++ [r], n + 1) ⟨by show i + 1 ≤ rs.length; omega, by show K ++ [r] = _; rw [hstep, hyes], by show n + 1 ≤ i + 1; omega⟩ (by show rs.length - (i + 1) < rs.length - i; omega) (by repeat constructor) (by repeat constructor)) | (have hX := hno; exact Gs.again1 (i + 1, K, n) ⟨by show i + 1 ≤ rs.length; omega, by show K = _; rw [hstep, hno], by show n ≤ i + 1; omega⟩ (by show rs.length - (i + 1) < rs.length - i; omega) (by repeat constructor) (by repeat constructor))
        · skip
          rintro _ _ ⟨a38, rfl, rfl⟩
          refine Rg.one (by kernel_rfl) (Stp.ac 5 rfl rfl (by kernel_rfl) trivial (ac_copy et_22 ek_42 rfl rfl (SrcH.sl Tryd.underlying22 ek_42 (SlH.own (by repeat constructor))) (by first | omega | (simp; omega)) (by first | omega | (simp; omega)))  ?_)
          rintro _ _ ⟨a33, c33, rfl, rfl⟩
          refine Rg.one (by kernel_rfl) (Stp.ac 11 rfl rfl (by kernel_rfl) trivial (ac_append et_22 ek_42 rfl rfl (by repeat constructor) (SrcH.sl Tryd.underlying22 ek_42 (SlH.own (by repeat constructor))) (by first | omega | (simp; omega)) (by first | omega | (simp; omega)))  ?_)
          rintro _ _ ⟨a39, c39, rfl, rfl⟩
          refine Rg.pu 12 rfl rfl (by kernel_rfl) trivial (by first | exact pu_nil rfl | exact pu_nilF rfl) ?_
          refine Rg.pu 13 rfl rfl (by kernel_rfl) trivial (pu_fa fa_35_0 rfl) ?_
          refine Rg.one (by kernel_rfl) (Stp.ac0 14 rfl rfl (by kernel_rfl) trivial (ac_st sz_22 rfl rfl (by repeat constructor) rfl rfl rfl rfl)  ?_)
          rintro _ _ rfl
          refine Rg.end (by kernel_rfl) ?_
          refine Gs.then_n ?_
          refine Gs.reg ?_
          refine Go.Sl.L.pu rfl rfl trivial (pu_move rfl) ?_
          refine Go.Sl.L.pu rfl rfl trivial (pu_addI (z := ((n + 1 : Nat) : Int)) rfl rfl (by omega) (by omega) (by omega)) ?_
          refine Go.Sl.L.pu rfl rfl trivial (pu_assign rfl) ?_
          refine Go.Sl.L.nil ?_
          refine Gs.blk_n ?_
          refine Gs.then_n ?_
          first | (have hX := hyes; refine Gs.rtClose (L := K ++ [r]) a39 c39 (by repeat constructor) ?_) | (have hX := hno; refine Gs.rtClose (L := K) ka kc (by repeat constructor) ?_) | (have hX := hno; skip)
          refine Gs.reg ?_
          refine Go.Sl.L.pu rfl rfl trivial (pu_move rfl) ?_
          refine Go.Sl.L.pu rfl rfl trivial (by first | exact pu_addI rfl rfl rfl (by omega) (by omega) | exact pu_add rfl rfl) ?_
          refine Go.Sl.L.pu rfl rfl trivial (pu_assign rfl) ?_
          refine Go.Sl.L.nil ?_
          refine Gs.then_n ?_
          first | (have hX := hyes; exact Gs.again1 (i + 1, K ++ [r], n + 1) ⟨by show i + 1 ≤ rs.length; omega, by show K ++ [r] = _; rw [hstep, hyes], by show n + 1 ≤ i + 1; omega⟩ (by show rs.length - (i + 1) < rs.length - i; omega) (by repeat constructor) (by repeat constructor)) | (have hX := hno; exact Gs.again1 (i + 1, K, n) ⟨by show i + 1 ≤ rs.length; omega, by show K = _; rw [hstep, hno], by show n ≤ i + 1; omega⟩ (by show rs.length - (i + 1) < rs.length - i; omega) (by repeat constructor) (by repeat constructor))
      · skip
        have hno : putOne K r = K := by
          have hlk : (lookR K r.key).isSome = true := by
            cases h : (lookR K r.key).isSome with
            | true => rfl
            | false => rw [h] at hc1; have := of_decide_eq_false hc1; simp at this
          obtain ⟨x, hx⟩ := Option.isSome_iff_exists.1 hlk
          simp [putOne, putOk, hx]
        refine Gs.skip ?_
        refine Gs.blk_n ?_
        refine Gs.then_n ?_
        first | (have hX := hyes; refine Gs.rtClose (L := K ++ [r]) a39 c39 (by repeat constructor) ?_) | (have hX := hno; refine Gs.rtClose (L := K) ka kc (by repeat constructor) ?_) | (have hX := hno; skip)
        refine Gs.reg ?_
        refine Go.Sl.L.pu rfl rfl trivial (pu_move rfl) ?_
        refine Go.Sl.L.pu rfl rfl trivial (by first | exact pu_addI rfl rfl rfl (by omega) (by omega) | exact pu_add rfl rfl) ?_
        refine Go.Sl.L.pu rfl rfl trivial (pu_assign rfl) ?_
        refine Go.Sl.L.nil ?_
        refine Gs.then_n ?_
        first | (have hX := hyes; exact Gs.again1 (i + 1, K ++ [r], n + 1) ⟨by show i + 1 ≤ rs.length; omega, by show K ++ [r] = _; rw [hstep, hyes], by show n + 1 ≤ i + 1; omega⟩ (by show rs.length - (i + 1) < rs.length - i; omega) (by repeat constructor) (by repeat constructor)) | (have hX := hno; exact Gs.again1 (i + 1, K, n) ⟨by show i + 1 ≤ rs.length; omega, by show K = _; rw [hstep, hno], by show n ≤ i + 1; omega⟩ (by show rs.length - (i + 1) < rs.length - i; omega) (by repeat constructor) (by repeat constructor))
    · skip
      have hno : putOne K r = K := by simp [putOne, putOk, hg5]
      refine Go.Sl.L.off rfl rfl rfl rfl rfl rfl ?_
      refine Go.Sl.L.off rfl rfl rfl rfl rfl rfl ?_
      refine Go.Sl.L.off rfl rfl rfl rfl rfl rfl ?_
      refine Go.Sl.L.off rfl rfl rfl rfl rfl rfl ?_
      refine Go.Sl.L.off rfl rfl rfl rfl rfl rfl ?_
      refine Go.Sl.L.off rfl rfl rfl rfl rfl rfl ?_
      refine Go.Sl.L.off rfl rfl rfl rfl rfl rfl ?_
      refine Go.Sl.L.off rfl rfl rfl rfl rfl rfl ?_
      refine Go.Sl.L.pu rfl rfl trivial (by first | exact pu_pick_t rfl rfl | exact pu_pick_f rfl rfl) ?_
      refine Go.Sl.L.nil ?_
      refine Gs.then_n ?_
      refine Gs.cond_f rfl ?_
      refine Gs.skip ?_
      refine Gs.blk_n ?_
      refine Gs.then_n ?_
      first | (have hX := hyes; refine Gs.rtClose (L := K ++ [r]) a39 c39 (by repeat constructor) ?_) | (have hX := hno; refine Gs.rtClose (L := K) ka kc (by repeat constructor) ?_) | (have hX := hno; skip)
      refine Gs.reg ?_
      refine Go.Sl.L.pu rfl rfl trivial (pu_move rfl) ?_
      refine Go.Sl.L.pu rfl rfl trivial (by first | exact pu_addI rfl rfl rfl (by omega) (by omega) | exact pu_add rfl rfl) ?_
      refine Go.Sl.L.pu rfl rfl trivial (pu_assign rfl) ?_
      refine Go.Sl.L.nil ?_
      refine Gs.then_n ?_
      first | (have hX := hyes; exact Gs.again1 (i + 1, K ++ [r], n + 1) ⟨by show i + 1 ≤ rs.length; omega, by show K ++ [r] = _; rw [hstep, hyes], by show n + 1 ≤ i + 1; omega⟩ (by show rs.length - (i + 1) < rs.length - i; omega) (by repeat constructor) (by repeat constructor)) | (have hX := hno; exact Gs.again1 (i + 1, K, n) ⟨by show i + 1 ≤ rs.length; omega, by show K = _; rw [hstep, hno], by show n ≤ i + 1; omega⟩ (by show rs.length - (i + 1) < rs.length - i; omega) (by repeat constructor) (by repeat constructor))
  · skip
    have hge : i = rs.length := by have := of_decide_eq_false hc0; omega
    rw [hge, List.take_length] at hK
    subst hK
    refine Gs.exit ?_
    refine Gs.then_x ?_
    refine Gs.then_x ?_
    refine Gs.blk_hit ?_
    refine Gs.then_n ?_
    refine Gs.seq ?_
    refine Gs.reg ?_
    refine Go.Sl.L.pu rfl rfl trivial (pu_move rfl) ?_
    refine Go.Sl.L.pu rfl rfl trivial (pu_assign rfl) ?_
    refine Go.Sl.L.nil ?_
    refine Gs.then_n ?_
    refine Gs.ret ?_
    exact Gs.fin1 Tryd.results28 rfl _ (⟨⟨_, rfl⟩, rfl⟩) (by repeat constructor)
theorem span12_spec (k : Nat) (hk : k ≤ 5) (z : Int) (hz : z = 5 - (k : Int)) : Ct Tryd.prog 48 [int z] [] (fun v hs => v = int (4 ^ k : Int) ∧ hs = []) := by
  subst hz
  refine Ct.intro Tryd.func48 rfl (by kernel_rfl) 13 Tryd.ntmps48 (Nat.le_of_ble_eq_true rfl) fun w0 R => ?_
  refine Gs.seq ?_
  refine Gs.reg ?_
  refine Go.Sl.L.pu rfl rfl trivial (pu_assign rfl) ?_
  refine Go.Sl.L.nil ?_
  refine Gs.then_n ?_
  refine Gs.seq ?_
  refine Gs.reg ?_
  refine Go.Sl.L.pu rfl rfl trivial (pu_assign rfl) ?_
  refine Go.Sl.L.nil ?_
  refine Gs.then_n ?_
  refine Gs.seq ?_
  refine Gs.seq ?_
  refine Gs.reg ?_
  refine Go.Sl.L.pu rfl rfl trivial (pu_move rfl) ?_
  refine Go.Sl.L.pu rfl rfl trivial (pu_assign rfl) ?_
  refine Go.Sl.L.nil ?_
  refine Gs.then_n ?_
  refine Gs.block ?_
  refine Gs.loop1 (fun s : Nat × Int × Int => s.1 ≤ k ∧ s.2.1 = 4 ^ s.1 ∧ s.2.2 = 5 - (k : Int) + (s.1 : Int)) (fun s => [(3, int s.2.1), (4, int s.2.2)]) (fun _ => R) (fun s => k - s.1) (0, 1, 5 - (k : Int)) (⟨Nat.zero_le _, rfl, by simp⟩) (by repeat constructor) (by repeat constructor) (fun s hs => ?_)
  obtain ⟨j, p, z⟩ := s
  obtain ⟨hj, hp, hz⟩ := hs
  dsimp only at hj hp hz ⊢
  have hpb := pow_in (k := j) (by omega)
  rw [← hp] at hpb
  refine Gs.seq ?_
  refine Gs.seq ?_
  refine Gs.reg ?_
  refine Go.Sl.L.pu rfl rfl trivial (pu_move rfl) ?_
  refine Go.Sl.L.pu rfl rfl trivial (pu_lt rfl rfl) ?_
  refine Go.Sl.L.nil ?_
  refine Gs.then_n ?_
  refine Gs.cond rfl (fun hc0 => ?_) (fun hc0 => ?_)
  · skip
    have hlt : j < k := by have := of_decide_eq_true hc0; omega
    refine Gs.skip ?_
    refine Gs.then_n ?_
    refine Gs.seq ?_
    refine Gs.block ?_
    refine Gs.reg ?_
    refine Go.Sl.L.pu rfl rfl trivial (pu_move rfl) ?_
    refine Go.Sl.L.pu rfl rfl trivial (by first | exact pu_mulI rfl rfl rfl (by omega) (by omega) | exact pu_mul rfl rfl) ?_
    refine Go.Sl.L.pu rfl rfl trivial (pu_assign rfl) ?_
    refine Go.Sl.L.nil ?_
    refine Gs.blk_n ?_
    refine Gs.then_n ?_
    refine Gs.reg ?_
    refine Go.Sl.L.pu rfl rfl trivial (pu_move rfl) ?_
    refine Go.Sl.L.pu rfl rfl trivial (pu_addI (z := z + 1) rfl rfl rfl (by omega) (by omega)) ?_
    refine Go.Sl.L.pu rfl rfl trivial (pu_assign rfl) ?_
    refine Go.Sl.L.nil ?_
    refine Gs.then_n ?_
    exact Gs.again1 (j + 1, p * 4, z + 1) ⟨by show j + 1 ≤ k; omega, by show p * 4 = _; rw [hp]; rfl, by show z + 1 = 5 - (k : Int) + ((j + 1 : Nat) : Int); omega⟩ (by show k - (j + 1) < k - j; omega) (by repeat constructor) (by repeat constructor)
  · skip
    have hge : j = k := by have := of_decide_eq_false hc0; omega
    rw [hge] at hp
    refine Gs.exit ?_
    refine Gs.then_x ?_
    refine Gs.then_x ?_
    refine Gs.blk_hit ?_
    refine Gs.then_n ?_
    refine Gs.seq ?_
    refine Gs.reg ?_
    refine Go.Sl.L.pu rfl rfl trivial (pu_move rfl) ?_
    refine Go.Sl.L.pu rfl rfl trivial (pu_assign rfl) ?_
    refine Go.Sl.L.nil ?_
    refine Gs.then_n ?_
    refine Gs.ret ?_
    exact Gs.fin1 Tryd.results48 rfl _ (⟨by rw [hp], rfl⟩) (by repeat constructor)
theorem there12_spec (o l i : Int) : Ct Tryd.prog 35 [int o, int l, int i] [] (fun v hs => v = .bool (thereB o l i) ∧ hs = []) := by
  refine Ct.intro Tryd.func35 rfl (by kernel_rfl) 33 Tryd.ntmps35 (Nat.le_of_ble_eq_true rfl) fun w0 R => ?_
  refine Gs.seq ?_
  refine Gs.reg ?_
  refine Go.Sl.L.pu rfl rfl trivial (pu_assign rfl) ?_
  refine Go.Sl.L.nil ?_
  refine Gs.then_n ?_
  refine Gs.seq ?_
  refine Gs.reg ?_
  refine Go.Sl.L.pu rfl rfl trivial (pu_move rfl) ?_
  refine Go.Sl.L.pu rfl rfl trivial (pu_ge rfl rfl) ?_
  refine Go.Sl.L.puB rfl rfl trivial (pu_move rfl) (fun hg2 => ?_) (fun hg2 => ?_)
  · skip
    refine Go.Sl.L.pu rfl rfl ⟨_, rfl, rfl⟩ (pu_move rfl) ?_
    refine Go.Sl.L.pu rfl rfl ⟨_, rfl, rfl⟩ (pu_lt rfl rfl) ?_
    refine Go.Sl.L.pu rfl rfl trivial (by first | exact pu_pick_t rfl rfl | exact pu_pick_f rfl rfl) ?_
    refine Go.Sl.L.puB rfl rfl trivial (pu_move rfl) (fun hg6 => ?_) (fun hg6 => ?_)
    · skip
      refine Go.Sl.L.pu rfl rfl ⟨_, rfl, rfl⟩ (pu_move rfl) ?_
      refine Go.Sl.L.pu rfl rfl ⟨_, rfl, rfl⟩ (pu_ge rfl rfl) ?_
      refine Go.Sl.L.pu rfl rfl trivial (by first | exact pu_pick_t rfl rfl | exact pu_pick_f rfl rfl) ?_
      refine Go.Sl.L.puB rfl rfl trivial (pu_move rfl) (fun hg10 => ?_) (fun hg10 => ?_)
      · skip
        refine Go.Sl.L.pu rfl rfl ⟨_, rfl, rfl⟩ (pu_move rfl) ?_
        refine Go.Sl.L.pu rfl rfl ⟨_, rfl, rfl⟩ (pu_le rfl rfl) ?_
        refine Go.Sl.L.pu rfl rfl trivial (by first | exact pu_pick_t rfl rfl | exact pu_pick_f rfl rfl) ?_
        refine Go.Sl.L.puB rfl rfl trivial (pu_move rfl) (fun hg14 => ?_) (fun hg14 => ?_)
        · skip
          refine Go.Sl.L.pu rfl rfl ⟨_, rfl, rfl⟩ (pu_move rfl) ?_
          refine Go.Sl.L.pu rfl rfl ⟨_, rfl, rfl⟩ (pu_ge rfl rfl) ?_
          refine Go.Sl.L.pu rfl rfl trivial (by first | exact pu_pick_t rfl rfl | exact pu_pick_f rfl rfl) ?_
          refine Go.Sl.L.puB rfl rfl trivial (pu_move rfl) (fun hg18 => ?_) (fun hg18 => ?_)
          · skip
            obtain ⟨k, hk, rfl⟩ : ∃ k : Nat, k ≤ 5 ∧ l = 5 - (k : Int) := ⟨(5 - l).toNat, by have := of_decide_eq_true hg10; have := of_decide_eq_true hg14; omega, by have := of_decide_eq_true hg10; have := of_decide_eq_true hg14; omega⟩
            have hpk := pow_in hk
            have hkn : (5 - (k : Int)).toNat = 5 - k := by omega
            refine Go.Sl.L.pu rfl rfl ⟨_, rfl, rfl⟩ (pu_move rfl) ?_
            refine Go.Sl.L.ac rfl rfl ⟨_, rfl, rfl⟩ (as_call (span12_spec 5 (by omega) 0 (by omega)) (by repeat constructor) (by repeat constructor)) ?_
            rintro _ _ ⟨_, ⟨rfl, rfl⟩, rfl⟩
            refine Go.Sl.L.pu rfl rfl ⟨_, rfl, rfl⟩ (pu_move rfl) ?_
            refine Go.Sl.L.ac rfl rfl ⟨_, rfl, rfl⟩ (as_call (span12_spec k hk _ rfl) (by repeat constructor) (by repeat constructor)) ?_
            rintro _ _ ⟨_, ⟨rfl, rfl⟩, rfl⟩
            refine Go.Sl.L.pu rfl rfl ⟨_, rfl, rfl⟩ (pu_quo rfl rfl (by omega)) ?_
            rw [quo_pow hk]
            refine Go.Sl.L.pu rfl rfl ⟨_, rfl, rfl⟩ (pu_lt rfl rfl) ?_
            refine Go.Sl.L.pu rfl rfl trivial (by first | exact pu_pick_t rfl rfl | exact pu_pick_f rfl rfl) ?_
            refine Go.Sl.L.pu rfl rfl trivial (pu_assign rfl) ?_
            refine Go.Sl.L.nil ?_
            refine Gs.then_n ?_
            refine Gs.ret ?_
            exact Gs.fin1 Tryd.results35 rfl _ (⟨by first | (simp only [thereB, hkn, hg2, hg6, hg10, hg14, hg18, Bool.true_and]; done) | (simp only [thereB, hg18, Bool.and_false, Bool.false_and]; done) | (simp only [thereB, hg14, Bool.and_false, Bool.false_and]; done) | (simp only [thereB, hg10, Bool.and_false, Bool.false_and]; done) | (simp only [thereB, hg6, Bool.and_false, Bool.false_and]; done) | (simp only [thereB, hg2, Bool.and_false, Bool.false_and]; done), rfl⟩) (by repeat constructor)
          · skip
            refine Go.Sl.L.off rfl rfl rfl rfl rfl rfl ?_
            refine Go.Sl.L.off rfl rfl rfl rfl rfl rfl ?_
            refine Go.Sl.L.off rfl rfl rfl rfl rfl rfl ?_
            refine Go.Sl.L.off rfl rfl rfl rfl rfl rfl ?_
            refine Go.Sl.L.off rfl rfl rfl rfl rfl rfl ?_
            refine Go.Sl.L.off rfl rfl rfl rfl rfl rfl ?_
            refine Go.Sl.L.pu rfl rfl trivial (by first | exact pu_pick_t rfl rfl | exact pu_pick_f rfl rfl) ?_
            refine Go.Sl.L.pu rfl rfl trivial (pu_assign rfl) ?_
            refine Go.Sl.L.nil ?_
            refine Gs.then_n ?_
            refine Gs.ret ?_
            exact Gs.fin1 Tryd.results35 rfl _ (⟨by first | (simp only [thereB, hkn, hg2, hg6, hg10, hg14, hg18, Bool.true_and]; done) | (simp only [thereB, hg18, Bool.and_false, Bool.false_and]; done) | (simp only [thereB, hg14, Bool.and_false, Bool.false_and]; done) | (simp only [thereB, hg10, Bool.and_false, Bool.false_and]; done) | (simp only [thereB, hg6, Bool.and_false, Bool.false_and]; done) | (simp only [thereB, hg2, Bool.and_false, Bool.false_and]; done), rfl⟩) (by repeat constructor)
        · skip
          refine Go.Sl.L.off rfl rfl rfl rfl rfl rfl ?_
          refine Go.Sl.L.off rfl rfl rfl rfl rfl rfl ?_
          refine Go.Sl.L.pu rfl rfl trivial (by first | exact pu_pick_t rfl rfl | exact pu_pick_f rfl rfl) ?_
          refine Go.Sl.L.pu rfl rfl trivial (pu_move rfl) ?_
          refine Go.Sl.L.off rfl rfl rfl rfl rfl rfl ?_
          refine Go.Sl.L.off rfl rfl rfl rfl rfl rfl ?_
          refine Go.Sl.L.off rfl rfl rfl rfl rfl rfl ?_
          refine Go.Sl.L.off rfl rfl rfl rfl rfl rfl ?_
          refine Go.Sl.L.off rfl rfl rfl rfl rfl rfl ?_
          refine Go.Sl.L.off rfl rfl rfl rfl rfl rfl ?_
          refine Go.Sl.L.pu rfl rfl trivial (by first | exact pu_pick_t rfl rfl | exact pu_pick_f rfl rfl) ?_
          refine Go.Sl.L.pu rfl rfl trivial (pu_assign rfl) ?_
          refine Go.Sl.L.nil ?_
          refine Gs.then_n ?_
          refine Gs.ret ?_
          exact Gs.fin1 Tryd.results35 rfl _ (⟨by first | (simp only [thereB, hkn, hg2, hg6, hg10, hg14, hg18, Bool.true_and]; done) | (simp only [thereB, hg18, Bool.and_false, Bool.false_and]; done) | (simp only [thereB, hg14, Bool.and_false, Bool.false_and]; done) | (simp only [thereB, hg10, Bool.and_false, Bool.false_and]; done) | (simp only [thereB, hg6, Bool.and_false, Bool.false_and]; done) | (simp only [thereB, hg2, Bool.and_false, Bool.false_and]; done), rfl⟩) (by repeat constructor)
      · skip
        refine Go.Sl.L.off rfl rfl rfl rfl rfl rfl ?_
        refine Go.Sl.L.off rfl rfl rfl rfl rfl rfl ?_
        refine Go.Sl.L.pu rfl rfl trivial (by first | exact pu_pick_t rfl rfl | exact pu_pick_f rfl rfl) ?_
        refine Go.Sl.L.pu rfl rfl trivial (pu_move rfl) ?_
        refine Go.Sl.L.off rfl rfl rfl rfl rfl rfl ?_
        refine Go.Sl.L.off rfl rfl rfl rfl rfl rfl ?_
        refine Go.Sl.L.pu rfl rfl trivial (by first | exact pu_pick_t rfl rfl | exact pu_pick_f rfl rfl) ?_
        refine Go.Sl.L.pu rfl rfl trivial (pu_move rfl) ?_
        refine Go.Sl.L.off rfl rfl rfl rfl rfl rfl ?_
        refine Go.Sl.L.off rfl rfl rfl rfl rfl rfl ?_
        refine Go.Sl.L.off rfl rfl rfl rfl rfl rfl ?_
        refine Go.Sl.L.off rfl rfl rfl rfl rfl rfl ?_
        refine Go.Sl.L.off rfl rfl rfl rfl rfl rfl ?_
        refine Go.Sl.L.off rfl rfl rfl rfl rfl rfl ?_
        refine Go.Sl.L.pu rfl rfl trivial (by first | exact pu_pick_t rfl rfl | exact pu_pick_f rfl rfl) ?_
        refine Go.Sl.L.pu rfl rfl trivial (pu_assign rfl) ?_
        refine Go.Sl.L.nil ?_
        refine Gs.then_n ?_
        refine Gs.ret ?_
        exact Gs.fin1 Tryd.results35 rfl _ (⟨by first | (simp only [thereB, hkn, hg2, hg6, hg10, hg14, hg18, Bool.true_and]; done) | (simp only [thereB, hg18, Bool.and_false, Bool.false_and]; done) | (simp only [thereB, hg14, Bool.and_false, Bool.false_and]; done) | (simp only [thereB, hg10, Bool.and_false, Bool.false_and]; done) | (simp only [thereB, hg6, Bool.and_false, Bool.false_and]; done) | (simp only [thereB, hg2, Bool.and_false, Bool.false_and]; done), rfl⟩) (by repeat constructor)
    · skip
      refine Go.Sl.L.off rfl rfl rfl rfl rfl rfl ?_
      refine Go.Sl.L.off rfl rfl rfl rfl rfl rfl ?_
      refine Go.Sl.L.pu rfl rfl trivial (by first | exact pu_pick_t rfl rfl | exact pu_pick_f rfl rfl) ?_
      refine Go.Sl.L.pu rfl rfl trivial (pu_move rfl) ?_
      refine Go.Sl.L.off rfl rfl rfl rfl rfl rfl ?_
      refine Go.Sl.L.off rfl rfl rfl rfl rfl rfl ?_
      refine Go.Sl.L.pu rfl rfl trivial (by first | exact pu_pick_t rfl rfl | exact pu_pick_f rfl rfl) ?_
      refine Go.Sl.L.pu rfl rfl trivial (pu_move rfl) ?_
      refine Go.Sl.L.off rfl rfl rfl rfl rfl rfl ?_
      refine Go.Sl.L.off rfl rfl rfl rfl rfl rfl ?_
      refine Go.Sl.L.pu rfl rfl trivial (by first | exact pu_pick_t rfl rfl | exact pu_pick_f rfl rfl) ?_
      refine Go.Sl.L.pu rfl rfl trivial (pu_move rfl) ?_
      refine Go.Sl.L.off rfl rfl rfl rfl rfl rfl ?_
      refine Go.Sl.L.off rfl rfl rfl rfl rfl rfl ?_
      refine Go.Sl.L.off rfl rfl rfl rfl rfl rfl ?_
      refine Go.Sl.L.off rfl rfl rfl rfl rfl rfl ?_
      refine Go.Sl.L.off rfl rfl rfl rfl rfl rfl ?_
      refine Go.Sl.L.off rfl rfl rfl rfl rfl rfl ?_
      refine Go.Sl.L.pu rfl rfl trivial (by first | exact pu_pick_t rfl rfl | exact pu_pick_f rfl rfl) ?_
      refine Go.Sl.L.pu rfl rfl trivial (pu_assign rfl) ?_
      refine Go.Sl.L.nil ?_
      refine Gs.then_n ?_
      refine Gs.ret ?_
      exact Gs.fin1 Tryd.results35 rfl _ (⟨by first | (simp only [thereB, hkn, hg2, hg6, hg10, hg14, hg18, Bool.true_and]; done) | (simp only [thereB, hg18, Bool.and_false, Bool.false_and]; done) | (simp only [thereB, hg14, Bool.and_false, Bool.false_and]; done) | (simp only [thereB, hg10, Bool.and_false, Bool.false_and]; done) | (simp only [thereB, hg6, Bool.and_false, Bool.false_and]; done) | (simp only [thereB, hg2, Bool.and_false, Bool.false_and]; done), rfl⟩) (by repeat constructor)
  · skip
    refine Go.Sl.L.off rfl rfl rfl rfl rfl rfl ?_
    refine Go.Sl.L.off rfl rfl rfl rfl rfl rfl ?_
    refine Go.Sl.L.pu rfl rfl trivial (by first | exact pu_pick_t rfl rfl | exact pu_pick_f rfl rfl) ?_
    refine Go.Sl.L.pu rfl rfl trivial (pu_move rfl) ?_
    refine Go.Sl.L.off rfl rfl rfl rfl rfl rfl ?_
    refine Go.Sl.L.off rfl rfl rfl rfl rfl rfl ?_
    refine Go.Sl.L.pu rfl rfl trivial (by first | exact pu_pick_t rfl rfl | exact pu_pick_f rfl rfl) ?_
    refine Go.Sl.L.pu rfl rfl trivial (pu_move rfl) ?_
    refine Go.Sl.L.off rfl rfl rfl rfl rfl rfl ?_
    refine Go.Sl.L.off rfl rfl rfl rfl rfl rfl ?_
    refine Go.Sl.L.pu rfl rfl trivial (by first | exact pu_pick_t rfl rfl | exact pu_pick_f rfl rfl) ?_
    refine Go.Sl.L.pu rfl rfl trivial (pu_move rfl) ?_
    refine Go.Sl.L.off rfl rfl rfl rfl rfl rfl ?_
    refine Go.Sl.L.off rfl rfl rfl rfl rfl rfl ?_
    refine Go.Sl.L.pu rfl rfl trivial (by first | exact pu_pick_t rfl rfl | exact pu_pick_f rfl rfl) ?_
    refine Go.Sl.L.pu rfl rfl trivial (pu_move rfl) ?_
    refine Go.Sl.L.off rfl rfl rfl rfl rfl rfl ?_
    refine Go.Sl.L.off rfl rfl rfl rfl rfl rfl ?_
    refine Go.Sl.L.off rfl rfl rfl rfl rfl rfl ?_
    refine Go.Sl.L.off rfl rfl rfl rfl rfl rfl ?_
    refine Go.Sl.L.off rfl rfl rfl rfl rfl rfl ?_
    refine Go.Sl.L.off rfl rfl rfl rfl rfl rfl ?_
    refine Go.Sl.L.pu rfl rfl trivial (by first | exact pu_pick_t rfl rfl | exact pu_pick_f rfl rfl) ?_
    refine Go.Sl.L.pu rfl rfl trivial (pu_assign rfl) ?_
    refine Go.Sl.L.nil ?_
    refine Gs.then_n ?_
    refine Gs.ret ?_
    exact Gs.fin1 Tryd.results35 rfl _ (⟨by first | (simp only [thereB, hkn, hg2, hg6, hg10, hg14, hg18, Bool.true_and]; done) | (simp only [thereB, hg18, Bool.and_false, Bool.false_and]; done) | (simp only [thereB, hg14, Bool.and_false, Bool.false_and]; done) | (simp only [thereB, hg10, Bool.and_false, Bool.false_and]; done) | (simp only [thereB, hg6, Bool.and_false, Bool.false_and]; done) | (simp only [thereB, hg2, Bool.and_false, Bool.false_and]; done), rfl⟩) (by repeat constructor)
theorem some12_spec (b : Nat) (a : Option Addr) (c : Nat) (L : List Rec) (hL : L.length ≤ 1000) (hT : TOk L) (o : Int) (k : Nat) (hk : k ≤ 5) (i : Int) :
    Ct Tryd.prog 49 [ptr b, int o, int (5 - (k : Int)), int i] [cl b 35 (rtC a L c), sl 42 5 recC a c L]
      (fun v hs => v = .bool (L.any (inR o k i)) ∧ hs = [cl b 35 (rtC a L c), sl 42 5 recC a c L]) := by
  have hpk := pow_in hk
  refine Ct.intro Tryd.func49 rfl (by kernel_rfl) 48 Tryd.ntmps49 (Nat.le_of_ble_eq_true rfl) fun w0 R => ?_
  refine Gs.slAddr (SlH.own (by repeat constructor) : SlH _ _ 5 recC a L) fun ab ao ha => ?_
  refine Gs.seq ?_
  refine Gs.reg ?_
  refine Go.Sl.L.pu rfl rfl trivial (pu_assign rfl) ?_
  refine Go.Sl.L.nil ?_
  refine Gs.then_n ?_
  refine Gs.seq ?_
  refine Gs.reg ?_
  refine Go.Sl.L.pu rfl rfl trivial (pu_move rfl) ?_
  refine Go.Sl.L.ac rfl rfl trivial (as_call (span12_spec k hk _ rfl) (by repeat constructor) (by repeat constructor)) ?_
  rintro _ _ ⟨_, ⟨rfl, rfl⟩, rfl⟩
  refine Go.Sl.L.pu rfl rfl trivial (pu_assign rfl) ?_
  refine Go.Sl.L.nil ?_
  refine Gs.then_n ?_
  refine Gs.seq ?_
  refine Gs.seq ?_
  refine Gs.reg ?_
  refine Go.Sl.L.pu rfl rfl trivial (pu_assign rfl) ?_
  refine Go.Sl.L.nil ?_
  refine Gs.then_n ?_
  refine Gs.block ?_
  refine Gs.loop1 (fun j : Nat => j ≤ L.length ∧ (L.take j).any (inR o k i) = false) (fun j => [(0, ptr b), (1, int o), (3, int i), (9, int (4 ^ k : Int)), (10, int j)]) (fun j => [cl b 35 (rtC a L c), sl 42 5 recC a c L] ++ R) (fun j => L.length - j) 0 (⟨Nat.zero_le _, rfl⟩) (by repeat constructor) (by repeat constructor) (fun j ⟨hj, hn⟩ => ?_)
  refine Gs.seq ?_
  refine Gs.seq ?_
  refine Gs.reg ?_
  refine Go.Sl.L.pu rfl rfl trivial (pu_move rfl) ?_
  refine Go.Sl.L.pu rfl rfl trivial (pu_move rfl) ?_
  refine Go.Sl.L.pu rfl rfl trivial (by first | exact pu_nil rfl | exact pu_nilF rfl) ?_
  refine Go.Sl.L.pu rfl rfl trivial (pu_fa fa_35_0 rfl) ?_
  refine Go.Sl.L.rd rfl rfl trivial (rd_ld na_22 rfl (Rdc.cl1 (by repeat constructor) rfl)) ?_
  refine Go.Sl.L.pu rfl rfl trivial (pu_len Tryd.underlying22 rfl) ?_
  refine Go.Sl.L.pu rfl rfl trivial (pu_lt rfl rfl) ?_
  refine Go.Sl.L.nil ?_
  refine Gs.then_n ?_
  refine Gs.cond rfl (fun hc0 => ?_) (fun hc0 => ?_)
  · skip
    have hlt : j < L.length := by have := of_decide_eq_true hc0; omega
    obtain ⟨r, hr⟩ : ∃ r, L[j]? = some r := ⟨L[j], by simp [hlt]⟩
    obtain rfl := ha (by rintro rfl; simp at hlt)
    obtain ⟨q1, q2, q3, q4⟩ := rec_q (hT.may r (List.mem_of_getElem? hr))
    have hdiv : IntKind.i64.wrap (r.q.tdiv (4 ^ k)) = r.q / 4 ^ k := by
      have h0 : 0 ≤ r.q / 4 ^ k := Int.ediv_nonneg (by omega) (by omega)
      have h1 : r.q / 4 ^ k ≤ r.q := Int.ediv_le_self _ (by omega)
      rw [Int.tdiv_eq_ediv_of_nonneg (by omega), wrap_in (by omega) (by omega)]
    refine Gs.skip ?_
    refine Gs.then_n ?_
    refine Gs.seq ?_
    refine Gs.block ?_
    refine Gs.seq ?_
    refine Gs.reg ?_
    refine Go.Sl.L.pu rfl rfl trivial (pu_move rfl) ?_
    refine Go.Sl.L.pu rfl rfl trivial (by first | exact pu_nil rfl | exact pu_nilF rfl) ?_
    refine Go.Sl.L.pu rfl rfl trivial (pu_fa fa_35_0 rfl) ?_
    refine Go.Sl.L.rd rfl rfl trivial (rd_ld na_22 rfl (Rdc.cl1 (by repeat constructor) rfl)) ?_
    refine Go.Sl.L.pu rfl rfl trivial (pu_move rfl) ?_
    refine Go.Sl.L.pu rfl rfl trivial (pu_ia se_22 rfl rfl (by omega) (by omega)) ?_
    refine Go.Sl.L.pu rfl rfl trivial (pu_fa fa_42_0 rfl) ?_
    refine Go.Sl.L.pu rfl rfl trivial (pu_fa fa_38_0 rfl) ?_
    refine Go.Sl.L.rd rfl rfl trivial (rd_ld na_3 rfl (Rdc.elp 1 (SlH.own (by repeat constructor)) hr rfl rfl)) ?_
    refine Go.Sl.L.pu rfl rfl trivial (pu_move rfl) ?_
    refine Go.Sl.L.pu rfl rfl trivial (pu_eq rfl rfl) ?_
    refine Go.Sl.L.puB rfl rfl trivial (pu_move rfl) (fun hg11 => ?_) (fun hg11 => ?_)
    · skip
      have hro : r.o = o := of_decide_eq_true hg11
      refine Go.Sl.L.pu rfl rfl ⟨_, rfl, rfl⟩ (pu_move rfl) ?_
      refine Go.Sl.L.pu rfl rfl ⟨_, rfl, rfl⟩ (by first | exact pu_nil rfl | exact pu_nilF rfl) ?_
      refine Go.Sl.L.pu rfl rfl ⟨_, rfl, rfl⟩ (pu_fa fa_35_0 rfl) ?_
      refine Go.Sl.L.rd rfl rfl ⟨_, rfl, rfl⟩ (rd_ld na_22 rfl (Rdc.cl1 (by repeat constructor) rfl)) ?_
      refine Go.Sl.L.pu rfl rfl ⟨_, rfl, rfl⟩ (pu_move rfl) ?_
      refine Go.Sl.L.pu rfl rfl ⟨_, rfl, rfl⟩ (pu_ia se_22 rfl rfl (by omega) (by omega)) ?_
      refine Go.Sl.L.pu rfl rfl ⟨_, rfl, rfl⟩ (pu_fa fa_42_0 rfl) ?_
      refine Go.Sl.L.pu rfl rfl ⟨_, rfl, rfl⟩ (pu_fa fa_38_1 rfl) ?_
      refine Go.Sl.L.rd rfl rfl ⟨_, rfl, rfl⟩ (rd_ld na_3 rfl (Rdc.elp 1 (SlH.own (by repeat constructor)) hr rfl rfl)) ?_
      refine Go.Sl.L.pu rfl rfl ⟨_, rfl, rfl⟩ (pu_move rfl) ?_
      refine Go.Sl.L.pu rfl rfl ⟨_, rfl, rfl⟩ (pu_quo rfl rfl (by omega)) ?_
      rw [hdiv]
      refine Go.Sl.L.pu rfl rfl ⟨_, rfl, rfl⟩ (pu_move rfl) ?_
      refine Go.Sl.L.pu rfl rfl ⟨_, rfl, rfl⟩ (pu_eq rfl rfl) ?_
      refine Go.Sl.L.pu rfl rfl trivial (by first | exact pu_pick_t rfl rfl | exact pu_pick_f rfl rfl) ?_
      refine Go.Sl.L.nil ?_
      refine Gs.then_n ?_
      refine Gs.cond rfl (fun hc1 => ?_) (fun hc1 => ?_)
      · skip
        have hyes : L.any (inR o k i) = true := List.any_eq_true.2 ⟨r, List.mem_of_getElem? hr, by have h1 : r.q / 4 ^ k = i := of_decide_eq_true hc1; simp [inR, hro, h1]⟩
        refine Gs.seq ?_
        refine Gs.reg ?_
        refine Go.Sl.L.pu rfl rfl trivial (pu_assign rfl) ?_
        refine Go.Sl.L.nil ?_
        refine Gs.then_n ?_
        refine Gs.ret ?_
        refine Gs.blk_r ?_
        refine Gs.then_r ?_
        refine Gs.then_r ?_
        refine Gs.blk_r ?_
        refine Gs.then_r ?_
        exact Gs.fin1 Tryd.results49 rfl _ (⟨by rw [hyes], rfl⟩) (by repeat constructor)
      · skip
        have hno : inR o k i r = false := by have : decide (r.q / 4 ^ k = i) = false := hc1; simp only [inR, this, Bool.and_false]
        refine Gs.skip ?_
        refine Gs.blk_n ?_
        refine Gs.then_n ?_
        refine Gs.reg ?_
        refine Go.Sl.L.pu rfl rfl trivial (pu_move rfl) ?_
        refine Go.Sl.L.pu rfl rfl trivial (by first | exact pu_addI rfl rfl rfl (by omega) (by omega) | exact pu_add rfl rfl) ?_
        refine Go.Sl.L.pu rfl rfl trivial (pu_assign rfl) ?_
        refine Go.Sl.L.nil ?_
        refine Gs.then_n ?_
        exact Gs.again1 (j + 1) ⟨hlt, by rw [any_take hr, hn, hno]; rfl⟩ (by omega) (by repeat constructor) (by repeat constructor)
    · skip
      have hno : inR o k i r = false := by have : decide (r.o = o) = false := hg11; simp only [inR, this, Bool.false_and]
      refine Go.Sl.L.off rfl rfl rfl rfl rfl rfl ?_
      refine Go.Sl.L.off rfl rfl rfl rfl rfl rfl ?_
      refine Go.Sl.L.off rfl rfl rfl rfl rfl rfl ?_
      refine Go.Sl.L.off rfl rfl rfl rfl rfl rfl ?_
      refine Go.Sl.L.off rfl rfl rfl rfl rfl rfl ?_
      refine Go.Sl.L.off rfl rfl rfl rfl rfl rfl ?_
      refine Go.Sl.L.off rfl rfl rfl rfl rfl rfl ?_
      refine Go.Sl.L.off rfl rfl rfl rfl rfl rfl ?_
      refine Go.Sl.L.off rfl rfl rfl rfl rfl rfl ?_
      refine Go.Sl.L.off rfl rfl rfl rfl rfl rfl ?_
      refine Go.Sl.L.off rfl rfl rfl rfl rfl rfl ?_
      refine Go.Sl.L.off rfl rfl rfl rfl rfl rfl ?_
      refine Go.Sl.L.off rfl rfl rfl rfl rfl rfl ?_
      refine Go.Sl.L.pu rfl rfl trivial (by first | exact pu_pick_t rfl rfl | exact pu_pick_f rfl rfl) ?_
      refine Go.Sl.L.nil ?_
      refine Gs.then_n ?_
      refine Gs.cond_f rfl ?_
      refine Gs.skip ?_
      refine Gs.blk_n ?_
      refine Gs.then_n ?_
      refine Gs.reg ?_
      refine Go.Sl.L.pu rfl rfl trivial (pu_move rfl) ?_
      refine Go.Sl.L.pu rfl rfl trivial (by first | exact pu_addI rfl rfl rfl (by omega) (by omega) | exact pu_add rfl rfl) ?_
      refine Go.Sl.L.pu rfl rfl trivial (pu_assign rfl) ?_
      refine Go.Sl.L.nil ?_
      refine Gs.then_n ?_
      exact Gs.again1 (j + 1) ⟨hlt, by rw [any_take hr, hn, hno]; rfl⟩ (by omega) (by repeat constructor) (by repeat constructor)
  · skip
    have hge : j = L.length := by have := of_decide_eq_false hc0; omega
    rw [hge, List.take_length] at hn
    refine Gs.exit ?_
    refine Gs.then_x ?_
    refine Gs.then_x ?_
    refine Gs.blk_hit ?_
    refine Gs.then_n ?_
    refine Gs.seq ?_
    refine Gs.reg ?_
    refine Go.Sl.L.pu rfl rfl trivial (pu_assign rfl) ?_
    refine Go.Sl.L.nil ?_
    refine Gs.then_n ?_
    refine Gs.ret ?_
    exact Gs.fin1 Tryd.results49 rfl _ (⟨by rw [hn], rfl⟩) (by repeat constructor)
theorem any_cnt {L : List Rec} {o i : Int} {k : Nat} : (L.any (inR o k i) = true) ↔ ¬ cnt L o k i = 0 := by
  unfold cnt
  rw [List.length_eq_zero_iff, List.filter_eq_nil_iff, List.any_eq_true]
  simp
theorem sum12_spec {h0 : Hp} (T : Tabs h0) (b : Nat) (a : Option Addr) (c : Nat) (L : List Rec) (hL : L.length ≤ 1000) (hT : TOk L) (o : Int) : ∀ (k : Nat) (i : Int), k ≤ 5 → 0 ≤ i → (i + 1) * 4 ^ k ≤ 1024 →
    Ct Tryd.prog 36 [ptr b, int o, int (5 - (k : Int)), int i] [ro h0, cl b 35 (rtC a L c), sl 42 5 recC a c L]
      (fun v hs => v = .int .u64 (tsum L o k i) ∧ hs = [ro h0, cl b 35 (rtC a L c), sl 42 5 recC a c L]) := by
  intro k
  induction k with
  | zero =>
    intro i hk hi0 hi1
    refine Ct.intro Tryd.func36 rfl (by kernel_rfl) 56 Tryd.ntmps36 (Nat.le_of_ble_eq_true rfl) fun w0 R => ?_
    refine Gs.slAddr (SlH.own (by repeat constructor) : SlH _ _ 5 recC a L) fun ab ao ha => ?_
    refine Gs.seq ?_
    refine Gs.reg ?_
    refine Go.Sl.L.pu rfl rfl trivial (pu_assign rfl) ?_
    refine Go.Sl.L.nil ?_
    refine Gs.then_n ?_
    refine Gs.seq ?_
    refine Gs.seq ?_
    refine Gs.reg ?_
    refine Go.Sl.L.pu rfl rfl trivial (pu_move rfl) ?_
    refine Go.Sl.L.pu rfl rfl trivial (pu_move rfl) ?_
    refine Go.Sl.L.pu rfl rfl trivial (pu_move rfl) ?_
    refine Go.Sl.L.pu rfl rfl trivial (pu_move rfl) ?_
    refine Go.Sl.L.ac rfl rfl trivial (as_call (some12_spec b a c L hL hT o 0 hk i) (by repeat constructor) (by repeat constructor)) ?_
    rintro _ _ ⟨_, ⟨rfl, rfl⟩, rfl⟩
    refine Go.Sl.L.pu rfl rfl trivial (pu_not rfl) ?_
    refine Go.Sl.L.nil ?_
    refine Gs.then_n ?_
    refine Gs.cond rfl (fun hc0 => ?_) (fun hc0 => ?_)
    · skip
      have hz : cnt L o 0 i = 0 := by cases h : decide (cnt L o 0 i = 0) with
        | true => exact of_decide_eq_true h
        | false => rw [any_cnt.2 (of_decide_eq_false h)] at hc0; cases hc0
      refine Gs.seq ?_
      refine Gs.reg ?_
      refine Go.Sl.L.pu rfl rfl trivial (pu_assign rfl) ?_
      refine Go.Sl.L.nil ?_
      refine Gs.then_n ?_
      refine Gs.ret ?_
      refine Gs.then_r ?_
      exact Gs.fin1 Tryd.results36 rfl _ (⟨by rw [tsum_zero hz], rfl⟩) (by repeat constructor)
    · skip
      have hz : ¬ cnt L o 0 i = 0 := any_cnt.1 (by simpa using hc0)
      obtain ⟨r, hlk⟩ : ∃ r, lookR L ⟨o, i⟩ = some r := by cases h : lookR L ⟨o, i⟩ with
        | none => exact absurd (inR_look.2 h) hz
        | some r => exact ⟨r, rfl⟩
      have hix := ixR_lt.2 (by rw [hlk]; rfl : (lookR L ⟨o, i⟩).isSome = true)
      have hxr : L[ixR L ⟨o, i⟩]? = some r := by
        have h1 : L[ixR L ⟨o, i⟩]? = some L[ixR L ⟨o, i⟩] := by simp [hix]
        have h2 := ixR_at h1
        rw [hlk] at h2; rw [h1, h2]
      obtain rfl := ha (by rintro rfl; simp at hxr)
      have hrb := hT.may r (lookR_key hlk).2
      have hbt := recB_text hrb
      have hbl := layB_length r
      refine Gs.skip ?_
      refine Gs.then_n ?_
      refine Gs.seq ?_
      refine Gs.seq ?_
      refine Gs.reg ?_
      refine Go.Sl.L.pu rfl rfl trivial (pu_move rfl) ?_
      refine Go.Sl.L.pu rfl rfl trivial (pu_eq rfl rfl) ?_
      refine Go.Sl.L.nil ?_
      refine Gs.then_n ?_
      refine Gs.cond_t rfl ?_
      refine Gs.seq ?_
      refine Gs.regD mixed (by kernel_rfl) ?_
      refine Rg.pu 0 rfl rfl (by kernel_rfl) trivial (pu_move rfl) ?_
      refine Rg.pu 1 rfl rfl (by kernel_rfl) trivial (by first | exact pu_nil rfl | exact pu_nilF rfl) ?_
      refine Rg.pu 2 rfl rfl (by kernel_rfl) trivial (pu_fa fa_35_0 rfl) ?_
      refine Rg.rd 3 rfl rfl (by kernel_rfl) trivial (rd_ld na_22 rfl (Rdc.cl1 (by repeat constructor) rfl)) ?_
      refine Rg.pu 4 rfl rfl (by kernel_rfl) trivial (pu_move rfl) ?_
      refine Rg.pu 5 rfl rfl (by kernel_rfl) trivial (pu_move rfl) ?_
      refine Rg.pu 6 rfl rfl (by kernel_rfl) trivial (pu_move rfl) ?_
      refine Rg.pu 7 rfl rfl (by kernel_rfl) trivial (pu_build bd_38 (by repeat constructor) rfl) ?_
      refine Rg.one (by kernel_rfl) (Stp.acR 8 [3] rfl rfl (by kernel_rfl) trivial (as_call (find12_spec b (some ⟨ab, ao, none⟩) c L hL ⟨o, i⟩) (by repeat constructor) (by repeat constructor)) (by rintro _ _ ⟨_, ⟨rfl, rfl⟩, rfl⟩; exact (Reads.cons rfl rfl rfl trivial rfl (rd_ld na_22 rfl (Rdc.cl1 (by repeat constructor) rfl)) Reads.nil)) ?_)
      rintro _ _ ⟨_, ⟨rfl, rfl⟩, rfl⟩
      rw [hlk, if_pos (by rfl)]
      refine Rg.pu 9 rfl rfl (by kernel_rfl) trivial (pu_ia se_22 rfl rfl (by omega) (by omega)) ?_
      refine Rg.rd 10 rfl rfl (by kernel_rfl) trivial (rd_lda ag_42 rfl (Rdc.el0 (SlH.own (by repeat constructor)) hxr rfl rfl) rfl) ?_
      refine Rg.one (by kernel_rfl) (Stp.ac 11 rfl rfl (by kernel_rfl) trivial (as_call (layR4_ok T r hrb) (by repeat constructor) (by repeat constructor))  ?_)
      rintro _ _ ⟨_, ⟨la, lc, rfl, rfl⟩, rfl⟩
      refine Rg.pu 12 rfl rfl (by kernel_rfl) trivial (pu_move rfl) ?_
      refine Rg.pu 13 rfl rfl (by kernel_rfl) trivial (pu_extract rfl rfl) ?_
      refine Rg.pu 14 rfl rfl (by kernel_rfl) trivial (pu_extract rfl rfl) ?_
      refine Rg.pu 15 rfl rfl (by kernel_rfl) trivial (pu_assign rfl) ?_
      refine Rg.pu 16 rfl rfl (by kernel_rfl) trivial (pu_assign rfl) ?_
      refine Rg.end (by kernel_rfl) ?_
      refine Gs.then_n ?_
      refine Gs.seq ?_
      refine Gs.reg ?_
      refine Go.Sl.L.pu rfl rfl trivial (pu_move rfl) ?_
      refine Go.Sl.L.ac rfl rfl trivial (as_call (one5_spec (Srd.own : Srd (sl 5 1 byteC la lc (layB r)) 1 byteC la (layB r)) (by omega)) (by repeat constructor) (by repeat constructor)) ?_
      rintro _ _ ⟨_, ⟨rfl, rfl⟩, rfl⟩
      refine Go.Sl.L.pu rfl rfl trivial (pu_assign rfl) ?_
      refine Go.Sl.L.nil ?_
      refine Gs.then_n ?_
      refine Gs.ret ?_
      refine Gs.then_r ?_
      exact Gs.fin1 Tryd.results36 rfl _ (⟨by simp only [tsum, hlk]; rfl, rfl⟩) (by repeat constructor)
  | succ k ih =>
    intro i hk hi0 hi1
    have hp := pow_in (k := k) (by omega)
    have hib : i + 1 ≤ 256 := by
      have h1 : (4 : Int) ^ (k + 1) = 4 * 4 ^ k := by rw [Int.pow_succ]; exact Int.mul_comm ..
      have h2 : (i + 1) * 4 ≤ (i + 1) * 4 ^ (k + 1) := Int.mul_le_mul_of_nonneg_left (by omega) (by omega)
      omega
    refine Ct.intro Tryd.func36 rfl (by kernel_rfl) 56 Tryd.ntmps36 (Nat.le_of_ble_eq_true rfl) fun w0 R => ?_
    refine Gs.seq ?_
    refine Gs.reg ?_
    refine Go.Sl.L.pu rfl rfl trivial (pu_assign rfl) ?_
    refine Go.Sl.L.nil ?_
    refine Gs.then_n ?_
    refine Gs.seq ?_
    refine Gs.seq ?_
    refine Gs.reg ?_
    refine Go.Sl.L.pu rfl rfl trivial (pu_move rfl) ?_
    refine Go.Sl.L.pu rfl rfl trivial (pu_move rfl) ?_
    refine Go.Sl.L.pu rfl rfl trivial (pu_move rfl) ?_
    refine Go.Sl.L.pu rfl rfl trivial (pu_move rfl) ?_
    refine Go.Sl.L.ac rfl rfl trivial (as_call (some12_spec b a c L hL hT o (k + 1) hk i) (by repeat constructor) (by repeat constructor)) ?_
    rintro _ _ ⟨_, ⟨rfl, rfl⟩, rfl⟩
    refine Go.Sl.L.pu rfl rfl trivial (pu_not rfl) ?_
    refine Go.Sl.L.nil ?_
    refine Gs.then_n ?_
    refine Gs.cond rfl (fun hc0 => ?_) (fun hc0 => ?_)
    · skip
      have hz : cnt L o (k + 1) i = 0 := by cases h : decide (cnt L o (k + 1) i = 0) with
        | true => exact of_decide_eq_true h
        | false => rw [any_cnt.2 (of_decide_eq_false h)] at hc0; cases hc0
      refine Gs.seq ?_
      refine Gs.reg ?_
      refine Go.Sl.L.pu rfl rfl trivial (pu_assign rfl) ?_
      refine Go.Sl.L.nil ?_
      refine Gs.then_n ?_
      refine Gs.ret ?_
      refine Gs.then_r ?_
      exact Gs.fin1 Tryd.results36 rfl _ (⟨by rw [tsum_zero hz], rfl⟩) (by repeat constructor)
    · skip
      have hz : ¬ cnt L o (k + 1) i = 0 := any_cnt.1 (by simpa using hc0)
      refine Gs.skip ?_
      refine Gs.then_n ?_
      refine Gs.seq ?_
      refine Gs.seq ?_
      refine Gs.reg ?_
      refine Go.Sl.L.pu rfl rfl trivial (pu_move rfl) ?_
      refine Go.Sl.L.pu rfl rfl trivial (pu_eq rfl rfl) ?_
      refine Go.Sl.L.nil ?_
      refine Gs.then_n ?_
      refine Gs.cond_ff rfl (decide_eq_false (by omega)) ?_
      refine Gs.skip ?_
      refine Gs.then_n ?_
      refine Gs.seq ?_
      refine Gs.reg ?_
      refine Go.Sl.L.pu rfl rfl trivial (pu_assign rfl) ?_
      refine Go.Sl.L.nil ?_
      refine Gs.slNil 51 1 u64C ?_
      refine Gs.then_n ?_
      refine Gs.seq ?_
      refine Gs.seq ?_
      refine Gs.reg ?_
      refine Go.Sl.L.pu rfl rfl trivial (pu_assign rfl) ?_
      refine Go.Sl.L.nil ?_
      refine Gs.then_n ?_
      refine Gs.block ?_
      refine Gs.loop1 (fun s : Nat × Option Addr × Nat => s.1 ≤ 4) (fun s => [(0, ptr b), (1, int o), (2, int (5 - ((k + 1 : Nat) : Int))), (3, int i), (11, .slice s.2.1 (sums4 L o k i s.1).length s.2.2), (12, int s.1)]) (fun s => [sl 51 1 u64C s.2.1 s.2.2 (sums4 L o k i s.1), ro h0, cl b 35 (rtC a L c), sl 42 5 recC a c L] ++ R) (fun s => 4 - s.1) (0, none, 0) (Nat.zero_le _) (by repeat constructor) (by repeat constructor) (fun s hs => ?_)
      obtain ⟨j, ba, bc⟩ := s
      dsimp only at hs ⊢
      have hll := sums4_length L o k i j
      refine Gs.seq ?_
      refine Gs.seq ?_
      refine Gs.reg ?_
      refine Go.Sl.L.pu rfl rfl trivial (pu_move rfl) ?_
      refine Go.Sl.L.pu rfl rfl trivial (pu_lt rfl rfl) ?_
      refine Go.Sl.L.nil ?_
      refine Gs.then_n ?_
      refine Gs.cond rfl (fun hc2 => ?_) (fun hc2 => ?_)
      · skip
        have hlt : j < 4 := by have := of_decide_eq_true hc2; omega
        have hnx : (4 * i + (j : Int) + 1) * 4 ^ k ≤ 1024 := by
          have h1 : (4 : Int) ^ (k + 1) = 4 * 4 ^ k := by rw [Int.pow_succ]; exact Int.mul_comm ..
          have h2 : (4 * i + (j : Int) + 1) * 4 ^ k ≤ (4 * i + 4) * 4 ^ k := Int.mul_le_mul_of_nonneg_right (by omega) (by omega)
          have h3 : (4 * i + 4) * (4 : Int) ^ k = (i + 1) * 4 ^ (k + 1) := by rw [h1, ← Int.mul_assoc]; congr 1; omega
          omega
        refine Gs.skip ?_
        refine Gs.then_n ?_
        refine Gs.seq ?_
        refine Gs.block ?_
        refine Gs.reg ?_
        refine Go.Sl.L.pu rfl rfl trivial (pu_move rfl) ?_
        refine Go.Sl.L.pu rfl rfl trivial (pu_move rfl) ?_
        refine Go.Sl.L.pu rfl rfl trivial (pu_move rfl) ?_
        refine Go.Sl.L.pu rfl rfl trivial (pu_move rfl) ?_
        refine Go.Sl.L.pu rfl rfl trivial (pu_addI (z := 5 - (k : Int)) rfl rfl (by omega) (by omega) (by omega)) ?_
        refine Go.Sl.L.pu rfl rfl trivial (pu_move rfl) ?_
        refine Go.Sl.L.pu rfl rfl trivial (pu_mulI (z := 4 * i) rfl rfl (by omega) (by omega) (by omega)) ?_
        refine Go.Sl.L.pu rfl rfl trivial (pu_move rfl) ?_
        refine Go.Sl.L.pu rfl rfl trivial (pu_addI (z := 4 * i + (j : Int)) rfl rfl rfl (by omega) (by omega)) ?_
        refine Go.Sl.L.ac rfl rfl trivial (as_call (ih (4 * i + (j : Int)) (by omega) (by omega) hnx) (by repeat constructor) (by repeat constructor)) ?_
        rintro _ _ ⟨_, ⟨rfl, rfl⟩, rfl⟩
        refine Go.Sl.L.ac rfl rfl trivial (ac_lit encC_51 ([tsum L o k (4 * i + (j : Int))]) et_96 ek_51 rfl (by repeat constructor) rfl rfl (by decide)) ?_
        rintro _ _ ⟨a52, rfl, rfl⟩
        refine Go.Sl.L.ac rfl rfl trivial (ac_append (xs := sums4 L o k i j) (ys := [tsum L o k (4 * i + (j : Int))]) et_96 ek_51 rfl rfl (by repeat constructor) (SrcH.sl Tryd.underlying96 ek_51 (SlH.own (by repeat constructor))) (by first | omega | (simp; omega)) (by first | omega | (simp; omega))) ?_
        rintro _ _ ⟨a53, c53, rfl, rfl⟩
        refine Go.Sl.L.pu rfl rfl trivial (pu_assign rfl) ?_
        refine Go.Sl.L.nil ?_
        rw [← sums4_succ]
        refine Gs.blk_n ?_
        refine Gs.then_n ?_
        refine Gs.reg ?_
        refine Go.Sl.L.pu rfl rfl trivial (pu_move rfl) ?_
        refine Go.Sl.L.pu rfl rfl trivial (by first | exact pu_addI rfl rfl rfl (by omega) (by omega) | exact pu_add rfl rfl) ?_
        refine Go.Sl.L.pu rfl rfl trivial (pu_assign rfl) ?_
        refine Go.Sl.L.nil ?_
        refine Gs.then_n ?_
        exact Gs.again1 (j + 1, a53, c53) (by show j + 1 ≤ 4; omega) (by show 4 - (j + 1) < 4 - j; omega) (by repeat constructor) (by repeat constructor)
      · skip
        have hge : j = 4 := by have := of_decide_eq_false hc2; omega
        subst hge
        refine Gs.exit ?_
        refine Gs.then_x ?_
        refine Gs.then_x ?_
        refine Gs.blk_hit ?_
        refine Gs.then_n ?_
        refine Gs.seq ?_
        refine Gs.reg ?_
        refine Go.Sl.L.pu rfl rfl trivial (pu_move rfl) ?_
        refine Go.Sl.L.ac rfl rfl trivial (as_call (all5_spec (ds := sums4 L o k i 4) Srd.own (by omega)) (by repeat constructor) (by repeat constructor)) ?_
        rintro _ _ ⟨_, ⟨rfl, rfl⟩, rfl⟩
        refine Go.Sl.L.pu rfl rfl trivial (pu_assign rfl) ?_
        refine Go.Sl.L.nil ?_
        refine Gs.then_n ?_
        refine Gs.ret ?_
        exact Gs.fin1 Tryd.results36 rfl _ (⟨by simp only [tsum, hz, if_false]; congr 1; simp [sums4, List.range_succ], rfl⟩) (by repeat constructor)
theorem Sum12_spec {h0 : Hp} (T : Tabs h0) (b : Nat) (L : List Rec) (hL : L.length ≤ 1000) (hT : TOk L) (o l i : Int) :
    Ct Tryd.prog 19 [ptr b, int o, int l, int i] [ro h0, rt b L] (fun v hs => v = .tuple #[.int .u64 (sumT L o l i), .bool (thereB o l i)] ∧ hs = [ro h0, rt b L]) := by
  refine Ct.intro Tryd.func19 rfl (by kernel_rfl) 20 Tryd.ntmps19 (Nat.le_of_ble_eq_true rfl) fun w0 R => ?_
  refine Gs.rtOpen (by repeat constructor) fun a c => ?_
  refine Gs.seq ?_
  refine Gs.reg ?_
  refine Go.Sl.L.pu rfl rfl trivial (pu_assign rfl) ?_
  refine Go.Sl.L.pu rfl rfl trivial (pu_assign rfl) ?_
  refine Go.Sl.L.nil ?_
  refine Gs.then_n ?_
  refine Gs.seq ?_
  refine Gs.seq ?_
  refine Gs.reg ?_
  refine Go.Sl.L.pu rfl rfl trivial (pu_move rfl) ?_
  refine Go.Sl.L.pu rfl rfl trivial (pu_move rfl) ?_
  refine Go.Sl.L.pu rfl rfl trivial (pu_move rfl) ?_
  refine Go.Sl.L.ac rfl rfl trivial (as_call (there12_spec o l i) (by repeat constructor) (by repeat constructor)) ?_
  rintro _ _ ⟨_, ⟨rfl, rfl⟩, rfl⟩
  refine Go.Sl.L.pu rfl rfl trivial (pu_not rfl) ?_
  refine Go.Sl.L.nil ?_
  refine Gs.then_n ?_
  refine Gs.cond rfl (fun hc0 => ?_) (fun hc0 => ?_)
  · skip
    have hno : thereB o l i = false := by simpa using hc0
    refine Gs.seq ?_
    refine Gs.reg ?_
    refine Go.Sl.L.pu rfl rfl trivial (pu_assign rfl) ?_
    refine Go.Sl.L.pu rfl rfl trivial (pu_assign rfl) ?_
    refine Go.Sl.L.nil ?_
    refine Gs.then_n ?_
    refine Gs.ret ?_
    refine Gs.then_r ?_
    refine Gs.rtClose a c (by repeat constructor) ?_
    exact Gs.fin2 Tryd.results19 rfl rfl _ (⟨by rw [sumT, hno]; rfl, rfl⟩) (by repeat constructor)
  · skip
    have hth : thereB o l i = true := by simpa using hc0
    obtain ⟨b1, b2, b3, b4, b5, b6, b7⟩ := there_bound hth
    obtain ⟨k, hk, rfl⟩ : ∃ k : Nat, k ≤ 5 ∧ l = 5 - (k : Int) := ⟨(5 - l).toNat, by omega, by omega⟩
    have hkn : (5 - (k : Int)).toNat = 5 - k := by omega
    rw [hkn] at b6
    refine Gs.skip ?_
    refine Gs.then_n ?_
    refine Gs.seq ?_
    refine Gs.reg ?_
    refine Go.Sl.L.pu rfl rfl trivial (pu_move rfl) ?_
    refine Go.Sl.L.pu rfl rfl trivial (pu_move rfl) ?_
    refine Go.Sl.L.pu rfl rfl trivial (pu_move rfl) ?_
    refine Go.Sl.L.pu rfl rfl trivial (pu_move rfl) ?_
    refine Go.Sl.L.ac rfl rfl trivial (as_call (sum12_spec T b a c L hL hT o k i hk b5 (pow_split hk b6)) (by repeat constructor) (by repeat constructor)) ?_
    rintro _ _ ⟨_, ⟨rfl, rfl⟩, rfl⟩
    refine Go.Sl.L.pu rfl rfl trivial (pu_assign rfl) ?_
    refine Go.Sl.L.pu rfl rfl trivial (pu_assign rfl) ?_
    refine Go.Sl.L.nil ?_
    refine Gs.then_n ?_
    refine Gs.ret ?_
    refine Gs.rtClose a c (by repeat constructor) ?_
    exact Gs.fin2 Tryd.results19 rfl rfl _ (⟨by rw [sumT, if_pos hth, hth, hkn, show 5 - (5 - k) = k by omega], rfl⟩) (by repeat constructor)
end Go.Proofs.YthlnjkfahmebjaaDoor
