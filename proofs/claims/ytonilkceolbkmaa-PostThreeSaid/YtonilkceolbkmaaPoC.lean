/- Walks: find, at (ref10); order, BinarySearchFunc, find (post). -/
import Derived.Test.YtonilkceolbkmaaPoB
import Derived.Test.YtonilkceolbkmaaBit
namespace Go.Proofs.Ytonilkceolbkmaa
open Go Go.Sl Go.Gv Go.Po
set_option maxRecDepth 100000
def ixP (ps : List PostV) (k : Key) : Nat := ps.findIdx fun p => decide (p.k = k)
theorem ixP_not {ps : List PostV} {k : Key} {i : Nat} {p : PostV} (hi : i < ixP ps k) (hr : ps[i]? = some p) : p.k ≠ k := by
  obtain ⟨hl, rfl⟩ := List.getElem?_eq_some_iff.1 hr
  have := List.not_of_lt_findIdx (p := fun p : PostV => decide (p.k = k)) (xs := ps) hi
  simpa using this
theorem ixP_look {ps : List PostV} {k : Key} : ps[ixP ps k]? = lookP ps k := by
  unfold ixP lookP
  induction ps with
  | nil => rfl
  | cons x l ih =>
    rw [List.findIdx_cons, List.find?_cons]
    by_cases hx : x.k = k
    · simp [hx]
    · simp [hx]; exact ih
theorem ixP_lt {ps : List PostV} {k : Key} : ixP ps k < ps.length ↔ (lookP ps k).isSome = true := by
  unfold ixP lookP; rw [List.findIdx_lt_length, List.find?_isSome]
theorem find10_spec {S : HProp} {a : Option Addr} {c : Nat} {ps : List PostV} (hS : Srd S 3 postC a ps) (hl : ps.length ≤ 1000) (k : Key) :
    Ct Try.prog 39 [.slice a ps.length c, keyV k] [S] (fun v hs => v = int (if (lookP ps k).isSome then ixP ps k else -1) ∧ hs = [S]) := by
  refine Ct.intro Try.func39 rfl (by kernel_rfl) 20 Try.ntmps39 (Nat.le_of_ble_eq_true rfl) fun w0 R => ?_
  refine Gs.slAddr (hS.h (by repeat constructor)) fun ab ao ha => ?_
  refine Gs.seq ?_
  refine Gs.reg ?_
  refine Go.Sl.L.ac rfl rfl trivial (ac_box rfl rfl) ?_
  rintro _ _ ⟨kb, rfl, rfl⟩
  refine Go.Sl.L.pu rfl rfl trivial (pu_assign rfl) ?_
  refine Go.Sl.L.nil ?_
  refine Gs.then_n ?_
  refine Gs.seq ?_
  refine Gs.seq ?_
  refine Gs.reg ?_
  refine Go.Sl.L.pu rfl rfl trivial (pu_assign rfl) ?_
  refine Go.Sl.L.nil ?_
  refine Gs.then_n ?_
  refine Gs.block ?_
  refine Gs.loop1 (fun i : Nat => i ≤ ixP ps k ∧ i ≤ ps.length) (fun i => [(0, .slice a ps.length c), (3, ptr kb), (5, int i)]) (fun i => [S, cl kb 34 (keyC k)] ++ R) (fun i => ps.length - i) 0 (⟨Nat.zero_le _, Nat.zero_le _⟩) (by repeat constructor) (by repeat constructor) (fun i ⟨hi, hi2⟩ => ?_)
  refine Gs.seq ?_
  refine Gs.seq ?_
  refine Gs.reg ?_
  refine Go.Sl.L.pu rfl rfl trivial (pu_move rfl) ?_
  refine Go.Sl.L.pu rfl rfl trivial (pu_move rfl) ?_
  refine Go.Sl.L.pu rfl rfl trivial (pu_len Try.underlying30 rfl) ?_
  refine Go.Sl.L.pu rfl rfl trivial (pu_lt rfl rfl) ?_
  refine Go.Sl.L.nil ?_
  refine Gs.then_n ?_
  refine Gs.cond rfl (fun hc0 => ?_) (fun hc0 => ?_)
  · skip
    have hlt : i < ps.length := by have := of_decide_eq_true hc0; omega
    obtain ⟨r, hr⟩ : ∃ r, ps[i]? = some r := ⟨ps[i], by simp [hlt]⟩
    obtain rfl := ha (by rintro rfl; simp at hlt)
    refine Gs.skip ?_
    refine Gs.then_n ?_
    refine Gs.seq ?_
    refine Gs.block ?_
    refine Gs.seq ?_
    refine Gs.regD mixed (by kernel_rfl) ?_
    refine Rg.pu 0 rfl rfl (by kernel_rfl) trivial (pu_move rfl) ?_
    refine Rg.pu 1 rfl rfl (by kernel_rfl) trivial (pu_move rfl) ?_
    refine Rg.pu 2 rfl rfl (by kernel_rfl) trivial (pu_ia se_30 rfl rfl (by omega) (by omega)) ?_
    refine Rg.pu 3 rfl rfl (by kernel_rfl) trivial (pu_fa fa_37_0 rfl) ?_
    refine Rg.rd 4 rfl rfl (by kernel_rfl) trivial (rd_lda ag_34 rfl (Rdc.elp 2 (hS.h (by repeat constructor)) hr rfl rfl) rfl) ?_
    refine Rg.rd 5 rfl rfl (by kernel_rfl) trivial (rd_lda ag_34 rfl (Rdc.cl 2 (by repeat constructor) rfl) rfl) ?_
    refine Rg.pu 6 rfl rfl (by kernel_rfl) trivial (pu_eqT (a := r.k) (b := k) cmp_34 (by decide) Try.eqGuardType34 rfl rfl) ?_
    refine Rg.end (by kernel_rfl) ?_
    refine Gs.then_n ?_
    refine Gs.cond rfl (fun hc1 => ?_) (fun hc1 => ?_)
    · skip
      have hk : r.k = k := of_decide_eq_true hc1
      have he : i = ixP ps k := by
        rcases Nat.lt_or_eq_of_le hi with h | h
        · exact (ixP_not h hr hk).elim
        · exact h
      have hs : (lookP ps k).isSome = true := ixP_lt.1 (he ▸ hlt)
      refine Gs.seq ?_
      refine Gs.reg ?_
      refine Go.Sl.L.pu rfl rfl trivial (pu_move rfl) ?_
      refine Go.Sl.L.pu rfl rfl trivial (pu_assign rfl) ?_
      refine Go.Sl.L.nil ?_
      refine Gs.then_n ?_
      refine Gs.ret ?_
      refine Gs.blk_r ?_
      refine Gs.then_r ?_
      refine Gs.then_r ?_
      refine Gs.blk_r ?_
      refine Gs.then_r ?_
      exact Gs.fin1 Try.results39 rfl _ (⟨by simp [hs, he], rfl⟩) (by repeat constructor)
    · skip
      have hk : r.k ≠ k := of_decide_eq_false hc1
      have hne : i ≠ ixP ps k := fun he => hk (by
        have h1 : lookP ps k = some r := by rw [← ixP_look, ← he]; exact hr
        have := List.find?_some h1
        simpa using this)
      refine Gs.skip ?_
      refine Gs.blk_n ?_
      refine Gs.then_n ?_
      refine Gs.reg ?_
      refine Go.Sl.L.pu rfl rfl trivial (pu_move rfl) ?_
      refine Go.Sl.L.pu rfl rfl trivial (by first | exact pu_addI rfl rfl rfl (by omega) (by omega) | exact pu_add rfl rfl) ?_
      refine Go.Sl.L.pu rfl rfl trivial (pu_assign rfl) ?_
      refine Go.Sl.L.nil ?_
      refine Gs.then_n ?_
      exact Gs.again1 (i + 1) (by omega) (by omega) (by repeat constructor) (by repeat constructor)
  · skip
    have hge : i = ps.length := by have := of_decide_eq_false hc0; omega
    have hn : (lookP ps k).isSome = false := by
      cases h : (lookP ps k).isSome with
      | false => rfl
      | true => have := ixP_lt.2 h; omega
    refine Gs.exit ?_
    refine Gs.then_x ?_
    refine Gs.then_x ?_
    refine Gs.blk_hit ?_
    refine Gs.then_n ?_
    refine Gs.seq ?_
    refine Gs.reg ?_
    refine Go.Sl.L.pu rfl rfl trivial (pu_assign rfl) ?_
    refine Go.Sl.L.nil ?_
    refine Gs.then_n ?_
    refine Gs.ret ?_
    exact Gs.fin1 Try.results39 rfl _ (⟨by simp [hn], rfl⟩) (by repeat constructor)
theorem at10_spec {S : HProp} {a : Option Addr} {c : Nat} {l : List Int} (hS : Srd S 1 intC a l) (hl : l.length ≤ 1000) (z : Int) :
    Ct Try.prog 41 [.slice a l.length c, int z] [S] (fun v hs => v = .bool (decide (z ∈ l)) ∧ hs = [S]) := by
  refine Ct.intro Try.func41 rfl (by kernel_rfl) 18 Try.ntmps41 (Nat.le_of_ble_eq_true rfl) fun w0 R => ?_
  refine Gs.slAddr (hS.h (by repeat constructor)) fun ab ao ha => ?_
  refine Gs.seq ?_
  refine Gs.reg ?_
  refine Go.Sl.L.pu rfl rfl trivial (pu_assign rfl) ?_
  refine Go.Sl.L.nil ?_
  refine Gs.then_n ?_
  refine Gs.seq ?_
  refine Gs.seq ?_
  refine Gs.reg ?_
  refine Go.Sl.L.pu rfl rfl trivial (pu_assign rfl) ?_
  refine Go.Sl.L.nil ?_
  refine Gs.then_n ?_
  refine Gs.block ?_
  refine Gs.loop1 (fun i : Nat => i ≤ l.length ∧ z ∉ l.take i) (fun i => [(0, .slice a l.length c), (1, int z), (5, int i)]) (fun i => [S] ++ R) (fun i => l.length - i) 0 (⟨Nat.zero_le _, by simp⟩) (by repeat constructor) (by repeat constructor) (fun i ⟨hi, hq⟩ => ?_)
  refine Gs.seq ?_
  refine Gs.seq ?_
  refine Gs.reg ?_
  refine Go.Sl.L.pu rfl rfl trivial (pu_move rfl) ?_
  refine Go.Sl.L.pu rfl rfl trivial (pu_move rfl) ?_
  refine Go.Sl.L.pu rfl rfl trivial (pu_len Try.underlying35 rfl) ?_
  refine Go.Sl.L.pu rfl rfl trivial (pu_lt rfl rfl) ?_
  refine Go.Sl.L.nil ?_
  refine Gs.then_n ?_
  refine Gs.cond rfl (fun hc0 => ?_) (fun hc0 => ?_)
  · skip
    have hlt : i < l.length := by have := of_decide_eq_true hc0; omega
    obtain ⟨x, hx⟩ : ∃ x, l[i]? = some x := ⟨l[i], by simp [hlt]⟩
    obtain rfl := ha (by rintro rfl; simp at hlt)
    refine Gs.skip ?_
    refine Gs.then_n ?_
    refine Gs.seq ?_
    refine Gs.block ?_
    refine Gs.seq ?_
    refine Gs.reg ?_
    refine Go.Sl.L.pu rfl rfl trivial (pu_move rfl) ?_
    refine Go.Sl.L.pu rfl rfl trivial (pu_move rfl) ?_
    refine Go.Sl.L.pu rfl rfl trivial (pu_ia se_35 rfl rfl (by omega) (by omega)) ?_
    refine Go.Sl.L.rd rfl rfl trivial (rd_ld na_3 rfl (Rdc.el0 (hS.h (by repeat constructor)) hx rfl rfl)) ?_
    refine Go.Sl.L.pu rfl rfl trivial (pu_move rfl) ?_
    refine Go.Sl.L.pu rfl rfl trivial (pu_eq rfl rfl) ?_
    refine Go.Sl.L.nil ?_
    refine Gs.then_n ?_
    refine Gs.cond rfl (fun hc1 => ?_) (fun hc1 => ?_)
    · skip
      have hyes : z ∈ l := by have : x = z := of_decide_eq_true hc1; exact this ▸ List.mem_of_getElem? hx
      refine Gs.seq ?_
      refine Gs.reg ?_
      refine Go.Sl.L.pu rfl rfl trivial (pu_assign rfl) ?_
      refine Go.Sl.L.nil ?_
      refine Gs.then_n ?_
      refine Gs.ret ?_
      refine Gs.blk_r ?_
      refine Gs.then_r ?_
      refine Gs.then_r ?_
      refine Gs.blk_r ?_
      refine Gs.then_r ?_
      exact Gs.fin1 Try.results41 rfl _ (⟨by rw [decide_eq_true hyes], rfl⟩) (by repeat constructor)
    · skip
      have hno : z ∉ l.take (i + 1) := by rw [List.take_add_one, hx]; intro hm; rcases List.mem_append.1 hm with hm | hm; exact hq hm; have h2 : x ≠ z := of_decide_eq_false hc1; simp at hm; exact h2 hm.symm
      refine Gs.skip ?_
      refine Gs.blk_n ?_
      refine Gs.then_n ?_
      refine Gs.reg ?_
      refine Go.Sl.L.pu rfl rfl trivial (pu_move rfl) ?_
      refine Go.Sl.L.pu rfl rfl trivial (by first | exact pu_addI rfl rfl rfl (by omega) (by omega) | exact pu_add rfl rfl) ?_
      refine Go.Sl.L.pu rfl rfl trivial (pu_assign rfl) ?_
      refine Go.Sl.L.nil ?_
      refine Gs.then_n ?_
      exact Gs.again1 (i + 1) ⟨hlt, hno⟩ (by omega) (by repeat constructor) (by repeat constructor)
  · skip
    have hge : i = l.length := by have := of_decide_eq_false hc0; omega
    rw [hge, List.take_length] at hq
    refine Gs.exit ?_
    refine Gs.then_x ?_
    refine Gs.then_x ?_
    refine Gs.blk_hit ?_
    refine Gs.then_n ?_
    refine Gs.seq ?_
    refine Gs.reg ?_
    refine Go.Sl.L.pu rfl rfl trivial (pu_assign rfl) ?_
    refine Go.Sl.L.nil ?_
    refine Gs.then_n ?_
    refine Gs.ret ?_
    exact Gs.fin1 Try.results41 rfl _ (⟨by rw [decide_eq_false hq], rfl⟩) (by repeat constructor)
theorem order_spec (p : PostV) (k : Key) : Ct Try.prog 35 [postV p, keyV k] [] (fun v hs => v = int (ordZ p.k k) ∧ hs = []) := by
  refine Ct.intro Try.func35 rfl (by kernel_rfl) 15 Try.ntmps35 (Nat.le_of_ble_eq_true rfl) fun w0 R => ?_
  refine Gs.seq ?_
  refine Gs.reg ?_
  refine Go.Sl.L.ac rfl rfl trivial (ac_box rfl rfl) ?_
  rintro _ _ ⟨pb, rfl, rfl⟩
  refine Go.Sl.L.ac rfl rfl trivial (ac_box rfl rfl) ?_
  rintro _ _ ⟨kb, rfl, rfl⟩
  refine Go.Sl.L.pu rfl rfl trivial (pu_assign rfl) ?_
  refine Go.Sl.L.nil ?_
  refine Gs.then_n ?_
  refine Gs.seq ?_
  refine Gs.block ?_
  refine Gs.seq ?_
  refine Gs.reg ?_
  refine Go.Sl.L.pu rfl rfl trivial (pu_fa fa_37_0 rfl) ?_
  refine Go.Sl.L.rd rfl rfl trivial (rd_lda ag_34 rfl (Rdc.cl 2 (by repeat constructor) rfl) rfl) ?_
  refine Go.Sl.L.rd rfl rfl trivial (rd_lda ag_34 rfl (Rdc.cl 2 (by repeat constructor) rfl) rfl) ?_
  refine Go.Sl.L.ac rfl rfl trivial (as_call (beforeR_spec p.k k) (by repeat constructor) (by repeat constructor)) ?_
  rintro _ _ ⟨_, ⟨rfl, rfl⟩, rfl⟩
  refine Go.Sl.L.pu rfl rfl trivial (pu_assign rfl) ?_
  refine Go.Sl.L.nil ?_
  refine Gs.then_n ?_
  refine Gs.cond rfl (fun hc0 => ?_) (fun hc0 => ?_)
  · skip
    refine Gs.seq ?_
    refine Gs.reg ?_
    refine Go.Sl.L.pu rfl rfl trivial (pu_assign rfl) ?_
    refine Go.Sl.L.nil ?_
    refine Gs.then_n ?_
    refine Gs.ret ?_
    refine Gs.blk_r ?_
    refine Gs.then_r ?_
    exact Gs.fin1 Try.results35 rfl _ (⟨by simp [ordZ, hc0], rfl⟩) (by repeat constructor)
  · skip
    refine Gs.seq ?_
    refine Gs.reg ?_
    refine Go.Sl.L.rd rfl rfl trivial (rd_lda ag_34 rfl (Rdc.cl 2 (by repeat constructor) rfl) rfl) ?_
    refine Go.Sl.L.pu rfl rfl trivial (pu_fa fa_37_0 rfl) ?_
    refine Go.Sl.L.rd rfl rfl trivial (rd_lda ag_34 rfl (Rdc.cl 2 (by repeat constructor) rfl) rfl) ?_
    refine Go.Sl.L.ac rfl rfl trivial (as_call (beforeR_spec k p.k) (by repeat constructor) (by repeat constructor)) ?_
    rintro _ _ ⟨_, ⟨rfl, rfl⟩, rfl⟩
    refine Go.Sl.L.pu rfl rfl trivial (pu_assign rfl) ?_
    refine Go.Sl.L.nil ?_
    refine Gs.then_n ?_
    refine Gs.cond rfl (fun hc1 => ?_) (fun hc1 => ?_)
    · skip
      refine Gs.seq ?_
      refine Gs.reg ?_
      refine Go.Sl.L.pu rfl rfl trivial (pu_assign rfl) ?_
      refine Go.Sl.L.nil ?_
      refine Gs.then_n ?_
      refine Gs.ret ?_
      refine Gs.blk_r ?_
      refine Gs.then_r ?_
      exact Gs.fin1 Try.results35 rfl _ (⟨by simp [ordZ, hc0, hc1], rfl⟩) (by repeat constructor)
    · skip
      refine Gs.skip ?_
      refine Gs.blk_n ?_
      refine Gs.then_n ?_
      refine Gs.seq ?_
      refine Gs.reg ?_
      refine Go.Sl.L.pu rfl rfl trivial (pu_assign rfl) ?_
      refine Go.Sl.L.nil ?_
      refine Gs.then_n ?_
      refine Gs.ret ?_
      exact Gs.fin1 Try.results35 rfl _ (⟨by simp [ordZ, hc0, hc1], rfl⟩) (by repeat constructor)
theorem ordZ_lt {a k : Key} : decide (ordZ a k < 0) = before a k := by
  unfold ordZ; split
  · rename_i h; rw [h]; rfl
  · rename_i h
    have : before a k = false := by simpa using h
    rw [this]; split <;> rfl
theorem ordZ_eq {a k : Key} : decide (ordZ a k = 0) = decide (a = k) := by
  unfold ordZ; split
  · rename_i h
    have : a ≠ k := fun e => by rw [e, before_irr] at h; cases h
    simp [this]
  · rename_i h
    split
    · rename_i h2
      have : a ≠ k := fun e => by rw [e, before_irr] at h2; cases h2
      simp [this]
    · rename_i h2
      have : a = k := Classical.byContradiction fun hne => by rcases before_total hne with h3 | h3; exact h h3; exact h2 h3
      simp [this]
theorem half {i j : Nat} (hj : i + j ≤ 100000) : IntKind.i64.wrap (shrK .u64 (IntKind.u64.wrap ((i : Int) + (j : Int))) 1) = (((i + j) / 2 : Nat) : Int) := by
  have h1 : IntKind.u64.wrap ((i : Int) + (j : Int)) = (i : Int) + (j : Int) := by simp [IntKind.wrap, IntKind.bits, IntKind.signed]; omega
  rw [h1]
  have h2 : shrK .u64 ((i : Int) + (j : Int)) 1 = ((i : Int) + (j : Int)) / 2 := by
    show ((i : Int) + (j : Int)).fdiv (2 ^ 1) = _
    rw [Int.fdiv_eq_ediv_of_nonneg _ (by decide)]; rfl
  rw [h2, wrap_in (by omega) (by omega)]; omega
abbrev orderV : Value := .func (.func 35) #[] #[]
theorem bsf_spec {S : HProp} {a : Option Addr} {c : Nat} {ps : List PostV} (hS : Srd S 3 postC a ps) (hl : ps.length ≤ 1000) (hasc : ((ps.map PostV.p).map Prod.fst).Pairwise (fun a b => before a b = true)) (k : Key) :
    Ct Try.prog 47 [.slice a ps.length c, keyV k, orderV] [S] (fun v hs => (∃ i : Nat, v = .tuple #[int i, .bool (decide (ps[i]?.map PostV.k = some k))] ∧ cutI ps k i) ∧ hs = [S]) := by
  have hg : ∀ (p : PostV) (k : Key), Ct Try.prog 35 ([] ++ [postV p, keyV k] ++ []) [] (fun v hs => v = int (ordZ p.k k) ∧ hs = []) := fun p k => order_spec p k
  refine Ct.intro Try.func47 rfl (by kernel_rfl) 49 Try.ntmps47 (Nat.le_of_ble_eq_true rfl) fun w0 R => ?_
  refine Gs.slAddr (hS.h (by repeat constructor)) fun ab ao ha => ?_
  refine Gs.seq ?_
  refine Gs.reg ?_
  refine Go.Sl.L.ac rfl rfl trivial (ac_box rfl rfl) ?_
  rintro _ _ ⟨kb, rfl, rfl⟩
  refine Go.Sl.L.pu rfl rfl trivial (pu_assign rfl) ?_
  refine Go.Sl.L.pu rfl rfl trivial (pu_assign rfl) ?_
  refine Go.Sl.L.nil ?_
  refine Gs.then_n ?_
  refine Gs.seq ?_
  refine Gs.reg ?_
  refine Go.Sl.L.pu rfl rfl trivial (pu_move rfl) ?_
  refine Go.Sl.L.pu rfl rfl trivial (pu_len Try.underlying30 rfl) ?_
  refine Go.Sl.L.pu rfl rfl trivial (pu_assign rfl) ?_
  refine Go.Sl.L.nil ?_
  refine Gs.then_n ?_
  refine Gs.seq ?_
  refine Gs.reg ?_
  refine Go.Sl.L.pu rfl rfl trivial (pu_move rfl) ?_
  refine Go.Sl.L.pu rfl rfl trivial (pu_assign rfl) ?_
  refine Go.Sl.L.pu rfl rfl trivial (pu_assign rfl) ?_
  refine Go.Sl.L.nil ?_
  refine Gs.then_n ?_
  refine Gs.seq ?_
  refine Gs.block ?_
  refine Gs.loop1 (fun s : Nat × Nat => s.1 ≤ s.2 ∧ s.2 ≤ ps.length ∧ (∀ m x, m < s.1 → ps[m]? = some x → before x.k k = true) ∧ (∀ m x, s.2 ≤ m → ps[m]? = some x → before x.k k = false)) (fun s => [(0, .slice a ps.length c), (2, orderV), (4, ptr kb), (8, int ps.length), (9, int s.1), (10, int s.2)]) (fun s => [S, cl kb 34 (keyC k)] ++ R) (fun s => s.2 - s.1) (0, ps.length) (⟨Nat.zero_le _, Nat.le_refl _, fun m x h => by omega, fun m x h hx => by have := (List.getElem?_eq_some_iff.1 hx).1; omega⟩) (by repeat constructor) (by repeat constructor) (fun s hs => ?_)
  obtain ⟨i, j⟩ := s
  obtain ⟨hij, hj, hlo, hhi⟩ := hs
  dsimp only at hij hj hlo hhi ⊢
  refine Gs.seq ?_
  refine Gs.seq ?_
  refine Gs.reg ?_
  refine Go.Sl.L.pu rfl rfl trivial (pu_move rfl) ?_
  refine Go.Sl.L.pu rfl rfl trivial (pu_move rfl) ?_
  refine Go.Sl.L.pu rfl rfl trivial (pu_lt rfl rfl) ?_
  refine Go.Sl.L.nil ?_
  refine Gs.then_n ?_
  refine Gs.cond rfl (fun hc0 => ?_) (fun hc0 => ?_)
  · skip
    have hlt : i < j := by have := of_decide_eq_true hc0; omega
    obtain ⟨y, hy⟩ : ∃ x, ps[(i + j) / 2]? = some x := ⟨ps[(i + j) / 2]'(by omega), by simp⟩
    obtain rfl := ha (by rintro rfl; simp at hy)
    refine Gs.skip ?_
    refine Gs.then_n ?_
    refine Gs.block ?_
    refine Gs.seq ?_
    refine Gs.reg ?_
    refine Go.Sl.L.pu rfl rfl trivial (pu_move rfl) ?_
    refine Go.Sl.L.pu rfl rfl trivial (pu_move rfl) ?_
    refine Go.Sl.L.pu rfl rfl trivial (by first | exact pu_addI rfl rfl rfl (by omega) (by omega) | exact pu_add rfl rfl) ?_
    refine Go.Sl.L.pu rfl rfl trivial (pu_conv Try.underlying3 Try.underlying71 rfl) ?_
    refine Go.Sl.L.pu rfl rfl trivial (pu_shr rfl rfl (by omega)) ?_
    refine Go.Sl.L.pu rfl rfl trivial (pu_conv Try.underlying71 Try.underlying3 rfl) ?_
    rw [half (by omega)]
    refine Go.Sl.L.pu rfl rfl trivial (pu_assign rfl) ?_
    refine Go.Sl.L.nil ?_
    refine Gs.then_n ?_
    refine Gs.seq ?_
    refine Gs.regD mixed (by kernel_rfl) ?_
    refine Rg.pu 0 rfl rfl (by kernel_rfl) trivial (pu_move rfl) ?_
    refine Rg.pu 1 rfl rfl (by kernel_rfl) trivial (pu_move rfl) ?_
    refine Rg.pu 2 rfl rfl (by kernel_rfl) trivial (pu_move rfl) ?_
    refine Rg.pu 3 rfl rfl (by kernel_rfl) trivial (pu_ia se_30 rfl rfl (by omega) (by omega)) ?_
    refine Rg.rd 4 rfl rfl (by kernel_rfl) trivial (rd_lda ag_37 rfl (Rdc.el0 (hS.h (by repeat constructor)) hy rfl rfl) rfl) ?_
    refine Rg.rd 5 rfl rfl (by kernel_rfl) trivial (rd_lda ag_34 rfl (Rdc.cl 2 (by repeat constructor) rfl) rfl) ?_
    refine Rg.one (by kernel_rfl) (Stp.ac 6 rfl rfl (by kernel_rfl) trivial (as_callV rfl (hg y k) (by repeat constructor) (by repeat constructor))  ?_)
    rintro _ _ ⟨_, ⟨rfl, rfl⟩, rfl⟩
    refine Rg.pu 7 rfl rfl (by kernel_rfl) trivial (pu_lt rfl rfl) ?_
    refine Rg.end (by kernel_rfl) ?_
    refine Gs.then_n ?_
    refine Gs.cond rfl (fun hc1 => ?_) (fun hc1 => ?_)
    · skip
      have hby : before y.k k = true := by rw [← ordZ_lt]; exact hc1
      have hlo2 : ∀ m x, m < (i + j) / 2 + 1 → ps[m]? = some x → before x.k k = true := fun m x hm hx => by
        rcases Nat.lt_or_eq_of_le (Nat.lt_succ_iff.1 hm) with h | h
        · exact before_trans (asc_lt hasc h hx hy) hby
        · subst h; rw [hy] at hx; cases hx; exact hby
      refine Gs.reg ?_
      refine Go.Sl.L.pu rfl rfl trivial (pu_move rfl) ?_
      refine Go.Sl.L.pu rfl rfl trivial (pu_addI (z := (((i + j) / 2 + 1 : Nat) : Int)) rfl rfl (by omega) (by omega) (by omega)) ?_
      refine Go.Sl.L.pu rfl rfl trivial (pu_assign rfl) ?_
      refine Go.Sl.L.nil ?_
      refine Gs.blk_n ?_
      refine Gs.then_n ?_
      first | exact Gs.again1 ((i + j) / 2 + 1, j) ⟨by show (i + j) / 2 + 1 ≤ j; omega, hj, hlo2, hhi⟩ (by show j - ((i + j) / 2 + 1) < j - i; omega) (by repeat constructor) (by repeat constructor) | exact Gs.again1 (i, (i + j) / 2) ⟨by show i ≤ (i + j) / 2; omega, by show (i + j) / 2 ≤ ps.length; omega, hlo, hhi2⟩ (by show (i + j) / 2 - i < j - i; omega) (by repeat constructor) (by repeat constructor)
    · skip
      have hby : before y.k k = false := by rw [← ordZ_lt]; exact hc1
      have hhi2 : ∀ m x, (i + j) / 2 ≤ m → ps[m]? = some x → before x.k k = false := fun m x hm hx => by
        rcases Nat.lt_or_eq_of_le hm with h | h
        · cases hb : before x.k k with
          | false => rfl
          | true => rw [before_trans (asc_lt hasc h hy hx) hb] at hby; cases hby
        · subst h; rw [hy] at hx; cases hx; exact hby
      refine Gs.reg ?_
      refine Go.Sl.L.pu rfl rfl trivial (pu_move rfl) ?_
      refine Go.Sl.L.pu rfl rfl trivial (pu_assign rfl) ?_
      refine Go.Sl.L.nil ?_
      refine Gs.blk_n ?_
      refine Gs.then_n ?_
      first | exact Gs.again1 ((i + j) / 2 + 1, j) ⟨by show (i + j) / 2 + 1 ≤ j; omega, hj, hlo2, hhi⟩ (by show j - ((i + j) / 2 + 1) < j - i; omega) (by repeat constructor) (by repeat constructor) | exact Gs.again1 (i, (i + j) / 2) ⟨by show i ≤ (i + j) / 2; omega, by show (i + j) / 2 ≤ ps.length; omega, hlo, hhi2⟩ (by show (i + j) / 2 - i < j - i; omega) (by repeat constructor) (by repeat constructor)
  · skip
    have hge : i = j := by have := of_decide_eq_false hc0; omega
    subst hge
    refine Gs.exit ?_
    refine Gs.then_x ?_
    refine Gs.then_x ?_
    refine Gs.blk_hit ?_
    refine Gs.then_n ?_
    refine Gs.seq ?_
    refine Gs.regD mixed (by kernel_rfl) ?_
    refine Rg.pu 0 rfl rfl (by kernel_rfl) trivial (pu_move rfl) ?_
    refine Rg.pu 1 rfl rfl (by kernel_rfl) trivial (pu_move rfl) ?_
    refine Rg.pu 2 rfl rfl (by kernel_rfl) trivial (pu_move rfl) ?_
    refine Rg.pu 3 rfl rfl (by kernel_rfl) trivial (pu_lt rfl rfl) ?_
    refine Rg.puB 4 rfl rfl (by kernel_rfl) trivial (pu_move rfl) (fun hg4 => ?_) (fun hg4 => ?_)
    · skip
      have hlt : i < ps.length := by have := of_decide_eq_true hg4; omega
      obtain ⟨y, hy⟩ : ∃ x, ps[i]? = some x := ⟨ps[i], by simp [hlt]⟩
      obtain rfl := ha (by rintro rfl; simp at hy)
      have hval : ps[i]?.map PostV.k = some y.k := by rw [hy]; rfl
      refine Rg.pu 5 rfl rfl (by kernel_rfl) ⟨_, rfl, rfl⟩ (pu_move rfl) ?_
      refine Rg.pu 6 rfl rfl (by kernel_rfl) ⟨_, rfl, rfl⟩ (pu_move rfl) ?_
      refine Rg.pu 7 rfl rfl (by kernel_rfl) ⟨_, rfl, rfl⟩ (pu_move rfl) ?_
      refine Rg.pu 8 rfl rfl (by kernel_rfl) ⟨_, rfl, rfl⟩ (pu_ia se_30 rfl rfl (by omega) (by omega)) ?_
      refine Rg.rd 9 rfl rfl (by kernel_rfl) ⟨_, rfl, rfl⟩ (rd_lda ag_37 rfl (Rdc.el0 (hS.h (by repeat constructor)) hy rfl rfl) rfl) ?_
      refine Rg.rd 10 rfl rfl (by kernel_rfl) ⟨_, rfl, rfl⟩ (rd_lda ag_34 rfl (Rdc.cl 2 (by repeat constructor) rfl) rfl) ?_
      refine Rg.one (by kernel_rfl) (Stp.ac 11 rfl rfl (by kernel_rfl) ⟨_, rfl, rfl⟩ (as_callV rfl (hg y k) (by repeat constructor) (by repeat constructor))  ?_)
      rintro _ _ ⟨_, ⟨rfl, rfl⟩, rfl⟩
      refine Rg.pu 12 rfl rfl (by kernel_rfl) ⟨_, rfl, rfl⟩ (pu_eq rfl rfl) ?_
      refine Rg.pu 13 rfl rfl (by kernel_rfl) trivial (by first | exact pu_pick_t rfl rfl | exact pu_pick_f rfl rfl) ?_
      refine Rg.pu 14 rfl rfl (by kernel_rfl) trivial (pu_assign rfl) ?_
      refine Rg.pu 15 rfl rfl (by kernel_rfl) trivial (pu_assign rfl) ?_
      refine Rg.end (by kernel_rfl) ?_
      refine Gs.then_n ?_
      refine Gs.ret ?_
      exact Gs.fin2 Try.results47 rfl rfl _ (⟨⟨i, by first | (rw [hval, ordZ_eq]; simp; done) | (rw [hval]; simp), hj, hlo, hhi⟩, rfl⟩) (by repeat constructor)
    · skip
      have hge : i = ps.length := by have := of_decide_eq_false hg4; omega
      have hval : ps[i]?.map PostV.k = none := by rw [hge]; simp
      refine Rg.off 5 rfl rfl (by kernel_rfl) rfl rfl rfl rfl ?_
      refine Rg.off 6 rfl rfl (by kernel_rfl) rfl rfl rfl rfl ?_
      refine Rg.off 7 rfl rfl (by kernel_rfl) rfl rfl rfl rfl ?_
      refine Rg.off 8 rfl rfl (by kernel_rfl) rfl rfl rfl rfl ?_
      refine Rg.off 9 rfl rfl (by kernel_rfl) rfl rfl rfl rfl ?_
      refine Rg.off 10 rfl rfl (by kernel_rfl) rfl rfl rfl rfl ?_
      refine Rg.off 11 rfl rfl (by kernel_rfl) rfl rfl rfl rfl ?_
      refine Rg.off 12 rfl rfl (by kernel_rfl) rfl rfl rfl rfl ?_
      refine Rg.pu 13 rfl rfl (by kernel_rfl) trivial (by first | exact pu_pick_t rfl rfl | exact pu_pick_f rfl rfl) ?_
      refine Rg.pu 14 rfl rfl (by kernel_rfl) trivial (pu_assign rfl) ?_
      refine Rg.pu 15 rfl rfl (by kernel_rfl) trivial (pu_assign rfl) ?_
      refine Rg.end (by kernel_rfl) ?_
      refine Gs.then_n ?_
      refine Gs.ret ?_
      exact Gs.fin2 Try.results47 rfl rfl _ (⟨⟨i, by first | (rw [hval, ordZ_eq]; simp; done) | (rw [hval]; simp), hj, hlo, hhi⟩, rfl⟩) (by repeat constructor)
theorem zpost : postC PostV.zero = [int 0, int 0, .slice none 0 0] := rfl
theorem pfind_spec {S : HProp} {a : Option Addr} {c : Nat} {ps : List PostV} (hS : Srd S 3 postC a ps) (hl : ps.length ≤ 1000) (hasc : ((ps.map PostV.p).map Prod.fst).Pairwise (fun a b => before a b = true)) (k : Key) :
    Ct Try.prog 54 [.slice a ps.length c, keyV k] [S] (fun v hs => v = .tuple #[postV ((lookP ps k).getD PostV.zero), .bool (lookP ps k).isSome] ∧ hs = [S]) := by
  refine Ct.intro Try.func54 rfl (by kernel_rfl) 21 Try.ntmps54 (Nat.le_of_ble_eq_true rfl) fun w0 R => ?_
  refine Gs.slAddr (hS.h (by repeat constructor)) fun ab ao ha => ?_
  refine Gs.seq ?_
  refine Gs.reg ?_
  refine Go.Sl.L.ac rfl rfl trivial (ac_box rfl rfl) ?_
  rintro _ _ ⟨kb, rfl, rfl⟩
  refine Go.Sl.L.ac rfl rfl trivial (ac_alloc zv_37 rfl) ?_
  rintro _ _ ⟨ob, rfl, rfl⟩
  refine Go.Sl.L.pu rfl rfl trivial (pu_assign rfl) ?_
  refine Go.Sl.L.nil ?_
  refine Gs.then_n ?_
  refine Gs.seq ?_
  refine Gs.reg ?_
  refine Go.Sl.L.pu rfl rfl trivial (pu_move rfl) ?_
  refine Go.Sl.L.rd rfl rfl trivial (rd_lda ag_34 rfl (Rdc.cl 2 (by repeat constructor) rfl) rfl) ?_
  refine Go.Sl.L.ac rfl rfl trivial (as_call (bsf_spec hS hl hasc k) (by repeat constructor) (by repeat constructor)) ?_
  rintro _ _ ⟨_, ⟨⟨i, rfl, hcut⟩, rfl⟩, rfl⟩
  refine Go.Sl.L.pu rfl rfl trivial (pu_move rfl) ?_
  refine Go.Sl.L.pu rfl rfl trivial (pu_extract rfl rfl) ?_
  refine Go.Sl.L.pu rfl rfl trivial (pu_extract rfl rfl) ?_
  refine Go.Sl.L.pu rfl rfl trivial (pu_assign rfl) ?_
  refine Go.Sl.L.pu rfl rfl trivial (pu_assign rfl) ?_
  refine Go.Sl.L.nil ?_
  refine Gs.then_n ?_
  refine Gs.seq ?_
  refine Gs.seq ?_
  refine Gs.reg ?_
  refine Go.Sl.L.pu rfl rfl trivial (pu_move rfl) ?_
  refine Go.Sl.L.pu rfl rfl trivial (pu_not rfl) ?_
  refine Go.Sl.L.nil ?_
  refine Gs.then_n ?_
  refine Gs.cond rfl (fun hc0 => ?_) (fun hc0 => ?_)
  · skip
    have hno : lookP ps k = none := (cut_look hcut hasc).2 fun x hx e => by have h := not_t hc0; rw [hx] at h; simp [e] at h
    refine Gs.seq ?_
    refine Gs.reg ?_
    refine Go.Sl.L.pu rfl rfl trivial (pu_build bd_37 (by repeat constructor) rfl) ?_
    refine Go.Sl.L.ac0 rfl trivial (ac_st sz_37 rfl rfl (by repeat constructor) rfl rfl rfl rfl) ?_
    rintro _ _ rfl
    refine Go.Sl.L.pu rfl rfl trivial (pu_assign rfl) ?_
    refine Go.Sl.L.nil ?_
    refine Gs.then_n ?_
    refine Gs.ret ?_
    refine Gs.then_r ?_
    exact Gs.finc2 Try.results54 ag_37 rfl (Rdc.cl 3 (by repeat constructor) rfl) rfl rfl _ (⟨by rw [hno]; rfl, rfl⟩) (by repeat constructor)
  · skip
    have hyes := of_decide_eq_true (not_f hc0)
    obtain ⟨y, hy, hyk⟩ := Option.map_eq_some_iff.1 hyes
    have hlk := (cut_look hcut hasc).1 y hy hyk
    have hlt := (List.getElem?_eq_some_iff.1 hy).1
    obtain rfl := ha (by rintro rfl; simp at hy)
    refine Gs.skip ?_
    refine Gs.then_n ?_
    refine Gs.seq ?_
    refine Gs.reg ?_
    refine Go.Sl.L.pu rfl rfl trivial (pu_move rfl) ?_
    refine Go.Sl.L.pu rfl rfl trivial (pu_move rfl) ?_
    refine Go.Sl.L.pu rfl rfl trivial (pu_ia se_30 rfl rfl (by omega) (by omega)) ?_
    refine Go.Sl.L.rd rfl rfl trivial (rd_lda ag_37 rfl (Rdc.el0 (hS.h (by repeat constructor)) hy rfl rfl) rfl) ?_
    refine Go.Sl.L.ac0 rfl trivial (ac_st sz_37 rfl rfl (by repeat constructor) rfl rfl rfl rfl) ?_
    rintro _ _ rfl
    refine Go.Sl.L.pu rfl rfl trivial (pu_assign rfl) ?_
    refine Go.Sl.L.nil ?_
    refine Gs.then_n ?_
    refine Gs.ret ?_
    exact Gs.finc2 Try.results54 ag_37 rfl (Rdc.cl 3 (by repeat constructor) rfl) rfl rfl _ (⟨by rw [hlk]; rfl, rfl⟩) (by repeat constructor)
end Go.Proofs.Ytonilkceolbkmaa
