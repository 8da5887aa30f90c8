/- Walks: Contains, Less (post, grapevineref10). -/
import Derived.Test.YtonilkceolbkmaaPoJ
namespace Go.Proofs.Ytonilkceolbkmaa
open Go Go.Sl Go.Gv Go.Po
set_option maxRecDepth 100000
def lessK (xs ys : List Key) : List Key := xs.filter fun k => !decide (k ∈ ys)
theorem less_t {xs ys : List Key} {i : Nat} {k : Key} (h : xs[i]? = some k) (hk : k ∉ ys) : lessK (xs.take (i + 1)) ys = lessK (xs.take i) ys ++ [k] := by
  rw [List.take_add_one, h]; simp [lessK, hk]
theorem less_f {xs ys : List Key} {i : Nat} {k : Key} (h : xs[i]? = some k) (hk : k ∈ ys) : lessK (xs.take (i + 1)) ys = lessK (xs.take i) ys := by
  rw [List.take_add_one, h]; simp [lessK, hk]
theorem less_le (xs ys : List Key) : (lessK xs ys).length ≤ xs.length := List.length_filter_le ..
theorem indexK_spec {S : HProp} {a : Option Addr} {c : Nat} {ys : List Key} (hS : Srd S 2 keyC a ys) (hl : ys.length ≤ 100000) (k : Key) :
    Ct Try.prog 65 [.slice a ys.length c, keyV k] [S] (fun v hs => (∃ z : Int, v = int z ∧ decide (0 ≤ z) = decide (k ∈ ys)) ∧ hs = [S]) := by
  refine Ct.intro Try.func65 rfl (by kernel_rfl) 19 Try.ntmps65 (Nat.le_of_ble_eq_true rfl) fun w0 R => ?_
  refine Gs.slAddr (hS.h (by repeat constructor)) fun ab ao ha => ?_
  refine Gs.seq ?_
  refine Gs.reg ?_
  refine Go.Sl.L.ac rfl rfl trivial (ac_box rfl rfl) ?_
  rintro _ _ ⟨kb, rfl, rfl⟩
  refine Go.Sl.L.pu rfl rfl trivial (pu_assign rfl) ?_
  refine Go.Sl.L.nil ?_
  refine Gs.then_n ?_
  refine Gs.seq ?_
  refine Gs.seq ?_
  refine Gs.reg ?_
  refine Go.Sl.L.pu rfl rfl trivial (pu_move rfl) ?_
  refine Go.Sl.L.pu rfl rfl trivial (pu_len Try.underlying25 rfl) ?_
  refine Go.Sl.L.pu rfl rfl trivial (pu_move rfl) ?_
  refine Go.Sl.L.nil ?_
  refine Gs.then_n ?_
  refine Gs.block ?_
  refine Gs.loop1 (fun i : Nat => i ≤ ys.length ∧ k ∉ ys.take i) (fun i => [(0, .slice a ys.length c), (3, ptr kb), (7, int ys.length), (8, int i)]) (fun i => [S, cl kb 34 (keyC k)] ++ R) (fun i => ys.length - i) 0 (⟨Nat.zero_le _, by simp⟩) (by repeat constructor) (by repeat constructor) (fun i ⟨hi, hq⟩ => ?_)
  refine Gs.seq ?_
  refine Gs.reg ?_
  refine Go.Sl.L.pu rfl rfl trivial (pu_lt rfl rfl) ?_
  refine Go.Sl.L.nil ?_
  refine Gs.then_n ?_
  refine Gs.seq ?_
  refine Gs.cond rfl (fun hc0 => ?_) (fun hc0 => ?_)
  · skip
    have hlt : i < ys.length := by have := of_decide_eq_true hc0; omega
    obtain ⟨x, hx⟩ : ∃ x, ys[i]? = some x := ⟨ys[i], by simp [hlt]⟩
    obtain rfl := ha (by rintro rfl; simp at hlt)
    refine Gs.skip ?_
    refine Gs.then_n ?_
    refine Gs.seq ?_
    refine Gs.block ?_
    refine Gs.seq ?_
    refine Gs.reg ?_
    refine Go.Sl.L.pu rfl rfl trivial (pu_move rfl) ?_
    refine Go.Sl.L.pu rfl rfl trivial (pu_assign rfl) ?_
    refine Go.Sl.L.nil ?_
    refine Gs.then_n ?_
    refine Gs.seq ?_
    refine Gs.regD mixed (by kernel_rfl) ?_
    refine Rg.rd 0 rfl rfl (by kernel_rfl) trivial (rd_lda ag_34 rfl (Rdc.cl 2 (by repeat constructor) rfl) rfl) ?_
    refine Rg.pu 1 rfl rfl (by kernel_rfl) trivial (pu_move rfl) ?_
    refine Rg.pu 2 rfl rfl (by kernel_rfl) trivial (pu_move rfl) ?_
    refine Rg.pu 3 rfl rfl (by kernel_rfl) trivial (pu_ia se_25 rfl rfl (by omega) (by omega)) ?_
    refine Rg.rd 4 rfl rfl (by kernel_rfl) trivial (rd_lda ag_34 rfl (Rdc.el0 (hS.h (by repeat constructor)) hx rfl rfl) rfl) ?_
    refine Rg.pu 5 rfl rfl (by kernel_rfl) trivial (pu_eqT (a := k) (b := x) cmp_34 (by decide) Try.eqGuardType34 rfl rfl) ?_
    refine Rg.end (by kernel_rfl) ?_
    refine Gs.then_n ?_
    refine Gs.cond rfl (fun hc1 => ?_) (fun hc1 => ?_)
    · skip
      have hyes : k ∈ ys := by have : k = x := of_decide_eq_true hc1; rw [this]; exact List.mem_of_getElem? hx
      refine Gs.seq ?_
      refine Gs.reg ?_
      refine Go.Sl.L.pu rfl rfl trivial (pu_move rfl) ?_
      refine Go.Sl.L.pu rfl rfl trivial (pu_assign rfl) ?_
      refine Go.Sl.L.nil ?_
      refine Gs.then_n ?_
      refine Gs.ret ?_
      refine Gs.blk_r ?_
      refine Gs.then_r ?_
      refine Gs.then_r ?_
      refine Gs.blk_r ?_
      refine Gs.then_r ?_
      exact Gs.fin1 Try.results65 rfl _ (⟨⟨_, rfl, by rw [decide_eq_true hyes]; exact decide_eq_true (by omega)⟩, rfl⟩) (by repeat constructor)
    · skip
      have hno : k ∉ ys.take (i + 1) := by rw [List.take_add_one, hx]; intro hm; rcases List.mem_append.1 hm with hm | hm; exact hq hm; have h2 : k ≠ x := of_decide_eq_false hc1; simp at hm; exact h2 hm
      refine Gs.skip ?_
      refine Gs.blk_n ?_
      refine Gs.then_n ?_
      refine Gs.reg ?_
      refine Go.Sl.L.pu rfl rfl trivial (by first | exact pu_addI rfl rfl rfl (by omega) (by omega) | exact pu_add rfl rfl) ?_
      refine Go.Sl.L.pu rfl rfl trivial (pu_move rfl) ?_
      refine Go.Sl.L.nil ?_
      refine Gs.then_n ?_
      exact Gs.again1 (i + 1) ⟨hlt, hno⟩ (by omega) (by repeat constructor) (by repeat constructor)
  · skip
    have hge : i = ys.length := by have := of_decide_eq_false hc0; omega
    rw [hge, List.take_length] at hq
    refine Gs.exit ?_
    refine Gs.then_x ?_
    refine Gs.then_x ?_
    refine Gs.blk_hit ?_
    refine Gs.then_n ?_
    refine Gs.seq ?_
    refine Gs.reg ?_
    refine Go.Sl.L.pu rfl rfl trivial (pu_assign rfl) ?_
    refine Go.Sl.L.nil ?_
    refine Gs.then_n ?_
    refine Gs.ret ?_
    exact Gs.fin1 Try.results65 rfl _ (⟨⟨_, rfl, by rw [decide_eq_false hq]; rfl⟩, rfl⟩) (by repeat constructor)
theorem containsK_spec {S : HProp} {a : Option Addr} {c : Nat} {ys : List Key} (hS : Srd S 2 keyC a ys) (hl : ys.length ≤ 100000) (k : Key) :
    Ct Try.prog 52 [.slice a ys.length c, keyV k] [S] (fun v hs => v = .bool (decide (k ∈ ys)) ∧ hs = [S]) := by
  refine Ct.intro Try.func52 rfl (by kernel_rfl) 9 Try.ntmps52 (Nat.le_of_ble_eq_true rfl) fun w0 R => ?_
  refine Gs.seq ?_
  refine Gs.reg ?_
  refine Go.Sl.L.ac rfl rfl trivial (ac_box rfl rfl) ?_
  rintro _ _ ⟨kb, rfl, rfl⟩
  refine Go.Sl.L.pu rfl rfl trivial (pu_assign rfl) ?_
  refine Go.Sl.L.nil ?_
  refine Gs.then_n ?_
  refine Gs.seq ?_
  refine Gs.reg ?_
  refine Go.Sl.L.pu rfl rfl trivial (pu_move rfl) ?_
  refine Go.Sl.L.rd rfl rfl trivial (rd_lda ag_34 rfl (Rdc.cl 2 (by repeat constructor) rfl) rfl) ?_
  refine Go.Sl.L.ac rfl rfl trivial (as_call (indexK_spec hS hl k) (by repeat constructor) (by repeat constructor)) ?_
  rintro _ _ ⟨_, ⟨⟨z, rfl, hz⟩, rfl⟩, rfl⟩
  refine Go.Sl.L.pu rfl rfl trivial (pu_ge rfl rfl) ?_
  refine Go.Sl.L.pu rfl rfl trivial (pu_assign rfl) ?_
  refine Go.Sl.L.nil ?_
  refine Gs.then_n ?_
  refine Gs.ret ?_
  exact Gs.fin1 Try.results52 rfl _ (⟨by rw [← hz], rfl⟩) (by repeat constructor)
theorem pless_spec {S : HProp} {a b : Option Addr} {c d : Nat} {xs ys : List Key} (hS : Srd S 2 keyC a xs) (hU : Srd S 2 keyC b ys) (hl : xs.length ≤ 100000) (hm : ys.length ≤ 100000) :
    Ct Try.prog 22 [.slice a xs.length c, .slice b ys.length d] [S] (fun v hs => ∃ a' c', v = .slice a' (lessK xs ys).length c' ∧ hs = [S, sl 34 2 keyC a' c' (lessK xs ys)]) := by
  refine Ct.intro Try.func22 rfl (by kernel_rfl) 24 Try.ntmps22 (Nat.le_of_ble_eq_true rfl) fun w0 R => ?_
  refine Gs.slAddr (hS.h (by repeat constructor)) fun ab ao ha => ?_
  refine Gs.seq ?_
  refine Gs.reg ?_
  refine Go.Sl.L.pu rfl rfl trivial (pu_assign rfl) ?_
  refine Go.Sl.L.nil ?_
  refine Gs.then_n ?_
  refine Gs.seq ?_
  refine Gs.reg ?_
  refine Go.Sl.L.pu rfl rfl trivial (pu_assign rfl) ?_
  refine Go.Sl.L.nil ?_
  refine Gs.slNil 34 2 keyC ?_
  refine Gs.then_n ?_
  refine Gs.seq ?_
  refine Gs.seq ?_
  refine Gs.reg ?_
  refine Go.Sl.L.pu rfl rfl trivial (pu_move rfl) ?_
  refine Go.Sl.L.pu rfl rfl trivial (pu_len Try.underlying25 rfl) ?_
  refine Go.Sl.L.pu rfl rfl trivial (pu_move rfl) ?_
  refine Go.Sl.L.nil ?_
  refine Gs.then_n ?_
  refine Gs.block ?_
  refine Gs.loop1 (fun s : Nat × (Option Addr × Nat) × List Key => s.1 ≤ xs.length ∧ s.2.2 = lessK (xs.take s.1) ys) (fun s => [(1, .slice b ys.length d), (5, .slice s.2.1.1 s.2.2.length s.2.1.2), (8, .slice a xs.length c), (9, int xs.length), (10, int s.1)]) (fun s => [S, sl 34 2 keyC s.2.1.1 s.2.1.2 s.2.2] ++ R) (fun s => xs.length - s.1) (0, (none, 0), []) (⟨Nat.zero_le _, rfl⟩) (by repeat constructor) (by repeat constructor) (fun s hs => ?_)
  obtain ⟨i, ⟨ka, kc⟩, K⟩ := s
  obtain ⟨hi, hK⟩ := hs
  dsimp only at hi hK ⊢
  have hKl : K.length ≤ 100000 := by rw [hK]; refine Nat.le_trans (less_le _ _) ?_; rw [List.length_take]; omega
  refine Gs.seq ?_
  refine Gs.reg ?_
  refine Go.Sl.L.pu rfl rfl trivial (pu_lt rfl rfl) ?_
  refine Go.Sl.L.nil ?_
  refine Gs.then_n ?_
  refine Gs.seq ?_
  refine Gs.cond rfl (fun hc0 => ?_) (fun hc0 => ?_)
  · skip
    have hlt : i < xs.length := by have := of_decide_eq_true hc0; omega
    obtain ⟨k, hk⟩ : ∃ x, xs[i]? = some x := ⟨xs[i], by simp [hlt]⟩
    obtain rfl := ha (by rintro rfl; simp at hlt)
    refine Gs.skip ?_
    refine Gs.then_n ?_
    refine Gs.seq ?_
    refine Gs.block ?_
    refine Gs.seq ?_
    refine Gs.reg ?_
    refine Go.Sl.L.pu rfl rfl trivial (pu_ia se_25 rfl rfl (by omega) (by omega)) ?_
    refine Go.Sl.L.rd rfl rfl trivial (rd_lda ag_34 rfl (Rdc.el0 (hS.h (by repeat constructor)) hk rfl rfl) rfl) ?_
    refine Go.Sl.L.ac rfl rfl trivial (ac_alloc zv_34 rfl) ?_
    rintro _ _ ⟨kb, rfl, rfl⟩
    refine Go.Sl.L.ac0 rfl trivial (ac_st sz_34 rfl rfl (by repeat constructor) rfl rfl rfl rfl) ?_
    rintro _ _ rfl
    refine Go.Sl.L.nil ?_
    refine Gs.then_n ?_
    refine Gs.seq ?_
    refine Gs.reg ?_
    refine Go.Sl.L.pu rfl rfl trivial (pu_move rfl) ?_
    refine Go.Sl.L.rd rfl rfl trivial (rd_lda ag_34 rfl (Rdc.cl 2 (by repeat constructor) rfl) rfl) ?_
    refine Go.Sl.L.ac rfl rfl trivial (as_call (containsK_spec hU hm k) (by repeat constructor) (by repeat constructor)) ?_
    rintro _ _ ⟨_, ⟨rfl, rfl⟩, rfl⟩
    refine Go.Sl.L.pu rfl rfl trivial (pu_not rfl) ?_
    refine Go.Sl.L.nil ?_
    refine Gs.then_n ?_
    refine Gs.cond rfl (fun hc1 => ?_) (fun hc1 => ?_)
    · skip
      have hin : K ++ [k] = lessK (xs.take (i + 1)) ys := by rw [hK, less_t hk (of_decide_eq_false (not_t hc1))]
      refine Gs.reg ?_
      refine Go.Sl.L.pu rfl rfl trivial (pu_move rfl) ?_
      refine Go.Sl.L.rd rfl rfl trivial (rd_lda ag_34 rfl (Rdc.cl 2 (by repeat constructor) rfl) rfl) ?_
      refine Go.Sl.L.ac rfl rfl trivial (ac_lit encC_34 ([k]) et_25 ek_34 rfl (by repeat constructor) rfl rfl (by decide)) ?_
      rintro _ _ ⟨a20, rfl, rfl⟩
      refine Go.Sl.L.ac rfl rfl trivial (ac_append (xs := K) (ys := [k]) et_25 ek_34 rfl rfl (by repeat constructor) (SrcH.sl Try.underlying25 ek_34 (SlH.own (by repeat constructor))) (by first | omega | (simp; omega)) (by first | omega | (simp; omega))) ?_
      rintro _ _ ⟨a21, c21, rfl, rfl⟩
      refine Go.Sl.L.pu rfl rfl trivial (pu_assign rfl) ?_
      refine Go.Sl.L.nil ?_
      refine Gs.blk_n ?_
      refine Gs.then_n ?_
      refine Gs.reg ?_
      refine Go.Sl.L.pu rfl rfl trivial (by first | exact pu_addI rfl rfl rfl (by omega) (by omega) | exact pu_add rfl rfl) ?_
      refine Go.Sl.L.pu rfl rfl trivial (pu_move rfl) ?_
      refine Go.Sl.L.nil ?_
      refine Gs.then_n ?_
      first | exact Gs.again1 (i + 1, (a21, c21), K ++ [k]) ⟨by show i + 1 ≤ xs.length; omega, hin⟩ (by show xs.length - (i + 1) < xs.length - i; omega) (by repeat constructor) (by repeat constructor) | exact Gs.again1 (i + 1, (ka, kc), K) ⟨by show i + 1 ≤ xs.length; omega, hin⟩ (by show xs.length - (i + 1) < xs.length - i; omega) (by repeat constructor) (by repeat constructor)
    · skip
      have hin : K = lessK (xs.take (i + 1)) ys := by rw [hK, less_f hk (of_decide_eq_true (not_f hc1))]
      refine Gs.skip ?_
      refine Gs.blk_n ?_
      refine Gs.then_n ?_
      refine Gs.reg ?_
      refine Go.Sl.L.pu rfl rfl trivial (by first | exact pu_addI rfl rfl rfl (by omega) (by omega) | exact pu_add rfl rfl) ?_
      refine Go.Sl.L.pu rfl rfl trivial (pu_move rfl) ?_
      refine Go.Sl.L.nil ?_
      refine Gs.then_n ?_
      first | exact Gs.again1 (i + 1, (a21, c21), K ++ [k]) ⟨by show i + 1 ≤ xs.length; omega, hin⟩ (by show xs.length - (i + 1) < xs.length - i; omega) (by repeat constructor) (by repeat constructor) | exact Gs.again1 (i + 1, (ka, kc), K) ⟨by show i + 1 ≤ xs.length; omega, hin⟩ (by show xs.length - (i + 1) < xs.length - i; omega) (by repeat constructor) (by repeat constructor)
  · skip
    have hge : i = xs.length := by have := of_decide_eq_false hc0; omega
    rw [hge, List.take_length] at hK
    subst hK
    refine Gs.exit ?_
    refine Gs.then_x ?_
    refine Gs.then_x ?_
    refine Gs.blk_hit ?_
    refine Gs.then_n ?_
    refine Gs.seq ?_
    refine Gs.reg ?_
    refine Go.Sl.L.pu rfl rfl trivial (pu_move rfl) ?_
    refine Go.Sl.L.pu rfl rfl trivial (pu_assign rfl) ?_
    refine Go.Sl.L.nil ?_
    refine Gs.then_n ?_
    refine Gs.ret ?_
    exact Gs.fin1 Try.results22 rfl _ (⟨ka, kc, rfl, rfl⟩) (by repeat constructor)
end Go.Proofs.Ytonilkceolbkmaa
