/- Texts that stand in one. -/
import Derived.Test.YtmbikfojljnnkaaGreatDoorMA
import Derived.Test.YtmbikfojljnnkaaGreatDoorMD
/- Walks: Contains, Less (post, grapevineref10). -/
namespace Go.Proofs.YtmbikfojljnnkaaGreatDoor
open Go Go.Sl Go.Gv Go.Po
set_option maxRecDepth 100000
def lessK (xs ys : List Key) : List Key := xs.filter fun k => !decide (k ∈ ys)
theorem less_t {xs ys : List Key} {i : Nat} {k : Key} (h : xs[i]? = some k) (hk : k ∉ ys) : lessK (xs.take (i + 1)) ys = lessK (xs.take i) ys ++ [k] := by
  rw [List.take_add_one, h]; simp [lessK, hk]
theorem less_f {xs ys : List Key} {i : Nat} {k : Key} (h : xs[i]? = some k) (hk : k ∈ ys) : lessK (xs.take (i + 1)) ys = lessK (xs.take i) ys := by
  rw [List.take_add_one, h]; simp [lessK, hk]
theorem less_le (xs ys : List Key) : (lessK xs ys).length ≤ xs.length := List.length_filter_le ..
end Go.Proofs.YtmbikfojljnnkaaGreatDoor

/- Walks: Less (grapevineref10); SameKeys, SameInts (grapevinelaw0). -/
namespace Go.Proofs.YtmbikfojljnnkaaGreatDoor
open Go Go.Sl Go.Gv Go.Po
set_option maxRecDepth 100000
theorem sameInts_spec {S : HProp} {a b : Option Addr} {c d : Nat} {xs ys : List Int} (hS : Srd S 1 intC a xs) (hU : Srd S 1 intC b ys) (hl : xs.length ≤ 1000000) :
    Ct Tryz.prog 43 [.slice a xs.length c, .slice b ys.length d] [S] (fun v hs => v = .bool (decide (xs = ys)) ∧ hs = [S]) := by
  refine Ct.intro Tryz.func43 rfl (by kernel_rfl) 26 Tryz.ntmps43 (Nat.le_of_ble_eq_true rfl) fun w0 R => ?_
  refine Gs.slAddr (hS.h (by repeat constructor)) fun ab ao ha => ?_
  refine Gs.slAddr (hU.h (by repeat constructor)) fun ub uo hu => ?_
  refine Gs.seq ?_
  refine Gs.reg ?_
  refine Go.Sl.L.pu rfl rfl trivial (pu_assign rfl) ?_
  refine Go.Sl.L.nil ?_
  refine Gs.then_n ?_
  refine Gs.seq ?_
  refine Gs.seq ?_
  refine Gs.reg ?_
  refine Go.Sl.L.pu rfl rfl trivial (pu_move rfl) ?_
  refine Go.Sl.L.pu rfl rfl trivial (pu_len Tryz.underlying64 rfl) ?_
  refine Go.Sl.L.pu rfl rfl trivial (pu_move rfl) ?_
  refine Go.Sl.L.pu rfl rfl trivial (pu_len Tryz.underlying64 rfl) ?_
  refine Go.Sl.L.pu rfl rfl trivial (pu_ne rfl rfl) ?_
  refine Go.Sl.L.nil ?_
  refine Gs.then_n ?_
  refine Gs.cond rfl (fun hc0 => ?_) (fun hc0 => ?_)
  · skip
    have hne : ¬ xs = ys := fun e => by have := of_decide_eq_true hc0; rw [e] at this; exact this rfl
    refine Gs.seq ?_
    refine Gs.reg ?_
    refine Go.Sl.L.pu rfl rfl trivial (pu_assign rfl) ?_
    refine Go.Sl.L.nil ?_
    refine Gs.then_n ?_
    refine Gs.ret ?_
    refine Gs.then_r ?_
    exact Gs.fin1 Tryz.results43 rfl _ (⟨by rw [decide_eq_false hne], rfl⟩) (by repeat constructor)
  · skip
    have hle : xs.length = ys.length := by have := of_decide_eq_false hc0; omega
    refine Gs.skip ?_
    refine Gs.then_n ?_
    refine Gs.seq ?_
    refine Gs.seq ?_
    refine Gs.reg ?_
    refine Go.Sl.L.pu rfl rfl trivial (pu_assign rfl) ?_
    refine Go.Sl.L.nil ?_
    refine Gs.then_n ?_
    refine Gs.block ?_
    refine Gs.loop1 (fun i : Nat => i ≤ xs.length ∧ xs.take i = ys.take i) (fun i => [(0, .slice a xs.length c), (1, .slice b ys.length d), (5, int i)]) (fun i => [S] ++ R) (fun i => xs.length - i) 0 (⟨Nat.zero_le _, rfl⟩) (by repeat constructor) (by repeat constructor) (fun i ⟨hi, ht⟩ => ?_)
    refine Gs.seq ?_
    refine Gs.seq ?_
    refine Gs.reg ?_
    refine Go.Sl.L.pu rfl rfl trivial (pu_move rfl) ?_
    refine Go.Sl.L.pu rfl rfl trivial (pu_move rfl) ?_
    refine Go.Sl.L.pu rfl rfl trivial (pu_len Tryz.underlying64 rfl) ?_
    refine Go.Sl.L.pu rfl rfl trivial (pu_lt rfl rfl) ?_
    refine Go.Sl.L.nil ?_
    refine Gs.then_n ?_
    refine Gs.cond rfl (fun hc1 => ?_) (fun hc1 => ?_)
    · skip
      have hlt : i < xs.length := by have := of_decide_eq_true hc1; omega
      obtain ⟨x, hx⟩ : ∃ x, xs[i]? = some x := ⟨xs[i], by simp [hlt]⟩
      obtain ⟨y, hy⟩ : ∃ x, ys[i]? = some x := ⟨ys[i]'(by omega), by simp [← hle, hlt]⟩
      obtain rfl := ha (by rintro rfl; simp at hlt)
      obtain rfl := hu (by rintro rfl; simp at hy)
      refine Gs.skip ?_
      refine Gs.then_n ?_
      refine Gs.seq ?_
      refine Gs.block ?_
      refine Gs.seq ?_
      refine Gs.regD mixed (by kernel_rfl) ?_
      refine Rg.pu 0 rfl rfl (by kernel_rfl) trivial (pu_move rfl) ?_
      refine Rg.pu 1 rfl rfl (by kernel_rfl) trivial (pu_move rfl) ?_
      refine Rg.pu 2 rfl rfl (by kernel_rfl) trivial (pu_ia se_64 rfl rfl (by omega) (by omega)) ?_
      refine Rg.rd 3 rfl rfl (by kernel_rfl) trivial (rd_ld na_3 rfl (Rdc.el0 (hS.h (by repeat constructor)) hx rfl rfl)) ?_
      refine Rg.pu 4 rfl rfl (by kernel_rfl) trivial (pu_move rfl) ?_
      refine Rg.pu 5 rfl rfl (by kernel_rfl) trivial (pu_move rfl) ?_
      refine Rg.pu 6 rfl rfl (by kernel_rfl) trivial (pu_ia se_64 rfl rfl (by omega) (by omega)) ?_
      refine Rg.rd 7 rfl rfl (by kernel_rfl) trivial (rd_ld na_3 rfl (Rdc.el0 (hU.h (by repeat constructor)) hy rfl rfl)) ?_
      refine Rg.pu 8 rfl rfl (by kernel_rfl) trivial (pu_ne rfl rfl) ?_
      refine Rg.end (by kernel_rfl) ?_
      refine Gs.then_n ?_
      refine Gs.cond rfl (fun hc2 => ?_) (fun hc2 => ?_)
      · skip
        have hne : ¬ xs = ys := fun e => by have := of_decide_eq_true hc2; rw [e, hy] at hx; exact this (Option.some.inj hx).symm
        refine Gs.seq ?_
        refine Gs.reg ?_
        refine Go.Sl.L.pu rfl rfl trivial (pu_assign rfl) ?_
        refine Go.Sl.L.nil ?_
        refine Gs.then_n ?_
        refine Gs.ret ?_
        refine Gs.blk_r ?_
        refine Gs.then_r ?_
        refine Gs.then_r ?_
        refine Gs.blk_r ?_
        refine Gs.then_r ?_
        exact Gs.fin1 Tryz.results43 rfl _ (⟨by rw [decide_eq_false hne], rfl⟩) (by repeat constructor)
      · skip
        have hxy : x = y := by have := of_decide_eq_false hc2; omega
        refine Gs.skip ?_
        refine Gs.blk_n ?_
        refine Gs.then_n ?_
        refine Gs.reg ?_
        refine Go.Sl.L.pu rfl rfl trivial (pu_move rfl) ?_
        refine Go.Sl.L.pu rfl rfl trivial (by first | exact pu_addI rfl rfl rfl (by omega) (by omega) | exact pu_add rfl rfl) ?_
        refine Go.Sl.L.pu rfl rfl trivial (pu_assign rfl) ?_
        refine Go.Sl.L.nil ?_
        refine Gs.then_n ?_
        exact Gs.again1 (i + 1) ⟨by omega, by rw [List.take_add_one, List.take_add_one, ht, hx, hy, hxy]⟩ (by omega) (by repeat constructor) (by repeat constructor)
    · skip
      have hge : i = xs.length := by have := of_decide_eq_false hc1; omega
      have heq : xs = ys := by rw [hge, List.take_length, hle, List.take_length] at ht; exact ht
      refine Gs.exit ?_
      refine Gs.then_x ?_
      refine Gs.then_x ?_
      refine Gs.blk_hit ?_
      refine Gs.then_n ?_
      refine Gs.seq ?_
      refine Gs.reg ?_
      refine Go.Sl.L.pu rfl rfl trivial (pu_assign rfl) ?_
      refine Go.Sl.L.nil ?_
      refine Gs.then_n ?_
      refine Gs.ret ?_
      exact Gs.fin1 Tryz.results43 rfl _ (⟨by rw [decide_eq_true heq], rfl⟩) (by repeat constructor)
theorem sameKeys_spec {S : HProp} {a b : Option Addr} {c d : Nat} {xs ys : List Key} (hS : Srd S 2 keyC a xs) (hU : Srd S 2 keyC b ys) (hl : xs.length ≤ 1000000) :
    Ct Tryz.prog 22 [.slice a xs.length c, .slice b ys.length d] [S] (fun v hs => v = .bool (decide (xs = ys)) ∧ hs = [S]) := by
  refine Ct.intro Tryz.func22 rfl (by kernel_rfl) 26 Tryz.ntmps22 (Nat.le_of_ble_eq_true rfl) fun w0 R => ?_
  refine Gs.slAddr (hS.h (by repeat constructor)) fun ab ao ha => ?_
  refine Gs.slAddr (hU.h (by repeat constructor)) fun ub uo hu => ?_
  refine Gs.seq ?_
  refine Gs.reg ?_
  refine Go.Sl.L.pu rfl rfl trivial (pu_assign rfl) ?_
  refine Go.Sl.L.nil ?_
  refine Gs.then_n ?_
  refine Gs.seq ?_
  refine Gs.seq ?_
  refine Gs.reg ?_
  refine Go.Sl.L.pu rfl rfl trivial (pu_move rfl) ?_
  refine Go.Sl.L.pu rfl rfl trivial (pu_len Tryz.underlying47 rfl) ?_
  refine Go.Sl.L.pu rfl rfl trivial (pu_move rfl) ?_
  refine Go.Sl.L.pu rfl rfl trivial (pu_len Tryz.underlying47 rfl) ?_
  refine Go.Sl.L.pu rfl rfl trivial (pu_ne rfl rfl) ?_
  refine Go.Sl.L.nil ?_
  refine Gs.then_n ?_
  refine Gs.cond rfl (fun hc0 => ?_) (fun hc0 => ?_)
  · skip
    have hne : ¬ xs = ys := fun e => by have := of_decide_eq_true hc0; rw [e] at this; exact this rfl
    refine Gs.seq ?_
    refine Gs.reg ?_
    refine Go.Sl.L.pu rfl rfl trivial (pu_assign rfl) ?_
    refine Go.Sl.L.nil ?_
    refine Gs.then_n ?_
    refine Gs.ret ?_
    refine Gs.then_r ?_
    exact Gs.fin1 Tryz.results22 rfl _ (⟨by rw [decide_eq_false hne], rfl⟩) (by repeat constructor)
  · skip
    have hle : xs.length = ys.length := by have := of_decide_eq_false hc0; omega
    refine Gs.skip ?_
    refine Gs.then_n ?_
    refine Gs.seq ?_
    refine Gs.seq ?_
    refine Gs.reg ?_
    refine Go.Sl.L.pu rfl rfl trivial (pu_assign rfl) ?_
    refine Go.Sl.L.nil ?_
    refine Gs.then_n ?_
    refine Gs.block ?_
    refine Gs.loop1 (fun i : Nat => i ≤ xs.length ∧ xs.take i = ys.take i) (fun i => [(0, .slice a xs.length c), (1, .slice b ys.length d), (5, int i)]) (fun i => [S] ++ R) (fun i => xs.length - i) 0 (⟨Nat.zero_le _, rfl⟩) (by repeat constructor) (by repeat constructor) (fun i ⟨hi, ht⟩ => ?_)
    refine Gs.seq ?_
    refine Gs.seq ?_
    refine Gs.reg ?_
    refine Go.Sl.L.pu rfl rfl trivial (pu_move rfl) ?_
    refine Go.Sl.L.pu rfl rfl trivial (pu_move rfl) ?_
    refine Go.Sl.L.pu rfl rfl trivial (pu_len Tryz.underlying47 rfl) ?_
    refine Go.Sl.L.pu rfl rfl trivial (pu_lt rfl rfl) ?_
    refine Go.Sl.L.nil ?_
    refine Gs.then_n ?_
    refine Gs.cond rfl (fun hc1 => ?_) (fun hc1 => ?_)
    · skip
      have hlt : i < xs.length := by have := of_decide_eq_true hc1; omega
      obtain ⟨x, hx⟩ : ∃ x, xs[i]? = some x := ⟨xs[i], by simp [hlt]⟩
      obtain ⟨y, hy⟩ : ∃ x, ys[i]? = some x := ⟨ys[i]'(by omega), by simp [← hle, hlt]⟩
      obtain rfl := ha (by rintro rfl; simp at hlt)
      obtain rfl := hu (by rintro rfl; simp at hy)
      refine Gs.skip ?_
      refine Gs.then_n ?_
      refine Gs.seq ?_
      refine Gs.block ?_
      refine Gs.seq ?_
      refine Gs.regD mixed (by kernel_rfl) ?_
      refine Rg.pu 0 rfl rfl (by kernel_rfl) trivial (pu_move rfl) ?_
      refine Rg.pu 1 rfl rfl (by kernel_rfl) trivial (pu_move rfl) ?_
      refine Rg.pu 2 rfl rfl (by kernel_rfl) trivial (pu_ia se_47 rfl rfl (by omega) (by omega)) ?_
      refine Rg.rd 3 rfl rfl (by kernel_rfl) trivial (rd_lda ag_31 rfl (Rdc.el0 (hS.h (by repeat constructor)) hx rfl rfl) rfl) ?_
      refine Rg.pu 4 rfl rfl (by kernel_rfl) trivial (pu_move rfl) ?_
      refine Rg.pu 5 rfl rfl (by kernel_rfl) trivial (pu_move rfl) ?_
      refine Rg.pu 6 rfl rfl (by kernel_rfl) trivial (pu_ia se_47 rfl rfl (by omega) (by omega)) ?_
      refine Rg.rd 7 rfl rfl (by kernel_rfl) trivial (rd_lda ag_31 rfl (Rdc.el0 (hU.h (by repeat constructor)) hy rfl rfl) rfl) ?_
      refine Rg.pu 8 rfl rfl (by kernel_rfl) trivial (pu_neT (a := x) (b := y) cmp_31 (by decide) Tryz.eqGuardType31 rfl rfl) ?_
      refine Rg.end (by kernel_rfl) ?_
      refine Gs.then_n ?_
      refine Gs.cond rfl (fun hc2 => ?_) (fun hc2 => ?_)
      · skip
        have hne : ¬ xs = ys := fun e => by have := of_decide_eq_true hc2; rw [e, hy] at hx; exact this (Option.some.inj hx).symm
        refine Gs.seq ?_
        refine Gs.reg ?_
        refine Go.Sl.L.pu rfl rfl trivial (pu_assign rfl) ?_
        refine Go.Sl.L.nil ?_
        refine Gs.then_n ?_
        refine Gs.ret ?_
        refine Gs.blk_r ?_
        refine Gs.then_r ?_
        refine Gs.then_r ?_
        refine Gs.blk_r ?_
        refine Gs.then_r ?_
        exact Gs.fin1 Tryz.results22 rfl _ (⟨by rw [decide_eq_false hne], rfl⟩) (by repeat constructor)
      · skip
        have hxy : x = y := by have := of_decide_eq_false hc2; exact Decidable.not_not.1 this
        refine Gs.skip ?_
        refine Gs.blk_n ?_
        refine Gs.then_n ?_
        refine Gs.reg ?_
        refine Go.Sl.L.pu rfl rfl trivial (pu_move rfl) ?_
        refine Go.Sl.L.pu rfl rfl trivial (by first | exact pu_addI rfl rfl rfl (by omega) (by omega) | exact pu_add rfl rfl) ?_
        refine Go.Sl.L.pu rfl rfl trivial (pu_assign rfl) ?_
        refine Go.Sl.L.nil ?_
        refine Gs.then_n ?_
        exact Gs.again1 (i + 1) ⟨by omega, by rw [List.take_add_one, List.take_add_one, ht, hx, hy, hxy]⟩ (by omega) (by repeat constructor) (by repeat constructor)
    · skip
      have hge : i = xs.length := by have := of_decide_eq_false hc1; omega
      have heq : xs = ys := by rw [hge, List.take_length, hle, List.take_length] at ht; exact ht
      refine Gs.exit ?_
      refine Gs.then_x ?_
      refine Gs.then_x ?_
      refine Gs.blk_hit ?_
      refine Gs.then_n ?_
      refine Gs.seq ?_
      refine Gs.reg ?_
      refine Go.Sl.L.pu rfl rfl trivial (pu_assign rfl) ?_
      refine Go.Sl.L.nil ?_
      refine Gs.then_n ?_
      refine Gs.ret ?_
      exact Gs.fin1 Tryz.results22 rfl _ (⟨by rw [decide_eq_true heq], rfl⟩) (by repeat constructor)
end Go.Proofs.YtmbikfojljnnkaaGreatDoor

/- Walks: slices.Clone at numbers and posts. -/
namespace Go.Proofs.YtmbikfojljnnkaaGreatDoor
open Go Go.Sl Go.Gv Go.Po
set_option maxRecDepth 100000
theorem cloneI_spec {S : HProp} {a : Option Addr} {c : Nat} {l : List Int} (hS : Srd S 1 intC a l) (hl : l.length ≤ 100000) :
    Ct Tryz.prog 77 [.slice a l.length c] [S] (fun v hs => ∃ a' c', v = .slice a' l.length c' ∧ hs = [S, sl 3 1 intC a' c' l]) := by
  refine Ct.intro Tryz.func77 rfl (by kernel_rfl) 8 Tryz.ntmps77 (Nat.le_of_ble_eq_true rfl) fun w0 R => ?_
  refine Gs.slAddr (hS.h (by repeat constructor)) fun ab ao ha => ?_
  refine Gs.seq ?_
  refine Gs.reg ?_
  refine Go.Sl.L.pu rfl rfl trivial (pu_assign rfl) ?_
  refine Go.Sl.L.nil ?_
  refine Gs.then_n ?_
  refine Gs.seq ?_
  refine Gs.seq ?_
  refine Gs.reg ?_
  refine Go.Sl.L.pu rfl rfl trivial (pu_move rfl) ?_
  refine Go.Sl.L.pu rfl rfl trivial (pu_eqL Tryz.underlying64 rfl rfl) ?_
  refine Go.Sl.L.nil ?_
  refine Gs.then_n ?_
  refine Gs.cond rfl (fun hc0 => ?_) (fun hc0 => ?_)
  · skip
    have hnil : l = [] := Classical.byContradiction fun h => by rw [ha h] at hc0; cases hc0
    refine Gs.slNil 3 1 intC ?_
    refine Gs.seq ?_
    refine Gs.reg ?_
    refine Go.Sl.L.pu rfl rfl trivial (pu_assign rfl) ?_
    refine Go.Sl.L.nil ?_
    refine Gs.then_n ?_
    refine Gs.ret ?_
    refine Gs.then_r ?_
    exact Gs.fin1 Tryz.results77 rfl _ (⟨none, 0, by rw [hnil]; rfl, by rw [hnil]⟩) (by repeat constructor)
  · skip
    refine Gs.skip ?_
    refine Gs.then_n ?_
    refine Gs.seq ?_
    refine Gs.reg ?_
    refine Go.Sl.L.ac rfl rfl trivial (ac_lit encC_3 (([] : List Int)) et_64 ek_3 rfl (by repeat constructor) rfl rfl (by decide)) ?_
    rintro _ _ ⟨a5, rfl, rfl⟩
    refine Go.Sl.L.pu rfl rfl trivial (pu_move rfl) ?_
    refine Go.Sl.L.ac rfl rfl trivial (ac_append (xs := ([] : List Int)) (ys := l) et_64 ek_3 rfl rfl (by repeat constructor) (SrcH.sl Tryz.underlying64 ek_3 (hS.h (by repeat constructor))) (by simp; omega) (by simp; omega)) ?_
    rintro _ _ ⟨a7, c7, rfl, rfl⟩
    refine Go.Sl.L.pu rfl rfl trivial (pu_assign rfl) ?_
    refine Go.Sl.L.nil ?_
    refine Gs.then_n ?_
    refine Gs.ret ?_
    exact Gs.fin1 Tryz.results77 rfl _ (⟨a7, c7, rfl, rfl⟩) (by repeat constructor)
theorem cloneP_spec {S : HProp} {a : Option Addr} {c : Nat} {l : List PostV} (hS : Srd S 3 postC a l) (hl : l.length ≤ 100000) :
    Ct Tryz.prog 70 [.slice a l.length c] [S] (fun v hs => ∃ a' c', v = .slice a' l.length c' ∧ hs = [S, sl 66 3 postC a' c' l]) := by
  refine Ct.intro Tryz.func70 rfl (by kernel_rfl) 8 Tryz.ntmps70 (Nat.le_of_ble_eq_true rfl) fun w0 R => ?_
  refine Gs.slAddr (hS.h (by repeat constructor)) fun ab ao ha => ?_
  refine Gs.seq ?_
  refine Gs.reg ?_
  refine Go.Sl.L.pu rfl rfl trivial (pu_assign rfl) ?_
  refine Go.Sl.L.nil ?_
  refine Gs.then_n ?_
  refine Gs.seq ?_
  refine Gs.seq ?_
  refine Gs.reg ?_
  refine Go.Sl.L.pu rfl rfl trivial (pu_move rfl) ?_
  refine Go.Sl.L.pu rfl rfl trivial (pu_eqL Tryz.underlying42 rfl rfl) ?_
  refine Go.Sl.L.nil ?_
  refine Gs.then_n ?_
  refine Gs.cond rfl (fun hc0 => ?_) (fun hc0 => ?_)
  · skip
    have hnil : l = [] := Classical.byContradiction fun h => by rw [ha h] at hc0; cases hc0
    refine Gs.slNil 66 3 postC ?_
    refine Gs.seq ?_
    refine Gs.reg ?_
    refine Go.Sl.L.pu rfl rfl trivial (pu_assign rfl) ?_
    refine Go.Sl.L.nil ?_
    refine Gs.then_n ?_
    refine Gs.ret ?_
    refine Gs.then_r ?_
    exact Gs.fin1 Tryz.results70 rfl _ (⟨none, 0, by rw [hnil]; rfl, by rw [hnil]⟩) (by repeat constructor)
  · skip
    refine Gs.skip ?_
    refine Gs.then_n ?_
    refine Gs.seq ?_
    refine Gs.reg ?_
    refine Go.Sl.L.ac rfl rfl trivial (ac_lit encC_66 (([] : List PostV)) et_42 ek_66 rfl (by repeat constructor) rfl rfl (by decide)) ?_
    rintro _ _ ⟨a5, rfl, rfl⟩
    refine Go.Sl.L.pu rfl rfl trivial (pu_move rfl) ?_
    refine Go.Sl.L.ac rfl rfl trivial (ac_append (xs := ([] : List PostV)) (ys := l) et_42 ek_66 rfl rfl (by repeat constructor) (SrcH.sl Tryz.underlying42 ek_66 (hS.h (by repeat constructor))) (by simp; omega) (by simp; omega)) ?_
    rintro _ _ ⟨a7, c7, rfl, rfl⟩
    refine Go.Sl.L.pu rfl rfl trivial (pu_assign rfl) ?_
    refine Go.Sl.L.nil ?_
    refine Gs.then_n ?_
    refine Gs.ret ?_
    exact Gs.fin1 Tryz.results70 rfl _ (⟨a7, c7, rfl, rfl⟩) (by repeat constructor)
end Go.Proofs.YtmbikfojljnnkaaGreatDoor

/- Walks: own (post). -/
namespace Go.Proofs.YtmbikfojljnnkaaGreatDoor
open Go Go.Sl Go.Gv Go.Po
set_option maxRecDepth 100000
/-- A post's places, owned. -/
def atO (p : PostV) : HProp := sl 3 1 intC p.t.a p.t.c p.t.xs
/-- A list of posts, owned, its places too. -/
def plO (a : Option Addr) (c : Nat) (ps : List PostV) : HProp := two (sl 66 3 postC a c ps) (big (ps.map atO))
theorem prd_plO {a : Option Addr} {c : Nat} {ps : List PostV} (h : ∀ p ∈ ps, p.t.xs.length ≤ 1000) : PRd (plO a c ps) a ps :=
  ⟨Srd.two1 Srd.own, fun p hp => ⟨Srd.two2 (Srd.bigs (A := atO p) Srd.own (List.mem_map.2 ⟨p, hp, rfl⟩)), h p hp⟩⟩
theorem own_spec {S : HProp} {a : Option Addr} {c : Nat} {ps : List PostV} (hS : PRd S a ps) (hl : ps.length ≤ 1000) :
    Ct Tryz.prog 68 [.slice a ps.length c] [S] (fun v hs => ∃ a' c' qs, v = .slice a' qs.length c' ∧ plain1 qs = plain1 ps ∧ hs = [S, plO a' c' qs]) := by
  refine Ct.intro Tryz.func68 rfl (by kernel_rfl) 23 Tryz.ntmps68 (Nat.le_of_ble_eq_true rfl) fun w0 R => ?_
  refine Gs.seq ?_
  refine Gs.reg ?_
  refine Go.Sl.L.pu rfl rfl trivial (pu_assign rfl) ?_
  refine Go.Sl.L.nil ?_
  refine Gs.then_n ?_
  refine Gs.seq ?_
  refine Gs.reg ?_
  refine Go.Sl.L.pu rfl rfl trivial (pu_move rfl) ?_
  refine Go.Sl.L.ac rfl rfl trivial (as_call (cloneP_spec hS.1 (by omega)) (by repeat constructor) (by repeat constructor)) ?_
  rintro _ _ ⟨_, ⟨na, nc, rfl, rfl⟩, rfl⟩
  refine Go.Sl.L.pu rfl rfl trivial (pu_assign rfl) ?_
  refine Go.Sl.L.nil ?_
  refine Gs.then_n ?_
  refine Gs.seq ?_
  refine Gs.seq ?_
  refine Gs.reg ?_
  refine Go.Sl.L.pu rfl rfl trivial (pu_move rfl) ?_
  refine Go.Sl.L.pu rfl rfl trivial (pu_len Tryz.underlying42 rfl) ?_
  refine Go.Sl.L.pu rfl rfl trivial (pu_move rfl) ?_
  refine Go.Sl.L.nil ?_
  refine Gs.bigNil ?_
  refine Gs.slAddr (xs := ps) (SlH.own (E := 66) (enc := postC) (by repeat constructor)) fun ab ao ha => ?_
  refine Gs.then_n ?_
  refine Gs.block ?_
  refine Gs.loop1 (fun s : Nat × List PostV => s.1 ≤ ps.length ∧ plain1 s.2 = plain1 ps ∧ s.2.drop s.1 = ps.drop s.1) (fun s => [(0, .slice na ps.length nc), (7, int ps.length), (8, int s.1)]) (fun s => [S, sl 66 3 postC na nc s.2, big ((s.2.take s.1).map atO)] ++ R) (fun s => ps.length - s.1) (0, ps) (⟨Nat.zero_le _, rfl, rfl⟩) (by repeat constructor) (by repeat constructor) (fun s hs => ?_)
  obtain ⟨i, qs⟩ := s
  obtain ⟨hi, hq, hd⟩ := hs
  dsimp only at hi hq hd ⊢
  have hql : qs.length = ps.length := by have := congrArg List.length hq; simpa using this
  refine Gs.seq ?_
  refine Gs.reg ?_
  refine Go.Sl.L.pu rfl rfl trivial (pu_lt rfl rfl) ?_
  refine Go.Sl.L.nil ?_
  refine Gs.then_n ?_
  refine Gs.seq ?_
  refine Gs.cond rfl (fun hc0 => ?_) (fun hc0 => ?_)
  · skip
    have hlt : i < ps.length := by have := of_decide_eq_true hc0; omega
    obtain ⟨p, hp⟩ : ∃ x, ps[i]? = some x := ⟨ps[i], by simp [hlt]⟩
    obtain rfl := ha (by rintro rfl; simp at hlt)
    have hpq : qs[i]? = some p := by
      have := congrArg (·[0]?) hd
      simpa [List.getElem?_drop, hp] using this
    obtain ⟨hat, hatl⟩ := hS.2 p (List.mem_of_getElem? hp)
    refine Gs.skip ?_
    refine Gs.then_n ?_
    refine Gs.seq ?_
    refine Gs.block ?_
    refine Gs.seq ?_
    refine Gs.reg ?_
    refine Go.Sl.L.pu rfl rfl trivial (pu_move rfl) ?_
    refine Go.Sl.L.pu rfl rfl trivial (pu_assign rfl) ?_
    refine Go.Sl.L.nil ?_
    refine Gs.then_n ?_
    refine Gs.reg ?_
    refine Go.Sl.L.pu rfl rfl trivial (pu_move rfl) ?_
    refine Go.Sl.L.pu rfl rfl trivial (pu_move rfl) ?_
    refine Go.Sl.L.pu rfl rfl trivial (pu_move rfl) ?_
    refine Go.Sl.L.pu rfl rfl trivial (pu_move rfl) ?_
    refine Go.Sl.L.pu rfl rfl trivial (pu_ia se_42 rfl rfl (by omega) (by omega)) ?_
    refine Go.Sl.L.pu rfl rfl trivial (pu_fa fa_66_1 rfl) ?_
    refine Go.Sl.L.rd rfl rfl trivial (rd_ld na_64 rfl (Rdc.elp 1 (SlH.own (xs := qs) (E := 66) (enc := postC) (sz := 3) (by repeat constructor)) hpq rfl rfl)) ?_
    refine Go.Sl.L.ac rfl rfl trivial (as_call (cloneI_spec hat (by omega)) (by repeat constructor) (by repeat constructor)) ?_
    rintro _ _ ⟨_, ⟨ka, kc, rfl, rfl⟩, rfl⟩
    refine Go.Sl.L.pu rfl rfl trivial (pu_ia se_42 rfl rfl (by omega) (by omega)) ?_
    refine Go.Sl.L.pu rfl rfl trivial (pu_fa fa_66_1 rfl) ?_
    refine Go.Sl.L.ac0 rfl trivial (ac_stE (enc := postC) (xs := qs) (i := i) (x0 := p) (y0 := ⟨p.k, ⟨ka, p.t.xs, kc⟩⟩) (vs := [.slice ka p.t.xs.length kc]) (fo := 2) sz_64 ek_66 rfl rfl (by repeat constructor) rfl rfl rfl hpq rfl rfl) ?_
    rintro _ _ rfl
    refine Go.Sl.L.nil ?_
    have hset : ((qs.set i ⟨p.k, ⟨ka, p.t.xs, kc⟩⟩).take (i + 1)).map atO = (qs.take i).map atO ++ [atO ⟨p.k, ⟨ka, p.t.xs, kc⟩⟩] := by
      rw [List.take_add_one, List.getElem?_set_self (by omega), List.take_set_of_le (Nat.le_refl _), List.map_append]; rfl
    refine Gs.takes (As := [atO ⟨p.k, ⟨ka, p.t.xs, kc⟩⟩, big ((qs.take i).map atO)]) (by repeat constructor) (Gs.bigBack take_snoc ?_)
    rw [← hset]
    have k1 : plain1 (qs.set i ⟨p.k, ⟨ka, p.t.xs, kc⟩⟩) = plain1 ps := by
      rw [← hq]
      show (qs.set i _).map PostV.p = qs.map PostV.p
      rw [List.map_set]
      refine List.ext_getElem? fun j => ?_
      by_cases hj : i = j
      · subst hj; rw [List.getElem?_set_self (by simp; omega), List.getElem?_map, hpq]; rfl
      · rw [List.getElem?_set_ne hj]
    have k2 : (qs.set i ⟨p.k, ⟨ka, p.t.xs, kc⟩⟩).drop (i + 1) = ps.drop (i + 1) := by rw [List.drop_set_of_lt (by omega), ← List.drop_drop, hd, List.drop_drop]
    refine Gs.blk_n ?_
    refine Gs.then_n ?_
    refine Gs.reg ?_
    refine Go.Sl.L.pu rfl rfl trivial (by first | exact pu_addI rfl rfl rfl (by omega) (by omega) | exact pu_add rfl rfl) ?_
    refine Go.Sl.L.pu rfl rfl trivial (pu_move rfl) ?_
    refine Go.Sl.L.nil ?_
    refine Gs.then_n ?_
    exact Gs.again1 (i + 1, qs.set i ⟨p.k, ⟨ka, p.t.xs, kc⟩⟩) ⟨hlt, k1, k2⟩ (by show ps.length - (i + 1) < ps.length - i; omega) (by repeat constructor) (by repeat constructor)
  · skip
    have hge : i = ps.length := by have := of_decide_eq_false hc0; omega
    rw [List.take_of_length_le (by omega)]
    refine Gs.exit ?_
    refine Gs.then_x ?_
    refine Gs.then_x ?_
    refine Gs.blk_hit ?_
    refine Gs.then_n ?_
    refine Gs.seq ?_
    refine Gs.reg ?_
    refine Go.Sl.L.pu rfl rfl trivial (pu_move rfl) ?_
    refine Go.Sl.L.pu rfl rfl trivial (pu_assign rfl) ?_
    refine Go.Sl.L.nil ?_
    refine Gs.then_n ?_
    refine Gs.ret ?_
    refine Gs.takes (As := [sl 66 3 postC na nc qs, big (qs.map atO)]) (by repeat constructor) (Gs.toTwo ?_)
    exact Gs.fin1 Tryz.results68 rfl _ (⟨na, nc, qs, by rw [hql], hq, rfl⟩) (by repeat constructor)
end Go.Proofs.YtmbikfojljnnkaaGreatDoor

/- Walks: slices.Insert at posts, of one. -/
namespace Go.Sl
theorem ins_grown {α : Type} {xs Z : List α} {x : α} {i : Nat} (hi : i < xs.length) (hz : Z.take i = xs.take i) (hl : Z.length = xs.length + 1) :
    (Z.take i ++ [x] ++ Z.drop (i + [x].length)).take (i + 1) ++ xs.drop i ++ (Z.take i ++ [x] ++ Z.drop (i + [x].length)).drop (i + 1 + (xs.drop i).length) = xs.take i ++ [x] ++ xs.drop i := by
  have h1 : (Z.take i ++ [x]).length = i + 1 := by simp; omega
  have h2 : (Z.take i ++ [x] ++ Z.drop (i + [x].length)).length ≤ i + 1 + (xs.drop i).length := by simp; omega
  rw [List.drop_eq_nil_of_le h2, List.append_nil]
  congr 1
  rw [List.take_append_of_le_length (by omega), List.take_of_length_le (by omega), hz]
theorem ins_room {α : Type} {xs : List α} {x : α} {i : Nat} (hi : i < xs.length) :
    (xs.take (i + 1) ++ xs.drop i ++ xs.drop (i + 1 + (xs.drop i).length)).take i ++ [x] ++ (xs.take (i + 1) ++ xs.drop i ++ xs.drop (i + 1 + (xs.drop i).length)).drop (i + [x].length) = xs.take i ++ [x] ++ xs.drop i := by
  have h0 : xs.drop (i + 1 + (xs.drop i).length) = [] := List.drop_eq_nil_of_le (by simp; omega)
  have h1 : (xs.take (i + 1)).length = i + 1 := by simp; omega
  rw [h0, List.append_nil]
  congr 1
  · congr 1
    rw [List.take_append_of_le_length (by omega), List.take_take]; congr 1; omega
  · show (xs.take (i + 1) ++ xs.drop i).drop (i + 1) = _
    rw [List.drop_append_of_le_length (by omega), List.drop_eq_nil_of_le (by omega), List.nil_append]
end Go.Sl
namespace Go.Proofs.YtmbikfojljnnkaaGreatDoor
open Go Go.Sl Go.Gv Go.Po
set_option maxRecDepth 100000
theorem insert_spec {a : Option Addr} {c vb i : Nat} {xs : List PostV} {x : PostV} (hi : i ≤ xs.length) (hl : xs.length ≤ 100000) :
    Ct Tryz.prog 80 [.slice a xs.length c, int i, .slice (some ⟨vb, 0, none⟩) 1 1] [sl 66 3 postC a c xs, sl 66 3 postC (some ⟨vb, 0, none⟩) 1 [x]]
      (fun v hs => ∃ a' c', v = .slice a' (xs.take i ++ [x] ++ xs.drop i).length c' ∧ hs = [sl 66 3 postC a' c' (xs.take i ++ [x] ++ xs.drop i)]) := by
  have hlen : (xs.take i ++ [x] ++ xs.drop i).length = xs.length + 1 := by simp; omega
  refine Ct.intro Tryz.func80 rfl (by kernel_rfl) 95 Tryz.ntmps80 (Nat.le_of_ble_eq_true rfl) fun w0 R => ?_
  refine Gs.slAddr (xs := xs) (SlH.own (E := 66) (enc := postC) (by repeat constructor)) fun ab ao ha => Gs.slLen (xs := xs) (by repeat constructor) fun hlc => ?_
  refine Gs.seq ?_
  refine Gs.reg ?_
  refine Go.Sl.L.pu rfl rfl trivial (pu_assign rfl) ?_
  refine Go.Sl.L.nil ?_
  refine Gs.then_n ?_
  refine Gs.seq ?_
  refine Gs.reg ?_
  refine Go.Sl.L.pu rfl rfl trivial (pu_move rfl) ?_
  refine Go.Sl.L.pu rfl rfl trivial (pu_move rfl) ?_
  refine Go.Sl.L.pu rfl rfl trivial (pu_sliceL et_42 rfl rfl (by omega) (by omega)) ?_
  refine Go.Sl.L.nil ?_
  refine Gs.then_n ?_
  refine Gs.seq ?_
  refine Gs.reg ?_
  refine Go.Sl.L.pu rfl rfl trivial (pu_move rfl) ?_
  refine Go.Sl.L.pu rfl rfl trivial (pu_len Tryz.underlying42 rfl) ?_
  refine Go.Sl.L.pu rfl rfl trivial (pu_assign rfl) ?_
  refine Go.Sl.L.nil ?_
  refine Gs.then_n ?_
  refine Gs.seq ?_
  refine Gs.seq ?_
  refine Gs.reg ?_
  refine Go.Sl.L.pu rfl rfl trivial (pu_move rfl) ?_
  refine Go.Sl.L.pu rfl rfl trivial (pu_eq rfl rfl) ?_
  refine Go.Sl.L.nil ?_
  refine Gs.then_n ?_
  refine Gs.cond_ff rfl (by decide) ?_
  refine Gs.skip ?_
  refine Gs.then_n ?_
  refine Gs.seq ?_
  refine Gs.reg ?_
  refine Go.Sl.L.pu rfl rfl trivial (pu_move rfl) ?_
  refine Go.Sl.L.pu rfl rfl trivial (pu_len Tryz.underlying42 rfl) ?_
  refine Go.Sl.L.pu rfl rfl trivial (pu_assign rfl) ?_
  refine Go.Sl.L.nil ?_
  refine Gs.then_n ?_
  refine Gs.seq ?_
  refine Gs.seq ?_
  refine Gs.reg ?_
  refine Go.Sl.L.pu rfl rfl trivial (pu_move rfl) ?_
  refine Go.Sl.L.pu rfl rfl trivial (pu_move rfl) ?_
  refine Go.Sl.L.pu rfl rfl trivial (pu_eq rfl rfl) ?_
  refine Go.Sl.L.nil ?_
  refine Gs.then_n ?_
  refine Gs.cond rfl (fun hc1 => ?_) (fun hc1 => ?_)
  · skip
    have hie : i = xs.length := by have := of_decide_eq_true hc1; omega
    refine Gs.seq ?_
    refine Gs.reg ?_
    refine Go.Sl.L.pu rfl rfl trivial (pu_move rfl) ?_
    refine Go.Sl.L.pu rfl rfl trivial (pu_move rfl) ?_
    refine Go.Sl.L.ac rfl rfl trivial (ac_append (xs := xs) (ys := [x]) et_42 ek_66 rfl rfl (by repeat constructor) (SrcH.sl (ys := [x]) Tryz.underlying42 ek_66 (SlH.own (xs := [x]) (E := 66) (c := 1) (by repeat constructor))) (by simp; omega) (by simp; omega)) ?_
    rintro _ _ ⟨a25, c25, rfl, rfl⟩
    refine Go.Sl.L.pu rfl rfl trivial (pu_assign rfl) ?_
    refine Go.Sl.L.nil ?_
    have hfin : xs ++ [x] = xs.take i ++ [x] ++ xs.drop i := by rw [hie]; simp
    rw [hfin]
    refine Gs.then_n ?_
    refine Gs.ret ?_
    refine Gs.then_r ?_
    exact Gs.fin1 Tryz.results80 rfl _ (⟨a25, c25, rfl, rfl⟩) (by repeat constructor)
  · skip
    have hil : i < xs.length := by have := of_decide_eq_false hc1; omega
    obtain rfl := ha (by rintro rfl; simp at hil)
    refine Gs.skip ?_
    refine Gs.then_n ?_
    refine Gs.seq ?_
    refine Gs.seq ?_
    refine Gs.reg ?_
    refine Go.Sl.L.pu rfl rfl trivial (pu_move rfl) ?_
    refine Go.Sl.L.pu rfl rfl trivial (pu_move rfl) ?_
    refine Go.Sl.L.pu rfl rfl trivial (pu_addI (z := ((xs.length + 1 : Nat) : Int)) rfl rfl (by omega) (by omega) (by omega)) ?_
    refine Go.Sl.L.pu rfl rfl trivial (pu_move rfl) ?_
    refine Go.Sl.L.pu rfl rfl trivial (pu_cap Tryz.underlying42 rfl) ?_
    refine Go.Sl.L.pu rfl rfl trivial (pu_gt rfl rfl) ?_
    refine Go.Sl.L.nil ?_
    refine Gs.then_n ?_
    refine Gs.cond rfl (fun hc2 => ?_) (fun hc2 => ?_)
    · skip
      have hg : c < xs.length + 1 := by have := of_decide_eq_true hc2; omega
      have htl : (xs.take i).length = i := by rw [List.length_take]; omega
      have hsz : (xs.take i ++ List.replicate (xs.length + 1 - i) PostV.zero).length = xs.length + 1 := by simp; omega
      refine Gs.seq ?_
      refine Gs.reg ?_
      refine Go.Sl.L.pu rfl rfl trivial (pu_move rfl) ?_
      refine Go.Sl.L.pu rfl rfl trivial (pu_move rfl) ?_
      refine Go.Sl.L.pu rfl rfl trivial (pu_sliceH et_42 rfl rfl (by omega) (by omega)) ?_
      rw [suba_zero, show (i : Int).toNat = i from rfl]
      refine Go.Sl.L.pu rfl rfl trivial (pu_move rfl) ?_
      refine Go.Sl.L.pu rfl rfl trivial (pu_move rfl) ?_
      refine Go.Sl.L.pu rfl rfl trivial (pu_addI (z := ((xs.length + 1 : Nat) : Int)) rfl rfl (by omega) (by omega) (by omega)) ?_
      refine Go.Sl.L.pu rfl rfl trivial (pu_move rfl) ?_
      refine Go.Sl.L.pu rfl rfl trivial (pu_subI (z := ((xs.length + 1 - i : Nat) : Int)) rfl rfl (by omega) (by omega) (by omega)) ?_
      refine Go.Sl.L.ac rfl rfl trivial (ac_appendZ (xs := xs.take i) (z0 := PostV.zero) (k := xs.length + 1 - i) (enc := postC) et_42 (.inl zv_66) Tryz.underlying3 ek_66 rfl htl.symm rfl (SlH.pre (ys := xs.drop i) (by rw [List.take_append_drop]; exact SlH.own (by repeat constructor))) (by omega) (by decide) (by omega) (by omega) (by omega)) ?_
      rintro _ _ ⟨nb, nc, rfl, hnc, rfl⟩
      refine Go.Sl.L.pu rfl rfl trivial (pu_assign rfl) ?_
      refine Go.Sl.L.nil ?_
      refine Gs.then_n ?_
      refine Gs.seq ?_
      refine Gs.reg ?_
      refine Go.Sl.L.pu rfl rfl trivial (pu_move rfl) ?_
      refine Go.Sl.L.pu rfl rfl trivial (pu_move rfl) ?_
      refine Go.Sl.L.pu rfl rfl trivial (pu_sliceL et_42 rfl rfl (by omega) (by omega)) ?_
      rw [show (i : Int).toNat = i from rfl, suba_some (by omega)]
      refine Go.Sl.L.pu rfl rfl trivial (pu_move rfl) ?_
      refine Go.Sl.L.ac rfl rfl trivial (ac_cp (xs := xs.take i ++ List.replicate (xs.length + 1 - i) PostV.zero) (ys := [x]) (p := i) (enc := postC) Tryz.underlying42 sz_66 ek_66 rfl rfl rfl (by show 1 = min 1 _; omega) (by repeat constructor) (SlH.own (by repeat constructor)) (by omega) (by show i + 1 ≤ nc; omega)) ?_
      rintro _ _ ⟨rfl, rfl⟩
      refine Go.Sl.L.nil ?_
      refine Gs.then_n ?_
      refine Gs.seq ?_
      refine Gs.regD mixed (by kernel_rfl) ?_
      refine Rg.pu 0 rfl rfl (by kernel_rfl) trivial (pu_move rfl) ?_
      refine Rg.pu 1 rfl rfl (by kernel_rfl) trivial (pu_move rfl) ?_
      refine Rg.pu 2 rfl rfl (by kernel_rfl) trivial (pu_move rfl) ?_
      refine Rg.pu 3 rfl rfl (by kernel_rfl) trivial (pu_addI (z := ((i + 1 : Nat) : Int)) rfl rfl (by omega) (by omega) (by omega)) ?_
      refine Rg.pu 4 rfl rfl (by kernel_rfl) trivial (pu_sliceL et_42 rfl rfl (by omega) (by omega)) ?_
      rw [show ((i + 1 : Nat) : Int).toNat = i + 1 from rfl, suba_some (by omega)]
      refine Rg.pu 5 rfl rfl (by kernel_rfl) trivial (pu_move rfl) ?_
      refine Rg.pu 6 rfl rfl (by kernel_rfl) trivial (pu_move rfl) ?_
      refine Rg.pu 7 rfl rfl (by kernel_rfl) trivial (pu_sliceL et_42 rfl rfl (by omega) (by omega)) ?_
      rw [show (i : Int).toNat = i from rfl, suba_some (by omega)]
      refine Rg.one (by kernel_rfl) (Stp.ac 8 rfl rfl (by kernel_rfl) trivial (ac_cp (xs := (xs.take i ++ List.replicate (xs.length + 1 - i) PostV.zero).take i ++ [x] ++ (xs.take i ++ List.replicate (xs.length + 1 - i) PostV.zero).drop (i + [x].length)) (ys := xs.drop i) (p := i + 1) (enc := postC) Tryz.underlying42 sz_66 ek_66 rfl rfl rfl (by rw [List.length_drop]; show _ = min _ _; omega) (by repeat constructor) (SlH.cutS (SlH.own (xs := xs) (E := 66) (c := c) (by repeat constructor)) i c (by omega) (by omega)) (by simp; omega) (by rw [List.length_drop]; omega))  ?_)
      rintro _ _ ⟨rfl, rfl⟩
      refine Rg.end (by kernel_rfl) ?_
      refine Gs.then_n ?_
      refine Gs.seq ?_
      rw [ins_grown hil (by rw [List.take_append_of_le_length (by omega), List.take_take, Nat.min_self]) hsz]
      refine Gs.reg ?_
      refine Go.Sl.L.pu rfl rfl trivial (pu_move rfl) ?_
      refine Go.Sl.L.pu rfl rfl trivial (pu_assign rfl) ?_
      refine Go.Sl.L.nil ?_
      refine Gs.then_n ?_
      refine Gs.ret ?_
      refine Gs.then_r ?_
      exact Gs.fin1 Tryz.results80 rfl _ (⟨some ⟨nb, 0, none⟩, nc, by rw [hlen]; congr 1; omega, rfl⟩) (by repeat constructor)
    · skip
      have hg : xs.length + 1 ≤ c := by have := of_decide_eq_false hc2; omega
      refine Gs.skip ?_
      refine Gs.then_n ?_
      refine Gs.seq ?_
      refine Gs.reg ?_
      refine Go.Sl.L.pu rfl rfl trivial (pu_move rfl) ?_
      refine Go.Sl.L.pu rfl rfl trivial (pu_move rfl) ?_
      refine Go.Sl.L.pu rfl rfl trivial (pu_move rfl) ?_
      refine Go.Sl.L.pu rfl rfl trivial (pu_addI (z := ((xs.length + 1 : Nat) : Int)) rfl rfl (by omega) (by omega) (by omega)) ?_
      refine Go.Sl.L.pu rfl rfl trivial (pu_sliceH et_42 rfl rfl (by omega) (by omega)) ?_
      rw [suba_zero, show ((xs.length + 1 : Nat) : Int).toNat = xs.length + 1 from rfl]
      refine Go.Sl.L.pu rfl rfl trivial (pu_assign rfl) ?_
      refine Go.Sl.L.nil ?_
      refine Gs.then_n ?_
      refine Gs.seq ?_
      refine Gs.seq ?_
      refine Gs.reg ?_
      refine Go.Sl.L.pu rfl rfl trivial (pu_move rfl) ?_
      refine Go.Sl.L.pu rfl rfl trivial (pu_move rfl) ?_
      refine Go.Sl.L.pu rfl rfl trivial (pu_move rfl) ?_
      refine Go.Sl.L.pu rfl rfl trivial (pu_move rfl) ?_
      refine Go.Sl.L.pu rfl rfl trivial (pu_addI (z := ((i + 1 : Nat) : Int)) rfl rfl (by omega) (by omega) (by omega)) ?_
      refine Go.Sl.L.pu rfl rfl trivial (pu_sliceL et_42 rfl rfl (by omega) (by omega)) ?_
      rw [show ((i + 1 : Nat) : Int).toNat = i + 1 from rfl, suba_some (by omega)]
      refine Go.Sl.L.rd rfl rfl trivial (rd_overlaps (R := 4) (xs := [x]) (ys := xs) Tryz.func103 (by kernel_rfl) (by kernel_rfl) (by kernel_rfl) (by kernel_rfl) Tryz.underlying42 sz_66 rfl rfl (by repeat constructor) (by repeat constructor) (by omega)) ?_
      refine Go.Sl.L.pu rfl rfl trivial (pu_not rfl) ?_
      refine Go.Sl.L.nil ?_
      refine Gs.then_n ?_
      refine Gs.cond_tt rfl rfl ?_
      refine Gs.seq ?_
      refine Gs.regD mixed (by kernel_rfl) ?_
      refine Rg.pu 0 rfl rfl (by kernel_rfl) trivial (pu_move rfl) ?_
      refine Rg.pu 1 rfl rfl (by kernel_rfl) trivial (pu_move rfl) ?_
      refine Rg.pu 2 rfl rfl (by kernel_rfl) trivial (pu_move rfl) ?_
      refine Rg.pu 3 rfl rfl (by kernel_rfl) trivial (pu_addI (z := ((i + 1 : Nat) : Int)) rfl rfl (by omega) (by omega) (by omega)) ?_
      refine Rg.pu 4 rfl rfl (by kernel_rfl) trivial (pu_sliceL et_42 rfl rfl (by omega) (by omega)) ?_
      rw [show ((i + 1 : Nat) : Int).toNat = i + 1 from rfl, suba_some (by omega)]
      refine Rg.pu 5 rfl rfl (by kernel_rfl) trivial (pu_move rfl) ?_
      refine Rg.pu 6 rfl rfl (by kernel_rfl) trivial (pu_move rfl) ?_
      refine Rg.pu 7 rfl rfl (by kernel_rfl) trivial (pu_sliceL et_42 rfl rfl (by omega) (by omega)) ?_
      rw [show (i : Int).toNat = i from rfl, suba_some (by omega)]
      refine Rg.one (by kernel_rfl) (Stp.ac 8 rfl rfl (by kernel_rfl) trivial (ac_cp (xs := xs) (ys := xs.drop i) (p := i + 1) (enc := postC) Tryz.underlying42 sz_66 ek_66 rfl rfl rfl (by rw [List.length_drop]; show _ = min _ _; omega) (by repeat constructor) (SlH.cutS (SlH.own (xs := xs) (E := 66) (c := c) (by repeat constructor)) i c (by omega) (by omega)) (by omega) (by rw [List.length_drop]; omega))  ?_)
      rintro _ _ ⟨rfl, rfl⟩
      refine Rg.end (by kernel_rfl) ?_
      refine Gs.then_n ?_
      refine Gs.seq ?_
      refine Gs.reg ?_
      refine Go.Sl.L.pu rfl rfl trivial (pu_move rfl) ?_
      refine Go.Sl.L.pu rfl rfl trivial (pu_move rfl) ?_
      refine Go.Sl.L.pu rfl rfl trivial (pu_sliceL et_42 rfl rfl (by omega) (by omega)) ?_
      rw [show (i : Int).toNat = i from rfl, suba_some (by omega)]
      refine Go.Sl.L.pu rfl rfl trivial (pu_move rfl) ?_
      refine Go.Sl.L.ac rfl rfl trivial (ac_cp (xs := xs.take (i + 1) ++ xs.drop i ++ xs.drop (i + 1 + (xs.drop i).length)) (ys := [x]) (p := i) (enc := postC) Tryz.underlying42 sz_66 ek_66 rfl rfl rfl (by show 1 = min 1 _; omega) (by repeat constructor) (SlH.own (by repeat constructor)) (by simp; omega) (by show i + 1 ≤ c; omega)) ?_
      rintro _ _ ⟨rfl, rfl⟩
      refine Go.Sl.L.nil ?_
      refine Gs.then_n ?_
      refine Gs.seq ?_
      rw [ins_room hil]
      refine Gs.reg ?_
      refine Go.Sl.L.pu rfl rfl trivial (pu_move rfl) ?_
      refine Go.Sl.L.pu rfl rfl trivial (pu_assign rfl) ?_
      refine Go.Sl.L.nil ?_
      refine Gs.then_n ?_
      refine Gs.ret ?_
      refine Gs.then_r ?_
      exact Gs.fin1 Tryz.results80 rfl _ (⟨some ⟨ab, ao, none⟩, c, by rw [hlen], rfl⟩) (by repeat constructor)
end Go.Proofs.YtmbikfojljnnkaaGreatDoor

/- Walks: Put (post). -/
namespace Go.Po
open Go Go.Sl Go.Gv
/-- A list with one more, or one instead of another one. -/
def putP (L : List PostP) (x : PostP) : List PostP :=
  if mayB L then (if risesB x.2 then L.filter (fun y => before y.1 x.1) ++ [x] ++ L.filter (fun y => before x.1 y.1) else L) else []
def dropP (L : List PostP) (k : Key) : List PostP := if mayB L then L.filter (fun y => decide (y.1 ≠ k)) else []
theorem filter_cut {L : List PostP} {f : PostP → Bool} {i : Nat} (h1 : ∀ x ∈ L.take i, f x = true) (h2 : ∀ x ∈ L.drop i, f x = false) : L.filter f = L.take i := by
  have e : L.filter f = (L.take i).filter f ++ (L.drop i).filter f := by rw [← List.filter_append, List.take_append_drop]
  rw [e, List.filter_eq_self.2 h1, List.filter_eq_nil_iff.2 (fun x hx => by rw [h2 x hx]; decide), List.append_nil]
theorem filter_cut2 {L : List PostP} {f : PostP → Bool} {i : Nat} (h1 : ∀ x ∈ L.take i, f x = false) (h2 : ∀ x ∈ L.drop i, f x = true) : L.filter f = L.drop i := by
  have e : L.filter f = (L.take i).filter f ++ (L.drop i).filter f := by rw [← List.filter_append, List.take_append_drop]
  rw [e, List.filter_eq_self.2 h2, List.filter_eq_nil_iff.2 (fun x hx => by rw [h1 x hx]; decide), List.nil_append]
theorem mem_take_at {α : Type} {L : List α} {i : Nat} {x : α} (h : x ∈ L.take i) : ∃ m, m < i ∧ L[m]? = some x := by
  obtain ⟨m, hm⟩ := List.mem_iff_getElem?.1 h
  rw [List.getElem?_take] at hm
  split at hm
  · exact ⟨m, by assumption, hm⟩
  · cases hm
theorem mem_drop_at {α : Type} {L : List α} {i : Nat} {x : α} (h : x ∈ L.drop i) : ∃ m, i ≤ m ∧ L[m]? = some x := by
  obtain ⟨m, hm⟩ := List.mem_iff_getElem?.1 h
  rw [List.getElem?_drop] at hm
  exact ⟨i + m, by omega, hm⟩
end Go.Po
namespace Go.Proofs.YtmbikfojljnnkaaGreatDoor
open Go Go.Sl Go.Gv Go.Po
set_option maxRecDepth 100000
theorem put_new {qs : List PostV} {k : Key} {i : Nat} (h : cutI qs k i) (hno : ∀ x, qs[i]? = some x → x.k ≠ k) (ha : ((qs.map PostV.p).map Prod.fst).Pairwise (fun a b => before a b = true)) (hm : mayB (plain1 qs) = true) {x : PostV} (hx : x.k = k) (hr : risesB x.t.xs = true) :
    plain1 (qs.take i ++ [x] ++ qs.drop i) = putP (plain1 qs) x.p := by
  obtain ⟨hi, hlo, hhi⟩ := h
  have e1 : (plain1 qs).filter (fun y => before y.1 x.k) = (plain1 qs).take i := filter_cut
    (fun y hy => by
      obtain ⟨m, hm, hy⟩ := mem_take_at hy
      rw [List.getElem?_map] at hy
      obtain ⟨z, hz, rfl⟩ := Option.map_eq_some_iff.1 hy
      have := hlo m z hm hz; rw [hx]; exact this)
    (fun y hy => by
      obtain ⟨m, hm, hy⟩ := mem_drop_at hy
      rw [List.getElem?_map] at hy
      obtain ⟨z, hz, rfl⟩ := Option.map_eq_some_iff.1 hy
      have := hhi m z hm hz; rw [hx]; exact this)
  have e2 : (plain1 qs).filter (fun y => before x.k y.1) = (plain1 qs).drop i := filter_cut2
    (fun y hy => by
      obtain ⟨m, hm, hy⟩ := mem_take_at hy
      rw [List.getElem?_map] at hy
      obtain ⟨z, hz, rfl⟩ := Option.map_eq_some_iff.1 hy
      have := hlo m z hm hz; rw [hx]; exact before_asymm this)
    (fun y hy => by
      obtain ⟨m, hm, hy⟩ := mem_drop_at hy
      rw [List.getElem?_map] at hy
      obtain ⟨z, hz, rfl⟩ := Option.map_eq_some_iff.1 hy
      have h1 := hhi m z hm hz
      have hne : z.k ≠ k := by
        rcases Nat.lt_or_eq_of_le hm with hlt | heq
        · intro e
          obtain ⟨u, hu⟩ : ∃ u, qs[i]? = some u := ⟨qs[i]'(by have := (List.getElem?_eq_some_iff.1 hz).1; omega), by simp⟩
          have h2 := asc_lt ha hlt hu hz
          have h3 := hhi i u (Nat.le_refl _) hu
          have h4 : before u.k z.k = true := h2
          rw [e] at h4; rw [h4] at h3; cases h3
        · exact hno z (heq ▸ hz)
      rw [hx]
      show before k z.k = true
      rcases before_total hne with h | h
      · have h5 : before z.k k = true := h
        rw [h5] at h1; cases h1
      · exact h)
  unfold putP
  rw [if_pos hm, if_pos (show risesB x.p.2 = true from hr)]
  show _ = (plain1 qs).filter (fun y => before y.1 x.k) ++ [x.p] ++ (plain1 qs).filter (fun y => before x.k y.1)
  rw [e1, e2]; simp [plain1, List.map_take, List.map_drop]
theorem put_old {qs : List PostV} {k : Key} {i : Nat} (h : cutI qs k i) {y : PostV} (hy : qs[i]? = some y) (hyk : y.k = k) (ha : ((qs.map PostV.p).map Prod.fst).Pairwise (fun a b => before a b = true)) (hm : mayB (plain1 qs) = true) {x : PostV} (hx : x.k = k) (hr : risesB x.t.xs = true) :
    plain1 (qs.set i x) = putP (plain1 qs) x.p := by
  obtain ⟨hi, hlo, hhi⟩ := h
  have hlt := (List.getElem?_eq_some_iff.1 hy).1
  have e1 : (plain1 qs).filter (fun y => before y.1 x.k) = (plain1 qs).take i := filter_cut
    (fun y hy => by
      obtain ⟨m, hm, hy⟩ := mem_take_at hy
      rw [List.getElem?_map] at hy
      obtain ⟨z, hz, rfl⟩ := Option.map_eq_some_iff.1 hy
      have := hlo m z hm hz; rw [hx]; exact this)
    (fun y hy => by
      obtain ⟨m, hm, hy⟩ := mem_drop_at hy
      rw [List.getElem?_map] at hy
      obtain ⟨z, hz, rfl⟩ := Option.map_eq_some_iff.1 hy
      have := hhi m z hm hz; rw [hx]; exact this)
  have e2 : (plain1 qs).filter (fun y => before x.k y.1) = (plain1 qs).drop (i + 1) := filter_cut2
    (fun u hu => by
      obtain ⟨m, hm, hu⟩ := mem_take_at hu
      rw [List.getElem?_map] at hu
      obtain ⟨z, hz, rfl⟩ := Option.map_eq_some_iff.1 hu
      rw [hx]
      show before k z.k = false
      rcases Nat.lt_or_eq_of_le (Nat.lt_succ_iff.1 hm) with h | h
      · exact before_asymm (hlo m z h hz)
      · subst h; rw [hy] at hz; cases hz; rw [hyk]; exact before_irr)
    (fun u hu => by
      obtain ⟨m, hm, hu⟩ := mem_drop_at hu
      rw [List.getElem?_map] at hu
      obtain ⟨z, hz, rfl⟩ := Option.map_eq_some_iff.1 hu
      have h2 := asc_lt ha (show i < m by omega) hy hz
      rw [hx]
      have h3 : before y.k z.k = true := h2
      rw [hyk] at h3; exact h3)
  unfold putP
  rw [if_pos hm, if_pos (show risesB x.p.2 = true from hr)]
  show _ = (plain1 qs).filter (fun y => before y.1 x.k) ++ [x.p] ++ (plain1 qs).filter (fun y => before x.k y.1)
  rw [e1, e2, List.set_eq_take_append_cons_drop, if_pos hlt]
  simp [plain1, List.map_take, List.map_drop]
theorem pput_spec {S : HProp} {a : Option Addr} {c : Nat} {ps : List PostV} {p : PostV} (hS : PRd S a ps) (hl : ps.length ≤ 1000) (hU : Srd S 1 intC p.t.a p.t.xs) (hul : p.t.xs.length ≤ 1000) :
    Ct Tryz.prog 36 [.slice a ps.length c, postV p] [S] (fun v hs => ∃ a' c' qs, v = .slice a' qs.length c' ∧ plain1 qs = putP (plain1 ps) p.p ∧ hs = [S, plO a' c' qs]) := by
  refine Ct.intro Tryz.func36 rfl (by kernel_rfl) 40 Tryz.ntmps36 (Nat.le_of_ble_eq_true rfl) fun w0 R => ?_
  refine Gs.seq ?_
  refine Gs.reg ?_
  refine Go.Sl.L.ac rfl rfl trivial (ac_box rfl rfl) ?_
  rintro _ _ ⟨b3, rfl, rfl⟩
  refine Go.Sl.L.pu rfl rfl trivial (pu_assign rfl) ?_
  refine Go.Sl.L.nil ?_
  refine Gs.then_n ?_
  refine Gs.seq ?_
  refine Gs.seq ?_
  refine Gs.reg ?_
  refine Go.Sl.L.pu rfl rfl trivial (pu_move rfl) ?_
  refine Go.Sl.L.ac rfl rfl trivial (as_call (may_spec hS hl) (by repeat constructor) (by repeat constructor)) ?_
  rintro _ _ ⟨_, ⟨rfl, rfl⟩, rfl⟩
  refine Go.Sl.L.pu rfl rfl trivial (pu_not rfl) ?_
  refine Go.Sl.L.nil ?_
  refine Gs.then_n ?_
  refine Gs.cond rfl (fun hc0 => ?_) (fun hc0 => ?_)
  · skip
    have hno := not_t hc0
    refine Gs.seq ?_
    refine Gs.reg ?_
    refine Go.Sl.L.pu rfl rfl trivial (pu_assign rfl) ?_
    refine Go.Sl.L.nil ?_
    refine Gs.then_n ?_
    refine Gs.ret ?_
    refine Gs.then_r ?_
    refine Gs.bigNil (Gs.slNil 66 3 postC (Gs.toTwo ?_))
    exact Gs.fin1 Tryz.results36 rfl _ (⟨none, 0, [], rfl, by rw [putP, hno]; rfl, rfl⟩) (by repeat constructor)
  · skip
    have hmay := not_f hc0
    refine Gs.skip ?_
    refine Gs.then_n ?_
    refine Gs.seq ?_
    refine Gs.reg ?_
    refine Go.Sl.L.pu rfl rfl trivial (pu_move rfl) ?_
    refine Go.Sl.L.ac rfl rfl trivial (as_call (own_spec hS hl) (by repeat constructor) (by repeat constructor)) ?_
    rintro _ _ ⟨_, ⟨na, nc, qs, rfl, hqs, rfl⟩, rfl⟩
    refine Go.Sl.L.pu rfl rfl trivial (pu_assign rfl) ?_
    refine Go.Sl.L.nil ?_
    have hql : qs.length = ps.length := by have := congrArg List.length hqs; simpa using this
    have hmq : mayB (plain1 qs) = true := by rw [hqs]; exact hmay
    have hasc := may_asc hmq
    refine Gs.then_n ?_
    refine Gs.seq ?_
    refine Gs.seq ?_
    refine Gs.reg ?_
    refine Go.Sl.L.pu rfl rfl trivial (pu_fa fa_66_1 rfl) ?_
    refine Go.Sl.L.rd rfl rfl trivial (rd_ld na_64 rfl (Rdc.cl1 (by repeat constructor) rfl)) ?_
    refine Go.Sl.L.ac rfl rfl trivial (as_call (rises_spec hU hul) (by repeat constructor) (by repeat constructor)) ?_
    rintro _ _ ⟨_, ⟨rfl, rfl⟩, rfl⟩
    refine Go.Sl.L.pu rfl rfl trivial (pu_not rfl) ?_
    refine Go.Sl.L.nil ?_
    refine Gs.then_n ?_
    refine Gs.cond rfl (fun hc1 => ?_) (fun hc1 => ?_)
    · skip
      have hnr : risesB p.p.2 = false := not_t hc1
      refine Gs.seq ?_
      refine Gs.reg ?_
      refine Go.Sl.L.pu rfl rfl trivial (pu_move rfl) ?_
      refine Go.Sl.L.pu rfl rfl trivial (pu_assign rfl) ?_
      refine Go.Sl.L.nil ?_
      refine Gs.then_n ?_
      refine Gs.ret ?_
      refine Gs.then_r ?_
      exact Gs.fin1 Tryz.results36 rfl _ (⟨na, nc, qs, rfl, by rw [putP, hmay, hnr, hqs]; rfl, rfl⟩) (by repeat constructor)
    · skip
      have hri : risesB p.t.xs = true := not_f hc1
      refine Gs.skip ?_
      refine Gs.then_n ?_
      refine Gs.seq ?_
      refine Gs.reg ?_
      refine Go.Sl.L.pu rfl rfl trivial (pu_fa fa_66_1 rfl) ?_
      refine Go.Sl.L.rd rfl rfl trivial (rd_ld na_64 rfl (Rdc.cl1 (by repeat constructor) rfl)) ?_
      refine Go.Sl.L.ac rfl rfl trivial (as_call (cloneI_spec hU (by omega)) (by repeat constructor) (by repeat constructor)) ?_
      rintro _ _ ⟨_, ⟨ka, kc, rfl, rfl⟩, rfl⟩
      refine Go.Sl.L.pu rfl rfl trivial (pu_fa fa_66_1 rfl) ?_
      refine Go.Sl.L.ac0 rfl trivial (ac_st sz_64 rfl rfl (by repeat constructor) rfl rfl rfl rfl) ?_
      rintro _ _ rfl
      refine Go.Sl.L.nil ?_
      refine Gs.then_n ?_
      refine Gs.seq ?_
      refine Gs.reg ?_
      refine Go.Sl.L.pu rfl rfl trivial (pu_move rfl) ?_
      refine Go.Sl.L.pu rfl rfl trivial (pu_fa fa_66_0 rfl) ?_
      refine Go.Sl.L.rd rfl rfl trivial (rd_lda ag_31 rfl (Rdc.cl 2 (by repeat constructor) rfl) rfl) ?_
      refine Go.Sl.L.ac rfl rfl trivial (as_call (bsf_spec (S := plO na nc qs) (Srd.two1 Srd.own) (by omega) hasc p.k) (by repeat constructor) (by repeat constructor)) ?_
      rintro _ _ ⟨_, ⟨⟨i, rfl, hcut⟩, rfl⟩, rfl⟩
      refine Go.Sl.L.pu rfl rfl trivial (pu_move rfl) ?_
      refine Go.Sl.L.pu rfl rfl trivial (pu_extract rfl rfl) ?_
      refine Go.Sl.L.pu rfl rfl trivial (pu_extract rfl rfl) ?_
      refine Go.Sl.L.pu rfl rfl trivial (pu_assign rfl) ?_
      refine Go.Sl.L.pu rfl rfl trivial (pu_assign rfl) ?_
      refine Go.Sl.L.nil ?_
      refine Gs.then_n ?_
      refine Gs.seq ?_
      refine Gs.seq ?_
      refine Gs.reg ?_
      refine Go.Sl.L.pu rfl rfl trivial (pu_move rfl) ?_
      refine Go.Sl.L.nil ?_
      refine Gs.then_n ?_
      refine Gs.cond rfl (fun hc2 => ?_) (fun hc2 => ?_)
      · skip
        obtain ⟨y, hy, hyk⟩ := Option.map_eq_some_iff.1 (of_decide_eq_true hc2)
        have hlt := (List.getElem?_eq_some_iff.1 hy).1
        have hpl := put_old hcut hy hyk hasc hmq (x := ⟨p.k, ⟨ka, p.t.xs, kc⟩⟩) rfl hri
        refine Gs.take (A := plO na nc qs) (by repeat constructor) (Gs.two ?_)
        refine Gs.slAddr (xs := qs) (SlH.own (E := 66) (enc := postC) (by repeat constructor)) fun ab ao ha => ?_
        obtain rfl := ha (by rintro rfl; simp at hy)
        refine Gs.seq ?_
        refine Gs.reg ?_
        refine Go.Sl.L.pu rfl rfl trivial (pu_move rfl) ?_
        refine Go.Sl.L.pu rfl rfl trivial (pu_move rfl) ?_
        refine Go.Sl.L.rd rfl rfl trivial (rd_lda ag_66 rfl (Rdc.cl 3 (by repeat constructor) rfl) rfl) ?_
        refine Go.Sl.L.pu rfl rfl trivial (pu_ia se_42 rfl rfl (by omega) (by omega)) ?_
        refine Go.Sl.L.ac0 rfl trivial (ac_stE (enc := postC) (xs := qs) (i := i) (x0 := y) (y0 := ⟨p.k, ⟨ka, p.t.xs, kc⟩⟩) (vs := postC ⟨p.k, ⟨ka, p.t.xs, kc⟩⟩) (fo := 0) sz_66 ek_66 rfl rfl (by repeat constructor) rfl rfl rfl hy rfl rfl) ?_
        rintro _ _ rfl
        refine Go.Sl.L.nil ?_
        refine Gs.takes (As := [big (qs.map atO)]) (by repeat constructor) (Gs.bigTake (take_at (A := atO y) (i := i) (by simp [hy])) (Gs.drop ?_))
        refine Gs.takes (As := [atO ⟨p.k, ⟨ka, p.t.xs, kc⟩⟩, big ((qs.map atO).eraseIdx i)]) (by repeat constructor) (Gs.bigBack (take_set (by simpa using hlt)) ?_)
        rw [← List.map_set]
        refine Gs.then_n ?_
        refine Gs.seq ?_
        refine Gs.reg ?_
        refine Go.Sl.L.pu rfl rfl trivial (pu_move rfl) ?_
        refine Go.Sl.L.pu rfl rfl trivial (pu_assign rfl) ?_
        refine Go.Sl.L.nil ?_
        refine Gs.then_n ?_
        refine Gs.ret ?_
        refine Gs.then_r ?_
        refine Gs.takes (As := [sl 66 3 postC (some ⟨ab, ao, none⟩) nc (qs.set i ⟨p.k, ⟨ka, p.t.xs, kc⟩⟩), big ((qs.set i ⟨p.k, ⟨ka, p.t.xs, kc⟩⟩).map atO)]) (by repeat constructor) (Gs.toTwo ?_)
        exact Gs.fin1 Tryz.results36 rfl _ (⟨some ⟨ab, ao, none⟩, nc, qs.set i ⟨p.k, ⟨ka, p.t.xs, kc⟩⟩, by rw [List.length_set], by rw [hpl, hqs]; rfl, rfl⟩) (by repeat constructor)
      · skip
        have hpl := put_new hcut (fun x hx e => (of_decide_eq_false hc2) (by rw [hx]; exact congrArg some e)) hasc hmq (x := ⟨p.k, ⟨ka, p.t.xs, kc⟩⟩) rfl hri
        refine Gs.take (A := plO na nc qs) (by repeat constructor) (Gs.two ?_)
        refine Gs.skip ?_
        refine Gs.then_n ?_
        refine Gs.seq ?_
        refine Gs.reg ?_
        refine Go.Sl.L.pu rfl rfl trivial (pu_move rfl) ?_
        refine Go.Sl.L.pu rfl rfl trivial (pu_move rfl) ?_
        refine Go.Sl.L.rd rfl rfl trivial (rd_lda ag_66 rfl (Rdc.cl 3 (by repeat constructor) rfl) rfl) ?_
        refine Go.Sl.L.ac rfl rfl trivial (ac_lit encC_66 ([(⟨p.k, ⟨ka, p.t.xs, kc⟩⟩ : PostV)]) et_42 ek_66 rfl (by repeat constructor) rfl rfl (by decide)) ?_
        rintro _ _ ⟨a38, rfl, rfl⟩
        refine Go.Sl.L.ac rfl rfl trivial (as_call (insert_spec (xs := qs) (x := ⟨p.k, ⟨ka, p.t.xs, kc⟩⟩) hcut.1 (by omega)) (by repeat constructor) (by repeat constructor)) ?_
        rintro _ _ ⟨_, ⟨ia, ic, rfl, rfl⟩, rfl⟩
        refine Go.Sl.L.pu rfl rfl trivial (pu_assign rfl) ?_
        refine Go.Sl.L.nil ?_
        have hm2 : (qs.take i ++ [(⟨p.k, ⟨ka, p.t.xs, kc⟩⟩ : PostV)] ++ qs.drop i).map atO = (qs.take i).map atO ++ atO ⟨p.k, ⟨ka, p.t.xs, kc⟩⟩ :: (qs.drop i).map atO := by simp
        have hm3 : qs.map atO = (qs.take i).map atO ++ (qs.drop i).map atO := by rw [← List.map_append, List.take_append_drop]
        refine Gs.takes (As := [atO ⟨p.k, ⟨ka, p.t.xs, kc⟩⟩, big (qs.map atO)]) (by repeat constructor) ?_
        rw [hm3]
        refine Gs.bigBack take_mid ?_
        rw [← hm2]
        refine Gs.then_n ?_
        refine Gs.ret ?_
        refine Gs.takes (As := [sl 66 3 postC ia ic (qs.take i ++ [(⟨p.k, ⟨ka, p.t.xs, kc⟩⟩ : PostV)] ++ qs.drop i), big ((qs.take i ++ [(⟨p.k, ⟨ka, p.t.xs, kc⟩⟩ : PostV)] ++ qs.drop i).map atO)]) (by repeat constructor) (Gs.toTwo ?_)
        exact Gs.fin1 Tryz.results36 rfl _ (⟨ia, ic, _, rfl, by rw [hpl, hqs]; rfl, rfl⟩) (by repeat constructor)
end Go.Proofs.YtmbikfojljnnkaaGreatDoor

/- Walks: DeleteFunc at posts, Drop (post). -/
namespace Go.Proofs.YtmbikfojljnnkaaGreatDoor
open Go Go.Sl Go.Gv Go.Po
set_option maxRecDepth 100000
theorem indexP_spec {F : HProp} {g : FuncId} {c1 : Value} {q : PostV → Bool} {a : Option Addr} {c : Nat} {xs : List PostV} (hg : ∀ p, Ct Tryz.prog g ([] ++ [postV p] ++ [c1]) [F] (fun v hs => v = .bool (q p) ∧ hs = [F])) (hl : xs.length ≤ 100000) :
    Ct Tryz.prog 99 [.slice a xs.length c, .func (.func g) #[] #[c1]] [sl 66 3 postC a c xs, F] (fun v hs => (∃ z : Int, v = int z ∧ ((z = -1 ∧ ∀ x ∈ xs, q x = false) ∨ (∃ i : Nat, z = i ∧ (∃ x, xs[i]? = some x ∧ q x = true) ∧ ∀ x ∈ xs.take i, q x = false))) ∧ hs = [sl 66 3 postC a c xs, F]) := by
  refine Ct.intro Tryz.func99 rfl (by kernel_rfl) 19 Tryz.ntmps99 (Nat.le_of_ble_eq_true rfl) fun w0 R => ?_
  refine Gs.slAddr (SlH.own (by repeat constructor)) fun ab ao ha => ?_
  refine Gs.seq ?_
  refine Gs.reg ?_
  refine Go.Sl.L.pu rfl rfl trivial (pu_assign rfl) ?_
  refine Go.Sl.L.nil ?_
  refine Gs.then_n ?_
  refine Gs.seq ?_
  refine Gs.seq ?_
  refine Gs.reg ?_
  refine Go.Sl.L.pu rfl rfl trivial (pu_move rfl) ?_
  refine Go.Sl.L.pu rfl rfl trivial (pu_len Tryz.underlying42 rfl) ?_
  refine Go.Sl.L.pu rfl rfl trivial (pu_move rfl) ?_
  refine Go.Sl.L.nil ?_
  refine Gs.then_n ?_
  refine Gs.block ?_
  refine Gs.loop1 (fun i : Nat => i ≤ xs.length ∧ ∀ x ∈ xs.take i, q x = false) (fun i => [(0, .slice a xs.length c), (1, .func (.func g) #[] #[c1]), (7, int xs.length), (8, int i)]) (fun i => [sl 66 3 postC a c xs, F] ++ R) (fun i => xs.length - i) 0 (⟨Nat.zero_le _, fun x hx => by simp at hx⟩) (by repeat constructor) (by repeat constructor) (fun i ⟨hi, hq⟩ => ?_)
  refine Gs.seq ?_
  refine Gs.reg ?_
  refine Go.Sl.L.pu rfl rfl trivial (pu_lt rfl rfl) ?_
  refine Go.Sl.L.nil ?_
  refine Gs.then_n ?_
  refine Gs.seq ?_
  refine Gs.cond rfl (fun hc0 => ?_) (fun hc0 => ?_)
  · skip
    have hlt : i < xs.length := by have := of_decide_eq_true hc0; omega
    obtain ⟨x, hx⟩ : ∃ x, xs[i]? = some x := ⟨xs[i], by simp [hlt]⟩
    obtain rfl := ha (by rintro rfl; simp at hlt)
    refine Gs.skip ?_
    refine Gs.then_n ?_
    refine Gs.seq ?_
    refine Gs.block ?_
    refine Gs.seq ?_
    refine Gs.reg ?_
    refine Go.Sl.L.pu rfl rfl trivial (pu_move rfl) ?_
    refine Go.Sl.L.pu rfl rfl trivial (pu_assign rfl) ?_
    refine Go.Sl.L.nil ?_
    refine Gs.then_n ?_
    refine Gs.seq ?_
    refine Gs.reg ?_
    refine Go.Sl.L.pu rfl rfl trivial (pu_move rfl) ?_
    refine Go.Sl.L.pu rfl rfl trivial (pu_move rfl) ?_
    refine Go.Sl.L.pu rfl rfl trivial (pu_move rfl) ?_
    refine Go.Sl.L.pu rfl rfl trivial (pu_ia se_42 rfl rfl (by omega) (by omega)) ?_
    refine Go.Sl.L.rd rfl rfl trivial (rd_lda ag_66 rfl (Rdc.el0 (SlH.own (by repeat constructor)) hx rfl rfl) rfl) ?_
    refine Go.Sl.L.ac rfl rfl trivial (as_callV rfl (hg x) (by repeat constructor) (by repeat constructor)) ?_
    rintro _ _ ⟨_, ⟨rfl, rfl⟩, rfl⟩
    refine Go.Sl.L.nil ?_
    refine Gs.then_n ?_
    refine Gs.cond rfl (fun hc1 => ?_) (fun hc1 => ?_)
    · skip
      refine Gs.seq ?_
      refine Gs.reg ?_
      refine Go.Sl.L.pu rfl rfl trivial (pu_move rfl) ?_
      refine Go.Sl.L.pu rfl rfl trivial (pu_assign rfl) ?_
      refine Go.Sl.L.nil ?_
      refine Gs.then_n ?_
      refine Gs.ret ?_
      refine Gs.blk_r ?_
      refine Gs.then_r ?_
      refine Gs.then_r ?_
      refine Gs.blk_r ?_
      refine Gs.then_r ?_
      exact Gs.fin1 Tryz.results99 rfl _ (⟨⟨_, rfl, .inr ⟨i, rfl, ⟨x, hx, hc1⟩, hq⟩⟩, rfl⟩) (by repeat constructor)
    · skip
      refine Gs.skip ?_
      refine Gs.blk_n ?_
      refine Gs.then_n ?_
      refine Gs.reg ?_
      refine Go.Sl.L.pu rfl rfl trivial (by first | exact pu_addI rfl rfl rfl (by omega) (by omega) | exact pu_add rfl rfl) ?_
      refine Go.Sl.L.pu rfl rfl trivial (pu_move rfl) ?_
      refine Go.Sl.L.nil ?_
      refine Gs.then_n ?_
      exact Gs.again1 (i + 1) ⟨hlt, fun y hy => by rw [List.take_add_one, hx] at hy; rcases List.mem_append.1 hy with hy | hy; exact hq y hy; simp at hy; subst hy; exact hc1⟩ (by show xs.length - (i + 1) < xs.length - i; omega) (by repeat constructor) (by repeat constructor)
  · skip
    have hge : i = xs.length := by have := of_decide_eq_false hc0; omega
    rw [hge, List.take_length] at hq
    refine Gs.exit ?_
    refine Gs.then_x ?_
    refine Gs.then_x ?_
    refine Gs.blk_hit ?_
    refine Gs.then_n ?_
    refine Gs.seq ?_
    refine Gs.reg ?_
    refine Go.Sl.L.pu rfl rfl trivial (pu_assign rfl) ?_
    refine Go.Sl.L.nil ?_
    refine Gs.then_n ?_
    refine Gs.ret ?_
    exact Gs.fin1 Tryz.results99 rfl _ (⟨⟨_, rfl, .inl ⟨rfl, hq⟩⟩, rfl⟩) (by repeat constructor)
theorem del_keep {α : Type} {ys : List α} {m : Nat} {x : α} (h : m < ys.length) : (ys.set m x).take (m + 1) = ys.take m ++ [x] := by
  rw [List.take_add_one, List.getElem?_set_self h, List.take_set_of_le (Nat.le_refl _)]; rfl
theorem deleteP_spec {F : HProp} {g : FuncId} {c1 : Value} {q : PostV → Bool} {a : Option Addr} {c : Nat} {xs : List PostV} (hg : ∀ p, Ct Tryz.prog g ([] ++ [postV p] ++ [c1]) [F] (fun v hs => v = .bool (q p) ∧ hs = [F])) (hl : xs.length ≤ 100000) :
    Ct Tryz.prog 69 [.slice a xs.length c, .func (.func g) #[] #[c1]] [sl 66 3 postC a c xs, F]
      (fun v hs => v = .slice a (xs.filter fun x => !q x).length c ∧ hs = [sl 66 3 postC a c (xs.filter fun x => !q x), F]) := by
  refine Ct.intro Tryz.func69 rfl (by kernel_rfl) 42 Tryz.ntmps69 (Nat.le_of_ble_eq_true rfl) fun w0 R => ?_
  refine Gs.slAddr (SlH.own (by repeat constructor)) fun ab ao ha => Gs.slLen (by repeat constructor) fun hlc => ?_
  refine Gs.seq ?_
  refine Gs.reg ?_
  refine Go.Sl.L.pu rfl rfl trivial (pu_assign rfl) ?_
  refine Go.Sl.L.nil ?_
  refine Gs.then_n ?_
  refine Gs.seq ?_
  refine Gs.reg ?_
  refine Go.Sl.L.pu rfl rfl trivial (pu_move rfl) ?_
  refine Go.Sl.L.pu rfl rfl trivial (pu_move rfl) ?_
  refine Go.Sl.L.ac rfl rfl trivial (as_call (indexP_spec (q := q) hg hl) (by repeat constructor) (by repeat constructor)) ?_
  rintro _ _ ⟨_, ⟨⟨z, rfl, hz⟩, rfl⟩, rfl⟩
  refine Go.Sl.L.pu rfl rfl trivial (pu_assign rfl) ?_
  refine Go.Sl.L.nil ?_
  refine Gs.then_n ?_
  refine Gs.seq ?_
  refine Gs.seq ?_
  refine Gs.reg ?_
  refine Go.Sl.L.pu rfl rfl trivial (pu_move rfl) ?_
  refine Go.Sl.L.pu rfl rfl trivial (pu_eq rfl rfl) ?_
  refine Go.Sl.L.nil ?_
  refine Gs.then_n ?_
  refine Gs.cond rfl (fun hc0 => ?_) (fun hc0 => ?_)
  · skip
    have hall : xs.filter (fun x => !q x) = xs := List.filter_eq_self.2 fun x hx => by rcases hz with ⟨-, h⟩ | ⟨i, rfl, -⟩ <;> first | (rw [h x hx]; rfl) | (have := of_decide_eq_true hc0; omega)
    refine Gs.seq ?_
    refine Gs.reg ?_
    refine Go.Sl.L.pu rfl rfl trivial (pu_move rfl) ?_
    refine Go.Sl.L.pu rfl rfl trivial (pu_assign rfl) ?_
    refine Go.Sl.L.nil ?_
    refine Gs.then_n ?_
    refine Gs.ret ?_
    refine Gs.then_r ?_
    exact Gs.fin1 Tryz.results69 rfl _ (⟨by rw [hall], by rw [hall]⟩) (by repeat constructor)
  · skip
    obtain ⟨i0, rfl, ⟨x0, hx0, hq0⟩, hz2⟩ : ∃ i : Nat, z = i ∧ (∃ x, xs[i]? = some x ∧ q x = true) ∧ ∀ x ∈ xs.take i, q x = false := by rcases hz with ⟨h, -⟩ | h <;> first | exact h | (exact absurd h (of_decide_eq_false hc0))
    have hi0 : i0 < xs.length := (List.getElem?_eq_some_iff.1 hx0).1
    obtain rfl := ha (by rintro rfl; simp at hi0)
    have hst : xs.take i0 = (xs.take (i0 + 1)).filter (fun x => !q x) := by rw [List.take_add_one, hx0, List.filter_append, List.filter_eq_self.2 (fun x hx => by rw [hz2 x hx]; rfl)]; simp [hq0]
    refine Gs.skip ?_
    refine Gs.then_n ?_
    refine Gs.seq ?_
    refine Gs.seq ?_
    refine Gs.reg ?_
    refine Go.Sl.L.pu rfl rfl trivial (pu_move rfl) ?_
    refine Go.Sl.L.pu rfl rfl trivial (by first | exact pu_addI rfl rfl rfl (by omega) (by omega) | exact pu_add rfl rfl) ?_
    refine Go.Sl.L.pu rfl rfl trivial (pu_assign rfl) ?_
    refine Go.Sl.L.nil ?_
    refine Gs.then_n ?_
    refine Gs.block ?_
    refine Gs.loop1 (fun s : Nat × Nat × List PostV => s.1 ≤ xs.length ∧ s.2.1 ≤ s.1 ∧ s.2.2.length = xs.length ∧ s.2.2.take s.2.1 = (xs.take s.1).filter (fun x => !q x) ∧ s.2.2.drop s.1 = xs.drop s.1) (fun s => [(0, .slice (some ⟨ab, ao, none⟩) xs.length c), (1, .func (.func g) #[] #[c1]), (5, int s.2.1), (6, int s.1)]) (fun s => [sl 66 3 postC (some ⟨ab, ao, none⟩) c s.2.2, F] ++ R) (fun s => xs.length - s.1) (i0 + 1, i0, xs) (⟨hi0, Nat.le_succ _, rfl, hst, rfl⟩) (by repeat constructor) (by repeat constructor) (fun s hs => ?_)
    obtain ⟨j, m, ys⟩ := s
    obtain ⟨hj, hm, hyl, hyt, hyd⟩ := hs
    dsimp only at hj hm hyl hyt hyd ⊢
    refine Gs.seq ?_
    refine Gs.seq ?_
    refine Gs.reg ?_
    refine Go.Sl.L.pu rfl rfl trivial (pu_move rfl) ?_
    refine Go.Sl.L.pu rfl rfl trivial (pu_move rfl) ?_
    refine Go.Sl.L.pu rfl rfl trivial (pu_len Tryz.underlying42 rfl) ?_
    refine Go.Sl.L.pu rfl rfl trivial (pu_lt rfl rfl) ?_
    refine Go.Sl.L.nil ?_
    refine Gs.then_n ?_
    refine Gs.cond rfl (fun hc1 => ?_) (fun hc1 => ?_)
    · skip
      have hlt : j < xs.length := by have := of_decide_eq_true hc1; omega
      obtain ⟨x, hx⟩ : ∃ x, xs[j]? = some x := ⟨xs[j], by simp [hlt]⟩
      have hxy : ys[j]? = some x := by have := congrArg (·[0]?) hyd; simp only [List.getElem?_drop, Nat.add_zero] at this; rw [this]; exact hx
      refine Gs.skip ?_
      refine Gs.then_n ?_
      refine Gs.seq ?_
      refine Gs.block ?_
      refine Gs.seq ?_
      refine Gs.reg ?_
      refine Go.Sl.L.pu rfl rfl trivial (pu_move rfl) ?_
      refine Go.Sl.L.pu rfl rfl trivial (pu_move rfl) ?_
      refine Go.Sl.L.pu rfl rfl trivial (pu_ia se_42 rfl rfl (by omega) (by omega)) ?_
      refine Go.Sl.L.rd rfl rfl trivial (rd_lda ag_66 rfl (Rdc.el0 (SlH.own (by repeat constructor)) hxy rfl rfl) rfl) ?_
      refine Go.Sl.L.ac rfl rfl trivial (ac_alloc zv_66 rfl) ?_
      rintro _ _ ⟨xb, rfl, rfl⟩
      refine Go.Sl.L.ac0 rfl trivial (ac_st sz_66 rfl rfl (by repeat constructor) rfl rfl rfl rfl) ?_
      rintro _ _ rfl
      refine Go.Sl.L.nil ?_
      refine Gs.then_n ?_
      refine Gs.seq ?_
      refine Gs.reg ?_
      refine Go.Sl.L.pu rfl rfl trivial (pu_move rfl) ?_
      refine Go.Sl.L.rd rfl rfl trivial (rd_lda ag_66 rfl (Rdc.cl 3 (by repeat constructor) rfl) rfl) ?_
      refine Go.Sl.L.ac rfl rfl trivial (as_callV rfl (hg x) (by repeat constructor) (by repeat constructor)) ?_
      rintro _ _ ⟨_, ⟨rfl, rfl⟩, rfl⟩
      refine Go.Sl.L.pu rfl rfl trivial (pu_not rfl) ?_
      refine Go.Sl.L.nil ?_
      refine Gs.then_n ?_
      refine Gs.cond rfl (fun hc2 => ?_) (fun hc2 => ?_)
      · skip
        have hX : q x = false := by simpa using hc2
        have k1 : (ys.set m x).length = xs.length := by rw [List.length_set]; exact hyl
        have k2 : (ys.set m x).take (m + 1) = (xs.take (j + 1)).filter (fun x => !q x) := by rw [del_keep (by omega), hyt, List.take_add_one, hx, List.filter_append]; simp [hX]
        have k3 : (ys.set m x).drop (j + 1) = xs.drop (j + 1) := by rw [List.drop_set_of_lt (by omega), ← List.drop_drop, hyd, List.drop_drop]
        refine Gs.seq ?_
        refine Gs.reg ?_
        refine Go.Sl.L.pu rfl rfl trivial (pu_move rfl) ?_
        refine Go.Sl.L.pu rfl rfl trivial (pu_move rfl) ?_
        refine Go.Sl.L.rd rfl rfl trivial (rd_lda ag_66 rfl (Rdc.cl 3 (by repeat constructor) rfl) rfl) ?_
        refine Go.Sl.L.pu rfl rfl trivial (pu_ia se_42 rfl rfl (by omega) (by omega)) ?_
        refine Go.Sl.L.ac0 rfl trivial (ac_stE (enc := postC) (xs := ys) (i := m) (x0 := ys[m]'(by omega)) (y0 := x) (vs := postC x) (fo := 0) sz_66 ek_66 rfl rfl (by repeat constructor) rfl rfl rfl (by simp) rfl rfl) ?_
        rintro _ _ rfl
        refine Go.Sl.L.nil ?_
        refine Gs.then_n ?_
        refine Gs.reg ?_
        refine Go.Sl.L.pu rfl rfl trivial (pu_move rfl) ?_
        refine Go.Sl.L.pu rfl rfl trivial (by first | exact pu_addI rfl rfl rfl (by omega) (by omega) | exact pu_add rfl rfl) ?_
        refine Go.Sl.L.pu rfl rfl trivial (pu_assign rfl) ?_
        refine Go.Sl.L.nil ?_
        refine Gs.blk_n ?_
        refine Gs.then_n ?_
        refine Gs.reg ?_
        refine Go.Sl.L.pu rfl rfl trivial (pu_move rfl) ?_
        refine Go.Sl.L.pu rfl rfl trivial (by first | exact pu_addI rfl rfl rfl (by omega) (by omega) | exact pu_add rfl rfl) ?_
        refine Go.Sl.L.pu rfl rfl trivial (pu_assign rfl) ?_
        refine Go.Sl.L.nil ?_
        refine Gs.then_n ?_
        first | exact Gs.again1 (j + 1, m + 1, ys.set m x) ⟨by show j + 1 ≤ xs.length; omega, by show m + 1 ≤ j + 1; omega, k1, k2, k3⟩ (by show xs.length - (j + 1) < xs.length - j; omega) (by repeat constructor) (by repeat constructor) | exact Gs.again1 (j + 1, m, ys) ⟨by show j + 1 ≤ xs.length; omega, by show m ≤ j + 1; omega, hyl, k2, k3⟩ (by show xs.length - (j + 1) < xs.length - j; omega) (by repeat constructor) (by repeat constructor)
      · skip
        have hX : q x = true := by simpa using hc2
        have k2 : ys.take m = (xs.take (j + 1)).filter (fun x => !q x) := by rw [hyt, List.take_add_one, hx, List.filter_append]; simp [hX]
        have k3 : ys.drop (j + 1) = xs.drop (j + 1) := by rw [← List.drop_drop, hyd, List.drop_drop]
        refine Gs.skip ?_
        refine Gs.blk_n ?_
        refine Gs.then_n ?_
        refine Gs.reg ?_
        refine Go.Sl.L.pu rfl rfl trivial (pu_move rfl) ?_
        refine Go.Sl.L.pu rfl rfl trivial (by first | exact pu_addI rfl rfl rfl (by omega) (by omega) | exact pu_add rfl rfl) ?_
        refine Go.Sl.L.pu rfl rfl trivial (pu_assign rfl) ?_
        refine Go.Sl.L.nil ?_
        refine Gs.then_n ?_
        first | exact Gs.again1 (j + 1, m + 1, ys.set m x) ⟨by show j + 1 ≤ xs.length; omega, by show m + 1 ≤ j + 1; omega, k1, k2, k3⟩ (by show xs.length - (j + 1) < xs.length - j; omega) (by repeat constructor) (by repeat constructor) | exact Gs.again1 (j + 1, m, ys) ⟨by show j + 1 ≤ xs.length; omega, by show m ≤ j + 1; omega, hyl, k2, k3⟩ (by show xs.length - (j + 1) < xs.length - j; omega) (by repeat constructor) (by repeat constructor)
    · skip
      have hge : j = xs.length := by have := of_decide_eq_false hc1; omega
      rw [hge, List.take_length] at hyt
      have hml : (ys.take m).length = m := by rw [List.length_take]; omega
      have hdl : (ys.drop m).length = xs.length - m := by rw [List.length_drop]; omega
      refine Gs.exit ?_
      refine Gs.then_x ?_
      refine Gs.then_x ?_
      refine Gs.blk_hit ?_
      refine Gs.then_n ?_
      refine Gs.seq ?_
      refine Gs.reg ?_
      refine Go.Sl.L.pu rfl rfl trivial (pu_move rfl) ?_
      refine Go.Sl.L.pu rfl rfl trivial (pu_move rfl) ?_
      refine Go.Sl.L.pu rfl rfl trivial (pu_sliceL et_42 rfl rfl (by omega) (by omega)) ?_
      refine Go.Sl.L.ac0 rfl trivial (ac_clear (enc := postC) (xs := ys.take m) (zs := ys.drop m) Tryz.underlying42 zv_66 rfl rfl rfl (by decide) (by rw [hml]; rfl) hdl.symm ek_66 (by rw [List.take_append_drop]; repeat constructor)) ?_
      rintro _ _ rfl
      refine Go.Sl.L.nil ?_
      refine Gs.then_n ?_
      refine Gs.seq ?_
      refine Gs.reg ?_
      refine Go.Sl.L.pu rfl rfl trivial (pu_move rfl) ?_
      refine Go.Sl.L.pu rfl rfl trivial (pu_move rfl) ?_
      refine Go.Sl.L.pu rfl rfl trivial (pu_sliceH et_42 rfl rfl (by omega) (by omega)) ?_
      refine Go.Sl.L.pu rfl rfl trivial (pu_assign rfl) ?_
      refine Go.Sl.L.nil ?_
      rw [show suba (some ⟨ab, ao, none⟩) 0 c 3 = some ⟨ab, ao, none⟩ from suba_0, hyt]
      refine Gs.then_n ?_
      refine Gs.ret ?_
      exact Gs.fin1 Tryz.results69 rfl _ (⟨by rw [← hyt, hml]; rfl, rfl⟩) (by repeat constructor)
theorem drop1_spec (k : Key) (kb : Nat) (p : PostV) : Ct Tryz.prog 71 ([] ++ [postV p] ++ [ptr kb]) [cl kb 31 (keyC k)] (fun v hs => v = .bool (decide (p.k = k)) ∧ hs = [cl kb 31 (keyC k)]) := by
  refine Ct.intro Tryz.func71 rfl (by kernel_rfl) 8 Tryz.ntmps71 (Nat.le_of_ble_eq_true rfl) fun w0 R => ?_
  refine Gs.seq ?_
  refine Gs.reg ?_
  refine Go.Sl.L.ac rfl rfl trivial (ac_box rfl rfl) ?_
  rintro _ _ ⟨pb, rfl, rfl⟩
  refine Go.Sl.L.pu rfl rfl trivial (pu_assign rfl) ?_
  refine Go.Sl.L.nil ?_
  refine Gs.then_n ?_
  refine Gs.seq ?_
  refine Gs.reg ?_
  refine Go.Sl.L.pu rfl rfl trivial (pu_fa fa_66_0 rfl) ?_
  refine Go.Sl.L.rd rfl rfl trivial (rd_lda ag_31 rfl (Rdc.cl 2 (by repeat constructor) rfl) rfl) ?_
  refine Go.Sl.L.rd rfl rfl trivial (rd_lda ag_31 rfl (Rdc.cl 2 (by repeat constructor) rfl) rfl) ?_
  refine Go.Sl.L.pu rfl rfl trivial (pu_eqT (a := p.k) (b := k) cmp_31 (by decide) Tryz.eqGuardType31 rfl rfl) ?_
  refine Go.Sl.L.pu rfl rfl trivial (pu_assign rfl) ?_
  refine Go.Sl.L.nil ?_
  refine Gs.then_n ?_
  refine Gs.ret ?_
  exact Gs.fin1 Tryz.results71 rfl _ (⟨rfl, rfl⟩) (by repeat constructor)
theorem pdrop_spec {S : HProp} {a : Option Addr} {c : Nat} {ps : List PostV} (hS : PRd S a ps) (hl : ps.length ≤ 1000) (k : Key) :
    Ct Tryz.prog 32 [.slice a ps.length c, keyV k] [S] (fun v hs => ∃ a' c' qs, v = .slice a' qs.length c' ∧ plain1 qs = dropP (plain1 ps) k ∧ hs = [S, plO a' c' qs]) := by
  refine Ct.intro Tryz.func32 rfl (by kernel_rfl) 13 Tryz.ntmps32 (Nat.le_of_ble_eq_true rfl) fun w0 R => ?_
  refine Gs.seq ?_
  refine Gs.reg ?_
  refine Go.Sl.L.ac rfl rfl trivial (ac_box rfl rfl) ?_
  rintro _ _ ⟨kb, rfl, rfl⟩
  refine Go.Sl.L.pu rfl rfl trivial (pu_assign rfl) ?_
  refine Go.Sl.L.nil ?_
  refine Gs.then_n ?_
  refine Gs.seq ?_
  refine Gs.seq ?_
  refine Gs.reg ?_
  refine Go.Sl.L.pu rfl rfl trivial (pu_move rfl) ?_
  refine Go.Sl.L.ac rfl rfl trivial (as_call (may_spec hS hl) (by repeat constructor) (by repeat constructor)) ?_
  rintro _ _ ⟨_, ⟨rfl, rfl⟩, rfl⟩
  refine Go.Sl.L.pu rfl rfl trivial (pu_not rfl) ?_
  refine Go.Sl.L.nil ?_
  refine Gs.then_n ?_
  refine Gs.cond rfl (fun hc0 => ?_) (fun hc0 => ?_)
  · skip
    have hno := not_t hc0
    refine Gs.seq ?_
    refine Gs.reg ?_
    refine Go.Sl.L.pu rfl rfl trivial (pu_assign rfl) ?_
    refine Go.Sl.L.nil ?_
    refine Gs.then_n ?_
    refine Gs.ret ?_
    refine Gs.then_r ?_
    refine Gs.bigNil (Gs.slNil 66 3 postC (Gs.toTwo ?_))
    exact Gs.fin1 Tryz.results32 rfl _ (⟨none, 0, [], rfl, by rw [dropP, hno]; rfl, rfl⟩) (by repeat constructor)
  · skip
    have hmay := not_f hc0
    refine Gs.skip ?_
    refine Gs.then_n ?_
    refine Gs.seq ?_
    refine Gs.reg ?_
    refine Go.Sl.L.pu rfl rfl trivial (pu_move rfl) ?_
    refine Go.Sl.L.ac rfl rfl trivial (as_call (cloneP_spec hS.1 (by omega)) (by repeat constructor) (by repeat constructor)) ?_
    rintro _ _ ⟨_, ⟨na, nc, rfl, rfl⟩, rfl⟩
    refine Go.Sl.L.pu rfl rfl trivial (pu_func (by repeat constructor) (by repeat constructor)) ?_
    refine Go.Sl.L.ac rfl rfl trivial (as_call (deleteP_spec (F := cl kb 31 (keyC k)) (q := fun p => decide (p.k = k)) (xs := ps) (fun p => drop1_spec k kb p) (by omega)) (by repeat constructor) (by repeat constructor)) ?_
    rintro _ _ ⟨_, ⟨rfl, rfl⟩, rfl⟩
    refine Go.Sl.L.ac rfl rfl trivial (as_call (Ct.two (own_spec (S := two (sl 66 3 postC na nc (ps.filter fun p => !decide (p.k = k))) S) ⟨Srd.two1 Srd.own, fun p hp => ⟨Srd.two2 (hS.2 p ((List.mem_filter.1 hp).1)).1, (hS.2 p ((List.mem_filter.1 hp).1)).2⟩⟩ (Nat.le_trans (List.length_filter_le ..) hl)) (by rintro _ _ ⟨_, _, _, _, _, rfl⟩; exact ⟨_, rfl⟩)) (by repeat constructor) (by repeat constructor)) ?_
    rintro _ _ ⟨_, ⟨_, ⟨oa, oc, qs, rfl, hqs, ⟨⟩⟩, rfl⟩, rfl⟩
    refine Go.Sl.L.pu rfl rfl trivial (pu_assign rfl) ?_
    refine Go.Sl.L.nil ?_
    refine Gs.then_n ?_
    refine Gs.ret ?_
    exact Gs.fin1 Tryz.results32 rfl _ (⟨oa, oc, qs, rfl, by rw [hqs, dropP, if_pos hmay]; simp only [plain1, List.filter_map, Function.comp_def]; congr 2; funext x; by_cases h : x.k = k <;> simp [PostV.p, h], rfl⟩) (by repeat constructor)
end Go.Proofs.YtmbikfojljnnkaaGreatDoor

/- Walks: Drop, Put (grapevineref10). -/
namespace Go.Proofs.YtmbikfojljnnkaaGreatDoor
open Go Go.Sl Go.Gv Go.Po
set_option maxRecDepth 100000
def dropV (ps : List PostV) (k : Key) : List PostV := if mayB (plain1 ps) then ps.filter (fun p => decide (p.k ≠ k)) else []
def atP (ps : List PostV) (k : Key) : Nat := ps.findIdx fun p => !before p.k k
def putV (ps : List PostV) (p : PostV) : List PostV :=
  if mayB (plain1 ps) then (if risesB p.t.xs then (dropV ps p.k).take (atP (dropV ps p.k) p.k) ++ [p] ++ (dropV ps p.k).drop (atP (dropV ps p.k) p.k) else ps) else []
theorem dropV_plain (ps : List PostV) (k : Key) : plain1 (dropV ps k) = dropP (plain1 ps) k := by
  unfold dropV dropP
  split
  · simp only [plain1, List.filter_map, Function.comp_def]; rfl
  · rfl
theorem dropV_mem {ps : List PostV} {k : Key} {p : PostV} (h : p ∈ dropV ps k) : p ∈ ps := by
  unfold dropV at h; split at h
  · exact (List.mem_filter.1 h).1
  · cases h
theorem dropV_le (ps : List PostV) (k : Key) : (dropV ps k).length ≤ ps.length := by
  unfold dropV; split
  · exact List.length_filter_le ..
  · exact Nat.zero_le _
theorem atP_le (ps : List PostV) (k : Key) : atP ps k ≤ ps.length := List.findIdx_le_length
theorem atP_step {ps : List PostV} {k : Key} {x : PostV} {i : Nat} (hi : i ≤ atP ps k) (hx : ps[i]? = some x) : if before x.k k then i + 1 ≤ atP ps k else i = atP ps k := by
  obtain ⟨hl, rfl⟩ := List.getElem?_eq_some_iff.1 hx
  split
  · rename_i hb
    rcases Nat.lt_or_eq_of_le hi with h | h
    · exact h
    · have h2 : atP ps k < ps.length := by omega
      have := List.findIdx_getElem (p := fun x : PostV => !before x.k k) (xs := ps) (w := h2)
      have e : ps[List.findIdx (fun x : PostV => !before x.k k) ps] = ps[i] := by congr 1; exact h.symm
      rw [e, hb] at this; cases this
  · rename_i hb
    rcases Nat.lt_or_eq_of_le hi with h | h
    · have := List.not_of_lt_findIdx (p := fun x : PostV => !before x.k k) (xs := ps) h
      simp at this; exact (hb this).elim
    · exact h
theorem putV_le (ps : List PostV) (p : PostV) : (putV ps p).length ≤ ps.length + 1 := by
  have := dropV_le ps p.k
  unfold putV; split
  · split
    · simp only [List.length_append, List.length_take, List.length_drop, List.length_cons, List.length_nil]; omega
    · omega
  · exact Nat.zero_le _
theorem putV_mem {ps : List PostV} {p q : PostV} (h : q ∈ putV ps p) : q = p ∨ q ∈ ps := by
  unfold putV at h; split at h
  · split at h
    · rcases List.mem_append.1 h with h | h
      · rcases List.mem_append.1 h with h | h
        · exact .inr (dropV_mem (List.mem_of_mem_take h))
        · exact .inl (by simpa using h)
      · exact .inr (dropV_mem (List.mem_of_mem_drop h))
    · exact .inr h
  · cases h
theorem putV_plain (ps : List PostV) (p : PostV) : plain1 (putV ps p) = putP (plain1 ps) p.p := by
  unfold putV putP
  split
  · rename_i hm
    split
    · rename_i hr
      rw [if_pos (show risesB p.p.2 = true from hr)]
      have hasc := may_asc hm
      have hd : dropV ps p.k = ps.filter (fun q => decide (q.k ≠ p.k)) := if_pos hm
      have hlo : ∀ (m : Nat) (x : PostV), m < atP (dropV ps p.k) p.k → (dropV ps p.k)[m]? = some x → before x.k p.k = true := fun m x hmm hx => by
        obtain ⟨hl, rfl⟩ := List.getElem?_eq_some_iff.1 hx
        have := List.not_of_lt_findIdx (p := fun x : PostV => !before x.k p.k) (xs := dropV ps p.k) hmm
        simpa using this
      have hpw : (dropV ps p.k).Pairwise (fun x y => before x.k y.k = true) := by
        rw [hd]
        refine List.Pairwise.filter _ ?_
        rw [List.map_map, List.pairwise_map] at hasc
        exact hasc
      have hhi : ∀ (m : Nat) (x : PostV), atP (dropV ps p.k) p.k ≤ m → (dropV ps p.k)[m]? = some x → before p.k x.k = true := fun m x hmm hx => by
        have hne : ∀ (j : Nat) (y : PostV), (dropV ps p.k)[j]? = some y → y.k ≠ p.k := fun j y hy => by
          have := List.mem_of_getElem? hy
          rw [hd] at this
          simpa using (List.mem_filter.1 this).2
        have hlen : m < (dropV ps p.k).length := (List.getElem?_eq_some_iff.1 hx).1
        have hlt : atP (dropV ps p.k) p.k < (dropV ps p.k).length := by omega
        have h0 : (dropV ps p.k)[atP (dropV ps p.k) p.k]? = some ((dropV ps p.k)[atP (dropV ps p.k) p.k]'hlt) := by simp
        have h1 : before ((dropV ps p.k)[atP (dropV ps p.k) p.k]'hlt).k p.k = false := by
          have := List.findIdx_getElem (p := fun x : PostV => !before x.k p.k) (xs := dropV ps p.k) (w := hlt)
          have h2 : (!before ((dropV ps p.k)[atP (dropV ps p.k) p.k]'hlt).k p.k) = true := this
          exact not_t h2
        have h3 : before p.k ((dropV ps p.k)[atP (dropV ps p.k) p.k]'hlt).k = true := by
          rcases before_total (hne _ _ h0) with h | h
          · rw [h] at h1; cases h1
          · exact h
        rcases Nat.lt_or_eq_of_le hmm with h | h
        · obtain ⟨hl, rfl⟩ := List.getElem?_eq_some_iff.1 hx
          exact before_trans h3 (List.pairwise_iff_getElem.1 hpw _ _ hlt hl h)
        · subst h
          rw [h0] at hx; cases hx; exact h3
      have e1 : (ps.filter fun q => before q.k p.k) = (dropV ps p.k).take (atP (dropV ps p.k) p.k) := by
        have : (ps.filter fun q => before q.k p.k) = (dropV ps p.k).filter fun q => before q.k p.k := by
          rw [hd, List.filter_filter]
          refine List.filter_congr fun x _ => ?_
          by_cases hk : x.k = p.k
          · rw [hk, before_irr]; simp
          · simp [hk]
        rw [this]
        have e : (dropV ps p.k).filter (fun q => before q.k p.k) = ((dropV ps p.k).take (atP (dropV ps p.k) p.k)).filter (fun q => before q.k p.k) ++ ((dropV ps p.k).drop (atP (dropV ps p.k) p.k)).filter (fun q => before q.k p.k) := by rw [← List.filter_append, List.take_append_drop]
        rw [e, List.filter_eq_self.2 (fun x hx => by obtain ⟨m, h1, h2⟩ := mem_take_at hx; exact hlo m x h1 h2), List.filter_eq_nil_iff.2 (fun x hx => by obtain ⟨m, h1, h2⟩ := mem_drop_at hx; rw [before_asymm (hhi m x h1 h2)]; decide), List.append_nil]
      have e2 : (ps.filter fun q => before p.k q.k) = (dropV ps p.k).drop (atP (dropV ps p.k) p.k) := by
        have : (ps.filter fun q => before p.k q.k) = (dropV ps p.k).filter fun q => before p.k q.k := by
          rw [hd, List.filter_filter]
          refine List.filter_congr fun x _ => ?_
          by_cases hk : x.k = p.k
          · rw [hk, before_irr]; simp
          · simp [hk]
        rw [this]
        have e : (dropV ps p.k).filter (fun q => before p.k q.k) = ((dropV ps p.k).take (atP (dropV ps p.k) p.k)).filter (fun q => before p.k q.k) ++ ((dropV ps p.k).drop (atP (dropV ps p.k) p.k)).filter (fun q => before p.k q.k) := by rw [← List.filter_append, List.take_append_drop]
        rw [e, List.filter_eq_nil_iff.2 (fun x hx => by obtain ⟨m, h1, h2⟩ := mem_take_at hx; rw [before_asymm (hlo m x h1 h2)]; decide), List.nil_append]
        exact List.filter_eq_self.2 (fun x hx => by obtain ⟨m, h1, h2⟩ := mem_drop_at hx; exact hhi m x h1 h2)
      rw [← e1, ← e2]
      simp only [plain1, List.map_append, List.filter_map, Function.comp_def]; rfl
    · rename_i hr
      rw [if_neg (show ¬ risesB p.p.2 = true from hr)]
  · rfl
theorem drop10_spec {S : HProp} {a : Option Addr} {c : Nat} {ps : List PostV} (hS : PRd S a ps) (hl : ps.length ≤ 1000) (k : Key) :
    Ct Tryz.prog 86 [.slice a ps.length c, keyV k] [S] (fun v hs => ∃ a' c', v = .slice a' (dropV ps k).length c' ∧ hs = [S, sl 66 3 postC a' c' (dropV ps k)]) := by
  refine Ct.intro Tryz.func86 rfl (by kernel_rfl) 31 Tryz.ntmps86 (Nat.le_of_ble_eq_true rfl) fun w0 R => ?_
  refine Gs.slAddr (hS.1.h (by repeat constructor)) fun ab ao ha => ?_
  refine Gs.seq ?_
  refine Gs.reg ?_
  refine Go.Sl.L.ac rfl rfl trivial (ac_box rfl rfl) ?_
  rintro _ _ ⟨kb, rfl, rfl⟩
  refine Go.Sl.L.pu rfl rfl trivial (pu_assign rfl) ?_
  refine Go.Sl.L.nil ?_
  refine Gs.then_n ?_
  refine Gs.seq ?_
  refine Gs.seq ?_
  refine Gs.reg ?_
  refine Go.Sl.L.pu rfl rfl trivial (pu_move rfl) ?_
  refine Go.Sl.L.ac rfl rfl trivial (as_call (may10_spec hS hl) (by repeat constructor) (by repeat constructor)) ?_
  rintro _ _ ⟨_, ⟨rfl, rfl⟩, rfl⟩
  refine Go.Sl.L.pu rfl rfl trivial (pu_not rfl) ?_
  refine Go.Sl.L.nil ?_
  refine Gs.then_n ?_
  refine Gs.cond rfl (fun hc0 => ?_) (fun hc0 => ?_)
  · skip
    have hno : dropV ps k = [] := if_neg (by rw [not_t hc0]; decide)
    refine Gs.seq ?_
    refine Gs.reg ?_
    refine Go.Sl.L.pu rfl rfl trivial (pu_assign rfl) ?_
    refine Go.Sl.L.nil ?_
    refine Gs.then_n ?_
    refine Gs.ret ?_
    refine Gs.then_r ?_
    refine Gs.slNil 66 3 postC ?_
    exact Gs.fin1 Tryz.results86 rfl _ (⟨none, 0, by rw [hno]; rfl, by rw [hno]⟩) (by repeat constructor)
  · skip
    have hd : dropV ps k = ps.filter (fun p => decide (p.k ≠ k)) := if_pos (not_f hc0)
    refine Gs.skip ?_
    refine Gs.then_n ?_
    refine Gs.seq ?_
    refine Gs.reg ?_
    refine Go.Sl.L.pu rfl rfl trivial (pu_assign rfl) ?_
    refine Go.Sl.L.nil ?_
    refine Gs.slNil 66 3 postC ?_
    refine Gs.then_n ?_
    refine Gs.seq ?_
    refine Gs.seq ?_
    refine Gs.reg ?_
    refine Go.Sl.L.pu rfl rfl trivial (pu_assign rfl) ?_
    refine Go.Sl.L.nil ?_
    refine Gs.then_n ?_
    refine Gs.block ?_
    refine Gs.loop1 (fun s : Nat × (Option Addr × Nat) × List PostV => s.1 ≤ ps.length ∧ s.2.2 = (ps.take s.1).filter (fun p => decide (p.k ≠ k))) (fun s => [(0, .slice a ps.length c), (3, ptr kb), (5, .slice s.2.1.1 s.2.2.length s.2.1.2), (6, int s.1)]) (fun s => [S, cl kb 31 (keyC k), sl 66 3 postC s.2.1.1 s.2.1.2 s.2.2] ++ R) (fun s => ps.length - s.1) (0, (none, 0), []) (⟨Nat.zero_le _, rfl⟩) (by repeat constructor) (by repeat constructor) (fun s hs => ?_)
    obtain ⟨i, ⟨ka, kc⟩, K⟩ := s
    obtain ⟨hi, hK⟩ := hs
    dsimp only at hi hK ⊢
    have hKl : K.length ≤ 1000 := by rw [hK]; refine Nat.le_trans (List.length_filter_le ..) ?_; rw [List.length_take]; omega
    refine Gs.seq ?_
    refine Gs.seq ?_
    refine Gs.reg ?_
    refine Go.Sl.L.pu rfl rfl trivial (pu_move rfl) ?_
    refine Go.Sl.L.pu rfl rfl trivial (pu_move rfl) ?_
    refine Go.Sl.L.pu rfl rfl trivial (pu_len Tryz.underlying42 rfl) ?_
    refine Go.Sl.L.pu rfl rfl trivial (pu_lt rfl rfl) ?_
    refine Go.Sl.L.nil ?_
    refine Gs.then_n ?_
    refine Gs.cond rfl (fun hc1 => ?_) (fun hc1 => ?_)
    · skip
      have hlt : i < ps.length := by have := of_decide_eq_true hc1; omega
      obtain ⟨p, hp⟩ : ∃ x, ps[i]? = some x := ⟨ps[i], by simp [hlt]⟩
      obtain rfl := ha (by rintro rfl; simp at hlt)
      refine Gs.skip ?_
      refine Gs.then_n ?_
      refine Gs.seq ?_
      refine Gs.block ?_
      refine Gs.seq ?_
      refine Gs.regD mixed (by kernel_rfl) ?_
      refine Rg.pu 0 rfl rfl (by kernel_rfl) trivial (pu_move rfl) ?_
      refine Rg.pu 1 rfl rfl (by kernel_rfl) trivial (pu_move rfl) ?_
      refine Rg.pu 2 rfl rfl (by kernel_rfl) trivial (pu_ia se_42 rfl rfl (by omega) (by omega)) ?_
      refine Rg.pu 3 rfl rfl (by kernel_rfl) trivial (pu_fa fa_66_0 rfl) ?_
      refine Rg.rd 4 rfl rfl (by kernel_rfl) trivial (rd_lda ag_31 rfl (Rdc.elp 2 (hS.1.h (by repeat constructor)) hp rfl rfl) rfl) ?_
      refine Rg.rd 5 rfl rfl (by kernel_rfl) trivial (rd_lda ag_31 rfl (Rdc.cl 2 (by repeat constructor) rfl) rfl) ?_
      refine Rg.pu 6 rfl rfl (by kernel_rfl) trivial (pu_neT (a := p.k) (b := k) cmp_31 (by decide) Tryz.eqGuardType31 rfl rfl) ?_
      refine Rg.end (by kernel_rfl) ?_
      refine Gs.then_n ?_
      refine Gs.cond rfl (fun hc2 => ?_) (fun hc2 => ?_)
      · skip
        have hin : K ++ [p] = (ps.take (i + 1)).filter (fun p => decide (p.k ≠ k)) := by rw [hK, List.take_add_one, hp, List.filter_append]; congr 1; show [p] = List.filter (fun p => decide (p.k ≠ k)) [p]; rw [List.filter_cons_of_pos (by simpa using hc2)]; rfl
        refine Gs.reg ?_
        refine Go.Sl.L.pu rfl rfl trivial (pu_move rfl) ?_
        refine Go.Sl.L.pu rfl rfl trivial (pu_move rfl) ?_
        refine Go.Sl.L.pu rfl rfl trivial (pu_move rfl) ?_
        refine Go.Sl.L.pu rfl rfl trivial (pu_ia se_42 rfl rfl (by omega) (by omega)) ?_
        refine Go.Sl.L.rd rfl rfl trivial (rd_lda ag_66 rfl (Rdc.el0 (hS.1.h (by repeat constructor)) hp rfl rfl) rfl) ?_
        refine Go.Sl.L.ac rfl rfl trivial (ac_lit encC_66 ([p]) et_42 ek_66 rfl (by repeat constructor) rfl rfl (by decide)) ?_
        rintro _ _ ⟨a28, rfl, rfl⟩
        refine Go.Sl.L.ac rfl rfl trivial (ac_append (xs := K) (ys := [p]) et_42 ek_66 rfl rfl (by repeat constructor) (SrcH.sl Tryz.underlying42 ek_66 (SlH.own (by repeat constructor))) (by first | omega | (simp; omega)) (by first | omega | (simp; omega))) ?_
        rintro _ _ ⟨a29, c29, rfl, rfl⟩
        refine Go.Sl.L.pu rfl rfl trivial (pu_assign rfl) ?_
        refine Go.Sl.L.nil ?_
        refine Gs.blk_n ?_
        refine Gs.then_n ?_
        refine Gs.reg ?_
        refine Go.Sl.L.pu rfl rfl trivial (pu_move rfl) ?_
        refine Go.Sl.L.pu rfl rfl trivial (by first | exact pu_addI rfl rfl rfl (by omega) (by omega) | exact pu_add rfl rfl) ?_
        refine Go.Sl.L.pu rfl rfl trivial (pu_assign rfl) ?_
        refine Go.Sl.L.nil ?_
        refine Gs.then_n ?_
        first | exact Gs.again1 (i + 1, (a29, c29), K ++ [p]) ⟨by show i + 1 ≤ ps.length; omega, hin⟩ (by show ps.length - (i + 1) < ps.length - i; omega) (by repeat constructor) (by repeat constructor) | exact Gs.again1 (i + 1, (ka, kc), K) ⟨by show i + 1 ≤ ps.length; omega, hin⟩ (by show ps.length - (i + 1) < ps.length - i; omega) (by repeat constructor) (by repeat constructor)
      · skip
        have hin : K = (ps.take (i + 1)).filter (fun p => decide (p.k ≠ k)) := by rw [hK, List.take_add_one, hp, List.filter_append, show List.filter (fun p => decide (p.k ≠ k)) (some p).toList = [] from (by show List.filter (fun p => decide (p.k ≠ k)) [p] = []; rw [List.filter_cons_of_neg (by simpa using hc2)]; rfl), List.append_nil]
        refine Gs.skip ?_
        refine Gs.blk_n ?_
        refine Gs.then_n ?_
        refine Gs.reg ?_
        refine Go.Sl.L.pu rfl rfl trivial (pu_move rfl) ?_
        refine Go.Sl.L.pu rfl rfl trivial (by first | exact pu_addI rfl rfl rfl (by omega) (by omega) | exact pu_add rfl rfl) ?_
        refine Go.Sl.L.pu rfl rfl trivial (pu_assign rfl) ?_
        refine Go.Sl.L.nil ?_
        refine Gs.then_n ?_
        first | exact Gs.again1 (i + 1, (a29, c29), K ++ [p]) ⟨by show i + 1 ≤ ps.length; omega, hin⟩ (by show ps.length - (i + 1) < ps.length - i; omega) (by repeat constructor) (by repeat constructor) | exact Gs.again1 (i + 1, (ka, kc), K) ⟨by show i + 1 ≤ ps.length; omega, hin⟩ (by show ps.length - (i + 1) < ps.length - i; omega) (by repeat constructor) (by repeat constructor)
    · skip
      have hge : i = ps.length := by have := of_decide_eq_false hc1; omega
      rw [hge, List.take_length, ← hd] at hK
      subst hK
      refine Gs.exit ?_
      refine Gs.then_x ?_
      refine Gs.then_x ?_
      refine Gs.blk_hit ?_
      refine Gs.then_n ?_
      refine Gs.seq ?_
      refine Gs.reg ?_
      refine Go.Sl.L.pu rfl rfl trivial (pu_move rfl) ?_
      refine Go.Sl.L.pu rfl rfl trivial (pu_assign rfl) ?_
      refine Go.Sl.L.nil ?_
      refine Gs.then_n ?_
      refine Gs.ret ?_
      exact Gs.fin1 Tryz.results86 rfl _ (⟨ka, kc, rfl, rfl⟩) (by repeat constructor)
theorem put10_spec {S : HProp} {a : Option Addr} {c : Nat} {ps : List PostV} {p : PostV} (hS : PRd S a ps) (hl : ps.length ≤ 1000) (hU : Srd S 1 intC p.t.a p.t.xs) (hul : p.t.xs.length ≤ 1000) :
    Ct Tryz.prog 44 [.slice a ps.length c, postV p] [S] (fun v hs => ∃ a' c', v = .slice a' (putV ps p).length c' ∧ hs = [S, sl 66 3 postC a' c' (putV ps p)]) := by
  have hdl := dropV_le ps p.k
  have hle := atP_le (dropV ps p.k) p.k
  refine Ct.intro Tryz.func44 rfl (by kernel_rfl) 46 Tryz.ntmps44 (Nat.le_of_ble_eq_true rfl) fun w0 R => ?_
  refine Gs.seq ?_
  refine Gs.reg ?_
  refine Go.Sl.L.ac rfl rfl trivial (ac_box rfl rfl) ?_
  rintro _ _ ⟨b3, rfl, rfl⟩
  refine Go.Sl.L.pu rfl rfl trivial (pu_assign rfl) ?_
  refine Go.Sl.L.nil ?_
  refine Gs.then_n ?_
  refine Gs.seq ?_
  refine Gs.seq ?_
  refine Gs.reg ?_
  refine Go.Sl.L.pu rfl rfl trivial (pu_move rfl) ?_
  refine Go.Sl.L.ac rfl rfl trivial (as_call (may10_spec hS hl) (by repeat constructor) (by repeat constructor)) ?_
  rintro _ _ ⟨_, ⟨rfl, rfl⟩, rfl⟩
  refine Go.Sl.L.pu rfl rfl trivial (pu_not rfl) ?_
  refine Go.Sl.L.nil ?_
  refine Gs.then_n ?_
  refine Gs.cond rfl (fun hc0 => ?_) (fun hc0 => ?_)
  · skip
    have hno : putV ps p = [] := if_neg (by rw [not_t hc0]; decide)
    refine Gs.seq ?_
    refine Gs.reg ?_
    refine Go.Sl.L.pu rfl rfl trivial (pu_assign rfl) ?_
    refine Go.Sl.L.nil ?_
    refine Gs.then_n ?_
    refine Gs.ret ?_
    refine Gs.then_r ?_
    refine Gs.slNil 66 3 postC ?_
    exact Gs.fin1 Tryz.results44 rfl _ (⟨none, 0, by rw [hno]; rfl, by rw [hno]⟩) (by repeat constructor)
  · skip
    have hmay := not_f hc0
    refine Gs.skip ?_
    refine Gs.then_n ?_
    refine Gs.seq ?_
    refine Gs.seq ?_
    refine Gs.reg ?_
    refine Go.Sl.L.rd rfl rfl trivial (rd_lda ag_66 rfl (Rdc.cl 3 (by repeat constructor) rfl) rfl) ?_
    refine Go.Sl.L.ac rfl rfl trivial (as_call (one_spec hU hul) (by repeat constructor) (by repeat constructor)) ?_
    rintro _ _ ⟨_, ⟨rfl, rfl⟩, rfl⟩
    refine Go.Sl.L.pu rfl rfl trivial (pu_not rfl) ?_
    refine Go.Sl.L.nil ?_
    refine Gs.then_n ?_
    refine Gs.cond rfl (fun hc1 => ?_) (fun hc1 => ?_)
    · skip
      have hno : putV ps p = ps := (if_pos hmay).trans (if_neg (by rw [not_t hc1]; decide))
      refine Gs.seq ?_
      refine Gs.reg ?_
      refine Go.Sl.L.pu rfl rfl trivial (pu_move rfl) ?_
      refine Go.Sl.L.ac rfl rfl trivial (ac_copy et_42 ek_66 rfl rfl (SrcH.sl (ys := ps) Tryz.underlying42 ek_66 (hS.1.h (by repeat constructor))) (by first | omega | (simp; omega)) (by first | omega | (simp; omega))) ?_
      rintro _ _ ⟨a14, c14, rfl, rfl⟩
      refine Go.Sl.L.pu rfl rfl trivial (pu_assign rfl) ?_
      refine Go.Sl.L.nil ?_
      refine Gs.then_n ?_
      refine Gs.ret ?_
      refine Gs.then_r ?_
      exact Gs.fin1 Tryz.results44 rfl _ (⟨a14, c14, by rw [hno], by rw [hno]⟩) (by repeat constructor)
    · skip
      have hyes : putV ps p = (dropV ps p.k).take (atP (dropV ps p.k) p.k) ++ [p] ++ (dropV ps p.k).drop (atP (dropV ps p.k) p.k) := (if_pos hmay).trans (if_pos (not_f hc1))
      refine Gs.skip ?_
      refine Gs.then_n ?_
      refine Gs.seq ?_
      refine Gs.reg ?_
      refine Go.Sl.L.pu rfl rfl trivial (pu_move rfl) ?_
      refine Go.Sl.L.pu rfl rfl trivial (pu_fa fa_66_0 rfl) ?_
      refine Go.Sl.L.rd rfl rfl trivial (rd_lda ag_31 rfl (Rdc.cl 2 (by repeat constructor) rfl) rfl) ?_
      refine Go.Sl.L.ac rfl rfl trivial (as_call (drop10_spec hS hl p.k) (by repeat constructor) (by repeat constructor)) ?_
      rintro _ _ ⟨_, ⟨oa, oc, rfl, rfl⟩, rfl⟩
      refine Go.Sl.L.pu rfl rfl trivial (pu_assign rfl) ?_
      refine Go.Sl.L.nil ?_
      refine Gs.slAddr (xs := dropV ps p.k) (SlH.own (E := 66) (enc := postC) (by repeat constructor)) fun ab ao ha => Gs.slLen (xs := dropV ps p.k) (by repeat constructor) fun hlc => ?_
      refine Gs.then_n ?_
      refine Gs.seq ?_
      refine Gs.reg ?_
      refine Go.Sl.L.pu rfl rfl trivial (pu_assign rfl) ?_
      refine Go.Sl.L.nil ?_
      refine Gs.then_n ?_
      refine Gs.seq ?_
      refine Gs.block ?_
      refine Gs.loop1 (fun i : Nat => i ≤ atP (dropV ps p.k) p.k) (fun i => [(3, ptr b3), (5, .slice oa (dropV ps p.k).length oc), (6, int i)]) (fun i => [S, cl b3 66 (postC p), sl 66 3 postC oa oc (dropV ps p.k)] ++ R) (fun i => (dropV ps p.k).length - i) 0 (Nat.zero_le _) (by repeat constructor) (by repeat constructor) (fun i hi => ?_)
      refine Gs.seq ?_
      refine Gs.seq ?_
      refine Gs.regD mixed (by kernel_rfl) ?_
      refine Rg.pu 0 rfl rfl (by kernel_rfl) trivial (pu_move rfl) ?_
      refine Rg.pu 1 rfl rfl (by kernel_rfl) trivial (pu_move rfl) ?_
      refine Rg.pu 2 rfl rfl (by kernel_rfl) trivial (pu_len Tryz.underlying42 rfl) ?_
      refine Rg.pu 3 rfl rfl (by kernel_rfl) trivial (pu_lt rfl rfl) ?_
      refine Rg.puB 4 rfl rfl (by kernel_rfl) trivial (pu_move rfl) (fun hg4 => ?_) (fun hg4 => ?_)
      · skip
        have hlt : i < (dropV ps p.k).length := by have := of_decide_eq_true hg4; omega
        obtain ⟨x, hx⟩ : ∃ x, (dropV ps p.k)[i]? = some x := ⟨(dropV ps p.k)[i], by simp [hlt]⟩
        have hst := atP_step hi hx
        obtain rfl := ha (by intro e; rw [e] at hx; simp at hx)
        refine Rg.pu 5 rfl rfl (by kernel_rfl) ⟨_, rfl, rfl⟩ (pu_move rfl) ?_
        refine Rg.pu 6 rfl rfl (by kernel_rfl) ⟨_, rfl, rfl⟩ (pu_move rfl) ?_
        refine Rg.pu 7 rfl rfl (by kernel_rfl) ⟨_, rfl, rfl⟩ (pu_ia se_42 rfl rfl (by omega) (by omega)) ?_
        refine Rg.pu 8 rfl rfl (by kernel_rfl) ⟨_, rfl, rfl⟩ (pu_fa fa_66_0 rfl) ?_
        refine Rg.rd 9 rfl rfl (by kernel_rfl) ⟨_, rfl, rfl⟩ (rd_lda ag_31 rfl (Rdc.elp 2 (SlH.own (xs := dropV ps p.k) (E := 66) (c := oc) (by repeat constructor)) hx rfl rfl) rfl) ?_
        refine Rg.pu 10 rfl rfl (by kernel_rfl) ⟨_, rfl, rfl⟩ (pu_fa fa_66_0 rfl) ?_
        refine Rg.rd 11 rfl rfl (by kernel_rfl) ⟨_, rfl, rfl⟩ (rd_lda ag_31 rfl (Rdc.cl 2 (by repeat constructor) rfl) rfl) ?_
        refine Rg.one (by kernel_rfl) (Stp.ac 12 rfl rfl (by kernel_rfl) ⟨_, rfl, rfl⟩ (as_call (before4_spec x.k p.k) (by repeat constructor) (by repeat constructor))  ?_)
        rintro _ _ ⟨_, ⟨rfl, rfl⟩, rfl⟩
        refine Rg.pu 13 rfl rfl (by kernel_rfl) trivial (by first | exact pu_pick_t rfl rfl | exact pu_pick_f rfl rfl) ?_
        refine Rg.end (by kernel_rfl) ?_
        refine Gs.then_n ?_
        refine Gs.cond rfl (fun hc2 => ?_) (fun hc2 => ?_)
        · skip
          rw [if_pos hc2] at hst
          refine Gs.skip ?_
          refine Gs.then_n ?_
          refine Gs.block ?_
          refine Gs.reg ?_
          refine Go.Sl.L.pu rfl rfl trivial (pu_move rfl) ?_
          refine Go.Sl.L.pu rfl rfl trivial (by first | exact pu_addI rfl rfl rfl (by omega) (by omega) | exact pu_add rfl rfl) ?_
          refine Go.Sl.L.pu rfl rfl trivial (pu_assign rfl) ?_
          refine Go.Sl.L.nil ?_
          refine Gs.blk_n ?_
          refine Gs.then_n ?_
          exact Gs.again1 (i + 1) (by omega) (by omega) (by repeat constructor) (by repeat constructor)
        · skip
          rw [if_neg (by rw [hc2]; decide)] at hst
          have he := hst
          refine Gs.exit ?_
          refine Gs.then_x ?_
          refine Gs.then_x ?_
          refine Gs.blk_hit ?_
          refine Gs.then_n ?_
          refine Gs.seq ?_
          subst he
          refine Gs.regD mixed (by kernel_rfl) ?_
          refine Rg.pu 0 rfl rfl (by kernel_rfl) trivial (pu_move rfl) ?_
          refine Rg.pu 1 rfl rfl (by kernel_rfl) trivial (pu_move rfl) ?_
          refine Rg.pu 2 rfl rfl (by kernel_rfl) trivial (pu_sliceH et_42 rfl rfl (by omega) (by omega)) ?_
          refine Rg.rd 4 rfl rfl (by kernel_rfl) trivial (rd_lda ag_66 rfl (Rdc.cl 3 (by repeat constructor) rfl) rfl) ?_
          refine Rg.pu 7 rfl rfl (by kernel_rfl) trivial (pu_move rfl) ?_
          refine Rg.pu 8 rfl rfl (by kernel_rfl) trivial (pu_move rfl) ?_
          refine Rg.pu 9 rfl rfl (by kernel_rfl) trivial (pu_sliceL et_42 rfl rfl (by omega) (by omega)) ?_
          refine Rg.two (by kernel_rfl) (Stp.acK 3 rfl rfl (by kernel_rfl) trivial (ac_copy et_42 ek_66 rfl rfl (SrcH.sl' (ys := (dropV ps p.k).take (atP (dropV ps p.k) p.k)) Tryz.underlying42 ek_66 (by simp <;> omega) (SlH.cutH (SlH.own (xs := dropV ps p.k) (E := 66) (c := oc) (by repeat constructor)) _ _ hlc)) (by first | omega | (simp; omega)) (by first | omega | (simp; omega))) (by rintro _ _ ⟨a38, c38, rfl, rfl⟩ w s; first | exact s.drop | exact s | exact Ent.sat (by repeat constructor) s) ?_) (Stp.ac 5 rfl rfl (by kernel_rfl) trivial (ac_lit encC_66 ([p]) et_42 ek_66 rfl (by repeat constructor) rfl rfl (by decide))  ?_)
          · skip
            rintro _ _ ⟨a38, c38, rfl, rfl⟩
            refine Rg.one (by kernel_rfl) (Stp.ac 5 rfl rfl (by kernel_rfl) trivial (ac_lit encC_66 ([p]) et_42 ek_66 rfl (by repeat constructor) rfl rfl (by decide))  ?_)
            rintro _ _ ⟨a40, rfl, rfl⟩
            refine Rg.one (by kernel_rfl) (Stp.ac 6 rfl rfl (by kernel_rfl) trivial (ac_append (ys := [p]) et_42 ek_66 rfl rfl (by repeat constructor) (SrcH.sl Tryz.underlying42 ek_66 (SlH.own (by repeat constructor))) (by first | omega | (simp; omega)) (by first | omega | (simp; omega)))  ?_)
            rintro _ _ ⟨a41, c41, rfl, rfl⟩
            refine Rg.one (by kernel_rfl) (Stp.ac 10 rfl rfl (by kernel_rfl) trivial (ac_append et_42 ek_66 rfl rfl (by repeat constructor) (SrcH.sl' (ys := (dropV ps p.k).drop (atP (dropV ps p.k) p.k)) Tryz.underlying42 ek_66 (by simp <;> omega) (SlH.cutL (SlH.own (xs := dropV ps p.k) (E := 66) (c := oc) (by repeat constructor)) _ _ hlc)) (by first | omega | (simp; omega)) (by first | omega | (simp; omega)))  ?_)
            rintro _ _ ⟨a45, c45, rfl, rfl⟩
            refine Rg.pu 11 rfl rfl (by kernel_rfl) trivial (pu_assign rfl) ?_
            refine Rg.end (by kernel_rfl) ?_
            refine Gs.then_n ?_
            refine Gs.ret ?_
            exact Gs.fin1 Tryz.results44 rfl _ (⟨_, _, by rw [hyes], by rw [hyes]⟩) (by repeat constructor)
          · skip
            rintro _ _ ⟨a40, rfl, rfl⟩
            refine Rg.one (by kernel_rfl) (Stp.ac 3 rfl rfl (by kernel_rfl) trivial (ac_copy et_42 ek_66 rfl rfl (SrcH.sl' (ys := (dropV ps p.k).take (atP (dropV ps p.k) p.k)) Tryz.underlying42 ek_66 (by simp <;> omega) (SlH.cutH (SlH.own (xs := dropV ps p.k) (E := 66) (c := oc) (by repeat constructor)) _ _ hlc)) (by first | omega | (simp; omega)) (by first | omega | (simp; omega)))  ?_)
            rintro _ _ ⟨a38, c38, rfl, rfl⟩
            refine Rg.one (by kernel_rfl) (Stp.ac 6 rfl rfl (by kernel_rfl) trivial (ac_append (ys := [p]) et_42 ek_66 rfl rfl (by repeat constructor) (SrcH.sl Tryz.underlying42 ek_66 (SlH.own (by repeat constructor))) (by first | omega | (simp; omega)) (by first | omega | (simp; omega)))  ?_)
            rintro _ _ ⟨a41, c41, rfl, rfl⟩
            refine Rg.one (by kernel_rfl) (Stp.ac 10 rfl rfl (by kernel_rfl) trivial (ac_append et_42 ek_66 rfl rfl (by repeat constructor) (SrcH.sl' (ys := (dropV ps p.k).drop (atP (dropV ps p.k) p.k)) Tryz.underlying42 ek_66 (by simp <;> omega) (SlH.cutL (SlH.own (xs := dropV ps p.k) (E := 66) (c := oc) (by repeat constructor)) _ _ hlc)) (by first | omega | (simp; omega)) (by first | omega | (simp; omega)))  ?_)
            rintro _ _ ⟨a45, c45, rfl, rfl⟩
            refine Rg.pu 11 rfl rfl (by kernel_rfl) trivial (pu_assign rfl) ?_
            refine Rg.end (by kernel_rfl) ?_
            refine Gs.then_n ?_
            refine Gs.ret ?_
            exact Gs.fin1 Tryz.results44 rfl _ (⟨_, _, by rw [hyes], by rw [hyes]⟩) (by repeat constructor)
      · skip
        have he : i = atP (dropV ps p.k) p.k := by have := of_decide_eq_false hg4; omega
        refine Rg.off 5 rfl rfl (by kernel_rfl) rfl rfl rfl rfl ?_
        refine Rg.off 6 rfl rfl (by kernel_rfl) rfl rfl rfl rfl ?_
        refine Rg.off 7 rfl rfl (by kernel_rfl) rfl rfl rfl rfl ?_
        refine Rg.off 8 rfl rfl (by kernel_rfl) rfl rfl rfl rfl ?_
        refine Rg.off 9 rfl rfl (by kernel_rfl) rfl rfl rfl rfl ?_
        refine Rg.off 10 rfl rfl (by kernel_rfl) rfl rfl rfl rfl ?_
        refine Rg.off 11 rfl rfl (by kernel_rfl) rfl rfl rfl rfl ?_
        refine Rg.off 12 rfl rfl (by kernel_rfl) rfl rfl rfl rfl ?_
        refine Rg.pu 13 rfl rfl (by kernel_rfl) trivial (by first | exact pu_pick_t rfl rfl | exact pu_pick_f rfl rfl) ?_
        refine Rg.end (by kernel_rfl) ?_
        refine Gs.then_n ?_
        refine Gs.cond_f rfl ?_
        refine Gs.exit ?_
        refine Gs.then_x ?_
        refine Gs.then_x ?_
        refine Gs.blk_hit ?_
        refine Gs.then_n ?_
        refine Gs.seq ?_
        subst he
        refine Gs.regD mixed (by kernel_rfl) ?_
        refine Rg.pu 0 rfl rfl (by kernel_rfl) trivial (pu_move rfl) ?_
        refine Rg.pu 1 rfl rfl (by kernel_rfl) trivial (pu_move rfl) ?_
        refine Rg.pu 2 rfl rfl (by kernel_rfl) trivial (pu_sliceH et_42 rfl rfl (by omega) (by omega)) ?_
        refine Rg.rd 4 rfl rfl (by kernel_rfl) trivial (rd_lda ag_66 rfl (Rdc.cl 3 (by repeat constructor) rfl) rfl) ?_
        refine Rg.pu 7 rfl rfl (by kernel_rfl) trivial (pu_move rfl) ?_
        refine Rg.pu 8 rfl rfl (by kernel_rfl) trivial (pu_move rfl) ?_
        refine Rg.pu 9 rfl rfl (by kernel_rfl) trivial (pu_sliceL et_42 rfl rfl (by omega) (by omega)) ?_
        refine Rg.two (by kernel_rfl) (Stp.acK 3 rfl rfl (by kernel_rfl) trivial (ac_copy et_42 ek_66 rfl rfl (SrcH.sl' (ys := (dropV ps p.k).take (atP (dropV ps p.k) p.k)) Tryz.underlying42 ek_66 (by simp <;> omega) (SlH.cutH (SlH.own (xs := dropV ps p.k) (E := 66) (c := oc) (by repeat constructor)) _ _ hlc)) (by first | omega | (simp; omega)) (by first | omega | (simp; omega))) (by rintro _ _ ⟨a38, c38, rfl, rfl⟩ w s; first | exact s.drop | exact s | exact Ent.sat (by repeat constructor) s) ?_) (Stp.ac 5 rfl rfl (by kernel_rfl) trivial (ac_lit encC_66 ([p]) et_42 ek_66 rfl (by repeat constructor) rfl rfl (by decide))  ?_)
        · skip
          rintro _ _ ⟨a38, c38, rfl, rfl⟩
          refine Rg.one (by kernel_rfl) (Stp.ac 5 rfl rfl (by kernel_rfl) trivial (ac_lit encC_66 ([p]) et_42 ek_66 rfl (by repeat constructor) rfl rfl (by decide))  ?_)
          rintro _ _ ⟨a40, rfl, rfl⟩
          refine Rg.one (by kernel_rfl) (Stp.ac 6 rfl rfl (by kernel_rfl) trivial (ac_append (ys := [p]) et_42 ek_66 rfl rfl (by repeat constructor) (SrcH.sl Tryz.underlying42 ek_66 (SlH.own (by repeat constructor))) (by first | omega | (simp; omega)) (by first | omega | (simp; omega)))  ?_)
          rintro _ _ ⟨a41, c41, rfl, rfl⟩
          refine Rg.one (by kernel_rfl) (Stp.ac 10 rfl rfl (by kernel_rfl) trivial (ac_append et_42 ek_66 rfl rfl (by repeat constructor) (SrcH.sl' (ys := (dropV ps p.k).drop (atP (dropV ps p.k) p.k)) Tryz.underlying42 ek_66 (by simp <;> omega) (SlH.cutL (SlH.own (xs := dropV ps p.k) (E := 66) (c := oc) (by repeat constructor)) _ _ hlc)) (by first | omega | (simp; omega)) (by first | omega | (simp; omega)))  ?_)
          rintro _ _ ⟨a45, c45, rfl, rfl⟩
          refine Rg.pu 11 rfl rfl (by kernel_rfl) trivial (pu_assign rfl) ?_
          refine Rg.end (by kernel_rfl) ?_
          refine Gs.then_n ?_
          refine Gs.ret ?_
          exact Gs.fin1 Tryz.results44 rfl _ (⟨_, _, by rw [hyes], by rw [hyes]⟩) (by repeat constructor)
        · skip
          rintro _ _ ⟨a40, rfl, rfl⟩
          refine Rg.one (by kernel_rfl) (Stp.ac 3 rfl rfl (by kernel_rfl) trivial (ac_copy et_42 ek_66 rfl rfl (SrcH.sl' (ys := (dropV ps p.k).take (atP (dropV ps p.k) p.k)) Tryz.underlying42 ek_66 (by simp <;> omega) (SlH.cutH (SlH.own (xs := dropV ps p.k) (E := 66) (c := oc) (by repeat constructor)) _ _ hlc)) (by first | omega | (simp; omega)) (by first | omega | (simp; omega)))  ?_)
          rintro _ _ ⟨a38, c38, rfl, rfl⟩
          refine Rg.one (by kernel_rfl) (Stp.ac 6 rfl rfl (by kernel_rfl) trivial (ac_append (ys := [p]) et_42 ek_66 rfl rfl (by repeat constructor) (SrcH.sl Tryz.underlying42 ek_66 (SlH.own (by repeat constructor))) (by first | omega | (simp; omega)) (by first | omega | (simp; omega)))  ?_)
          rintro _ _ ⟨a41, c41, rfl, rfl⟩
          refine Rg.one (by kernel_rfl) (Stp.ac 10 rfl rfl (by kernel_rfl) trivial (ac_append et_42 ek_66 rfl rfl (by repeat constructor) (SrcH.sl' (ys := (dropV ps p.k).drop (atP (dropV ps p.k) p.k)) Tryz.underlying42 ek_66 (by simp <;> omega) (SlH.cutL (SlH.own (xs := dropV ps p.k) (E := 66) (c := oc) (by repeat constructor)) _ _ hlc)) (by first | omega | (simp; omega)) (by first | omega | (simp; omega)))  ?_)
          rintro _ _ ⟨a45, c45, rfl, rfl⟩
          refine Rg.pu 11 rfl rfl (by kernel_rfl) trivial (pu_assign rfl) ?_
          refine Rg.end (by kernel_rfl) ?_
          refine Gs.then_n ?_
          refine Gs.ret ?_
          exact Gs.fin1 Tryz.results44 rfl _ (⟨_, _, by rw [hyes], by rw [hyes]⟩) (by repeat constructor)
end Go.Proofs.YtmbikfojljnnkaaGreatDoor

/- Walks: SamePosts, OverInts, OverKeys, OverPosts, GreatPosts (grapevinelaw0). -/
namespace Go.Proofs.YtmbikfojljnnkaaGreatDoor
open Go Go.Sl Go.Gv Go.Po
set_option maxRecDepth 100000
theorem samePosts_spec {S : HProp} {a b : Option Addr} {c d : Nat} {xs ys : List PostV} (hS : PRd S a xs) (hU : PRd S b ys) (hl : xs.length ≤ 1000000) :
    Ct Tryz.prog 17 [.slice a xs.length c, .slice b ys.length d] [S] (fun v hs => v = .bool (decide (plain1 xs = plain1 ys)) ∧ hs = [S]) := by
  refine Ct.intro Tryz.func17 rfl (by kernel_rfl) 42 Tryz.ntmps17 (Nat.le_of_ble_eq_true rfl) fun w0 R => ?_
  refine Gs.slAddr (hS.1.h (by repeat constructor)) fun ab ao ha => ?_
  refine Gs.slAddr (hU.1.h (by repeat constructor)) fun ub uo hu => ?_
  refine Gs.seq ?_
  refine Gs.reg ?_
  refine Go.Sl.L.pu rfl rfl trivial (pu_assign rfl) ?_
  refine Go.Sl.L.nil ?_
  refine Gs.then_n ?_
  refine Gs.seq ?_
  refine Gs.seq ?_
  refine Gs.reg ?_
  refine Go.Sl.L.pu rfl rfl trivial (pu_move rfl) ?_
  refine Go.Sl.L.pu rfl rfl trivial (pu_len Tryz.underlying42 rfl) ?_
  refine Go.Sl.L.pu rfl rfl trivial (pu_move rfl) ?_
  refine Go.Sl.L.pu rfl rfl trivial (pu_len Tryz.underlying42 rfl) ?_
  refine Go.Sl.L.pu rfl rfl trivial (pu_ne rfl rfl) ?_
  refine Go.Sl.L.nil ?_
  refine Gs.then_n ?_
  refine Gs.cond rfl (fun hc0 => ?_) (fun hc0 => ?_)
  · skip
    have hne : ¬ plain1 xs = plain1 ys := fun e => by
      have h := of_decide_eq_true hc0
      have h2 := congrArg List.length e
      simp only [plain1, List.length_map] at h2
      rw [h2] at h; exact h rfl
    refine Gs.seq ?_
    refine Gs.reg ?_
    refine Go.Sl.L.pu rfl rfl trivial (pu_assign rfl) ?_
    refine Go.Sl.L.nil ?_
    refine Gs.then_n ?_
    refine Gs.ret ?_
    refine Gs.then_r ?_
    exact Gs.fin1 Tryz.results17 rfl _ (⟨by rw [decide_eq_false hne], rfl⟩) (by repeat constructor)
  · skip
    have hle : xs.length = ys.length := by have := of_decide_eq_false hc0; omega
    refine Gs.skip ?_
    refine Gs.then_n ?_
    refine Gs.seq ?_
    refine Gs.seq ?_
    refine Gs.reg ?_
    refine Go.Sl.L.pu rfl rfl trivial (pu_assign rfl) ?_
    refine Go.Sl.L.nil ?_
    refine Gs.then_n ?_
    refine Gs.block ?_
    refine Gs.loop1 (fun i : Nat => i ≤ xs.length ∧ (plain1 xs).take i = (plain1 ys).take i) (fun i => [(0, .slice a xs.length c), (1, .slice b ys.length d), (5, int i)]) (fun i => [S] ++ R) (fun i => xs.length - i) 0 (⟨Nat.zero_le _, rfl⟩) (by repeat constructor) (by repeat constructor) (fun i ⟨hi, ht⟩ => ?_)
    refine Gs.seq ?_
    refine Gs.seq ?_
    refine Gs.reg ?_
    refine Go.Sl.L.pu rfl rfl trivial (pu_move rfl) ?_
    refine Go.Sl.L.pu rfl rfl trivial (pu_move rfl) ?_
    refine Go.Sl.L.pu rfl rfl trivial (pu_len Tryz.underlying42 rfl) ?_
    refine Go.Sl.L.pu rfl rfl trivial (pu_lt rfl rfl) ?_
    refine Go.Sl.L.nil ?_
    refine Gs.then_n ?_
    refine Gs.cond rfl (fun hc1 => ?_) (fun hc1 => ?_)
    · skip
      have hlt : i < xs.length := by have := of_decide_eq_true hc1; omega
      obtain ⟨x, hx⟩ : ∃ x, xs[i]? = some x := ⟨xs[i], by simp [hlt]⟩
      obtain ⟨y, hy⟩ : ∃ x, ys[i]? = some x := ⟨ys[i]'(by omega), by simp [← hle, hlt]⟩
      obtain rfl := ha (by rintro rfl; simp at hlt)
      obtain rfl := hu (by rintro rfl; simp at hy)
      have hx1 := plain_at hx
      have hy1 := plain_at hy
      have hxa := hS.2 x (List.mem_of_getElem? hx)
      have hya := hU.2 y (List.mem_of_getElem? hy)
      refine Gs.skip ?_
      refine Gs.then_n ?_
      refine Gs.seq ?_
      refine Gs.block ?_
      refine Gs.seq ?_
      refine Gs.regD mixed (by kernel_rfl) ?_
      refine Rg.pu 0 rfl rfl (by kernel_rfl) trivial (pu_move rfl) ?_
      refine Rg.pu 1 rfl rfl (by kernel_rfl) trivial (pu_move rfl) ?_
      refine Rg.pu 2 rfl rfl (by kernel_rfl) trivial (pu_ia se_42 rfl rfl (by omega) (by omega)) ?_
      refine Rg.pu 3 rfl rfl (by kernel_rfl) trivial (pu_fa fa_66_0 rfl) ?_
      refine Rg.rd 4 rfl rfl (by kernel_rfl) trivial (rd_lda ag_31 rfl (Rdc.elp 2 (hS.1.h (by repeat constructor)) hx rfl rfl) rfl) ?_
      refine Rg.pu 5 rfl rfl (by kernel_rfl) trivial (pu_move rfl) ?_
      refine Rg.pu 6 rfl rfl (by kernel_rfl) trivial (pu_move rfl) ?_
      refine Rg.pu 7 rfl rfl (by kernel_rfl) trivial (pu_ia se_42 rfl rfl (by omega) (by omega)) ?_
      refine Rg.pu 8 rfl rfl (by kernel_rfl) trivial (pu_fa fa_66_0 rfl) ?_
      refine Rg.rd 9 rfl rfl (by kernel_rfl) trivial (rd_lda ag_31 rfl (Rdc.elp 2 (hU.1.h (by repeat constructor)) hy rfl rfl) rfl) ?_
      refine Rg.pu 10 rfl rfl (by kernel_rfl) trivial (pu_neT (a := x.k) (b := y.k) cmp_31 (by decide) Tryz.eqGuardType31 rfl rfl) ?_
      refine Rg.puB 11 rfl rfl (by kernel_rfl) trivial (pu_move rfl) (fun hg11 => ?_) (fun hg11 => ?_)
      · skip
        have hne : ¬ plain1 xs = plain1 ys := fun e => by
          rw [e, hy1] at hx1
          have h1 : y.k = x.k := congrArg Prod.fst (Option.some.inj hx1)
          have h2 := of_decide_eq_true hg11
          exact h2 h1.symm
        refine Rg.off 12 rfl rfl (by kernel_rfl) rfl rfl rfl rfl ?_
        refine Rg.off 13 rfl rfl (by kernel_rfl) rfl rfl rfl rfl ?_
        refine Rg.off 14 rfl rfl (by kernel_rfl) rfl rfl rfl rfl ?_
        refine Rg.off 15 rfl rfl (by kernel_rfl) rfl rfl rfl rfl ?_
        refine Rg.off 16 rfl rfl (by kernel_rfl) rfl rfl rfl rfl ?_
        refine Rg.off 17 rfl rfl (by kernel_rfl) rfl rfl rfl rfl ?_
        refine Rg.off 18 rfl rfl (by kernel_rfl) rfl rfl rfl rfl ?_
        refine Rg.off 19 rfl rfl (by kernel_rfl) rfl rfl rfl rfl ?_
        refine Rg.off 20 rfl rfl (by kernel_rfl) rfl rfl rfl rfl ?_
        refine Rg.off 21 rfl rfl (by kernel_rfl) rfl rfl rfl rfl ?_
        refine Rg.off 22 rfl rfl (by kernel_rfl) rfl rfl rfl rfl ?_
        refine Rg.off 23 rfl rfl (by kernel_rfl) rfl rfl rfl rfl ?_
        refine Rg.pu 24 rfl rfl (by kernel_rfl) trivial (by first | exact pu_pick_t rfl rfl | exact pu_pick_f rfl rfl) ?_
        refine Rg.end (by kernel_rfl) ?_
        refine Gs.then_n ?_
        refine Gs.cond_t rfl ?_
        refine Gs.seq ?_
        refine Gs.reg ?_
        refine Go.Sl.L.pu rfl rfl trivial (pu_assign rfl) ?_
        refine Go.Sl.L.nil ?_
        refine Gs.then_n ?_
        refine Gs.ret ?_
        refine Gs.blk_r ?_
        refine Gs.then_r ?_
        refine Gs.then_r ?_
        refine Gs.blk_r ?_
        refine Gs.then_r ?_
        exact Gs.fin1 Tryz.results17 rfl _ (⟨by rw [decide_eq_false hne], rfl⟩) (by repeat constructor)
      · skip
        have hkk : x.k = y.k := Decidable.not_not.1 (of_decide_eq_false hg11)
        refine Rg.pu 12 rfl rfl (by kernel_rfl) ⟨_, rfl, rfl⟩ (pu_move rfl) ?_
        refine Rg.pu 13 rfl rfl (by kernel_rfl) ⟨_, rfl, rfl⟩ (pu_move rfl) ?_
        refine Rg.pu 14 rfl rfl (by kernel_rfl) ⟨_, rfl, rfl⟩ (pu_ia se_42 rfl rfl (by omega) (by omega)) ?_
        refine Rg.pu 15 rfl rfl (by kernel_rfl) ⟨_, rfl, rfl⟩ (pu_fa fa_66_1 rfl) ?_
        refine Rg.rd 16 rfl rfl (by kernel_rfl) ⟨_, rfl, rfl⟩ (rd_ld na_64 rfl (Rdc.elp 1 (hS.1.h (by repeat constructor)) hx rfl rfl)) ?_
        refine Rg.pu 17 rfl rfl (by kernel_rfl) ⟨_, rfl, rfl⟩ (pu_move rfl) ?_
        refine Rg.pu 18 rfl rfl (by kernel_rfl) ⟨_, rfl, rfl⟩ (pu_move rfl) ?_
        refine Rg.pu 19 rfl rfl (by kernel_rfl) ⟨_, rfl, rfl⟩ (pu_ia se_42 rfl rfl (by omega) (by omega)) ?_
        refine Rg.pu 20 rfl rfl (by kernel_rfl) ⟨_, rfl, rfl⟩ (pu_fa fa_66_1 rfl) ?_
        refine Rg.rd 21 rfl rfl (by kernel_rfl) ⟨_, rfl, rfl⟩ (rd_ld na_64 rfl (Rdc.elp 1 (hU.1.h (by repeat constructor)) hy rfl rfl)) ?_
        refine Rg.one (by kernel_rfl) (Stp.ac 22 rfl rfl (by kernel_rfl) ⟨_, rfl, rfl⟩ (as_call (sameInts_spec hxa.1 hya.1 (by omega)) (by repeat constructor) (by repeat constructor))  ?_)
        rintro _ _ ⟨_, ⟨rfl, rfl⟩, rfl⟩
        refine Rg.pu 23 rfl rfl (by kernel_rfl) ⟨_, rfl, rfl⟩ (pu_not rfl) ?_
        refine Rg.pu 24 rfl rfl (by kernel_rfl) trivial (by first | exact pu_pick_t rfl rfl | exact pu_pick_f rfl rfl) ?_
        refine Rg.end (by kernel_rfl) ?_
        refine Gs.then_n ?_
        refine Gs.cond rfl (fun hc2 => ?_) (fun hc2 => ?_)
        · skip
          have hne : ¬ plain1 xs = plain1 ys := fun e => by
            have h := not_t hc2
            rw [e, hy1] at hx1
            have h1 : y.t.xs = x.t.xs := congrArg Prod.snd (Option.some.inj hx1)
            exact (of_decide_eq_false h) h1.symm
          refine Gs.seq ?_
          refine Gs.reg ?_
          refine Go.Sl.L.pu rfl rfl trivial (pu_assign rfl) ?_
          refine Go.Sl.L.nil ?_
          refine Gs.then_n ?_
          refine Gs.ret ?_
          refine Gs.blk_r ?_
          refine Gs.then_r ?_
          refine Gs.then_r ?_
          refine Gs.blk_r ?_
          refine Gs.then_r ?_
          exact Gs.fin1 Tryz.results17 rfl _ (⟨by rw [decide_eq_false hne], rfl⟩) (by repeat constructor)
        · skip
          have hat : x.t.xs = y.t.xs := of_decide_eq_true (not_f hc2)
          have hxy : x.p = y.p := by show (x.k, x.t.xs) = (y.k, y.t.xs); rw [hkk, hat]
          refine Gs.skip ?_
          refine Gs.blk_n ?_
          refine Gs.then_n ?_
          refine Gs.reg ?_
          refine Go.Sl.L.pu rfl rfl trivial (pu_move rfl) ?_
          refine Go.Sl.L.pu rfl rfl trivial (by first | exact pu_addI rfl rfl rfl (by omega) (by omega) | exact pu_add rfl rfl) ?_
          refine Go.Sl.L.pu rfl rfl trivial (pu_assign rfl) ?_
          refine Go.Sl.L.nil ?_
          refine Gs.then_n ?_
          exact Gs.again1 (i + 1) ⟨by omega, by rw [List.take_add_one, List.take_add_one, ht, hx1, hy1, hxy]⟩ (by omega) (by repeat constructor) (by repeat constructor)
    · skip
      have hge : i = xs.length := by have := of_decide_eq_false hc1; omega
      have heq : plain1 xs = plain1 ys := by rw [hge, List.take_of_length_le (by simp), List.take_of_length_le (by simp [hle])] at ht; exact ht
      refine Gs.exit ?_
      refine Gs.then_x ?_
      refine Gs.then_x ?_
      refine Gs.blk_hit ?_
      refine Gs.then_n ?_
      refine Gs.seq ?_
      refine Gs.reg ?_
      refine Go.Sl.L.pu rfl rfl trivial (pu_assign rfl) ?_
      refine Go.Sl.L.nil ?_
      refine Gs.then_n ?_
      refine Gs.ret ?_
      exact Gs.fin1 Tryz.results17 rfl _ (⟨by rw [decide_eq_true heq], rfl⟩) (by repeat constructor)
theorem overInts_spec {a : Option Addr} {c : Nat} {xs : List Int} (hl : xs.length ≤ 100000) :
    Ct Tryz.prog 45 [.slice a xs.length c] [sl 3 1 intC a c xs] (fun v hs => v = .tuple #[] ∧ hs = []) := by
  refine Ct.intro Tryz.func45 rfl (by kernel_rfl) 15 Tryz.ntmps45 (Nat.le_of_ble_eq_true rfl) fun w0 R => ?_
  refine Gs.slAddr (xs := xs) (SlH.own (E := 3) (enc := intC) (by repeat constructor)) fun ab ao ha => ?_
  refine Gs.seq ?_
  refine Gs.seq ?_
  refine Gs.reg ?_
  refine Go.Sl.L.pu rfl rfl trivial (pu_assign rfl) ?_
  refine Go.Sl.L.nil ?_
  refine Gs.then_n ?_
  refine Gs.block ?_
  refine Gs.loop1 (fun s : Nat × List Int => s.1 ≤ xs.length ∧ s.2.length = xs.length) (fun s => [(0, .slice a xs.length c), (2, int s.1)]) (fun s => [sl 3 1 intC a c s.2] ++ R) (fun s => xs.length - s.1) (0, xs) (⟨Nat.zero_le _, rfl⟩) (by repeat constructor) (by repeat constructor) (fun s hs => ?_)
  obtain ⟨i, ys⟩ := s
  obtain ⟨hi, hy⟩ := hs
  dsimp only at hi hy ⊢
  refine Gs.seq ?_
  refine Gs.seq ?_
  refine Gs.reg ?_
  refine Go.Sl.L.pu rfl rfl trivial (pu_move rfl) ?_
  refine Go.Sl.L.pu rfl rfl trivial (pu_move rfl) ?_
  refine Go.Sl.L.pu rfl rfl trivial (pu_len Tryz.underlying64 rfl) ?_
  refine Go.Sl.L.pu rfl rfl trivial (pu_lt rfl rfl) ?_
  refine Go.Sl.L.nil ?_
  refine Gs.then_n ?_
  refine Gs.cond rfl (fun hc0 => ?_) (fun hc0 => ?_)
  · skip
    have hlt : i < xs.length := by have := of_decide_eq_true hc0; omega
    obtain rfl := ha (by rintro rfl; simp at hlt)
    have hset : (ys.set i (-999)).length = xs.length := by rw [List.length_set]; exact hy
    refine Gs.skip ?_
    refine Gs.then_n ?_
    refine Gs.seq ?_
    refine Gs.block ?_
    refine Gs.reg ?_
    refine Go.Sl.L.pu rfl rfl trivial (pu_move rfl) ?_
    refine Go.Sl.L.pu rfl rfl trivial (pu_move rfl) ?_
    refine Go.Sl.L.pu rfl rfl trivial (pu_ia se_64 rfl rfl (by omega) (by omega)) ?_
    refine Go.Sl.L.ac0 rfl trivial (ac_stE (enc := intC) (xs := ys) (i := i) (x0 := ys[i]'(by omega)) (y0 := -999) (vs := intC (-999)) (fo := 0) sz_3 ek_3 rfl rfl (by repeat constructor) rfl rfl rfl (by simp) rfl rfl) ?_
    rintro _ _ rfl
    refine Go.Sl.L.nil ?_
    refine Gs.blk_n ?_
    refine Gs.then_n ?_
    refine Gs.reg ?_
    refine Go.Sl.L.pu rfl rfl trivial (pu_move rfl) ?_
    refine Go.Sl.L.pu rfl rfl trivial (by first | exact pu_addI rfl rfl rfl (by omega) (by omega) | exact pu_add rfl rfl) ?_
    refine Go.Sl.L.pu rfl rfl trivial (pu_assign rfl) ?_
    refine Go.Sl.L.nil ?_
    refine Gs.then_n ?_
    exact Gs.again1 (i + 1, ys.set i (-999)) ⟨hlt, hset⟩ (by show xs.length - (i + 1) < xs.length - i; omega) (by repeat constructor) (by repeat constructor)
  · skip
    refine Gs.exit ?_
    refine Gs.then_x ?_
    refine Gs.then_x ?_
    refine Gs.blk_hit ?_
    refine Gs.then_n ?_
    rw [← hy]
    refine Gs.reg ?_
    refine Go.Sl.L.pu rfl rfl trivial (pu_move rfl) ?_
    refine Go.Sl.L.ac rfl rfl trivial (ac_lit encC_3 ([(-999 : Int)]) et_64 ek_3 rfl (by repeat constructor) rfl rfl (by decide)) ?_
    rintro _ _ ⟨a13, rfl, rfl⟩
    refine Go.Sl.L.ac rfl rfl trivial (ac_append (xs := ys) (ys := [(-999 : Int)]) et_64 ek_3 rfl rfl (by repeat constructor) (SrcH.sl Tryz.underlying64 ek_3 (SlH.own (by repeat constructor))) (by first | omega | (simp; omega)) (by first | omega | (simp; omega))) ?_
    rintro _ _ ⟨a14, c14, rfl, rfl⟩
    refine Go.Sl.L.nil ?_
    refine Gs.fin_n ?_
    exact Gs.fin0 Tryz.results45 _ (⟨rfl, rfl⟩) (by repeat constructor)
theorem overPosts_spec {a : Option Addr} {c : Nat} {ps : List PostV} (hl : ps.length ≤ 100000) (hat : ∀ p ∈ ps, p.t.xs.length ≤ 100000) :
    Ct Tryz.prog 19 [.slice a ps.length c] [plO a c ps] (fun v hs => v = .tuple #[] ∧ hs = []) := by
  refine Ct.intro Tryz.func19 rfl (by kernel_rfl) 20 Tryz.ntmps19 (Nat.le_of_ble_eq_true rfl) fun w0 R => ?_
  refine Gs.take (A := plO a c ps) (by repeat constructor) (Gs.two ?_)
  refine Gs.slAddr (xs := ps) (SlH.own (E := 66) (enc := postC) (by repeat constructor)) fun ab ao ha => ?_
  refine Gs.seq ?_
  refine Gs.reg ?_
  refine Go.Sl.L.pu rfl rfl trivial (pu_assign rfl) ?_
  refine Go.Sl.L.nil ?_
  refine Gs.then_n ?_
  refine Gs.block ?_
  refine Gs.loop1 (fun s : Nat × List PostV => s.1 ≤ ps.length ∧ s.2.length = ps.length ∧ s.2.drop s.1 = ps.drop s.1) (fun s => [(0, .slice a ps.length c), (2, int s.1)]) (fun s => [sl 66 3 postC a c s.2, big ((ps.drop s.1).map atO)] ++ R) (fun s => ps.length - s.1) (0, ps) (⟨Nat.zero_le _, rfl, rfl⟩) (by repeat constructor) (by repeat constructor) (fun s hs => ?_)
  obtain ⟨i, qs⟩ := s
  obtain ⟨hi, hy, hd⟩ := hs
  dsimp only at hi hy hd ⊢
  refine Gs.seq ?_
  refine Gs.seq ?_
  refine Gs.reg ?_
  refine Go.Sl.L.pu rfl rfl trivial (pu_move rfl) ?_
  refine Go.Sl.L.pu rfl rfl trivial (pu_move rfl) ?_
  refine Go.Sl.L.pu rfl rfl trivial (pu_len Tryz.underlying42 rfl) ?_
  refine Go.Sl.L.pu rfl rfl trivial (pu_lt rfl rfl) ?_
  refine Go.Sl.L.nil ?_
  refine Gs.then_n ?_
  refine Gs.cond rfl (fun hc0 => ?_) (fun hc0 => ?_)
  · skip
    have hlt : i < ps.length := by have := of_decide_eq_true hc0; omega
    obtain ⟨p, hp⟩ : ∃ x, ps[i]? = some x := ⟨ps[i], by simp [hlt]⟩
    obtain rfl := ha (by rintro rfl; simp at hlt)
    have hpq : qs[i]? = some p := by
      have := congrArg (·[0]?) hd
      simpa [List.getElem?_drop, hp] using this
    have hdr : ps.drop i = p :: ps.drop (i + 1) := by
      obtain ⟨h1, rfl⟩ := List.getElem?_eq_some_iff.1 hp
      exact List.drop_eq_getElem_cons h1
    have hpl := hat p (List.mem_of_getElem? hp)
    have k1 : (qs.set i ⟨⟨-9, 0⟩, ⟨none, [], 0⟩⟩).length = ps.length := by rw [List.length_set]; exact hy
    have k2 : (qs.set i ⟨⟨-9, 0⟩, ⟨none, [], 0⟩⟩).drop (i + 1) = ps.drop (i + 1) := by rw [List.drop_set_of_lt (by omega), ← List.drop_drop, hd, List.drop_drop]
    rw [hdr]
    refine Gs.take (A := big ((p :: ps.drop (i + 1)).map atO)) (by repeat constructor) (Gs.bigTake (A := atO p) .hd ?_)
    refine Gs.skip ?_
    refine Gs.then_n ?_
    refine Gs.seq ?_
    refine Gs.block ?_
    refine Gs.seq ?_
    refine Gs.reg ?_
    refine Go.Sl.L.pu rfl rfl trivial (pu_move rfl) ?_
    refine Go.Sl.L.pu rfl rfl trivial (pu_move rfl) ?_
    refine Go.Sl.L.pu rfl rfl trivial (pu_ia se_42 rfl rfl (by omega) (by omega)) ?_
    refine Go.Sl.L.pu rfl rfl trivial (pu_fa fa_66_1 rfl) ?_
    refine Go.Sl.L.rd rfl rfl trivial (rd_ld na_64 rfl (Rdc.elp 1 (SlH.own (xs := qs) (E := 66) (c := c) (enc := postC) (sz := 3) (by repeat constructor)) hpq rfl rfl)) ?_
    refine Go.Sl.L.ac rfl rfl trivial (as_call (overInts_spec hpl) (by repeat constructor) (by repeat constructor)) ?_
    rintro _ _ ⟨_, ⟨rfl, rfl⟩, rfl⟩
    refine Go.Sl.L.nil ?_
    refine Gs.then_n ?_
    refine Gs.reg ?_
    refine Go.Sl.L.pu rfl rfl trivial (pu_move rfl) ?_
    refine Go.Sl.L.pu rfl rfl trivial (pu_move rfl) ?_
    refine Go.Sl.L.pu rfl rfl trivial (pu_build bd_31 (by repeat constructor) rfl) ?_
    refine Go.Sl.L.pu rfl rfl trivial (pu_build bd_66 (by repeat constructor) rfl) ?_
    refine Go.Sl.L.pu rfl rfl trivial (pu_ia se_42 rfl rfl (by omega) (by omega)) ?_
    refine Go.Sl.L.ac0 rfl trivial (ac_stE (enc := postC) (xs := qs) (i := i) (x0 := p) (y0 := ⟨⟨-9, 0⟩, ⟨none, [], 0⟩⟩) (vs := postC ⟨⟨-9, 0⟩, ⟨none, [], 0⟩⟩) (fo := 0) sz_66 ek_66 rfl rfl (by repeat constructor) rfl rfl rfl hpq rfl rfl) ?_
    rintro _ _ rfl
    refine Go.Sl.L.nil ?_
    refine Gs.blk_n ?_
    refine Gs.then_n ?_
    refine Gs.reg ?_
    refine Go.Sl.L.pu rfl rfl trivial (pu_move rfl) ?_
    refine Go.Sl.L.pu rfl rfl trivial (by first | exact pu_addI rfl rfl rfl (by omega) (by omega) | exact pu_add rfl rfl) ?_
    refine Go.Sl.L.pu rfl rfl trivial (pu_assign rfl) ?_
    refine Go.Sl.L.nil ?_
    refine Gs.then_n ?_
    exact Gs.again1 (i + 1, qs.set i ⟨⟨-9, 0⟩, ⟨none, [], 0⟩⟩) ⟨hlt, k1, k2⟩ (by show ps.length - (i + 1) < ps.length - i; omega) (by repeat constructor) (by repeat constructor)
  · skip
    refine Gs.exit ?_
    refine Gs.then_x ?_
    refine Gs.then_x ?_
    refine Gs.blk_hit ?_
    refine Gs.fin_n ?_
    exact Gs.fin0 Tryz.results19 _ (⟨rfl, rfl⟩) (by repeat constructor)
/-- Lists of whatever length. -/
def LR0 (S : HProp) (a : Option Addr) (ls : List (SlV PostV)) : Prop := Srd S 1 slC a ls ∧ ls.length ≤ maxLen ∧ ∀ l ∈ ls, Srd S 3 postC l.a l.xs ∧ l.xs.length ≤ maxLen ∧ ∀ p ∈ l.xs, Srd S 1 intC p.t.a p.t.xs ∧ p.t.xs.length ≤ maxLen
def Small (ls : List (SlV PostV)) (most : Nat) : Prop := ls.length ≤ most ∧ ∀ l ∈ ls, l.xs.length ≤ 40 ∧ ∀ p ∈ l.xs, p.t.xs.length ≤ 30
theorem LR0.lrd {S : HProp} {a : Option Addr} {ls : List (SlV PostV)} {most : Nat} (h : LR0 S a ls) (s : Small ls most) : LRd S a ls :=
  ⟨h.1, fun l hl => ⟨⟨(h.2.2 l hl).1, fun p hp => ⟨((h.2.2 l hl).2.2 p hp).1, Nat.le_trans ((s.2 l hl).2 p hp) (by decide)⟩⟩, Nat.le_trans (s.2 l hl).1 (by decide)⟩⟩
end Go.Proofs.YtmbikfojljnnkaaGreatDoor

/- Lists of postings: plain laws of putting and dropping. -/
namespace Go.Proofs.YtmbikfojljnnkaaGreatDoor
open Go Go.Sl Go.Gv Go.Po
abbrev AscP (L : List PostP) : Prop := L.Pairwise fun a b => before a.1 b.1 = true
theorem ascP_of {L : List PostP} (h : mayB L = true) : AscP L := by
  have := may_asc h
  rwa [List.pairwise_map] at this
theorem mayFrom_of : ∀ {q : Option Key} {L : List PostP}, AscP L → (∀ p ∈ L, risesB p.2 = true) → (∀ k, q = some k → ∀ p ∈ L, before k p.1 = true) → mayFrom q L = true
  | _, [], _, _, _ => rfl
  | q, p :: L, ha, hr, hq => by
    have ha' := List.pairwise_cons.1 ha
    unfold mayFrom
    rw [hr p (by simp), Bool.true_and, Bool.and_eq_true]
    refine ⟨?_, mayFrom_of ha'.2 (fun x hx => hr x (by simp [hx])) fun k hk x hx => ?_⟩
    · cases q with
      | none => rfl
      | some k => exact hq k rfl p (by simp)
    · cases hk; exact ha'.1 x hx
theorem may_of {L : List PostP} (ha : AscP L) (hr : ∀ p ∈ L, risesB p.2 = true) : mayB L = true := mayFrom_of ha hr fun _ h => by cases h
theorem filt_ne {k : Key} : ∀ {L : List PostP}, AscP L → L.filter (fun y => decide (y.1 ≠ k)) = L.filter (fun y => before y.1 k) ++ L.filter (fun y => before k y.1)
  | [], _ => rfl
  | x :: L, h => by
    have h' := List.pairwise_cons.1 h
    have ih := filt_ne (k := k) h'.2
    by_cases e : x.1 = k
    · rw [List.filter_cons_of_neg (by simp [e]), List.filter_cons_of_neg (by rw [e, before_irr]; decide), List.filter_cons_of_neg (by rw [e, before_irr]; decide)]
      exact ih
    · rw [List.filter_cons_of_pos (by simpa using e)]
      rcases before_total e with hb | hb
      · rw [List.filter_cons_of_pos (p := fun y : PostP => before y.1 k) hb, List.filter_cons_of_neg (by rw [before_asymm hb]; decide), ih]; rfl
      · have hnil : L.filter (fun y => before y.1 k) = [] := List.filter_eq_nil_iff.2 fun y hy => by rw [before_asymm (before_trans hb (h'.1 y hy))]; decide
        rw [List.filter_cons_of_neg (by rw [before_asymm hb]; decide), List.filter_cons_of_pos (p := fun y : PostP => before k y.1) hb, ih, hnil]; rfl
theorem drop_is {L : List PostP} (hm : mayB L = true) (k : Key) : dropP L k = L.filter (fun y => before y.1 k) ++ L.filter (fun y => before k y.1) := by rw [dropP, if_pos hm, filt_ne (ascP_of hm)]
theorem drop_may {L : List PostP} (hm : mayB L = true) (k : Key) : mayB (dropP L k) = true := by
  rw [dropP, if_pos hm]
  exact may_of (List.Pairwise.filter _ (ascP_of hm)) fun p hp => may_rises hm p (List.mem_filter.1 hp).1
section
variable {L : List PostP} {x : PostP} (hm : mayB L = true) (hx : risesB x.2 = true)
include hm hx
theorem put_is : putP L x = L.filter (fun y => before y.1 x.1) ++ [x] ++ L.filter (fun y => before x.1 y.1) := by rw [putP, if_pos hm, if_pos hx]
theorem put_may : mayB (putP L x) = true := by
  rw [put_is hm hx]
  have ha := ascP_of hm
  have h1 : AscP (L.filter fun y => before y.1 x.1) := List.Pairwise.filter _ ha
  have h2 : AscP (L.filter fun y => before x.1 y.1) := List.Pairwise.filter _ ha
  refine may_of (List.pairwise_append.2 ⟨List.pairwise_append.2 ⟨h1, List.pairwise_singleton .., fun u hu v hv => ?_⟩, h2, fun u hu v hv => ?_⟩) fun p hp => ?_
  · simp at hv; subst hv; exact (List.mem_filter.1 hu).2
  · have hv' := (List.mem_filter.1 hv).2
    rcases List.mem_append.1 hu with hu | hu
    · exact before_trans (List.mem_filter.1 hu).2 hv'
    · simp at hu; subst hu; exact hv'
  · rcases List.mem_append.1 hp with hp | hp
    · rcases List.mem_append.1 hp with hp | hp
      · exact may_rises hm p (List.mem_filter.1 hp).1
      · simp at hp; subst hp; exact hx
    · exact may_rises hm p (List.mem_filter.1 hp).1
/-- What is ahead of, and what is behind, a key among others that are so. -/
theorem filt_lt : (putP L x).filter (fun y => before y.1 x.1) = L.filter (fun y => before y.1 x.1) ∧ (putP L x).filter (fun y => before x.1 y.1) = L.filter (fun y => before x.1 y.1) := by
  rw [put_is hm hx]
  simp only [List.filter_append, List.filter_filter]
  have e1 : [x].filter (fun y => before y.1 x.1) = [] := List.filter_cons_of_neg (by rw [before_irr]; decide)
  have e2 : [x].filter (fun y => before x.1 y.1) = [] := List.filter_cons_of_neg (by rw [before_irr]; decide)
  have e3 : L.filter (fun y => before y.1 x.1 && before x.1 y.1) = [] := List.filter_eq_nil_iff.2 fun y _ => by
    cases h : before y.1 x.1 with
    | false => simp
    | true => rw [before_asymm h]; decide
  have e4 : L.filter (fun y => before x.1 y.1 && before y.1 x.1) = [] := List.filter_eq_nil_iff.2 fun y _ => by
    cases h : before x.1 y.1 with
    | false => simp
    | true => rw [before_asymm h]; decide
  have e5 : ∀ f : PostP → Bool, L.filter (fun y => f y && f y) = L.filter f := fun f => List.filter_congr fun y _ => Bool.and_self _
  rw [e1, e2, e3, e4, e5 (fun y => before y.1 x.1), e5 (fun y => before x.1 y.1)]
  simp
theorem back_drop : dropP (putP L x) x.1 = dropP L x.1 := by
  obtain ⟨h1, h2⟩ := filt_lt hm hx
  rw [drop_is (put_may hm hx), drop_is hm, h1, h2]
theorem back_put : putP (putP L x) x = putP L x := by
  obtain ⟨h1, h2⟩ := filt_lt hm hx
  rw [put_is (put_may hm hx) hx, h1, h2, ← put_is hm hx]
theorem back_was : putP (dropP L x.1) x = putP L x := by
  rw [put_is (drop_may hm x.1) hx, put_is hm hx, drop_is hm]
  simp only [List.filter_append, List.filter_filter]
  have e3 : L.filter (fun y => before y.1 x.1 && before x.1 y.1) = [] := List.filter_eq_nil_iff.2 fun y _ => by
    cases h : before y.1 x.1 with
    | false => simp
    | true => rw [before_asymm h]; decide
  have e4 : L.filter (fun y => before x.1 y.1 && before y.1 x.1) = [] := List.filter_eq_nil_iff.2 fun y _ => by
    cases h : before x.1 y.1 with
    | false => simp
    | true => rw [before_asymm h]; decide
  have e5 : ∀ f : PostP → Bool, L.filter (fun y => f y && f y) = L.filter f := fun f => List.filter_congr fun y _ => Bool.and_self _
  rw [e3, e4, e5 (fun y => before y.1 x.1), e5 (fun y => before x.1 y.1)]
  simp
theorem back_len : (putP L x).length = (dropP L x.1).length + 1 := by
  rw [put_is hm hx, drop_is hm]; simp only [List.length_append, List.length_cons, List.length_nil]; omega
theorem back_one : (putP L x).filter (fun y => decide (y.1 = x.1)) = [x] := by
  rw [put_is hm hx]
  simp only [List.filter_append]
  have e1 : (L.filter fun y => before y.1 x.1).filter (fun y => decide (y.1 = x.1)) = [] := List.filter_eq_nil_iff.2 fun y hy => by
    have := (List.mem_filter.1 hy).2
    intro e; rw [of_decide_eq_true e, before_irr] at this; cases this
  have e2 : (L.filter fun y => before x.1 y.1).filter (fun y => decide (y.1 = x.1)) = [] := List.filter_eq_nil_iff.2 fun y hy => by
    have := (List.mem_filter.1 hy).2
    intro e; rw [of_decide_eq_true e, before_irr] at this; cases this
  have e3 : [x].filter (fun y => decide (y.1 = x.1)) = [x] := by rw [List.filter_cons_of_pos (by simp)]; rfl
  rw [e1, e2, e3]; rfl
end
end Go.Proofs.YtmbikfojljnnkaaGreatDoor

