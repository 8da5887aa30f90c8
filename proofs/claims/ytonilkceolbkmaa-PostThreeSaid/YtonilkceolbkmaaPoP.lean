/- Walks: slices.Clone at numbers and posts. -/
import Derived.Test.YtonilkceolbkmaaPoO
namespace Go.Proofs.Ytonilkceolbkmaa
open Go Go.Sl Go.Gv Go.Po
set_option maxRecDepth 100000
theorem cloneI_spec {S : HProp} {a : Option Addr} {c : Nat} {l : List Int} (hS : Srd S 1 intC a l) (hl : l.length ≤ 100000) :
    Ct Try.prog 46 [.slice a l.length c] [S] (fun v hs => ∃ a' c', v = .slice a' l.length c' ∧ hs = [S, sl 3 1 intC a' c' l]) := by
  refine Ct.intro Try.func46 rfl (by kernel_rfl) 8 Try.ntmps46 (Nat.le_of_ble_eq_true rfl) fun w0 R => ?_
  refine Gs.slAddr (hS.h (by repeat constructor)) fun ab ao ha => ?_
  refine Gs.seq ?_
  refine Gs.reg ?_
  refine Go.Sl.L.pu rfl rfl trivial (pu_assign rfl) ?_
  refine Go.Sl.L.nil ?_
  refine Gs.then_n ?_
  refine Gs.seq ?_
  refine Gs.seq ?_
  refine Gs.reg ?_
  refine Go.Sl.L.pu rfl rfl trivial (pu_move rfl) ?_
  refine Go.Sl.L.pu rfl rfl trivial (pu_eqL Try.underlying35 rfl rfl) ?_
  refine Go.Sl.L.nil ?_
  refine Gs.then_n ?_
  refine Gs.cond rfl (fun hc0 => ?_) (fun hc0 => ?_)
  · skip
    have hnil : l = [] := Classical.byContradiction fun h => by rw [ha h] at hc0; cases hc0
    refine Gs.slNil 3 1 intC ?_
    refine Gs.seq ?_
    refine Gs.reg ?_
    refine Go.Sl.L.pu rfl rfl trivial (pu_assign rfl) ?_
    refine Go.Sl.L.nil ?_
    refine Gs.then_n ?_
    refine Gs.ret ?_
    refine Gs.then_r ?_
    exact Gs.fin1 Try.results46 rfl _ (⟨none, 0, by rw [hnil]; rfl, by rw [hnil]⟩) (by repeat constructor)
  · skip
    refine Gs.skip ?_
    refine Gs.then_n ?_
    refine Gs.seq ?_
    refine Gs.reg ?_
    refine Go.Sl.L.ac rfl rfl trivial (ac_lit encC_3 (([] : List Int)) et_35 ek_3 rfl (by repeat constructor) rfl rfl (by decide)) ?_
    rintro _ _ ⟨a5, rfl, rfl⟩
    refine Go.Sl.L.pu rfl rfl trivial (pu_move rfl) ?_
    refine Go.Sl.L.ac rfl rfl trivial (ac_append (xs := ([] : List Int)) (ys := l) et_35 ek_3 rfl rfl (by repeat constructor) (SrcH.sl Try.underlying35 ek_3 (hS.h (by repeat constructor))) (by simp; omega) (by simp; omega)) ?_
    rintro _ _ ⟨a7, c7, rfl, rfl⟩
    refine Go.Sl.L.pu rfl rfl trivial (pu_assign rfl) ?_
    refine Go.Sl.L.nil ?_
    refine Gs.then_n ?_
    refine Gs.ret ?_
    exact Gs.fin1 Try.results46 rfl _ (⟨a7, c7, rfl, rfl⟩) (by repeat constructor)
theorem cloneP_spec {S : HProp} {a : Option Addr} {c : Nat} {l : List PostV} (hS : Srd S 3 postC a l) (hl : l.length ≤ 100000) :
    Ct Try.prog 50 [.slice a l.length c] [S] (fun v hs => ∃ a' c', v = .slice a' l.length c' ∧ hs = [S, sl 37 3 postC a' c' l]) := by
  refine Ct.intro Try.func50 rfl (by kernel_rfl) 8 Try.ntmps50 (Nat.le_of_ble_eq_true rfl) fun w0 R => ?_
  refine Gs.slAddr (hS.h (by repeat constructor)) fun ab ao ha => ?_
  refine Gs.seq ?_
  refine Gs.reg ?_
  refine Go.Sl.L.pu rfl rfl trivial (pu_assign rfl) ?_
  refine Go.Sl.L.nil ?_
  refine Gs.then_n ?_
  refine Gs.seq ?_
  refine Gs.seq ?_
  refine Gs.reg ?_
  refine Go.Sl.L.pu rfl rfl trivial (pu_move rfl) ?_
  refine Go.Sl.L.pu rfl rfl trivial (pu_eqL Try.underlying30 rfl rfl) ?_
  refine Go.Sl.L.nil ?_
  refine Gs.then_n ?_
  refine Gs.cond rfl (fun hc0 => ?_) (fun hc0 => ?_)
  · skip
    have hnil : l = [] := Classical.byContradiction fun h => by rw [ha h] at hc0; cases hc0
    refine Gs.slNil 37 3 postC ?_
    refine Gs.seq ?_
    refine Gs.reg ?_
    refine Go.Sl.L.pu rfl rfl trivial (pu_assign rfl) ?_
    refine Go.Sl.L.nil ?_
    refine Gs.then_n ?_
    refine Gs.ret ?_
    refine Gs.then_r ?_
    exact Gs.fin1 Try.results50 rfl _ (⟨none, 0, by rw [hnil]; rfl, by rw [hnil]⟩) (by repeat constructor)
  · skip
    refine Gs.skip ?_
    refine Gs.then_n ?_
    refine Gs.seq ?_
    refine Gs.reg ?_
    refine Go.Sl.L.ac rfl rfl trivial (ac_lit encC_37 (([] : List PostV)) et_30 ek_37 rfl (by repeat constructor) rfl rfl (by decide)) ?_
    rintro _ _ ⟨a5, rfl, rfl⟩
    refine Go.Sl.L.pu rfl rfl trivial (pu_move rfl) ?_
    refine Go.Sl.L.ac rfl rfl trivial (ac_append (xs := ([] : List PostV)) (ys := l) et_30 ek_37 rfl rfl (by repeat constructor) (SrcH.sl Try.underlying30 ek_37 (hS.h (by repeat constructor))) (by simp; omega) (by simp; omega)) ?_
    rintro _ _ ⟨a7, c7, rfl, rfl⟩
    refine Go.Sl.L.pu rfl rfl trivial (pu_assign rfl) ?_
    refine Go.Sl.L.nil ?_
    refine Gs.then_n ?_
    refine Gs.ret ?_
    exact Gs.fin1 Try.results50 rfl _ (⟨a7, c7, rfl, rfl⟩) (by repeat constructor)
end Go.Proofs.Ytonilkceolbkmaa
