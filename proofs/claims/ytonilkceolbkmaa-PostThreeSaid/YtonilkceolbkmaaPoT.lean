/- Walks: DeleteFunc at posts, Drop (post). -/
import Derived.Test.YtonilkceolbkmaaPoS
namespace Go.Proofs.Ytonilkceolbkmaa
open Go Go.Sl Go.Gv Go.Po
set_option maxRecDepth 100000
theorem indexP_spec {F : HProp} {g : FuncId} {c1 : Value} {q : PostV → Bool} {a : Option Addr} {c : Nat} {xs : List PostV} (hg : ∀ p, Ct Try.prog g ([] ++ [postV p] ++ [c1]) [F] (fun v hs => v = .bool (q p) ∧ hs = [F])) (hl : xs.length ≤ 100000) :
    Ct Try.prog 64 [.slice a xs.length c, .func (.func g) #[] #[c1]] [sl 37 3 postC a c xs, F] (fun v hs => (∃ z : Int, v = int z ∧ ((z = -1 ∧ ∀ x ∈ xs, q x = false) ∨ (∃ i : Nat, z = i ∧ (∃ x, xs[i]? = some x ∧ q x = true) ∧ ∀ x ∈ xs.take i, q x = false))) ∧ hs = [sl 37 3 postC a c xs, F]) := by
  refine Ct.intro Try.func64 rfl (by kernel_rfl) 19 Try.ntmps64 (Nat.le_of_ble_eq_true rfl) fun w0 R => ?_
  refine Gs.slAddr (SlH.own (by repeat constructor)) fun ab ao ha => ?_
  refine Gs.seq ?_
  refine Gs.reg ?_
  refine Go.Sl.L.pu rfl rfl trivial (pu_assign rfl) ?_
  refine Go.Sl.L.nil ?_
  refine Gs.then_n ?_
  refine Gs.seq ?_
  refine Gs.seq ?_
  refine Gs.reg ?_
  refine Go.Sl.L.pu rfl rfl trivial (pu_move rfl) ?_
  refine Go.Sl.L.pu rfl rfl trivial (pu_len Try.underlying30 rfl) ?_
  refine Go.Sl.L.pu rfl rfl trivial (pu_move rfl) ?_
  refine Go.Sl.L.nil ?_
  refine Gs.then_n ?_
  refine Gs.block ?_
  refine Gs.loop1 (fun i : Nat => i ≤ xs.length ∧ ∀ x ∈ xs.take i, q x = false) (fun i => [(0, .slice a xs.length c), (1, .func (.func g) #[] #[c1]), (7, int xs.length), (8, int i)]) (fun i => [sl 37 3 postC a c xs, F] ++ R) (fun i => xs.length - i) 0 (⟨Nat.zero_le _, fun x hx => by simp at hx⟩) (by repeat constructor) (by repeat constructor) (fun i ⟨hi, hq⟩ => ?_)
  refine Gs.seq ?_
  refine Gs.reg ?_
  refine Go.Sl.L.pu rfl rfl trivial (pu_lt rfl rfl) ?_
  refine Go.Sl.L.nil ?_
  refine Gs.then_n ?_
  refine Gs.seq ?_
  refine Gs.cond rfl (fun hc0 => ?_) (fun hc0 => ?_)
  · skip
    have hlt : i < xs.length := by have := of_decide_eq_true hc0; omega
    obtain ⟨x, hx⟩ : ∃ x, xs[i]? = some x := ⟨xs[i], by simp [hlt]⟩
    obtain rfl := ha (by rintro rfl; simp at hlt)
    refine Gs.skip ?_
    refine Gs.then_n ?_
    refine Gs.seq ?_
    refine Gs.block ?_
    refine Gs.seq ?_
    refine Gs.reg ?_
    refine Go.Sl.L.pu rfl rfl trivial (pu_move rfl) ?_
    refine Go.Sl.L.pu rfl rfl trivial (pu_assign rfl) ?_
    refine Go.Sl.L.nil ?_
    refine Gs.then_n ?_
    refine Gs.seq ?_
    refine Gs.reg ?_
    refine Go.Sl.L.pu rfl rfl trivial (pu_move rfl) ?_
    refine Go.Sl.L.pu rfl rfl trivial (pu_move rfl) ?_
    refine Go.Sl.L.pu rfl rfl trivial (pu_move rfl) ?_
    refine Go.Sl.L.pu rfl rfl trivial (pu_ia se_30 rfl rfl (by omega) (by omega)) ?_
    refine Go.Sl.L.rd rfl rfl trivial (rd_lda ag_37 rfl (Rdc.el0 (SlH.own (by repeat constructor)) hx rfl rfl) rfl) ?_
    refine Go.Sl.L.ac rfl rfl trivial (as_callV rfl (hg x) (by repeat constructor) (by repeat constructor)) ?_
    rintro _ _ ⟨_, ⟨rfl, rfl⟩, rfl⟩
    refine Go.Sl.L.nil ?_
    refine Gs.then_n ?_
    refine Gs.cond rfl (fun hc1 => ?_) (fun hc1 => ?_)
    · skip
      refine Gs.seq ?_
      refine Gs.reg ?_
      refine Go.Sl.L.pu rfl rfl trivial (pu_move rfl) ?_
      refine Go.Sl.L.pu rfl rfl trivial (pu_assign rfl) ?_
      refine Go.Sl.L.nil ?_
      refine Gs.then_n ?_
      refine Gs.ret ?_
      refine Gs.blk_r ?_
      refine Gs.then_r ?_
      refine Gs.then_r ?_
      refine Gs.blk_r ?_
      refine Gs.then_r ?_
      exact Gs.fin1 Try.results64 rfl _ (⟨⟨_, rfl, .inr ⟨i, rfl, ⟨x, hx, hc1⟩, hq⟩⟩, rfl⟩) (by repeat constructor)
    · skip
      refine Gs.skip ?_
      refine Gs.blk_n ?_
      refine Gs.then_n ?_
      refine Gs.reg ?_
      refine Go.Sl.L.pu rfl rfl trivial (by first | exact pu_addI rfl rfl rfl (by omega) (by omega) | exact pu_add rfl rfl) ?_
      refine Go.Sl.L.pu rfl rfl trivial (pu_move rfl) ?_
      refine Go.Sl.L.nil ?_
      refine Gs.then_n ?_
      exact Gs.again1 (i + 1) ⟨hlt, fun y hy => by rw [List.take_add_one, hx] at hy; rcases List.mem_append.1 hy with hy | hy; exact hq y hy; simp at hy; subst hy; exact hc1⟩ (by show xs.length - (i + 1) < xs.length - i; omega) (by repeat constructor) (by repeat constructor)
  · skip
    have hge : i = xs.length := by have := of_decide_eq_false hc0; omega
    rw [hge, List.take_length] at hq
    refine Gs.exit ?_
    refine Gs.then_x ?_
    refine Gs.then_x ?_
    refine Gs.blk_hit ?_
    refine Gs.then_n ?_
    refine Gs.seq ?_
    refine Gs.reg ?_
    refine Go.Sl.L.pu rfl rfl trivial (pu_assign rfl) ?_
    refine Go.Sl.L.nil ?_
    refine Gs.then_n ?_
    refine Gs.ret ?_
    exact Gs.fin1 Try.results64 rfl _ (⟨⟨_, rfl, .inl ⟨rfl, hq⟩⟩, rfl⟩) (by repeat constructor)
theorem del_keep {α : Type} {ys : List α} {m : Nat} {x : α} (h : m < ys.length) : (ys.set m x).take (m + 1) = ys.take m ++ [x] := by
  rw [List.take_add_one, List.getElem?_set_self h, List.take_set_of_le (Nat.le_refl _)]; rfl
theorem deleteP_spec {F : HProp} {g : FuncId} {c1 : Value} {q : PostV → Bool} {a : Option Addr} {c : Nat} {xs : List PostV} (hg : ∀ p, Ct Try.prog g ([] ++ [postV p] ++ [c1]) [F] (fun v hs => v = .bool (q p) ∧ hs = [F])) (hl : xs.length ≤ 100000) :
    Ct Try.prog 49 [.slice a xs.length c, .func (.func g) #[] #[c1]] [sl 37 3 postC a c xs, F]
      (fun v hs => v = .slice a (xs.filter fun x => !q x).length c ∧ hs = [sl 37 3 postC a c (xs.filter fun x => !q x), F]) := by
  refine Ct.intro Try.func49 rfl (by kernel_rfl) 42 Try.ntmps49 (Nat.le_of_ble_eq_true rfl) fun w0 R => ?_
  refine Gs.slAddr (SlH.own (by repeat constructor)) fun ab ao ha => Gs.slLen (by repeat constructor) fun hlc => ?_
  refine Gs.seq ?_
  refine Gs.reg ?_
  refine Go.Sl.L.pu rfl rfl trivial (pu_assign rfl) ?_
  refine Go.Sl.L.nil ?_
  refine Gs.then_n ?_
  refine Gs.seq ?_
  refine Gs.reg ?_
  refine Go.Sl.L.pu rfl rfl trivial (pu_move rfl) ?_
  refine Go.Sl.L.pu rfl rfl trivial (pu_move rfl) ?_
  refine Go.Sl.L.ac rfl rfl trivial (as_call (indexP_spec (q := q) hg hl) (by repeat constructor) (by repeat constructor)) ?_
  rintro _ _ ⟨_, ⟨⟨z, rfl, hz⟩, rfl⟩, rfl⟩
  refine Go.Sl.L.pu rfl rfl trivial (pu_assign rfl) ?_
  refine Go.Sl.L.nil ?_
  refine Gs.then_n ?_
  refine Gs.seq ?_
  refine Gs.seq ?_
  refine Gs.reg ?_
  refine Go.Sl.L.pu rfl rfl trivial (pu_move rfl) ?_
  refine Go.Sl.L.pu rfl rfl trivial (pu_eq rfl rfl) ?_
  refine Go.Sl.L.nil ?_
  refine Gs.then_n ?_
  refine Gs.cond rfl (fun hc0 => ?_) (fun hc0 => ?_)
  · skip
    have hall : xs.filter (fun x => !q x) = xs := List.filter_eq_self.2 fun x hx => by rcases hz with ⟨-, h⟩ | ⟨i, rfl, -⟩ <;> first | (rw [h x hx]; rfl) | (have := of_decide_eq_true hc0; omega)
    refine Gs.seq ?_
    refine Gs.reg ?_
    refine Go.Sl.L.pu rfl rfl trivial (pu_move rfl) ?_
    refine Go.Sl.L.pu rfl rfl trivial (pu_assign rfl) ?_
    refine Go.Sl.L.nil ?_
    refine Gs.then_n ?_
    refine Gs.ret ?_
    refine Gs.then_r ?_
    exact Gs.fin1 Try.results49 rfl _ (⟨by rw [hall], by rw [hall]⟩) (by repeat constructor)
  · skip
    obtain ⟨i0, rfl, ⟨x0, hx0, hq0⟩, hz2⟩ : ∃ i : Nat, z = i ∧ (∃ x, xs[i]? = some x ∧ q x = true) ∧ ∀ x ∈ xs.take i, q x = false := by rcases hz with ⟨h, -⟩ | h <;> first | exact h | (exact absurd h (of_decide_eq_false hc0))
    have hi0 : i0 < xs.length := (List.getElem?_eq_some_iff.1 hx0).1
    obtain rfl := ha (by rintro rfl; simp at hi0)
    have hst : xs.take i0 = (xs.take (i0 + 1)).filter (fun x => !q x) := by rw [List.take_add_one, hx0, List.filter_append, List.filter_eq_self.2 (fun x hx => by rw [hz2 x hx]; rfl)]; simp [hq0]
    refine Gs.skip ?_
    refine Gs.then_n ?_
    refine Gs.seq ?_
    refine Gs.seq ?_
    refine Gs.reg ?_
    refine Go.Sl.L.pu rfl rfl trivial (pu_move rfl) ?_
    refine Go.Sl.L.pu rfl rfl trivial (by first | exact pu_addI rfl rfl rfl (by omega) (by omega) | exact pu_add rfl rfl) ?_
    refine Go.Sl.L.pu rfl rfl trivial (pu_assign rfl) ?_
    refine Go.Sl.L.nil ?_
    refine Gs.then_n ?_
    refine Gs.block ?_
    refine Gs.loop1 (fun s : Nat × Nat × List PostV => s.1 ≤ xs.length ∧ s.2.1 ≤ s.1 ∧ s.2.2.length = xs.length ∧ s.2.2.take s.2.1 = (xs.take s.1).filter (fun x => !q x) ∧ s.2.2.drop s.1 = xs.drop s.1) (fun s => [(0, .slice (some ⟨ab, ao, none⟩) xs.length c), (1, .func (.func g) #[] #[c1]), (5, int s.2.1), (6, int s.1)]) (fun s => [sl 37 3 postC (some ⟨ab, ao, none⟩) c s.2.2, F] ++ R) (fun s => xs.length - s.1) (i0 + 1, i0, xs) (⟨hi0, Nat.le_succ _, rfl, hst, rfl⟩) (by repeat constructor) (by repeat constructor) (fun s hs => ?_)
    obtain ⟨j, m, ys⟩ := s
    obtain ⟨hj, hm, hyl, hyt, hyd⟩ := hs
    dsimp only at hj hm hyl hyt hyd ⊢
    refine Gs.seq ?_
    refine Gs.seq ?_
    refine Gs.reg ?_
    refine Go.Sl.L.pu rfl rfl trivial (pu_move rfl) ?_
    refine Go.Sl.L.pu rfl rfl trivial (pu_move rfl) ?_
    refine Go.Sl.L.pu rfl rfl trivial (pu_len Try.underlying30 rfl) ?_
    refine Go.Sl.L.pu rfl rfl trivial (pu_lt rfl rfl) ?_
    refine Go.Sl.L.nil ?_
    refine Gs.then_n ?_
    refine Gs.cond rfl (fun hc1 => ?_) (fun hc1 => ?_)
    · skip
      have hlt : j < xs.length := by have := of_decide_eq_true hc1; omega
      obtain ⟨x, hx⟩ : ∃ x, xs[j]? = some x := ⟨xs[j], by simp [hlt]⟩
      have hxy : ys[j]? = some x := by have := congrArg (·[0]?) hyd; simp only [List.getElem?_drop, Nat.add_zero] at this; rw [this]; exact hx
      refine Gs.skip ?_
      refine Gs.then_n ?_
      refine Gs.seq ?_
      refine Gs.block ?_
      refine Gs.seq ?_
      refine Gs.reg ?_
      refine Go.Sl.L.pu rfl rfl trivial (pu_move rfl) ?_
      refine Go.Sl.L.pu rfl rfl trivial (pu_move rfl) ?_
      refine Go.Sl.L.pu rfl rfl trivial (pu_ia se_30 rfl rfl (by omega) (by omega)) ?_
      refine Go.Sl.L.rd rfl rfl trivial (rd_lda ag_37 rfl (Rdc.el0 (SlH.own (by repeat constructor)) hxy rfl rfl) rfl) ?_
      refine Go.Sl.L.ac rfl rfl trivial (ac_alloc zv_37 rfl) ?_
      rintro _ _ ⟨xb, rfl, rfl⟩
      refine Go.Sl.L.ac0 rfl trivial (ac_st sz_37 rfl rfl (by repeat constructor) rfl rfl rfl rfl) ?_
      rintro _ _ rfl
      refine Go.Sl.L.nil ?_
      refine Gs.then_n ?_
      refine Gs.seq ?_
      refine Gs.reg ?_
      refine Go.Sl.L.pu rfl rfl trivial (pu_move rfl) ?_
      refine Go.Sl.L.rd rfl rfl trivial (rd_lda ag_37 rfl (Rdc.cl 3 (by repeat constructor) rfl) rfl) ?_
      refine Go.Sl.L.ac rfl rfl trivial (as_callV rfl (hg x) (by repeat constructor) (by repeat constructor)) ?_
      rintro _ _ ⟨_, ⟨rfl, rfl⟩, rfl⟩
      refine Go.Sl.L.pu rfl rfl trivial (pu_not rfl) ?_
      refine Go.Sl.L.nil ?_
      refine Gs.then_n ?_
      refine Gs.cond rfl (fun hc2 => ?_) (fun hc2 => ?_)
      · skip
        have hX : q x = false := by simpa using hc2
        have k1 : (ys.set m x).length = xs.length := by rw [List.length_set]; exact hyl
        have k2 : (ys.set m x).take (m + 1) = (xs.take (j + 1)).filter (fun x => !q x) := by rw [del_keep (by omega), hyt, List.take_add_one, hx, List.filter_append]; simp [hX]
        have k3 : (ys.set m x).drop (j + 1) = xs.drop (j + 1) := by rw [List.drop_set_of_lt (by omega), ← List.drop_drop, hyd, List.drop_drop]
        refine Gs.seq ?_
        refine Gs.reg ?_
        refine Go.Sl.L.pu rfl rfl trivial (pu_move rfl) ?_
        refine Go.Sl.L.pu rfl rfl trivial (pu_move rfl) ?_
        refine Go.Sl.L.rd rfl rfl trivial (rd_lda ag_37 rfl (Rdc.cl 3 (by repeat constructor) rfl) rfl) ?_
        refine Go.Sl.L.pu rfl rfl trivial (pu_ia se_30 rfl rfl (by omega) (by omega)) ?_
        refine Go.Sl.L.ac0 rfl trivial (ac_stE (enc := postC) (xs := ys) (i := m) (x0 := ys[m]'(by omega)) (y0 := x) (vs := postC x) (fo := 0) sz_37 ek_37 rfl rfl (by repeat constructor) rfl rfl rfl (by simp) rfl rfl) ?_
        rintro _ _ rfl
        refine Go.Sl.L.nil ?_
        refine Gs.then_n ?_
        refine Gs.reg ?_
        refine Go.Sl.L.pu rfl rfl trivial (pu_move rfl) ?_
        refine Go.Sl.L.pu rfl rfl trivial (by first | exact pu_addI rfl rfl rfl (by omega) (by omega) | exact pu_add rfl rfl) ?_
        refine Go.Sl.L.pu rfl rfl trivial (pu_assign rfl) ?_
        refine Go.Sl.L.nil ?_
        refine Gs.blk_n ?_
        refine Gs.then_n ?_
        refine Gs.reg ?_
        refine Go.Sl.L.pu rfl rfl trivial (pu_move rfl) ?_
        refine Go.Sl.L.pu rfl rfl trivial (by first | exact pu_addI rfl rfl rfl (by omega) (by omega) | exact pu_add rfl rfl) ?_
        refine Go.Sl.L.pu rfl rfl trivial (pu_assign rfl) ?_
        refine Go.Sl.L.nil ?_
        refine Gs.then_n ?_
        first | exact Gs.again1 (j + 1, m + 1, ys.set m x) ⟨by show j + 1 ≤ xs.length; omega, by show m + 1 ≤ j + 1; omega, k1, k2, k3⟩ (by show xs.length - (j + 1) < xs.length - j; omega) (by repeat constructor) (by repeat constructor) | exact Gs.again1 (j + 1, m, ys) ⟨by show j + 1 ≤ xs.length; omega, by show m ≤ j + 1; omega, hyl, k2, k3⟩ (by show xs.length - (j + 1) < xs.length - j; omega) (by repeat constructor) (by repeat constructor)
      · skip
        have hX : q x = true := by simpa using hc2
        have k2 : ys.take m = (xs.take (j + 1)).filter (fun x => !q x) := by rw [hyt, List.take_add_one, hx, List.filter_append]; simp [hX]
        have k3 : ys.drop (j + 1) = xs.drop (j + 1) := by rw [← List.drop_drop, hyd, List.drop_drop]
        refine Gs.skip ?_
        refine Gs.blk_n ?_
        refine Gs.then_n ?_
        refine Gs.reg ?_
        refine Go.Sl.L.pu rfl rfl trivial (pu_move rfl) ?_
        refine Go.Sl.L.pu rfl rfl trivial (by first | exact pu_addI rfl rfl rfl (by omega) (by omega) | exact pu_add rfl rfl) ?_
        refine Go.Sl.L.pu rfl rfl trivial (pu_assign rfl) ?_
        refine Go.Sl.L.nil ?_
        refine Gs.then_n ?_
        first | exact Gs.again1 (j + 1, m + 1, ys.set m x) ⟨by show j + 1 ≤ xs.length; omega, by show m + 1 ≤ j + 1; omega, k1, k2, k3⟩ (by show xs.length - (j + 1) < xs.length - j; omega) (by repeat constructor) (by repeat constructor) | exact Gs.again1 (j + 1, m, ys) ⟨by show j + 1 ≤ xs.length; omega, by show m ≤ j + 1; omega, hyl, k2, k3⟩ (by show xs.length - (j + 1) < xs.length - j; omega) (by repeat constructor) (by repeat constructor)
    · skip
      have hge : j = xs.length := by have := of_decide_eq_false hc1; omega
      rw [hge, List.take_length] at hyt
      have hml : (ys.take m).length = m := by rw [List.length_take]; omega
      have hdl : (ys.drop m).length = xs.length - m := by rw [List.length_drop]; omega
      refine Gs.exit ?_
      refine Gs.then_x ?_
      refine Gs.then_x ?_
      refine Gs.blk_hit ?_
      refine Gs.then_n ?_
      refine Gs.seq ?_
      refine Gs.reg ?_
      refine Go.Sl.L.pu rfl rfl trivial (pu_move rfl) ?_
      refine Go.Sl.L.pu rfl rfl trivial (pu_move rfl) ?_
      refine Go.Sl.L.pu rfl rfl trivial (pu_sliceL et_30 rfl rfl (by omega) (by omega)) ?_
      refine Go.Sl.L.ac0 rfl trivial (ac_clear (enc := postC) (xs := ys.take m) (zs := ys.drop m) Try.underlying30 zv_37 rfl rfl rfl (by decide) (by rw [hml]; rfl) hdl.symm ek_37 (by rw [List.take_append_drop]; repeat constructor)) ?_
      rintro _ _ rfl
      refine Go.Sl.L.nil ?_
      refine Gs.then_n ?_
      refine Gs.seq ?_
      refine Gs.reg ?_
      refine Go.Sl.L.pu rfl rfl trivial (pu_move rfl) ?_
      refine Go.Sl.L.pu rfl rfl trivial (pu_move rfl) ?_
      refine Go.Sl.L.pu rfl rfl trivial (pu_sliceH et_30 rfl rfl (by omega) (by omega)) ?_
      refine Go.Sl.L.pu rfl rfl trivial (pu_assign rfl) ?_
      refine Go.Sl.L.nil ?_
      rw [show suba (some ⟨ab, ao, none⟩) 0 c 3 = some ⟨ab, ao, none⟩ from suba_0, hyt]
      refine Gs.then_n ?_
      refine Gs.ret ?_
      exact Gs.fin1 Try.results49 rfl _ (⟨by rw [← hyt, hml]; rfl, rfl⟩) (by repeat constructor)
theorem drop1_spec (k : Key) (kb : Nat) (p : PostV) : Ct Try.prog 51 ([] ++ [postV p] ++ [ptr kb]) [cl kb 34 (keyC k)] (fun v hs => v = .bool (decide (p.k = k)) ∧ hs = [cl kb 34 (keyC k)]) := by
  refine Ct.intro Try.func51 rfl (by kernel_rfl) 8 Try.ntmps51 (Nat.le_of_ble_eq_true rfl) fun w0 R => ?_
  refine Gs.seq ?_
  refine Gs.reg ?_
  refine Go.Sl.L.ac rfl rfl trivial (ac_box rfl rfl) ?_
  rintro _ _ ⟨pb, rfl, rfl⟩
  refine Go.Sl.L.pu rfl rfl trivial (pu_assign rfl) ?_
  refine Go.Sl.L.nil ?_
  refine Gs.then_n ?_
  refine Gs.seq ?_
  refine Gs.reg ?_
  refine Go.Sl.L.pu rfl rfl trivial (pu_fa fa_37_0 rfl) ?_
  refine Go.Sl.L.rd rfl rfl trivial (rd_lda ag_34 rfl (Rdc.cl 2 (by repeat constructor) rfl) rfl) ?_
  refine Go.Sl.L.rd rfl rfl trivial (rd_lda ag_34 rfl (Rdc.cl 2 (by repeat constructor) rfl) rfl) ?_
  refine Go.Sl.L.pu rfl rfl trivial (pu_eqT (a := p.k) (b := k) cmp_34 (by decide) Try.eqGuardType34 rfl rfl) ?_
  refine Go.Sl.L.pu rfl rfl trivial (pu_assign rfl) ?_
  refine Go.Sl.L.nil ?_
  refine Gs.then_n ?_
  refine Gs.ret ?_
  exact Gs.fin1 Try.results51 rfl _ (⟨rfl, rfl⟩) (by repeat constructor)
theorem pdrop_spec {S : HProp} {a : Option Addr} {c : Nat} {ps : List PostV} (hS : PRd S a ps) (hl : ps.length ≤ 1000) (k : Key) :
    Ct Try.prog 21 [.slice a ps.length c, keyV k] [S] (fun v hs => ∃ a' c' qs, v = .slice a' qs.length c' ∧ plain1 qs = dropP (plain1 ps) k ∧ hs = [S, plO a' c' qs]) := by
  refine Ct.intro Try.func21 rfl (by kernel_rfl) 13 Try.ntmps21 (Nat.le_of_ble_eq_true rfl) fun w0 R => ?_
  refine Gs.seq ?_
  refine Gs.reg ?_
  refine Go.Sl.L.ac rfl rfl trivial (ac_box rfl rfl) ?_
  rintro _ _ ⟨kb, rfl, rfl⟩
  refine Go.Sl.L.pu rfl rfl trivial (pu_assign rfl) ?_
  refine Go.Sl.L.nil ?_
  refine Gs.then_n ?_
  refine Gs.seq ?_
  refine Gs.seq ?_
  refine Gs.reg ?_
  refine Go.Sl.L.pu rfl rfl trivial (pu_move rfl) ?_
  refine Go.Sl.L.ac rfl rfl trivial (as_call (may_spec hS hl) (by repeat constructor) (by repeat constructor)) ?_
  rintro _ _ ⟨_, ⟨rfl, rfl⟩, rfl⟩
  refine Go.Sl.L.pu rfl rfl trivial (pu_not rfl) ?_
  refine Go.Sl.L.nil ?_
  refine Gs.then_n ?_
  refine Gs.cond rfl (fun hc0 => ?_) (fun hc0 => ?_)
  · skip
    have hno := not_t hc0
    refine Gs.seq ?_
    refine Gs.reg ?_
    refine Go.Sl.L.pu rfl rfl trivial (pu_assign rfl) ?_
    refine Go.Sl.L.nil ?_
    refine Gs.then_n ?_
    refine Gs.ret ?_
    refine Gs.then_r ?_
    refine Gs.bigNil (Gs.slNil 37 3 postC (Gs.toTwo ?_))
    exact Gs.fin1 Try.results21 rfl _ (⟨none, 0, [], rfl, by rw [dropP, hno]; rfl, rfl⟩) (by repeat constructor)
  · skip
    have hmay := not_f hc0
    refine Gs.skip ?_
    refine Gs.then_n ?_
    refine Gs.seq ?_
    refine Gs.reg ?_
    refine Go.Sl.L.pu rfl rfl trivial (pu_move rfl) ?_
    refine Go.Sl.L.ac rfl rfl trivial (as_call (cloneP_spec hS.1 (by omega)) (by repeat constructor) (by repeat constructor)) ?_
    rintro _ _ ⟨_, ⟨na, nc, rfl, rfl⟩, rfl⟩
    refine Go.Sl.L.pu rfl rfl trivial (pu_func (by repeat constructor) (by repeat constructor)) ?_
    refine Go.Sl.L.ac rfl rfl trivial (as_call (deleteP_spec (F := cl kb 34 (keyC k)) (q := fun p => decide (p.k = k)) (xs := ps) (fun p => drop1_spec k kb p) (by omega)) (by repeat constructor) (by repeat constructor)) ?_
    rintro _ _ ⟨_, ⟨rfl, rfl⟩, rfl⟩
    refine Go.Sl.L.ac rfl rfl trivial (as_call (Ct.two (own_spec (S := two (sl 37 3 postC na nc (ps.filter fun p => !decide (p.k = k))) S) ⟨Srd.two1 Srd.own, fun p hp => ⟨Srd.two2 (hS.2 p ((List.mem_filter.1 hp).1)).1, (hS.2 p ((List.mem_filter.1 hp).1)).2⟩⟩ (Nat.le_trans (List.length_filter_le ..) hl)) (by rintro _ _ ⟨_, _, _, _, _, rfl⟩; exact ⟨_, rfl⟩)) (by repeat constructor) (by repeat constructor)) ?_
    rintro _ _ ⟨_, ⟨_, ⟨oa, oc, qs, rfl, hqs, ⟨⟩⟩, rfl⟩, rfl⟩
    refine Go.Sl.L.pu rfl rfl trivial (pu_assign rfl) ?_
    refine Go.Sl.L.nil ?_
    refine Gs.then_n ?_
    refine Gs.ret ?_
    exact Gs.fin1 Try.results21 rfl _ (⟨oa, oc, qs, rfl, by rw [hqs, dropP, if_pos hmay]; simp only [plain1, List.filter_map, Function.comp_def]; congr 2; funext x; by_cases h : x.k = k <;> simp [PostV.p, h], rfl⟩) (by repeat constructor)
end Go.Proofs.Ytonilkceolbkmaa
