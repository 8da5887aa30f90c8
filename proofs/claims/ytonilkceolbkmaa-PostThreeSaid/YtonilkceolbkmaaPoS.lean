/- Walks: Put (post). -/
import Derived.Test.YtonilkceolbkmaaPoR
namespace Go.Po
open Go Go.Sl Go.Gv
/-- A list with one more, or one instead of another one. -/
def putP (L : List PostP) (x : PostP) : List PostP :=
  if mayB L then (if risesB x.2 then L.filter (fun y => before y.1 x.1) ++ [x] ++ L.filter (fun y => before x.1 y.1) else L) else []
def dropP (L : List PostP) (k : Key) : List PostP := if mayB L then L.filter (fun y => decide (y.1 ≠ k)) else []
theorem filter_cut {L : List PostP} {f : PostP → Bool} {i : Nat} (h1 : ∀ x ∈ L.take i, f x = true) (h2 : ∀ x ∈ L.drop i, f x = false) : L.filter f = L.take i := by
  have e : L.filter f = (L.take i).filter f ++ (L.drop i).filter f := by rw [← List.filter_append, List.take_append_drop]
  rw [e, List.filter_eq_self.2 h1, List.filter_eq_nil_iff.2 (fun x hx => by rw [h2 x hx]; decide), List.append_nil]
theorem filter_cut2 {L : List PostP} {f : PostP → Bool} {i : Nat} (h1 : ∀ x ∈ L.take i, f x = false) (h2 : ∀ x ∈ L.drop i, f x = true) : L.filter f = L.drop i := by
  have e : L.filter f = (L.take i).filter f ++ (L.drop i).filter f := by rw [← List.filter_append, List.take_append_drop]
  rw [e, List.filter_eq_self.2 h2, List.filter_eq_nil_iff.2 (fun x hx => by rw [h1 x hx]; decide), List.nil_append]
theorem mem_take_at {α : Type} {L : List α} {i : Nat} {x : α} (h : x ∈ L.take i) : ∃ m, m < i ∧ L[m]? = some x := by
  obtain ⟨m, hm⟩ := List.mem_iff_getElem?.1 h
  rw [List.getElem?_take] at hm
  split at hm
  · exact ⟨m, by assumption, hm⟩
  · cases hm
theorem mem_drop_at {α : Type} {L : List α} {i : Nat} {x : α} (h : x ∈ L.drop i) : ∃ m, i ≤ m ∧ L[m]? = some x := by
  obtain ⟨m, hm⟩ := List.mem_iff_getElem?.1 h
  rw [List.getElem?_drop] at hm
  exact ⟨i + m, by omega, hm⟩
end Go.Po
namespace Go.Proofs.Ytonilkceolbkmaa
open Go Go.Sl Go.Gv Go.Po
set_option maxRecDepth 100000
theorem put_new {qs : List PostV} {k : Key} {i : Nat} (h : cutI qs k i) (hno : ∀ x, qs[i]? = some x → x.k ≠ k) (ha : ((qs.map PostV.p).map Prod.fst).Pairwise (fun a b => before a b = true)) (hm : mayB (plain1 qs) = true) {x : PostV} (hx : x.k = k) (hr : risesB x.t.xs = true) :
    plain1 (qs.take i ++ [x] ++ qs.drop i) = putP (plain1 qs) x.p := by
  obtain ⟨hi, hlo, hhi⟩ := h
  have e1 : (plain1 qs).filter (fun y => before y.1 x.k) = (plain1 qs).take i := filter_cut
    (fun y hy => by
      obtain ⟨m, hm, hy⟩ := mem_take_at hy
      rw [List.getElem?_map] at hy
      obtain ⟨z, hz, rfl⟩ := Option.map_eq_some_iff.1 hy
      have := hlo m z hm hz; rw [hx]; exact this)
    (fun y hy => by
      obtain ⟨m, hm, hy⟩ := mem_drop_at hy
      rw [List.getElem?_map] at hy
      obtain ⟨z, hz, rfl⟩ := Option.map_eq_some_iff.1 hy
      have := hhi m z hm hz; rw [hx]; exact this)
  have e2 : (plain1 qs).filter (fun y => before x.k y.1) = (plain1 qs).drop i := filter_cut2
    (fun y hy => by
      obtain ⟨m, hm, hy⟩ := mem_take_at hy
      rw [List.getElem?_map] at hy
      obtain ⟨z, hz, rfl⟩ := Option.map_eq_some_iff.1 hy
      have := hlo m z hm hz; rw [hx]; exact before_asymm this)
    (fun y hy => by
      obtain ⟨m, hm, hy⟩ := mem_drop_at hy
      rw [List.getElem?_map] at hy
      obtain ⟨z, hz, rfl⟩ := Option.map_eq_some_iff.1 hy
      have h1 := hhi m z hm hz
      have hne : z.k ≠ k := by
        rcases Nat.lt_or_eq_of_le hm with hlt | heq
        · intro e
          obtain ⟨u, hu⟩ : ∃ u, qs[i]? = some u := ⟨qs[i]'(by have := (List.getElem?_eq_some_iff.1 hz).1; omega), by simp⟩
          have h2 := asc_lt ha hlt hu hz
          have h3 := hhi i u (Nat.le_refl _) hu
          have h4 : before u.k z.k = true := h2
          rw [e] at h4; rw [h4] at h3; cases h3
        · exact hno z (heq ▸ hz)
      rw [hx]
      show before k z.k = true
      rcases before_total hne with h | h
      · have h5 : before z.k k = true := h
        rw [h5] at h1; cases h1
      · exact h)
  unfold putP
  rw [if_pos hm, if_pos (show risesB x.p.2 = true from hr)]
  show _ = (plain1 qs).filter (fun y => before y.1 x.k) ++ [x.p] ++ (plain1 qs).filter (fun y => before x.k y.1)
  rw [e1, e2]; simp [plain1, List.map_take, List.map_drop]
theorem put_old {qs : List PostV} {k : Key} {i : Nat} (h : cutI qs k i) {y : PostV} (hy : qs[i]? = some y) (hyk : y.k = k) (ha : ((qs.map PostV.p).map Prod.fst).Pairwise (fun a b => before a b = true)) (hm : mayB (plain1 qs) = true) {x : PostV} (hx : x.k = k) (hr : risesB x.t.xs = true) :
    plain1 (qs.set i x) = putP (plain1 qs) x.p := by
  obtain ⟨hi, hlo, hhi⟩ := h
  have hlt := (List.getElem?_eq_some_iff.1 hy).1
  have e1 : (plain1 qs).filter (fun y => before y.1 x.k) = (plain1 qs).take i := filter_cut
    (fun y hy => by
      obtain ⟨m, hm, hy⟩ := mem_take_at hy
      rw [List.getElem?_map] at hy
      obtain ⟨z, hz, rfl⟩ := Option.map_eq_some_iff.1 hy
      have := hlo m z hm hz; rw [hx]; exact this)
    (fun y hy => by
      obtain ⟨m, hm, hy⟩ := mem_drop_at hy
      rw [List.getElem?_map] at hy
      obtain ⟨z, hz, rfl⟩ := Option.map_eq_some_iff.1 hy
      have := hhi m z hm hz; rw [hx]; exact this)
  have e2 : (plain1 qs).filter (fun y => before x.k y.1) = (plain1 qs).drop (i + 1) := filter_cut2
    (fun u hu => by
      obtain ⟨m, hm, hu⟩ := mem_take_at hu
      rw [List.getElem?_map] at hu
      obtain ⟨z, hz, rfl⟩ := Option.map_eq_some_iff.1 hu
      rw [hx]
      show before k z.k = false
      rcases Nat.lt_or_eq_of_le (Nat.lt_succ_iff.1 hm) with h | h
      · exact before_asymm (hlo m z h hz)
      · subst h; rw [hy] at hz; cases hz; rw [hyk]; exact before_irr)
    (fun u hu => by
      obtain ⟨m, hm, hu⟩ := mem_drop_at hu
      rw [List.getElem?_map] at hu
      obtain ⟨z, hz, rfl⟩ := Option.map_eq_some_iff.1 hu
      have h2 := asc_lt ha (show i < m by omega) hy hz
      rw [hx]
      have h3 : before y.k z.k = true := h2
      rw [hyk] at h3; exact h3)
  unfold putP
  rw [if_pos hm, if_pos (show risesB x.p.2 = true from hr)]
  show _ = (plain1 qs).filter (fun y => before y.1 x.k) ++ [x.p] ++ (plain1 qs).filter (fun y => before x.k y.1)
  rw [e1, e2, List.set_eq_take_append_cons_drop, if_pos hlt]
  simp [plain1, List.map_take, List.map_drop]
theorem pput_spec {S : HProp} {a : Option Addr} {c : Nat} {ps : List PostV} {p : PostV} (hS : PRd S a ps) (hl : ps.length ≤ 1000) (hU : Srd S 1 intC p.t.a p.t.xs) (hul : p.t.xs.length ≤ 1000) :
    Ct Try.prog 20 [.slice a ps.length c, postV p] [S] (fun v hs => ∃ a' c' qs, v = .slice a' qs.length c' ∧ plain1 qs = putP (plain1 ps) p.p ∧ hs = [S, plO a' c' qs]) := by
  refine Ct.intro Try.func20 rfl (by kernel_rfl) 40 Try.ntmps20 (Nat.le_of_ble_eq_true rfl) fun w0 R => ?_
  refine Gs.seq ?_
  refine Gs.reg ?_
  refine Go.Sl.L.ac rfl rfl trivial (ac_box rfl rfl) ?_
  rintro _ _ ⟨b3, rfl, rfl⟩
  refine Go.Sl.L.pu rfl rfl trivial (pu_assign rfl) ?_
  refine Go.Sl.L.nil ?_
  refine Gs.then_n ?_
  refine Gs.seq ?_
  refine Gs.seq ?_
  refine Gs.reg ?_
  refine Go.Sl.L.pu rfl rfl trivial (pu_move rfl) ?_
  refine Go.Sl.L.ac rfl rfl trivial (as_call (may_spec hS hl) (by repeat constructor) (by repeat constructor)) ?_
  rintro _ _ ⟨_, ⟨rfl, rfl⟩, rfl⟩
  refine Go.Sl.L.pu rfl rfl trivial (pu_not rfl) ?_
  refine Go.Sl.L.nil ?_
  refine Gs.then_n ?_
  refine Gs.cond rfl (fun hc0 => ?_) (fun hc0 => ?_)
  · skip
    have hno := not_t hc0
    refine Gs.seq ?_
    refine Gs.reg ?_
    refine Go.Sl.L.pu rfl rfl trivial (pu_assign rfl) ?_
    refine Go.Sl.L.nil ?_
    refine Gs.then_n ?_
    refine Gs.ret ?_
    refine Gs.then_r ?_
    refine Gs.bigNil (Gs.slNil 37 3 postC (Gs.toTwo ?_))
    exact Gs.fin1 Try.results20 rfl _ (⟨none, 0, [], rfl, by rw [putP, hno]; rfl, rfl⟩) (by repeat constructor)
  · skip
    have hmay := not_f hc0
    refine Gs.skip ?_
    refine Gs.then_n ?_
    refine Gs.seq ?_
    refine Gs.reg ?_
    refine Go.Sl.L.pu rfl rfl trivial (pu_move rfl) ?_
    refine Go.Sl.L.ac rfl rfl trivial (as_call (own_spec hS hl) (by repeat constructor) (by repeat constructor)) ?_
    rintro _ _ ⟨_, ⟨na, nc, qs, rfl, hqs, rfl⟩, rfl⟩
    refine Go.Sl.L.pu rfl rfl trivial (pu_assign rfl) ?_
    refine Go.Sl.L.nil ?_
    have hql : qs.length = ps.length := by have := congrArg List.length hqs; simpa using this
    have hmq : mayB (plain1 qs) = true := by rw [hqs]; exact hmay
    have hasc := may_asc hmq
    refine Gs.then_n ?_
    refine Gs.seq ?_
    refine Gs.seq ?_
    refine Gs.reg ?_
    refine Go.Sl.L.pu rfl rfl trivial (pu_fa fa_37_1 rfl) ?_
    refine Go.Sl.L.rd rfl rfl trivial (rd_ld na_35 rfl (Rdc.cl1 (by repeat constructor) rfl)) ?_
    refine Go.Sl.L.ac rfl rfl trivial (as_call (rises_spec hU hul) (by repeat constructor) (by repeat constructor)) ?_
    rintro _ _ ⟨_, ⟨rfl, rfl⟩, rfl⟩
    refine Go.Sl.L.pu rfl rfl trivial (pu_not rfl) ?_
    refine Go.Sl.L.nil ?_
    refine Gs.then_n ?_
    refine Gs.cond rfl (fun hc1 => ?_) (fun hc1 => ?_)
    · skip
      have hnr : risesB p.p.2 = false := not_t hc1
      refine Gs.seq ?_
      refine Gs.reg ?_
      refine Go.Sl.L.pu rfl rfl trivial (pu_move rfl) ?_
      refine Go.Sl.L.pu rfl rfl trivial (pu_assign rfl) ?_
      refine Go.Sl.L.nil ?_
      refine Gs.then_n ?_
      refine Gs.ret ?_
      refine Gs.then_r ?_
      exact Gs.fin1 Try.results20 rfl _ (⟨na, nc, qs, rfl, by rw [putP, hmay, hnr, hqs]; rfl, rfl⟩) (by repeat constructor)
    · skip
      have hri : risesB p.t.xs = true := not_f hc1
      refine Gs.skip ?_
      refine Gs.then_n ?_
      refine Gs.seq ?_
      refine Gs.reg ?_
      refine Go.Sl.L.pu rfl rfl trivial (pu_fa fa_37_1 rfl) ?_
      refine Go.Sl.L.rd rfl rfl trivial (rd_ld na_35 rfl (Rdc.cl1 (by repeat constructor) rfl)) ?_
      refine Go.Sl.L.ac rfl rfl trivial (as_call (cloneI_spec hU (by omega)) (by repeat constructor) (by repeat constructor)) ?_
      rintro _ _ ⟨_, ⟨ka, kc, rfl, rfl⟩, rfl⟩
      refine Go.Sl.L.pu rfl rfl trivial (pu_fa fa_37_1 rfl) ?_
      refine Go.Sl.L.ac0 rfl trivial (ac_st sz_35 rfl rfl (by repeat constructor) rfl rfl rfl rfl) ?_
      rintro _ _ rfl
      refine Go.Sl.L.nil ?_
      refine Gs.then_n ?_
      refine Gs.seq ?_
      refine Gs.reg ?_
      refine Go.Sl.L.pu rfl rfl trivial (pu_move rfl) ?_
      refine Go.Sl.L.pu rfl rfl trivial (pu_fa fa_37_0 rfl) ?_
      refine Go.Sl.L.rd rfl rfl trivial (rd_lda ag_34 rfl (Rdc.cl 2 (by repeat constructor) rfl) rfl) ?_
      refine Go.Sl.L.ac rfl rfl trivial (as_call (bsf_spec (S := plO na nc qs) (Srd.two1 Srd.own) (by omega) hasc p.k) (by repeat constructor) (by repeat constructor)) ?_
      rintro _ _ ⟨_, ⟨⟨i, rfl, hcut⟩, rfl⟩, rfl⟩
      refine Go.Sl.L.pu rfl rfl trivial (pu_move rfl) ?_
      refine Go.Sl.L.pu rfl rfl trivial (pu_extract rfl rfl) ?_
      refine Go.Sl.L.pu rfl rfl trivial (pu_extract rfl rfl) ?_
      refine Go.Sl.L.pu rfl rfl trivial (pu_assign rfl) ?_
      refine Go.Sl.L.pu rfl rfl trivial (pu_assign rfl) ?_
      refine Go.Sl.L.nil ?_
      refine Gs.then_n ?_
      refine Gs.seq ?_
      refine Gs.seq ?_
      refine Gs.reg ?_
      refine Go.Sl.L.pu rfl rfl trivial (pu_move rfl) ?_
      refine Go.Sl.L.nil ?_
      refine Gs.then_n ?_
      refine Gs.cond rfl (fun hc2 => ?_) (fun hc2 => ?_)
      · skip
        obtain ⟨y, hy, hyk⟩ := Option.map_eq_some_iff.1 (of_decide_eq_true hc2)
        have hlt := (List.getElem?_eq_some_iff.1 hy).1
        have hpl := put_old hcut hy hyk hasc hmq (x := ⟨p.k, ⟨ka, p.t.xs, kc⟩⟩) rfl hri
        refine Gs.take (A := plO na nc qs) (by repeat constructor) (Gs.two ?_)
        refine Gs.slAddr (xs := qs) (SlH.own (E := 37) (enc := postC) (by repeat constructor)) fun ab ao ha => ?_
        obtain rfl := ha (by rintro rfl; simp at hy)
        refine Gs.seq ?_
        refine Gs.reg ?_
        refine Go.Sl.L.pu rfl rfl trivial (pu_move rfl) ?_
        refine Go.Sl.L.pu rfl rfl trivial (pu_move rfl) ?_
        refine Go.Sl.L.rd rfl rfl trivial (rd_lda ag_37 rfl (Rdc.cl 3 (by repeat constructor) rfl) rfl) ?_
        refine Go.Sl.L.pu rfl rfl trivial (pu_ia se_30 rfl rfl (by omega) (by omega)) ?_
        refine Go.Sl.L.ac0 rfl trivial (ac_stE (enc := postC) (xs := qs) (i := i) (x0 := y) (y0 := ⟨p.k, ⟨ka, p.t.xs, kc⟩⟩) (vs := postC ⟨p.k, ⟨ka, p.t.xs, kc⟩⟩) (fo := 0) sz_37 ek_37 rfl rfl (by repeat constructor) rfl rfl rfl hy rfl rfl) ?_
        rintro _ _ rfl
        refine Go.Sl.L.nil ?_
        refine Gs.takes (As := [big (qs.map atO)]) (by repeat constructor) (Gs.bigTake (take_at (A := atO y) (i := i) (by simp [hy])) (Gs.drop ?_))
        refine Gs.takes (As := [atO ⟨p.k, ⟨ka, p.t.xs, kc⟩⟩, big ((qs.map atO).eraseIdx i)]) (by repeat constructor) (Gs.bigBack (take_set (by simpa using hlt)) ?_)
        rw [← List.map_set]
        refine Gs.then_n ?_
        refine Gs.seq ?_
        refine Gs.reg ?_
        refine Go.Sl.L.pu rfl rfl trivial (pu_move rfl) ?_
        refine Go.Sl.L.pu rfl rfl trivial (pu_assign rfl) ?_
        refine Go.Sl.L.nil ?_
        refine Gs.then_n ?_
        refine Gs.ret ?_
        refine Gs.then_r ?_
        refine Gs.takes (As := [sl 37 3 postC (some ⟨ab, ao, none⟩) nc (qs.set i ⟨p.k, ⟨ka, p.t.xs, kc⟩⟩), big ((qs.set i ⟨p.k, ⟨ka, p.t.xs, kc⟩⟩).map atO)]) (by repeat constructor) (Gs.toTwo ?_)
        exact Gs.fin1 Try.results20 rfl _ (⟨some ⟨ab, ao, none⟩, nc, qs.set i ⟨p.k, ⟨ka, p.t.xs, kc⟩⟩, by rw [List.length_set], by rw [hpl, hqs]; rfl, rfl⟩) (by repeat constructor)
      · skip
        have hpl := put_new hcut (fun x hx e => (of_decide_eq_false hc2) (by rw [hx]; exact congrArg some e)) hasc hmq (x := ⟨p.k, ⟨ka, p.t.xs, kc⟩⟩) rfl hri
        refine Gs.take (A := plO na nc qs) (by repeat constructor) (Gs.two ?_)
        refine Gs.skip ?_
        refine Gs.then_n ?_
        refine Gs.seq ?_
        refine Gs.reg ?_
        refine Go.Sl.L.pu rfl rfl trivial (pu_move rfl) ?_
        refine Go.Sl.L.pu rfl rfl trivial (pu_move rfl) ?_
        refine Go.Sl.L.rd rfl rfl trivial (rd_lda ag_37 rfl (Rdc.cl 3 (by repeat constructor) rfl) rfl) ?_
        refine Go.Sl.L.ac rfl rfl trivial (ac_lit encC_37 ([(⟨p.k, ⟨ka, p.t.xs, kc⟩⟩ : PostV)]) et_30 ek_37 rfl (by repeat constructor) rfl rfl (by decide)) ?_
        rintro _ _ ⟨a38, rfl, rfl⟩
        refine Go.Sl.L.ac rfl rfl trivial (as_call (insert_spec (xs := qs) (x := ⟨p.k, ⟨ka, p.t.xs, kc⟩⟩) hcut.1 (by omega)) (by repeat constructor) (by repeat constructor)) ?_
        rintro _ _ ⟨_, ⟨ia, ic, rfl, rfl⟩, rfl⟩
        refine Go.Sl.L.pu rfl rfl trivial (pu_assign rfl) ?_
        refine Go.Sl.L.nil ?_
        have hm2 : (qs.take i ++ [(⟨p.k, ⟨ka, p.t.xs, kc⟩⟩ : PostV)] ++ qs.drop i).map atO = (qs.take i).map atO ++ atO ⟨p.k, ⟨ka, p.t.xs, kc⟩⟩ :: (qs.drop i).map atO := by simp
        have hm3 : qs.map atO = (qs.take i).map atO ++ (qs.drop i).map atO := by rw [← List.map_append, List.take_append_drop]
        refine Gs.takes (As := [atO ⟨p.k, ⟨ka, p.t.xs, kc⟩⟩, big (qs.map atO)]) (by repeat constructor) ?_
        rw [hm3]
        refine Gs.bigBack take_mid ?_
        rw [← hm2]
        refine Gs.then_n ?_
        refine Gs.ret ?_
        refine Gs.takes (As := [sl 37 3 postC ia ic (qs.take i ++ [(⟨p.k, ⟨ka, p.t.xs, kc⟩⟩ : PostV)] ++ qs.drop i), big ((qs.take i ++ [(⟨p.k, ⟨ka, p.t.xs, kc⟩⟩ : PostV)] ++ qs.drop i).map atO)]) (by repeat constructor) (Gs.toTwo ?_)
        exact Gs.fin1 Try.results20 rfl _ (⟨ia, ic, _, rfl, by rw [hpl, hqs]; rfl, rfl⟩) (by repeat constructor)
end Go.Proofs.Ytonilkceolbkmaa
