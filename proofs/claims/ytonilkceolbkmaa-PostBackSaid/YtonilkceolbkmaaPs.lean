/- Walk: PostBack (grapevinelaw10), and its plain law. -/
import Derived.Test.YtonilkceolbkmaaPq
namespace Go.Proofs.Ytonilkceolbkmaa
open Go Go.Sl Go.Gv Go.Po
set_option maxRecDepth 100000
abbrev AscP (L : List PostP) : Prop := L.Pairwise fun a b => before a.1 b.1 = true
theorem ascP_of {L : List PostP} (h : mayB L = true) : AscP L := by
  have := may_asc h
  rwa [List.pairwise_map] at this
theorem mayFrom_of : ∀ {q : Option Key} {L : List PostP}, AscP L → (∀ p ∈ L, risesB p.2 = true) → (∀ k, q = some k → ∀ p ∈ L, before k p.1 = true) → mayFrom q L = true
  | _, [], _, _, _ => rfl
  | q, p :: L, ha, hr, hq => by
    have ha' := List.pairwise_cons.1 ha
    unfold mayFrom
    rw [hr p (by simp), Bool.true_and, Bool.and_eq_true]
    refine ⟨?_, mayFrom_of ha'.2 (fun x hx => hr x (by simp [hx])) fun k hk x hx => ?_⟩
    · cases q with
      | none => rfl
      | some k => exact hq k rfl p (by simp)
    · cases hk; exact ha'.1 x hx
theorem may_of {L : List PostP} (ha : AscP L) (hr : ∀ p ∈ L, risesB p.2 = true) : mayB L = true := mayFrom_of ha hr fun _ h => by cases h
theorem filt_ne {k : Key} : ∀ {L : List PostP}, AscP L → L.filter (fun y => decide (y.1 ≠ k)) = L.filter (fun y => before y.1 k) ++ L.filter (fun y => before k y.1)
  | [], _ => rfl
  | x :: L, h => by
    have h' := List.pairwise_cons.1 h
    have ih := filt_ne (k := k) h'.2
    by_cases e : x.1 = k
    · rw [List.filter_cons_of_neg (by simp [e]), List.filter_cons_of_neg (by rw [e, before_irr]; decide), List.filter_cons_of_neg (by rw [e, before_irr]; decide)]
      exact ih
    · rw [List.filter_cons_of_pos (by simpa using e)]
      rcases before_total e with hb | hb
      · rw [List.filter_cons_of_pos (p := fun y : PostP => before y.1 k) hb, List.filter_cons_of_neg (by rw [before_asymm hb]; decide), ih]; rfl
      · have hnil : L.filter (fun y => before y.1 k) = [] := List.filter_eq_nil_iff.2 fun y hy => by rw [before_asymm (before_trans hb (h'.1 y hy))]; decide
        rw [List.filter_cons_of_neg (by rw [before_asymm hb]; decide), List.filter_cons_of_pos (p := fun y : PostP => before k y.1) hb, ih, hnil]; rfl
theorem drop_is {L : List PostP} (hm : mayB L = true) (k : Key) : dropP L k = L.filter (fun y => before y.1 k) ++ L.filter (fun y => before k y.1) := by rw [dropP, if_pos hm, filt_ne (ascP_of hm)]
theorem drop_may {L : List PostP} (hm : mayB L = true) (k : Key) : mayB (dropP L k) = true := by
  rw [dropP, if_pos hm]
  exact may_of (List.Pairwise.filter _ (ascP_of hm)) fun p hp => may_rises hm p (List.mem_filter.1 hp).1
section
variable {L : List PostP} {x : PostP} (hm : mayB L = true) (hx : risesB x.2 = true)
include hm hx
theorem put_is : putP L x = L.filter (fun y => before y.1 x.1) ++ [x] ++ L.filter (fun y => before x.1 y.1) := by rw [putP, if_pos hm, if_pos hx]
theorem put_may : mayB (putP L x) = true := by
  rw [put_is hm hx]
  have ha := ascP_of hm
  have h1 : AscP (L.filter fun y => before y.1 x.1) := List.Pairwise.filter _ ha
  have h2 : AscP (L.filter fun y => before x.1 y.1) := List.Pairwise.filter _ ha
  refine may_of (List.pairwise_append.2 ⟨List.pairwise_append.2 ⟨h1, List.pairwise_singleton .., fun u hu v hv => ?_⟩, h2, fun u hu v hv => ?_⟩) fun p hp => ?_
  · simp at hv; subst hv; exact (List.mem_filter.1 hu).2
  · have hv' := (List.mem_filter.1 hv).2
    rcases List.mem_append.1 hu with hu | hu
    · exact before_trans (List.mem_filter.1 hu).2 hv'
    · simp at hu; subst hu; exact hv'
  · rcases List.mem_append.1 hp with hp | hp
    · rcases List.mem_append.1 hp with hp | hp
      · exact may_rises hm p (List.mem_filter.1 hp).1
      · simp at hp; subst hp; exact hx
    · exact may_rises hm p (List.mem_filter.1 hp).1
/-- What is ahead of, and what is behind, a key among others that are so. -/
theorem filt_lt : (putP L x).filter (fun y => before y.1 x.1) = L.filter (fun y => before y.1 x.1) ∧ (putP L x).filter (fun y => before x.1 y.1) = L.filter (fun y => before x.1 y.1) := by
  rw [put_is hm hx]
  simp only [List.filter_append, List.filter_filter]
  have e1 : [x].filter (fun y => before y.1 x.1) = [] := List.filter_cons_of_neg (by rw [before_irr]; decide)
  have e2 : [x].filter (fun y => before x.1 y.1) = [] := List.filter_cons_of_neg (by rw [before_irr]; decide)
  have e3 : L.filter (fun y => before y.1 x.1 && before x.1 y.1) = [] := List.filter_eq_nil_iff.2 fun y _ => by
    cases h : before y.1 x.1 with
    | false => simp
    | true => rw [before_asymm h]; decide
  have e4 : L.filter (fun y => before x.1 y.1 && before y.1 x.1) = [] := List.filter_eq_nil_iff.2 fun y _ => by
    cases h : before x.1 y.1 with
    | false => simp
    | true => rw [before_asymm h]; decide
  have e5 : ∀ f : PostP → Bool, L.filter (fun y => f y && f y) = L.filter f := fun f => List.filter_congr fun y _ => Bool.and_self _
  rw [e1, e2, e3, e4, e5 (fun y => before y.1 x.1), e5 (fun y => before x.1 y.1)]
  simp
theorem back_drop : dropP (putP L x) x.1 = dropP L x.1 := by
  obtain ⟨h1, h2⟩ := filt_lt hm hx
  rw [drop_is (put_may hm hx), drop_is hm, h1, h2]
theorem back_put : putP (putP L x) x = putP L x := by
  obtain ⟨h1, h2⟩ := filt_lt hm hx
  rw [put_is (put_may hm hx) hx, h1, h2, ← put_is hm hx]
theorem back_was : putP (dropP L x.1) x = putP L x := by
  rw [put_is (drop_may hm x.1) hx, put_is hm hx, drop_is hm]
  simp only [List.filter_append, List.filter_filter]
  have e3 : L.filter (fun y => before y.1 x.1 && before x.1 y.1) = [] := List.filter_eq_nil_iff.2 fun y _ => by
    cases h : before y.1 x.1 with
    | false => simp
    | true => rw [before_asymm h]; decide
  have e4 : L.filter (fun y => before x.1 y.1 && before y.1 x.1) = [] := List.filter_eq_nil_iff.2 fun y _ => by
    cases h : before x.1 y.1 with
    | false => simp
    | true => rw [before_asymm h]; decide
  have e5 : ∀ f : PostP → Bool, L.filter (fun y => f y && f y) = L.filter f := fun f => List.filter_congr fun y _ => Bool.and_self _
  rw [e3, e4, e5 (fun y => before y.1 x.1), e5 (fun y => before x.1 y.1)]
  simp
theorem back_len : (putP L x).length = (dropP L x.1).length + 1 := by
  rw [put_is hm hx, drop_is hm]; simp only [List.length_append, List.length_cons, List.length_nil]; omega
theorem back_one : (putP L x).filter (fun y => decide (y.1 = x.1)) = [x] := by
  rw [put_is hm hx]
  simp only [List.filter_append]
  have e1 : (L.filter fun y => before y.1 x.1).filter (fun y => decide (y.1 = x.1)) = [] := List.filter_eq_nil_iff.2 fun y hy => by
    have := (List.mem_filter.1 hy).2
    intro e; rw [of_decide_eq_true e, before_irr] at this; cases this
  have e2 : (L.filter fun y => before x.1 y.1).filter (fun y => decide (y.1 = x.1)) = [] := List.filter_eq_nil_iff.2 fun y hy => by
    have := (List.mem_filter.1 hy).2
    intro e; rw [of_decide_eq_true e, before_irr] at this; cases this
  have e3 : [x].filter (fun y => decide (y.1 = x.1)) = [x] := by rw [List.filter_cons_of_pos (by simp)]; rfl
  rw [e1, e2, e3]; rfl
end
theorem same_oo {a b : Option Addr} {c d : Nat} {qs rs : List PostV} (h : plain1 qs = plain1 rs) (hr : ∀ y ∈ rs, y.t.xs.length ≤ 1000) (hl : rs.length ≤ 1000) :
    Ct Try.prog 23 [.slice a qs.length c, .slice b rs.length d] [plO a c qs, plO b d rs] (fun u hs => u = .bool true ∧ hs = [plO a c qs, plO b d rs]) := by
  have hql := plain_length h
  have p1 := prd_plO (a := a) (c := c) (plain_le h hr)
  have p2 := prd_plO (a := b) (c := d) hr
  refine (Ct.two (samePosts_spec (S := two (plO a c qs) (plO b d rs)) (c := c) (d := d) ⟨Srd.two1 p1.1, fun p hp => ⟨Srd.two1 (p1.2 p hp).1, (p1.2 p hp).2⟩⟩ ⟨Srd.two2 p2.1, fun p hp => ⟨Srd.two2 (p2.2 p hp).1, (p2.2 p hp).2⟩⟩ (by omega)) (by rintro _ _ ⟨_, rfl⟩; exact ⟨_, rfl⟩)).mono ?_
  rintro _ _ ⟨_, ⟨rfl, ⟨⟩⟩, rfl⟩
  exact ⟨by rw [decide_eq_true h], rfl⟩
theorem put_oo {S : HProp} {a : Option Addr} {c : Nat} {qs : List PostV} {p : PostV} (hq : ∀ y ∈ qs, y.t.xs.length ≤ 1000) (hl : qs.length ≤ 1000) (hp : Srd S 1 intC p.t.a p.t.xs) (hpl : p.t.xs.length ≤ 1000) :
    Ct Try.prog 20 [.slice a qs.length c, postV p] [plO a c qs, S] (fun v hs => ∃ a' c' rs, v = .slice a' rs.length c' ∧ plain1 rs = putP (plain1 qs) p.p ∧ hs = [plO a c qs, S, plO a' c' rs]) := by
  have p2 := prd_plO (a := a) (c := c) hq
  refine (Ct.two (pput_spec (S := two (plO a c qs) S) (c := c) ⟨Srd.two1 p2.1, fun p hp => ⟨Srd.two1 (p2.2 p hp).1, (p2.2 p hp).2⟩⟩ hl (Srd.two2 hp) hpl) (by rintro _ _ ⟨_, _, _, _, _, rfl⟩; exact ⟨_, rfl⟩)).mono ?_
  rintro _ _ ⟨_, ⟨a', c', rs, rfl, h, ⟨⟩⟩, rfl⟩
  exact ⟨a', c', rs, rfl, h, rfl⟩
theorem postBack_spec {S : HProp} {a : Option Addr} {c : Nat} {x : List PostV} {p : PostV} (hx : PR0 S a x) (hp : Srd S 1 intC p.t.a p.t.xs) (hpl : p.t.xs.length ≤ maxLen) :
    Ct Try.prog 6 [.slice a x.length c, postV p] [S] (fun v hs => v = .bool true ∧ hs = [S]) := by
  refine Ct.intro Try.func6 rfl (by kernel_rfl) 97 Try.ntmps6 (Nat.le_of_ble_eq_true rfl) fun w0 R => ?_
  refine Gs.seq ?_
  refine Gs.reg ?_
  refine Go.Sl.L.ac rfl rfl trivial (ac_box rfl rfl) ?_
  rintro _ _ ⟨b3, rfl, rfl⟩
  refine Go.Sl.L.pu rfl rfl trivial (pu_assign rfl) ?_
  refine Go.Sl.L.nil ?_
  refine Gs.then_n ?_
  refine Gs.seq ?_
  refine Gs.seq ?_
  refine Gs.reg ?_
  refine Go.Sl.L.pu rfl rfl trivial (pu_move rfl) ?_
  refine Go.Sl.L.rd rfl rfl trivial (rd_lda ag_37 rfl (Rdc.cl 3 (by repeat constructor) rfl) rfl) ?_
  refine Go.Sl.L.ac rfl rfl trivial (ac_lit encC_37 ([p]) et_30 ek_37 rfl (by repeat constructor) rfl rfl (by decide)) ?_
  rintro _ _ ⟨a11, rfl, rfl⟩
  refine Go.Sl.L.ac rfl rfl trivial (ac_lit encC_30 ([(⟨a, x, c⟩ : SlV PostV), ⟨blk a11, [p], 1⟩]) et_22 ek_30 rfl (by repeat constructor) rfl rfl (by decide)) ?_
  rintro _ _ ⟨a12, rfl, rfl⟩
  refine Go.Sl.L.ac rfl rfl trivial (as_call (great_xp hx hp hpl) (by repeat constructor) (by repeat constructor)) ?_
  rintro _ _ ⟨_, ⟨⟨g, rfl, hg⟩, rfl⟩, rfl⟩
  refine Go.Sl.L.puB rfl rfl trivial (pu_move rfl) (fun hg5 => ?_) (fun hg5 => ?_)
  · skip
    refine Go.Sl.L.off rfl rfl rfl rfl rfl rfl ?_
    refine Go.Sl.L.off rfl rfl rfl rfl rfl rfl ?_
    refine Go.Sl.L.off rfl rfl rfl rfl rfl rfl ?_
    refine Go.Sl.L.pu rfl rfl trivial (by first | exact pu_pick_t rfl rfl | exact pu_pick_f rfl rfl) ?_
    refine Go.Sl.L.pu rfl rfl trivial (pu_move rfl) ?_
    refine Go.Sl.L.off rfl rfl rfl rfl rfl rfl ?_
    refine Go.Sl.L.off rfl rfl rfl rfl rfl rfl ?_
    refine Go.Sl.L.off rfl rfl rfl rfl rfl rfl ?_
    refine Go.Sl.L.off rfl rfl rfl rfl rfl rfl ?_
    refine Go.Sl.L.pu rfl rfl trivial (by first | exact pu_pick_t rfl rfl | exact pu_pick_f rfl rfl) ?_
    refine Go.Sl.L.nil ?_
    refine Gs.then_n ?_
    refine Gs.cond_t rfl ?_
    refine Gs.seq ?_
    refine Gs.reg ?_
    refine Go.Sl.L.ac rfl rfl trivial (as_call (awake_spec) (by repeat constructor) (by repeat constructor)) ?_
    rintro _ _ ⟨_, ⟨rfl, rfl⟩, rfl⟩
    refine Go.Sl.L.pu rfl rfl trivial (pu_assign rfl) ?_
    refine Go.Sl.L.nil ?_
    refine Gs.then_n ?_
    refine Gs.ret ?_
    refine Gs.then_r ?_
    exact Gs.fin1 Try.results6 rfl _ (⟨rfl, rfl⟩) (by repeat constructor)
  · skip
    obtain ⟨x1, x2, x3⟩ := hg hg5
    have hX := hx.prd x2
    refine Go.Sl.L.pu rfl rfl ⟨_, rfl, rfl⟩ (pu_move rfl) ?_
    refine Go.Sl.L.ac rfl rfl ⟨_, rfl, rfl⟩ (as_call (may_spec hX (by omega)) (by repeat constructor) (by repeat constructor)) ?_
    rintro _ _ ⟨_, ⟨rfl, rfl⟩, rfl⟩
    refine Go.Sl.L.pu rfl rfl ⟨_, rfl, rfl⟩ (pu_not rfl) ?_
    refine Go.Sl.L.pu rfl rfl trivial (by first | exact pu_pick_t rfl rfl | exact pu_pick_f rfl rfl) ?_
    refine Go.Sl.L.puB rfl rfl trivial (pu_move rfl) (fun hg10 => ?_) (fun hg10 => ?_)
    · skip
      refine Go.Sl.L.off rfl rfl rfl rfl rfl rfl ?_
      refine Go.Sl.L.off rfl rfl rfl rfl rfl rfl ?_
      refine Go.Sl.L.off rfl rfl rfl rfl rfl rfl ?_
      refine Go.Sl.L.off rfl rfl rfl rfl rfl rfl ?_
      refine Go.Sl.L.pu rfl rfl trivial (by first | exact pu_pick_t rfl rfl | exact pu_pick_f rfl rfl) ?_
      refine Go.Sl.L.nil ?_
      refine Gs.then_n ?_
      refine Gs.cond_t rfl ?_
      refine Gs.seq ?_
      refine Gs.reg ?_
      refine Go.Sl.L.ac rfl rfl trivial (as_call (awake_spec) (by repeat constructor) (by repeat constructor)) ?_
      rintro _ _ ⟨_, ⟨rfl, rfl⟩, rfl⟩
      refine Go.Sl.L.pu rfl rfl trivial (pu_assign rfl) ?_
      refine Go.Sl.L.nil ?_
      refine Gs.then_n ?_
      refine Gs.ret ?_
      refine Gs.then_r ?_
      exact Gs.fin1 Try.results6 rfl _ (⟨rfl, rfl⟩) (by repeat constructor)
    · skip
      refine Go.Sl.L.rd rfl rfl ⟨_, rfl, rfl⟩ (rd_lda ag_37 rfl (Rdc.cl 3 (by repeat constructor) rfl) rfl) ?_
      refine Go.Sl.L.ac rfl rfl ⟨_, rfl, rfl⟩ (ac_lit encC_37 ([p]) et_30 ek_37 rfl (by repeat constructor) rfl rfl (by decide)) ?_
      rintro _ _ ⟨a21, rfl, rfl⟩
      refine Go.Sl.L.ac rfl rfl ⟨_, rfl, rfl⟩ (as_call (Ct.two (may_spec (S := two (sl 37 3 postC (blk a21) 1 [p]) S) (a := blk a21) (c := 1) (ps := [p]) ⟨Srd.two1 Srd.own, fun q hq => by simp only [List.mem_cons, List.not_mem_nil, or_false] at hq; subst hq; exact ⟨Srd.two2 hp, by omega⟩⟩ (Nat.le_of_ble_eq_true rfl)) (by rintro _ _ ⟨_, rfl⟩; exact ⟨_, rfl⟩)) (by repeat constructor) (by repeat constructor)) ?_
      rintro _ _ ⟨_, ⟨_, ⟨rfl, ⟨⟩⟩, rfl⟩, rfl⟩
      refine Go.Sl.L.pu rfl rfl ⟨_, rfl, rfl⟩ (pu_not rfl) ?_
      refine Go.Sl.L.pu rfl rfl trivial (by first | exact pu_pick_t rfl rfl | exact pu_pick_f rfl rfl) ?_
      refine Go.Sl.L.nil ?_
      refine Gs.then_n ?_
      refine Gs.cond rfl (fun hc0 => ?_) (fun hc0 => ?_)
      · skip
        refine Gs.seq ?_
        refine Gs.reg ?_
        refine Go.Sl.L.ac rfl rfl trivial (as_call (awake_spec) (by repeat constructor) (by repeat constructor)) ?_
        rintro _ _ ⟨_, ⟨rfl, rfl⟩, rfl⟩
        refine Go.Sl.L.pu rfl rfl trivial (pu_assign rfl) ?_
        refine Go.Sl.L.nil ?_
        refine Gs.then_n ?_
        refine Gs.ret ?_
        refine Gs.then_r ?_
        exact Gs.fin1 Try.results6 rfl _ (⟨rfl, rfl⟩) (by repeat constructor)
      · skip
        have hm : mayB (plain1 x) = true := not_f hg10
        have hm1 : mayB (plain1 [p]) = true := not_f hc0
        have hr : risesB p.p.2 = true := may_rises hm1 p.p (by simp)
        have hPle := putV_le x p
        have hDle := dropV_le x p.k
        have hPm : ∀ y ∈ putV x p, y.t.xs.length ≤ 1000 := fun y hy => by
          rcases putV_mem hy with rfl | hm
          · omega
          · exact (hX.2 y hm).2
        have hDm : ∀ y ∈ dropV x p.k, y.t.xs.length ≤ 1000 := fun y hy => (hX.2 y (dropV_mem hy)).2
        refine Gs.skip ?_
        refine Gs.then_n ?_
        refine Gs.seq ?_
        refine Gs.reg ?_
        refine Go.Sl.L.pu rfl rfl trivial (pu_move rfl) ?_
        refine Go.Sl.L.pu rfl rfl trivial (pu_fa fa_37_0 rfl) ?_
        refine Go.Sl.L.rd rfl rfl trivial (rd_lda ag_34 rfl (Rdc.cl 2 (by repeat constructor) rfl) rfl) ?_
        refine Go.Sl.L.ac rfl rfl trivial (as_call (pdrop_spec hX (by omega) p.k) (by repeat constructor) (by repeat constructor)) ?_
        rintro _ _ ⟨_, ⟨a1, c1, q1, rfl, hq1, rfl⟩, rfl⟩
        refine Go.Sl.L.pu rfl rfl trivial (pu_assign rfl) ?_
        refine Go.Sl.L.nil ?_
        have hd1 : plain1 q1 = plain1 (dropV x p.k) := by rw [dropV_plain]; exact hq1
        have l1 := plain_length hd1
        have m1 := plain_le hd1 hDm
        refine Gs.then_n ?_
        refine Gs.seq ?_
        refine Gs.reg ?_
        refine Go.Sl.L.pu rfl rfl trivial (pu_move rfl) ?_
        refine Go.Sl.L.rd rfl rfl trivial (rd_lda ag_37 rfl (Rdc.cl 3 (by repeat constructor) rfl) rfl) ?_
        refine Go.Sl.L.ac rfl rfl trivial (as_call (pput_spec hX (by omega) hp (by omega)) (by repeat constructor) (by repeat constructor)) ?_
        rintro _ _ ⟨_, ⟨a2, c2, q2, rfl, hq2, rfl⟩, rfl⟩
        refine Go.Sl.L.pu rfl rfl trivial (pu_assign rfl) ?_
        refine Go.Sl.L.nil ?_
        have hd2 : plain1 q2 = plain1 (putV x p) := by rw [putV_plain]; exact hq2
        have l2 := plain_length hd2
        have m2 := plain_le hd2 hPm
        have hSy : Srd (plO a2 c2 q2) 3 postC a2 q2 := Srd.two1 Srd.own
        have hone := back_one hm hr
        refine Gs.slAddr (hSy.h (by repeat constructor)) fun yb yo hy => ?_
        refine Gs.then_n ?_
        refine Gs.seq ?_
        refine Gs.reg ?_
        refine Go.Sl.L.pu rfl rfl trivial (pu_assign rfl) ?_
        refine Go.Sl.L.nil ?_
        refine Gs.then_n ?_
        refine Gs.seq ?_
        refine Gs.seq ?_
        refine Gs.reg ?_
        refine Go.Sl.L.pu rfl rfl trivial (pu_assign rfl) ?_
        refine Go.Sl.L.nil ?_
        refine Gs.then_n ?_
        refine Gs.block ?_
        refine Gs.loop1 (fun s : Nat × Nat => s.1 ≤ q2.length ∧ s.2 = (((plain1 q2).take s.1).filter fun y => decide (y.1 = p.p.1)).length) (fun s => [(0, .slice a x.length c), (3, ptr b3), (5, .slice a1 q1.length c1), (6, .slice a2 q2.length c2), (7, int s.2), (8, int s.1)]) (fun _ => [S, cl b3 37 (postC p), plO a1 c1 q1, plO a2 c2 q2] ++ R) (fun s => q2.length - s.1) (0, 0) (⟨Nat.zero_le _, rfl⟩) (by repeat constructor) (by repeat constructor) (fun s hs => ?_)
        obtain ⟨i, n⟩ := s
        obtain ⟨hi, hn⟩ := hs
        dsimp only at hi hn ⊢
        have hnle : n ≤ q2.length := by rw [hn]; refine Nat.le_trans (List.length_filter_le ..) ?_; rw [List.length_take]; omega
        refine Gs.seq ?_
        refine Gs.seq ?_
        refine Gs.reg ?_
        refine Go.Sl.L.pu rfl rfl trivial (pu_move rfl) ?_
        refine Go.Sl.L.pu rfl rfl trivial (pu_move rfl) ?_
        refine Go.Sl.L.pu rfl rfl trivial (pu_len Try.underlying30 rfl) ?_
        refine Go.Sl.L.pu rfl rfl trivial (pu_lt rfl rfl) ?_
        refine Go.Sl.L.nil ?_
        refine Gs.then_n ?_
        refine Gs.cond rfl (fun hc1 => ?_) (fun hc1 => ?_)
        · skip
          have hlt : i < q2.length := by have := of_decide_eq_true hc1; omega
          obtain ⟨y, hyy⟩ : ∃ z, q2[i]? = some z := ⟨q2[i], by simp [hlt]⟩
          obtain rfl := hy (by rintro rfl; simp at hlt)
          have hyp := plain_at hyy
          refine Gs.skip ?_
          refine Gs.then_n ?_
          refine Gs.seq ?_
          refine Gs.block ?_
          refine Gs.seq ?_
          refine Gs.regD mixed (by kernel_rfl) ?_
          refine Rg.pu 0 rfl rfl (by kernel_rfl) trivial (pu_move rfl) ?_
          refine Rg.pu 1 rfl rfl (by kernel_rfl) trivial (pu_move rfl) ?_
          refine Rg.pu 2 rfl rfl (by kernel_rfl) trivial (pu_ia se_30 rfl rfl (by omega) (by omega)) ?_
          refine Rg.pu 3 rfl rfl (by kernel_rfl) trivial (pu_fa fa_37_0 rfl) ?_
          refine Rg.rd 4 rfl rfl (by kernel_rfl) trivial (rd_lda ag_34 rfl (Rdc.elp 2 (hSy.h (by repeat constructor)) hyy rfl rfl) rfl) ?_
          refine Rg.pu 5 rfl rfl (by kernel_rfl) trivial (pu_fa fa_37_0 rfl) ?_
          refine Rg.rd 6 rfl rfl (by kernel_rfl) trivial (rd_lda ag_34 rfl (Rdc.cl 2 (by repeat constructor) rfl) rfl) ?_
          refine Rg.pu 7 rfl rfl (by kernel_rfl) trivial (pu_eqT (a := y.k) (b := p.k) cmp_34 (by decide) Try.eqGuardType34 rfl rfl) ?_
          refine Rg.end (by kernel_rfl) ?_
          refine Gs.then_n ?_
          refine Gs.cond rfl (fun hc2 => ?_) (fun hc2 => ?_)
          · skip
            have hk : y.p.1 = p.p.1 := of_decide_eq_true hc2
            have hyP : y.p = p.p := by
              have hmem : y.p ∈ (putP (plain1 x) p.p).filter (fun y => decide (y.1 = p.p.1)) := List.mem_filter.2 ⟨by rw [← hq2]; exact List.mem_of_getElem? hyp, decide_eq_true hk⟩
              rw [hone] at hmem; simpa using hmem
            have hat : y.t.xs = p.t.xs := congrArg Prod.snd hyP
            have hst : n + 1 = (((plain1 q2).take (i + 1)).filter fun y => decide (y.1 = p.p.1)).length := by rw [List.take_add_one, hyp, List.filter_append, List.length_append, ← hn, show List.filter (fun y : PostP => decide (y.1 = p.p.1)) (some y.p).toList = [y.p] from (by show List.filter (fun y : PostP => decide (y.1 = p.p.1)) [y.p] = _; rw [List.filter_cons_of_pos (by simpa using hk)]; rfl)]; rfl
            refine Gs.seq ?_
            refine Gs.reg ?_
            refine Go.Sl.L.pu rfl rfl trivial (pu_move rfl) ?_
            refine Go.Sl.L.pu rfl rfl trivial (pu_addI (z := ((n + 1 : Nat) : Int)) rfl rfl (by omega) (by omega) (by omega)) ?_
            refine Go.Sl.L.pu rfl rfl trivial (pu_assign rfl) ?_
            refine Go.Sl.L.nil ?_
            refine Gs.then_n ?_
            refine Gs.seq ?_
            refine Gs.regD mixed (by kernel_rfl) ?_
            refine Rg.pu 0 rfl rfl (by kernel_rfl) trivial (pu_move rfl) ?_
            refine Rg.pu 1 rfl rfl (by kernel_rfl) trivial (pu_move rfl) ?_
            refine Rg.pu 2 rfl rfl (by kernel_rfl) trivial (pu_ia se_30 rfl rfl (by omega) (by omega)) ?_
            refine Rg.pu 3 rfl rfl (by kernel_rfl) trivial (pu_fa fa_37_1 rfl) ?_
            refine Rg.rd 4 rfl rfl (by kernel_rfl) trivial (rd_ld na_35 rfl (Rdc.elp 1 (hSy.h (by repeat constructor)) hyy rfl rfl)) ?_
            refine Rg.pu 5 rfl rfl (by kernel_rfl) trivial (pu_fa fa_37_1 rfl) ?_
            refine Rg.rd 6 rfl rfl (by kernel_rfl) trivial (rd_ld na_35 rfl (Rdc.cl1 (by repeat constructor) rfl)) ?_
            refine Rg.one (by kernel_rfl) (Stp.ac 7 rfl rfl (by kernel_rfl) trivial (as_call (Ct.two (sameInts_spec (S := two (plO (some ⟨yb, yo, none⟩) c2 q2) S) (Srd.two1 ((prd_plO m2).2 y (List.mem_of_getElem? hyy)).1) (Srd.two2 hp) (by have := m2 y (List.mem_of_getElem? hyy); omega)) (by rintro _ _ ⟨_, rfl⟩; exact ⟨_, rfl⟩)) (by repeat constructor) (by repeat constructor))  ?_)
            rintro _ _ ⟨_, ⟨_, ⟨rfl, ⟨⟩⟩, rfl⟩, rfl⟩
            rw [decide_eq_true hat]
            refine Rg.pu 8 rfl rfl (by kernel_rfl) trivial (pu_not rfl) ?_
            refine Rg.end (by kernel_rfl) ?_
            refine Gs.then_n ?_
            refine Gs.cond_ff rfl rfl ?_
            refine Gs.skip ?_
            refine Gs.blk_n ?_
            refine Gs.then_n ?_
            refine Gs.reg ?_
            refine Go.Sl.L.pu rfl rfl trivial (pu_move rfl) ?_
            refine Go.Sl.L.pu rfl rfl trivial (by first | exact pu_addI rfl rfl rfl (by omega) (by omega) | exact pu_add rfl rfl) ?_
            refine Go.Sl.L.pu rfl rfl trivial (pu_assign rfl) ?_
            refine Go.Sl.L.nil ?_
            refine Gs.then_n ?_
            first | exact Gs.again1 (i + 1, n + 1) ⟨hlt, hst⟩ (by show q2.length - (i + 1) < q2.length - i; omega) (by repeat constructor) (by repeat constructor) | exact Gs.again1 (i + 1, n) ⟨hlt, hst⟩ (by show q2.length - (i + 1) < q2.length - i; omega) (by repeat constructor) (by repeat constructor)
          · skip
            have hk : ¬ y.p.1 = p.p.1 := of_decide_eq_false hc2
            have hst : n = (((plain1 q2).take (i + 1)).filter fun y => decide (y.1 = p.p.1)).length := by rw [List.take_add_one, hyp, List.filter_append, List.length_append, ← hn, show List.filter (fun y : PostP => decide (y.1 = p.p.1)) (some y.p).toList = [] from (by show List.filter (fun y : PostP => decide (y.1 = p.p.1)) [y.p] = _; rw [List.filter_cons_of_neg (by simpa using hk)]; rfl)]; rfl
            refine Gs.skip ?_
            refine Gs.blk_n ?_
            refine Gs.then_n ?_
            refine Gs.reg ?_
            refine Go.Sl.L.pu rfl rfl trivial (pu_move rfl) ?_
            refine Go.Sl.L.pu rfl rfl trivial (by first | exact pu_addI rfl rfl rfl (by omega) (by omega) | exact pu_add rfl rfl) ?_
            refine Go.Sl.L.pu rfl rfl trivial (pu_assign rfl) ?_
            refine Go.Sl.L.nil ?_
            refine Gs.then_n ?_
            first | exact Gs.again1 (i + 1, n + 1) ⟨hlt, hst⟩ (by show q2.length - (i + 1) < q2.length - i; omega) (by repeat constructor) (by repeat constructor) | exact Gs.again1 (i + 1, n) ⟨hlt, hst⟩ (by show q2.length - (i + 1) < q2.length - i; omega) (by repeat constructor) (by repeat constructor)
        · skip
          have hge : i = q2.length := by have := of_decide_eq_false hc1; omega
          rw [hge, List.take_of_length_le (by simp), hq2, hone] at hn
          refine Gs.exit ?_
          refine Gs.then_x ?_
          refine Gs.then_x ?_
          refine Gs.blk_hit ?_
          refine Gs.then_n ?_
          refine Gs.seq ?_
          refine Gs.reg ?_
          refine Go.Sl.L.pu rfl rfl trivial (pu_move rfl) ?_
          refine Go.Sl.L.ac rfl rfl trivial (as_call (may_spec (S := plO a2 c2 q2) (prd_plO m2) (by omega)) (by repeat constructor) (by repeat constructor)) ?_
          rintro _ _ ⟨_, ⟨rfl, rfl⟩, rfl⟩
          rw [hq2, put_may hm hr]
          refine Go.Sl.L.puBt rfl rfl trivial (pu_move rfl) rfl ?_
          refine Go.Sl.L.pu rfl rfl ⟨_, rfl, rfl⟩ (pu_move rfl) ?_
          refine Go.Sl.L.pu rfl rfl ⟨_, rfl, rfl⟩ (pu_eq rfl rfl) ?_
          refine Go.Sl.L.pu rfl rfl trivial (by first | exact pu_pick_t rfl rfl | exact pu_pick_f rfl rfl) ?_
          refine Go.Sl.L.puBt rfl rfl trivial (pu_move rfl) (decide_eq_true (by rw [hn]; rfl)) ?_
          refine Go.Sl.L.pu rfl rfl ⟨_, rfl, rfl⟩ (pu_move rfl) ?_
          refine Go.Sl.L.pu rfl rfl ⟨_, rfl, rfl⟩ (pu_len Try.underlying30 rfl) ?_
          refine Go.Sl.L.pu rfl rfl ⟨_, rfl, rfl⟩ (pu_move rfl) ?_
          refine Go.Sl.L.pu rfl rfl ⟨_, rfl, rfl⟩ (pu_len Try.underlying30 rfl) ?_
          refine Go.Sl.L.pu rfl rfl ⟨_, rfl, rfl⟩ (by first | exact pu_addI rfl rfl rfl (by omega) (by omega) | exact pu_add rfl rfl) ?_
          refine Go.Sl.L.pu rfl rfl ⟨_, rfl, rfl⟩ (pu_eq rfl rfl) ?_
          refine Go.Sl.L.pu rfl rfl trivial (by first | exact pu_pick_t rfl rfl | exact pu_pick_f rfl rfl) ?_
          refine Go.Sl.L.puBt rfl rfl trivial (pu_move rfl) (decide_eq_true (by have := back_len hm hr; rw [← hq2, show dropP (plain1 x) p.p.1 = plain1 q1 from hq1.symm, List.length_map, List.length_map] at this; omega)) ?_
          refine Go.Sl.L.pu rfl rfl ⟨_, rfl, rfl⟩ (pu_move rfl) ?_
          refine Go.Sl.L.pu rfl rfl ⟨_, rfl, rfl⟩ (pu_fa fa_37_0 rfl) ?_
          refine Go.Sl.L.rd rfl rfl ⟨_, rfl, rfl⟩ (rd_lda ag_34 rfl (Rdc.cl 2 (by repeat constructor) rfl) rfl) ?_
          refine Go.Sl.L.ac rfl rfl ⟨_, rfl, rfl⟩ (as_call (pdrop_spec (S := plO a2 c2 q2) (prd_plO m2) (by omega) p.k) (by repeat constructor) (by repeat constructor)) ?_
          rintro _ _ ⟨_, ⟨a3, c3, q3, rfl, hq3, rfl⟩, rfl⟩
          refine Go.Sl.L.pu rfl rfl ⟨_, rfl, rfl⟩ (pu_move rfl) ?_
          refine Go.Sl.L.ac rfl rfl ⟨_, rfl, rfl⟩ (as_call (same_oo (a := a3) (b := a1) (c := c3) (d := c1) (qs := q3) (rs := q1) (by rw [hq3, hq2]; exact (back_drop hm hr).trans hq1.symm) m1 (by omega)) (by repeat constructor) (by repeat constructor)) ?_
          rintro _ _ ⟨_, ⟨rfl, rfl⟩, rfl⟩
          refine Go.Sl.L.pu rfl rfl trivial (by first | exact pu_pick_t rfl rfl | exact pu_pick_f rfl rfl) ?_
          refine Go.Sl.L.puBt rfl rfl trivial (pu_move rfl) rfl ?_
          refine Go.Sl.L.pu rfl rfl ⟨_, rfl, rfl⟩ (pu_move rfl) ?_
          refine Go.Sl.L.rd rfl rfl ⟨_, rfl, rfl⟩ (rd_lda ag_37 rfl (Rdc.cl 3 (by repeat constructor) rfl) rfl) ?_
          refine Go.Sl.L.ac rfl rfl ⟨_, rfl, rfl⟩ (as_call (put_oo (a := a2) (c := c2) (qs := q2) (p := p) m2 (by omega) hp (by omega)) (by repeat constructor) (by repeat constructor)) ?_
          rintro _ _ ⟨_, ⟨a4, c4, q4, rfl, hq4, rfl⟩, rfl⟩
          refine Go.Sl.L.pu rfl rfl ⟨_, rfl, rfl⟩ (pu_move rfl) ?_
          refine Go.Sl.L.ac rfl rfl ⟨_, rfl, rfl⟩ (as_call (same_oo (a := a4) (b := a2) (c := c4) (d := c2) (qs := q4) (rs := q2) (by rw [hq4, hq2]; exact back_put hm hr) m2 (by omega)) (by repeat constructor) (by repeat constructor)) ?_
          rintro _ _ ⟨_, ⟨rfl, rfl⟩, rfl⟩
          refine Go.Sl.L.pu rfl rfl trivial (by first | exact pu_pick_t rfl rfl | exact pu_pick_f rfl rfl) ?_
          refine Go.Sl.L.puBt rfl rfl trivial (pu_move rfl) rfl ?_
          refine Go.Sl.L.pu rfl rfl ⟨_, rfl, rfl⟩ (pu_move rfl) ?_
          refine Go.Sl.L.rd rfl rfl ⟨_, rfl, rfl⟩ (rd_lda ag_37 rfl (Rdc.cl 3 (by repeat constructor) rfl) rfl) ?_
          refine Go.Sl.L.ac rfl rfl ⟨_, rfl, rfl⟩ (as_call (put_oo (a := a1) (c := c1) (qs := q1) (p := p) m1 (by omega) hp (by omega)) (by repeat constructor) (by repeat constructor)) ?_
          rintro _ _ ⟨_, ⟨a5, c5, q5, rfl, hq5, rfl⟩, rfl⟩
          refine Go.Sl.L.pu rfl rfl ⟨_, rfl, rfl⟩ (pu_move rfl) ?_
          refine Go.Sl.L.ac rfl rfl ⟨_, rfl, rfl⟩ (as_call (same_oo (a := a5) (b := a2) (c := c5) (d := c2) (qs := q5) (rs := q2) (by rw [hq5, hq1, hq2]; exact back_was hm hr) m2 (by omega)) (by repeat constructor) (by repeat constructor)) ?_
          rintro _ _ ⟨_, ⟨rfl, rfl⟩, rfl⟩
          refine Go.Sl.L.pu rfl rfl trivial (by first | exact pu_pick_t rfl rfl | exact pu_pick_f rfl rfl) ?_
          refine Go.Sl.L.puBt rfl rfl trivial (pu_move rfl) rfl ?_
          refine Go.Sl.L.ac rfl rfl ⟨_, rfl, rfl⟩ (as_call (awake_spec) (by repeat constructor) (by repeat constructor)) ?_
          rintro _ _ ⟨_, ⟨rfl, rfl⟩, rfl⟩
          refine Go.Sl.L.pu rfl rfl trivial (by first | exact pu_pick_t rfl rfl | exact pu_pick_f rfl rfl) ?_
          refine Go.Sl.L.pu rfl rfl trivial (pu_assign rfl) ?_
          refine Go.Sl.L.nil ?_
          refine Gs.then_n ?_
          refine Gs.ret ?_
          exact Gs.fin1 Try.results6 rfl _ (⟨rfl, rfl⟩) (by repeat constructor)
end Go.Proofs.Ytonilkceolbkmaa
