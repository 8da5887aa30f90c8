/- Walks: PostSets, PostThree (grapevinelaw10). -/
import Derived.Test.YtonilkceolbkmaaPp
namespace Go.Proofs.Ytonilkceolbkmaa
open Go Go.Sl Go.Gv Go.Po
set_option maxRecDepth 100000
abbrev lits (w : Nat) (ls : List (SlV PostV)) : HProp := sl 30 1 slC (blk w) ls.length ls
theorem lrd_l {S : HProp} {w : Nat} {ls : List (SlV PostV)} (h : ∀ l ∈ ls, PRd S l.a l.xs ∧ l.xs.length ≤ 1000) : LRd (two (lits w ls) S) (blk w) ls :=
  ⟨Srd.two1 Srd.own, fun l hl => ⟨⟨Srd.two2 (h l hl).1.1, fun p hp => ⟨Srd.two2 ((h l hl).1.2 p hp).1, ((h l hl).1.2 p hp).2⟩⟩, (h l hl).2⟩⟩
section
variable {S : HProp} {w : Nat} {ls : List (SlV PostV)} (h : ∀ l ∈ ls, PRd S l.a l.xs ∧ l.xs.length ≤ 1000) (hl : ls.length ≤ 900)
include h hl
theorem and_l : Ct Try.prog 10 [.slice (blk w) ls.length ls.length] [lits w ls, S] (fun v hs => ∃ a c, v = .slice a (andV ls).length c ∧ hs = [S, sl 34 2 keyC a c (andV ls)]) := by
  refine (Ct.two (and_c (lrd_l h) hl (Nat.le_refl _)) (by rintro _ _ ⟨_, _, _, rfl⟩; exact ⟨_, rfl⟩)).less ?_
  rintro _ _ ⟨_, ⟨a, c, rfl, ⟨⟩⟩, rfl⟩
  exact ⟨_, ⟨a, c, rfl, rfl⟩, by repeat constructor⟩
theorem phrase_l : Ct Try.prog 12 [.slice (blk w) ls.length ls.length] [lits w ls, S] (fun v hs => ∃ a c, v = .slice a (phraseV ls).length c ∧ hs = [S, sl 34 2 keyC a c (phraseV ls)]) := by
  refine (Ct.two (phrase_c (lrd_l h) hl (Nat.le_refl _)) (by rintro _ _ ⟨_, _, _, rfl⟩; exact ⟨_, rfl⟩)).less ?_
  rintro _ _ ⟨_, ⟨a, c, rfl, ⟨⟩⟩, rfl⟩
  exact ⟨_, ⟨a, c, rfl, rfl⟩, by repeat constructor⟩
theorem or_l (hk : (keysL ls).length ≤ 90000) : Ct Try.prog 11 [.slice (blk w) ls.length ls.length] [lits w ls, S] (fun v hs => ∃ a c, v = .slice a (orV ls).length c ∧ hs = [S, sl 34 2 keyC a c (orV ls)]) := by
  refine (Ct.two (or_c (lrd_l h) hl hk) (by rintro _ _ ⟨_, _, _, rfl⟩; exact ⟨_, rfl⟩)).less ?_
  rintro _ _ ⟨_, ⟨a, c, rfl, ⟨⟩⟩, rfl⟩
  exact ⟨_, ⟨a, c, rfl, rfl⟩, by repeat constructor⟩
end
theorem great_l {S : HProp} {w most : Nat} {ls : List (SlV PostV)} (h : ∀ l ∈ ls, PR0 S l.a l.xs) (hl : ls.length ≤ maxLen) (hm : most ≤ 1000) :
    Ct Try.prog 8 [.slice (blk w) ls.length ls.length, int most] [lits w ls, S] (fun u hs => (∃ g : Bool, u = .bool g ∧ (g = false → Small ls most)) ∧ hs = [S]) := by
  have h0 : LR0 (two (lits w ls) S) (blk w) ls := ⟨Srd.two1 Srd.own, hl, fun l hm => ⟨Srd.two2 (h l hm).1, (h l hm).2.1, fun p hp => ⟨Srd.two2 ((h l hm).2.2 p hp).1, ((h l hm).2.2 p hp).2⟩⟩⟩
  refine (Ct.two (greatPosts_spec h0 hm) (by rintro _ _ ⟨_, rfl⟩; exact ⟨_, rfl⟩)).less ?_
  rintro _ _ ⟨_, ⟨hg, ⟨⟩⟩, rfl⟩
  exact ⟨_, ⟨hg, rfl⟩, by repeat constructor⟩
theorem less_l {a b : Option Addr} {c d : Nat} {xs ys : List Key} (hx : xs.length ≤ 100000) (hy : ys.length ≤ 100000) :
    Ct Try.prog 22 [.slice a xs.length c, .slice b ys.length d] [sl 34 2 keyC a c xs, sl 34 2 keyC b d ys] (fun v hs => ∃ a' c', v = .slice a' (lessK xs ys).length c' ∧ hs = [sl 34 2 keyC a c xs, sl 34 2 keyC b d ys, sl 34 2 keyC a' c' (lessK xs ys)]) := by
  refine (Ct.two (pless_spec (c := c) (d := d) (xs := xs) (ys := ys) (Srd.two1 Srd.own) (Srd.two2 Srd.own) hx hy) (by rintro _ _ ⟨_, _, _, rfl⟩; exact ⟨_, rfl⟩)).mono ?_
  rintro _ _ ⟨_, ⟨a', c', rfl, ⟨⟩⟩, rfl⟩
  exact ⟨a', c', rfl, rfl⟩
theorem less_nil {a b : Option Addr} {c d : Nat} {xs ys : List Key} (h : ∀ k ∈ xs, k ∈ ys) (hx : xs.length ≤ 100000) (hy : ys.length ≤ 100000) :
    Ct Try.prog 22 [.slice a xs.length c, .slice b ys.length d] [sl 34 2 keyC a c xs, sl 34 2 keyC b d ys] (fun v hs => ∃ a' c', v = .slice a' 0 c' ∧ hs = [sl 34 2 keyC a c xs, sl 34 2 keyC b d ys]) := by
  refine (less_l hx hy).less ?_
  rintro _ _ ⟨a', c', rfl, rfl⟩
  exact ⟨_, ⟨a', c', by rw [less_sub h]; rfl, rfl⟩, by repeat constructor⟩
theorem postSets_spec {S : HProp} {A B : SlV PostV} (hA0 : PR0 S A.a A.xs) (hB0 : PR0 S B.a B.xs) (hw : ∀ p ∈ A.xs, ∀ i ∈ p.t.xs, IntKind.i64.wrap i = i) :
    Ct Try.prog 5 [.slice A.a A.xs.length A.c, .slice B.a B.xs.length B.c] [S] (fun v hs => v = .bool true ∧ hs = [S]) := by
  have hPR : ∀ l ∈ [A, B], PR0 S l.a l.xs := by intro l hl; simp only [List.mem_cons, List.not_mem_nil, or_false] at hl; rcases hl with rfl | rfl <;> assumption
  refine Ct.intro Try.func5 rfl (by kernel_rfl) 133 Try.ntmps5 (Nat.le_of_ble_eq_true rfl) fun w0 R => ?_
  refine Gs.seq ?_
  refine Gs.reg ?_
  refine Go.Sl.L.pu rfl rfl trivial (pu_assign rfl) ?_
  refine Go.Sl.L.nil ?_
  refine Gs.then_n ?_
  refine Gs.seq ?_
  refine Gs.seq ?_
  refine Gs.reg ?_
  refine Go.Sl.L.pu rfl rfl trivial (pu_move rfl) ?_
  refine Go.Sl.L.pu rfl rfl trivial (pu_move rfl) ?_
  refine Go.Sl.L.ac rfl rfl trivial (ac_lit encC_30 ([A, B]) et_22 ek_30 rfl (by repeat constructor) rfl rfl (by decide)) ?_
  rintro _ _ ⟨a15, rfl, rfl⟩
  refine Go.Sl.L.ac rfl rfl trivial (as_call (great_l (ls := [A, B]) (most := 2) (w := a15) hPR (by show 2 ≤ maxLen; decide) (by decide)) (by repeat constructor) (by repeat constructor)) ?_
  rintro _ _ ⟨_, ⟨⟨g, rfl, hg⟩, rfl⟩, rfl⟩
  refine Go.Sl.L.puB rfl rfl trivial (pu_move rfl) (fun hg4 => ?_) (fun hg4 => ?_)
  · skip
    refine Go.Sl.L.off rfl rfl rfl rfl rfl rfl ?_
    refine Go.Sl.L.off rfl rfl rfl rfl rfl rfl ?_
    refine Go.Sl.L.off rfl rfl rfl rfl rfl rfl ?_
    refine Go.Sl.L.pu rfl rfl trivial (by first | exact pu_pick_t rfl rfl | exact pu_pick_f rfl rfl) ?_
    refine Go.Sl.L.pu rfl rfl trivial (pu_move rfl) ?_
    refine Go.Sl.L.off rfl rfl rfl rfl rfl rfl ?_
    refine Go.Sl.L.off rfl rfl rfl rfl rfl rfl ?_
    refine Go.Sl.L.off rfl rfl rfl rfl rfl rfl ?_
    refine Go.Sl.L.pu rfl rfl trivial (by first | exact pu_pick_t rfl rfl | exact pu_pick_f rfl rfl) ?_
    refine Go.Sl.L.nil ?_
    refine Gs.then_n ?_
    refine Gs.cond_t rfl ?_
    refine Gs.seq ?_
    refine Gs.reg ?_
    refine Go.Sl.L.ac rfl rfl trivial (as_call (awake_spec) (by repeat constructor) (by repeat constructor)) ?_
    rintro _ _ ⟨_, ⟨rfl, rfl⟩, rfl⟩
    refine Go.Sl.L.pu rfl rfl trivial (pu_assign rfl) ?_
    refine Go.Sl.L.nil ?_
    refine Gs.then_n ?_
    refine Gs.ret ?_
    refine Gs.then_r ?_
    exact Gs.fin1 Try.results5 rfl _ (⟨rfl, rfl⟩) (by repeat constructor)
  · skip
    have hsm := hg hg4
    have sA := hsm.2 A (by simp)
    have sB := hsm.2 B (by simp)
    have rA : PRd S A.a A.xs ∧ A.xs.length ≤ 1000 := ⟨hA0.prd sA.2, by omega⟩
    have rB : PRd S B.a B.xs ∧ B.xs.length ≤ 1000 := ⟨hB0.prd sB.2, by omega⟩
    refine Go.Sl.L.pu rfl rfl ⟨_, rfl, rfl⟩ (pu_move rfl) ?_
    refine Go.Sl.L.ac rfl rfl ⟨_, rfl, rfl⟩ (as_call (may_spec rA.1 rA.2) (by repeat constructor) (by repeat constructor)) ?_
    rintro _ _ ⟨_, ⟨rfl, rfl⟩, rfl⟩
    refine Go.Sl.L.pu rfl rfl ⟨_, rfl, rfl⟩ (pu_not rfl) ?_
    refine Go.Sl.L.pu rfl rfl trivial (by first | exact pu_pick_t rfl rfl | exact pu_pick_f rfl rfl) ?_
    refine Go.Sl.L.puB rfl rfl trivial (pu_move rfl) (fun hg9 => ?_) (fun hg9 => ?_)
    · skip
      refine Go.Sl.L.off rfl rfl rfl rfl rfl rfl ?_
      refine Go.Sl.L.off rfl rfl rfl rfl rfl rfl ?_
      refine Go.Sl.L.off rfl rfl rfl rfl rfl rfl ?_
      refine Go.Sl.L.pu rfl rfl trivial (by first | exact pu_pick_t rfl rfl | exact pu_pick_f rfl rfl) ?_
      refine Go.Sl.L.nil ?_
      refine Gs.then_n ?_
      refine Gs.cond_t rfl ?_
      refine Gs.seq ?_
      refine Gs.reg ?_
      refine Go.Sl.L.ac rfl rfl trivial (as_call (awake_spec) (by repeat constructor) (by repeat constructor)) ?_
      rintro _ _ ⟨_, ⟨rfl, rfl⟩, rfl⟩
      refine Go.Sl.L.pu rfl rfl trivial (pu_assign rfl) ?_
      refine Go.Sl.L.nil ?_
      refine Gs.then_n ?_
      refine Gs.ret ?_
      refine Gs.then_r ?_
      exact Gs.fin1 Try.results5 rfl _ (⟨rfl, rfl⟩) (by repeat constructor)
    · skip
      refine Go.Sl.L.pu rfl rfl ⟨_, rfl, rfl⟩ (pu_move rfl) ?_
      refine Go.Sl.L.ac rfl rfl ⟨_, rfl, rfl⟩ (as_call (may_spec rB.1 rB.2) (by repeat constructor) (by repeat constructor)) ?_
      rintro _ _ ⟨_, ⟨rfl, rfl⟩, rfl⟩
      refine Go.Sl.L.pu rfl rfl ⟨_, rfl, rfl⟩ (pu_not rfl) ?_
      refine Go.Sl.L.pu rfl rfl trivial (by first | exact pu_pick_t rfl rfl | exact pu_pick_f rfl rfl) ?_
      refine Go.Sl.L.nil ?_
      refine Gs.then_n ?_
      refine Gs.cond rfl (fun hc0 => ?_) (fun hc0 => ?_)
      · skip
        refine Gs.seq ?_
        refine Gs.reg ?_
        refine Go.Sl.L.ac rfl rfl trivial (as_call (awake_spec) (by repeat constructor) (by repeat constructor)) ?_
        rintro _ _ ⟨_, ⟨rfl, rfl⟩, rfl⟩
        refine Go.Sl.L.pu rfl rfl trivial (pu_assign rfl) ?_
        refine Go.Sl.L.nil ?_
        refine Gs.then_n ?_
        refine Gs.ret ?_
        refine Gs.then_r ?_
        exact Gs.fin1 Try.results5 rfl _ (⟨rfl, rfl⟩) (by repeat constructor)
      · skip
        have hA : May1 A := not_f hg9
        have hB : May1 B := not_f hc0
        have h2 : ∀ l ∈ [A, B], PRd S l.a l.xs ∧ l.xs.length ≤ 1000 := by intro l hl; simp only [List.mem_cons, List.not_mem_nil, or_false] at hl; rcases hl with rfl | rfl <;> assumption
        have h2' : ∀ l ∈ [B, A], PRd S l.a l.xs ∧ l.xs.length ≤ 1000 := by intro l hl; simp only [List.mem_cons, List.not_mem_nil, or_false] at hl; rcases hl with rfl | rfl <;> assumption
        have h1A : ∀ l ∈ [A], PRd S l.a l.xs ∧ l.xs.length ≤ 1000 := by intro l hl; simp only [List.mem_cons, List.not_mem_nil, or_false] at hl; rcases hl with rfl; assumption
        have h1B : ∀ l ∈ [B], PRd S l.a l.xs ∧ l.xs.length ≤ 1000 := by intro l hl; simp only [List.mem_cons, List.not_mem_nil, or_false] at hl; rcases hl with rfl; assumption
        have kl : ∀ l m : SlV PostV, (keysL [l, m]).length = l.xs.length + m.xs.length := fun l m => by simp [keysL]
        have kl1 : ∀ l : SlV PostV, (keysL [l]).length = l.xs.length := fun l => by simp [keysL]
        have o2 := orV_le [A, B]
        have o2' := orV_le [B, A]
        have oA := orV_le [A]
        have oB := orV_le [B]
        rw [kl] at o2 o2'
        rw [kl1] at oA oB
        have a2 := andV_le hsm
        have p2 := phraseV_le hsm
        obtain ⟨e1, e2⟩ := sets_len hA hB
        have e3 := congrArg List.length (or1_eq hA)
        rw [List.length_map] at e3
        have l1 := less_le (orV [A]) (orV [B])
        have l2 := less_le (orV [B]) (orV [A])
        refine Gs.skip ?_
        refine Gs.then_n ?_
        refine Gs.seq ?_
        refine Gs.reg ?_
        refine Go.Sl.L.pu rfl rfl trivial (pu_move rfl) ?_
        refine Go.Sl.L.pu rfl rfl trivial (pu_move rfl) ?_
        refine Go.Sl.L.ac rfl rfl trivial (ac_lit encC_30 ([A, B]) et_22 ek_30 rfl (by repeat constructor) rfl rfl (by decide)) ?_
        rintro _ _ ⟨a30, rfl, rfl⟩
        refine Go.Sl.L.ac rfl rfl trivial (as_call (and_l h2 (by show 2 ≤ 900; decide) (w := a30)) (by repeat constructor) (by repeat constructor)) ?_
        rintro _ _ ⟨_, ⟨a1, c1, rfl, rfl⟩, rfl⟩
        refine Go.Sl.L.pu rfl rfl trivial (pu_move rfl) ?_
        refine Go.Sl.L.pu rfl rfl trivial (pu_move rfl) ?_
        refine Go.Sl.L.ac rfl rfl trivial (ac_lit encC_30 ([A, B]) et_22 ek_30 rfl (by repeat constructor) rfl rfl (by decide)) ?_
        rintro _ _ ⟨a34, rfl, rfl⟩
        refine Go.Sl.L.ac rfl rfl trivial (as_call (or_l h2 (by show 2 ≤ 900; decide) (by rw [kl]; omega) (w := a34)) (by repeat constructor) (by repeat constructor)) ?_
        rintro _ _ ⟨_, ⟨a2', c2, rfl, rfl⟩, rfl⟩
        refine Go.Sl.L.pu rfl rfl trivial (pu_assign rfl) ?_
        refine Go.Sl.L.pu rfl rfl trivial (pu_assign rfl) ?_
        refine Go.Sl.L.nil ?_
        refine Gs.then_n ?_
        refine Gs.seq ?_
        refine Gs.reg ?_
        refine Go.Sl.L.pu rfl rfl trivial (pu_move rfl) ?_
        refine Go.Sl.L.ac rfl rfl trivial (ac_lit encC_30 ([A]) et_22 ek_30 rfl (by repeat constructor) rfl rfl (by decide)) ?_
        rintro _ _ ⟨a37, rfl, rfl⟩
        refine Go.Sl.L.ac rfl rfl trivial (as_call (or_l h1A (by show 1 ≤ 900; decide) (by rw [kl1]; omega) (w := a37)) (by repeat constructor) (by repeat constructor)) ?_
        rintro _ _ ⟨_, ⟨a3, c3, rfl, rfl⟩, rfl⟩
        refine Go.Sl.L.pu rfl rfl trivial (pu_move rfl) ?_
        refine Go.Sl.L.ac rfl rfl trivial (ac_lit encC_30 ([B]) et_22 ek_30 rfl (by repeat constructor) rfl rfl (by decide)) ?_
        rintro _ _ ⟨a40, rfl, rfl⟩
        refine Go.Sl.L.ac rfl rfl trivial (as_call (or_l h1B (by show 1 ≤ 900; decide) (by rw [kl1]; omega) (w := a40)) (by repeat constructor) (by repeat constructor)) ?_
        rintro _ _ ⟨_, ⟨a4, c4, rfl, rfl⟩, rfl⟩
        refine Go.Sl.L.pu rfl rfl trivial (pu_assign rfl) ?_
        refine Go.Sl.L.pu rfl rfl trivial (pu_assign rfl) ?_
        refine Go.Sl.L.nil ?_
        refine Gs.then_n ?_
        refine Gs.seq ?_
        refine Gs.reg ?_
        refine Go.Sl.L.pu rfl rfl trivial (pu_move rfl) ?_
        refine Go.Sl.L.pu rfl rfl trivial (pu_move rfl) ?_
        refine Go.Sl.L.ac rfl rfl trivial (ac_lit encC_30 ([A, B]) et_22 ek_30 rfl (by repeat constructor) rfl rfl (by decide)) ?_
        rintro _ _ ⟨a44, rfl, rfl⟩
        refine Go.Sl.L.ac rfl rfl trivial (as_call (phrase_l h2 (by show 2 ≤ 900; decide) (w := a44)) (by repeat constructor) (by repeat constructor)) ?_
        rintro _ _ ⟨_, ⟨a5, c5, rfl, rfl⟩, rfl⟩
        refine Go.Sl.L.pu rfl rfl trivial (pu_assign rfl) ?_
        refine Go.Sl.L.nil ?_
        refine Gs.then_n ?_
        refine Gs.seq ?_
        refine Gs.reg ?_
        refine Go.Sl.L.pu rfl rfl trivial (pu_move rfl) ?_
        refine Go.Sl.L.pu rfl rfl trivial (pu_move rfl) ?_
        refine Go.Sl.L.ac rfl rfl trivial (as_call (less_l (a := a3) (b := a4) (c := c3) (d := c4) (xs := orV [A]) (ys := orV [B]) (by omega) (by omega)) (by repeat constructor) (by repeat constructor)) ?_
        rintro _ _ ⟨_, ⟨a6, c6, rfl, rfl⟩, rfl⟩
        refine Go.Sl.L.pu rfl rfl trivial (pu_move rfl) ?_
        refine Go.Sl.L.pu rfl rfl trivial (pu_move rfl) ?_
        refine Go.Sl.L.ac rfl rfl trivial (as_call (less_l (a := a4) (b := a3) (c := c4) (d := c3) (xs := orV [B]) (ys := orV [A]) (by omega) (by omega)) (by repeat constructor) (by repeat constructor)) ?_
        rintro _ _ ⟨_, ⟨a7, c7, rfl, rfl⟩, rfl⟩
        refine Go.Sl.L.pu rfl rfl trivial (pu_assign rfl) ?_
        refine Go.Sl.L.pu rfl rfl trivial (pu_assign rfl) ?_
        refine Go.Sl.L.nil ?_
        refine Gs.then_n ?_
        refine Gs.seq ?_
        refine Gs.seq ?_
        refine Gs.reg ?_
        refine Go.Sl.L.pu rfl rfl trivial (pu_move rfl) ?_
        refine Go.Sl.L.pu rfl rfl trivial (pu_len Try.underlying25 rfl) ?_
        refine Go.Sl.L.pu rfl rfl trivial (pu_move rfl) ?_
        refine Go.Sl.L.pu rfl rfl trivial (pu_len Try.underlying25 rfl) ?_
        refine Go.Sl.L.pu rfl rfl trivial (by first | exact pu_addI rfl rfl rfl (by omega) (by omega) | exact pu_add rfl rfl) ?_
        refine Go.Sl.L.pu rfl rfl trivial (pu_move rfl) ?_
        refine Go.Sl.L.pu rfl rfl trivial (pu_len Try.underlying25 rfl) ?_
        refine Go.Sl.L.pu rfl rfl trivial (pu_move rfl) ?_
        refine Go.Sl.L.pu rfl rfl trivial (pu_len Try.underlying25 rfl) ?_
        refine Go.Sl.L.pu rfl rfl trivial (by first | exact pu_addI rfl rfl rfl (by omega) (by omega) | exact pu_add rfl rfl) ?_
        refine Go.Sl.L.pu rfl rfl trivial (pu_ne rfl rfl) ?_
        refine Go.Sl.L.puBf rfl rfl trivial (pu_move rfl) (decide_eq_false (by omega)) ?_
        refine Go.Sl.L.pu rfl rfl ⟨_, rfl, rfl⟩ (pu_move rfl) ?_
        refine Go.Sl.L.pu rfl rfl ⟨_, rfl, rfl⟩ (pu_len Try.underlying25 rfl) ?_
        refine Go.Sl.L.pu rfl rfl ⟨_, rfl, rfl⟩ (pu_move rfl) ?_
        refine Go.Sl.L.pu rfl rfl ⟨_, rfl, rfl⟩ (pu_len Try.underlying25 rfl) ?_
        refine Go.Sl.L.pu rfl rfl ⟨_, rfl, rfl⟩ (by first | exact pu_addI rfl rfl rfl (by omega) (by omega) | exact pu_add rfl rfl) ?_
        refine Go.Sl.L.pu rfl rfl ⟨_, rfl, rfl⟩ (pu_move rfl) ?_
        refine Go.Sl.L.pu rfl rfl ⟨_, rfl, rfl⟩ (pu_len Try.underlying25 rfl) ?_
        refine Go.Sl.L.pu rfl rfl ⟨_, rfl, rfl⟩ (by first | exact pu_addI rfl rfl rfl (by omega) (by omega) | exact pu_add rfl rfl) ?_
        refine Go.Sl.L.pu rfl rfl ⟨_, rfl, rfl⟩ (pu_move rfl) ?_
        refine Go.Sl.L.pu rfl rfl ⟨_, rfl, rfl⟩ (pu_len Try.underlying25 rfl) ?_
        refine Go.Sl.L.pu rfl rfl ⟨_, rfl, rfl⟩ (pu_ne rfl rfl) ?_
        refine Go.Sl.L.pu rfl rfl trivial (by first | exact pu_pick_t rfl rfl | exact pu_pick_f rfl rfl) ?_
        refine Go.Sl.L.puBf rfl rfl trivial (pu_move rfl) (decide_eq_false (by omega)) ?_
        refine Go.Sl.L.pu rfl rfl ⟨_, rfl, rfl⟩ (pu_move rfl) ?_
        refine Go.Sl.L.pu rfl rfl ⟨_, rfl, rfl⟩ (pu_len Try.underlying25 rfl) ?_
        refine Go.Sl.L.pu rfl rfl ⟨_, rfl, rfl⟩ (pu_move rfl) ?_
        refine Go.Sl.L.pu rfl rfl ⟨_, rfl, rfl⟩ (pu_len Try.underlying30 rfl) ?_
        refine Go.Sl.L.pu rfl rfl ⟨_, rfl, rfl⟩ (pu_ne rfl rfl) ?_
        refine Go.Sl.L.pu rfl rfl trivial (by first | exact pu_pick_t rfl rfl | exact pu_pick_f rfl rfl) ?_
        refine Go.Sl.L.puBf rfl rfl trivial (pu_move rfl) (decide_eq_false (by omega)) ?_
        refine Go.Sl.L.pu rfl rfl ⟨_, rfl, rfl⟩ (pu_move rfl) ?_
        refine Go.Sl.L.pu rfl rfl ⟨_, rfl, rfl⟩ (pu_move rfl) ?_
        refine Go.Sl.L.ac rfl rfl ⟨_, rfl, rfl⟩ (as_call (less_nil (a := a5) (b := a1) (c := c5) (d := c1) (xs := phraseV [A, B]) (ys := andV [A, B]) (fun k hk => phraseV_sub hk) (by omega) (by omega)) (by repeat constructor) (by repeat constructor)) ?_
        rintro _ _ ⟨_, ⟨a8, c8, rfl, rfl⟩, rfl⟩
        refine Go.Sl.L.pu rfl rfl ⟨_, rfl, rfl⟩ (pu_len Try.underlying25 rfl) ?_
        refine Go.Sl.L.pu rfl rfl ⟨_, rfl, rfl⟩ (pu_ne rfl rfl) ?_
        refine Go.Sl.L.pu rfl rfl trivial (by first | exact pu_pick_t rfl rfl | exact pu_pick_f rfl rfl) ?_
        refine Go.Sl.L.puBf rfl rfl trivial (pu_move rfl) rfl ?_
        refine Go.Sl.L.pu rfl rfl ⟨_, rfl, rfl⟩ (pu_move rfl) ?_
        refine Go.Sl.L.pu rfl rfl ⟨_, rfl, rfl⟩ (pu_move rfl) ?_
        refine Go.Sl.L.pu rfl rfl ⟨_, rfl, rfl⟩ (pu_move rfl) ?_
        refine Go.Sl.L.ac rfl rfl ⟨_, rfl, rfl⟩ (ac_lit encC_30 ([B, A]) et_22 ek_30 rfl (by repeat constructor) rfl rfl (by decide)) ?_
        rintro _ _ ⟨a94, rfl, rfl⟩
        refine Go.Sl.L.ac rfl rfl ⟨_, rfl, rfl⟩ (as_call (and_l h2' (by show 2 ≤ 900; decide) (w := a94)) (by repeat constructor) (by repeat constructor)) ?_
        rintro _ _ ⟨_, ⟨a9, c9, rfl, rfl⟩, rfl⟩
        rw [← and_comm2 hA hB]
        refine Go.Sl.L.ac rfl rfl ⟨_, rfl, rfl⟩ (as_call (same_c (a := a1) (b := a9) (c := c1) (d := c9) (xs := andV [A, B]) (by omega)) (by repeat constructor) (by repeat constructor)) ?_
        rintro _ _ ⟨_, ⟨rfl, rfl⟩, rfl⟩
        refine Go.Sl.L.pu rfl rfl ⟨_, rfl, rfl⟩ (pu_not rfl) ?_
        refine Go.Sl.L.pu rfl rfl trivial (by first | exact pu_pick_t rfl rfl | exact pu_pick_f rfl rfl) ?_
        refine Go.Sl.L.puBf rfl rfl trivial (pu_move rfl) rfl ?_
        refine Go.Sl.L.pu rfl rfl ⟨_, rfl, rfl⟩ (pu_move rfl) ?_
        refine Go.Sl.L.pu rfl rfl ⟨_, rfl, rfl⟩ (pu_move rfl) ?_
        refine Go.Sl.L.pu rfl rfl ⟨_, rfl, rfl⟩ (pu_move rfl) ?_
        refine Go.Sl.L.ac rfl rfl ⟨_, rfl, rfl⟩ (ac_lit encC_30 ([B, A]) et_22 ek_30 rfl (by repeat constructor) rfl rfl (by decide)) ?_
        rintro _ _ ⟨a103, rfl, rfl⟩
        refine Go.Sl.L.ac rfl rfl ⟨_, rfl, rfl⟩ (as_call (or_l h2' (by show 2 ≤ 900; decide) (by rw [kl]; omega) (w := a103)) (by repeat constructor) (by repeat constructor)) ?_
        rintro _ _ ⟨_, ⟨aa, ca, rfl, rfl⟩, rfl⟩
        rw [← or_comm2 hA hB]
        refine Go.Sl.L.ac rfl rfl ⟨_, rfl, rfl⟩ (as_call (same_c (a := a2') (b := aa) (c := c2) (d := ca) (xs := orV [A, B]) (by omega)) (by repeat constructor) (by repeat constructor)) ?_
        rintro _ _ ⟨_, ⟨rfl, rfl⟩, rfl⟩
        refine Go.Sl.L.pu rfl rfl ⟨_, rfl, rfl⟩ (pu_not rfl) ?_
        refine Go.Sl.L.pu rfl rfl trivial (by first | exact pu_pick_t rfl rfl | exact pu_pick_f rfl rfl) ?_
        refine Go.Sl.L.nil ?_
        refine Gs.then_n ?_
        refine Gs.cond_ff rfl rfl ?_
        refine Gs.skip ?_
        refine Gs.then_n ?_
        refine Gs.seq ?_
        refine Gs.seq ?_
        refine Gs.slAddr (xs := orV [A, B]) (SlH.own (E := 34) (enc := keyC) (a := a2') (c := c2) (sz := 2) (by repeat constructor)) fun ob oo ho => ?_
        refine Gs.reg ?_
        refine Go.Sl.L.pu rfl rfl trivial (pu_assign rfl) ?_
        refine Go.Sl.L.nil ?_
        refine Gs.then_n ?_
        refine Gs.block ?_
        refine Gs.loop1 (fun i : Nat => 1 ≤ i ∧ (i ≤ (orV [A, B]).length ∨ i = 1)) (fun i => [(0, .slice A.a A.xs.length A.c), (6, .slice a2' (orV [A, B]).length c2), (7, .slice a3 (orV [A]).length c3), (12, int i)]) (fun i => [S, sl 34 2 keyC a2' c2 (orV [A, B]), sl 34 2 keyC a3 c3 (orV [A])] ++ R) (fun i => (orV [A, B]).length - i) 1 (⟨Nat.le_refl _, .inr rfl⟩) (by repeat constructor) (by repeat constructor) (fun i ⟨hi1, hi2⟩ => ?_)
        refine Gs.seq ?_
        refine Gs.seq ?_
        refine Gs.reg ?_
        refine Go.Sl.L.pu rfl rfl trivial (pu_move rfl) ?_
        refine Go.Sl.L.pu rfl rfl trivial (pu_move rfl) ?_
        refine Go.Sl.L.pu rfl rfl trivial (pu_len Try.underlying25 rfl) ?_
        refine Go.Sl.L.pu rfl rfl trivial (pu_lt rfl rfl) ?_
        refine Go.Sl.L.nil ?_
        refine Gs.then_n ?_
        refine Gs.cond rfl (fun hc2 => ?_) (fun hc2 => ?_)
        · skip
          have hlt : i < (orV [A, B]).length := by have := of_decide_eq_true hc2; omega
          obtain ⟨u, hu⟩ : ∃ x, (orV [A, B])[i]? = some x := ⟨(orV [A, B])[i], by simp [hlt]⟩
          obtain ⟨v, hv⟩ : ∃ x, (orV [A, B])[i - 1]? = some x := ⟨(orV [A, B])[i - 1]'(by omega), by simp⟩
          obtain rfl := ho (by intro e; rw [e] at hu; simp at hu)
          have hb : before v u = true := by
            obtain ⟨q1, rfl⟩ := List.getElem?_eq_some_iff.1 hu
            obtain ⟨q2, rfl⟩ := List.getElem?_eq_some_iff.1 hv
            exact List.pairwise_iff_getElem.1 (orV_asc [A, B]) _ _ q2 q1 (by omega)
          refine Gs.skip ?_
          refine Gs.then_n ?_
          refine Gs.seq ?_
          refine Gs.block ?_
          refine Gs.seq ?_
          refine Gs.regD mixed (by kernel_rfl) ?_
          refine Rg.pu 0 rfl rfl (by kernel_rfl) trivial (pu_move rfl) ?_
          refine Rg.pu 1 rfl rfl (by kernel_rfl) trivial (pu_move rfl) ?_
          refine Rg.pu 2 rfl rfl (by kernel_rfl) trivial (pu_subI (z := ((i - 1 : Nat) : Int)) rfl rfl (by omega) (by omega) (by omega)) ?_
          refine Rg.pu 3 rfl rfl (by kernel_rfl) trivial (pu_ia se_25 rfl rfl (by omega) (by omega)) ?_
          refine Rg.rd 4 rfl rfl (by kernel_rfl) trivial (rd_lda ag_34 rfl (Rdc.el0 (SlH.own (xs := orV [A, B]) (E := 34) (c := c2) (by repeat constructor)) hv rfl rfl) rfl) ?_
          refine Rg.pu 5 rfl rfl (by kernel_rfl) trivial (pu_move rfl) ?_
          refine Rg.pu 6 rfl rfl (by kernel_rfl) trivial (pu_move rfl) ?_
          refine Rg.pu 7 rfl rfl (by kernel_rfl) trivial (pu_ia se_25 rfl rfl (by omega) (by omega)) ?_
          refine Rg.rd 8 rfl rfl (by kernel_rfl) trivial (rd_lda ag_34 rfl (Rdc.el0 (SlH.own (xs := orV [A, B]) (E := 34) (c := c2) (by repeat constructor)) hu rfl rfl) rfl) ?_
          refine Rg.one (by kernel_rfl) (Stp.ac 9 rfl rfl (by kernel_rfl) trivial (as_call (before4_spec v u) (by repeat constructor) (by repeat constructor))  ?_)
          rintro _ _ ⟨_, ⟨rfl, rfl⟩, rfl⟩
          rw [hb]
          refine Rg.pu 10 rfl rfl (by kernel_rfl) trivial (pu_not rfl) ?_
          refine Rg.end (by kernel_rfl) ?_
          refine Gs.then_n ?_
          refine Gs.cond_ff rfl rfl ?_
          refine Gs.skip ?_
          refine Gs.blk_n ?_
          refine Gs.then_n ?_
          refine Gs.reg ?_
          refine Go.Sl.L.pu rfl rfl trivial (pu_move rfl) ?_
          refine Go.Sl.L.pu rfl rfl trivial (by first | exact pu_addI rfl rfl rfl (by omega) (by omega) | exact pu_add rfl rfl) ?_
          refine Go.Sl.L.pu rfl rfl trivial (pu_assign rfl) ?_
          refine Go.Sl.L.nil ?_
          refine Gs.then_n ?_
          exact Gs.again1 (i + 1) ⟨by omega, .inl hlt⟩ (by omega) (by repeat constructor) (by repeat constructor)
        · skip
          refine Gs.exit ?_
          refine Gs.then_x ?_
          refine Gs.then_x ?_
          refine Gs.blk_hit ?_
          refine Gs.then_n ?_
          refine Gs.seq ?_
          refine Gs.reg ?_
          refine Go.Sl.L.pu rfl rfl trivial (pu_move rfl) ?_
          refine Go.Sl.L.ac rfl rfl trivial (ac_lit encC_30 ([A]) et_22 ek_30 rfl (by repeat constructor) rfl rfl (by decide)) ?_
          rintro _ _ ⟨a126, rfl, rfl⟩
          refine Go.Sl.L.ac rfl rfl trivial (as_call (phrase_l h1A (by show 1 ≤ 900; decide) (w := a126)) (by repeat constructor) (by repeat constructor)) ?_
          rintro _ _ ⟨_, ⟨ab, cb, rfl, rfl⟩, rfl⟩
          rw [phrase1 hA hw]
          refine Go.Sl.L.pu rfl rfl trivial (pu_move rfl) ?_
          refine Go.Sl.L.ac rfl rfl trivial (as_call (same_c (a := ab) (b := a3) (c := cb) (d := c3) (xs := orV [A]) (by omega)) (by repeat constructor) (by repeat constructor)) ?_
          rintro _ _ ⟨_, ⟨rfl, rfl⟩, rfl⟩
          refine Go.Sl.L.puBt rfl rfl trivial (pu_move rfl) rfl ?_
          refine Go.Sl.L.ac rfl rfl ⟨_, rfl, rfl⟩ (as_call (awake_spec) (by repeat constructor) (by repeat constructor)) ?_
          rintro _ _ ⟨_, ⟨rfl, rfl⟩, rfl⟩
          refine Go.Sl.L.pu rfl rfl trivial (by first | exact pu_pick_t rfl rfl | exact pu_pick_f rfl rfl) ?_
          refine Go.Sl.L.pu rfl rfl trivial (pu_assign rfl) ?_
          refine Go.Sl.L.nil ?_
          refine Gs.then_n ?_
          refine Gs.ret ?_
          exact Gs.fin1 Try.results5 rfl _ (⟨rfl, rfl⟩) (by repeat constructor)
theorem postThree_spec {S : HProp} {A B C : SlV PostV} (hA0 : PR0 S A.a A.xs) (hB0 : PR0 S B.a B.xs) (hC0 : PR0 S C.a C.xs) :
    Ct Try.prog 7 [.slice A.a A.xs.length A.c, .slice B.a B.xs.length B.c, .slice C.a C.xs.length C.c] [S] (fun v hs => v = .bool true ∧ hs = [S]) := by
  have hPR : ∀ l ∈ [A, B, C], PR0 S l.a l.xs := by intro l hl; simp only [List.mem_cons, List.not_mem_nil, or_false] at hl; rcases hl with rfl | rfl | rfl <;> assumption
  refine Ct.intro Try.func7 rfl (by kernel_rfl) 137 Try.ntmps7 (Nat.le_of_ble_eq_true rfl) fun w0 R => ?_
  refine Gs.seq ?_
  refine Gs.reg ?_
  refine Go.Sl.L.pu rfl rfl trivial (pu_assign rfl) ?_
  refine Go.Sl.L.nil ?_
  refine Gs.then_n ?_
  refine Gs.seq ?_
  refine Gs.seq ?_
  refine Gs.reg ?_
  refine Go.Sl.L.pu rfl rfl trivial (pu_move rfl) ?_
  refine Go.Sl.L.pu rfl rfl trivial (pu_move rfl) ?_
  refine Go.Sl.L.pu rfl rfl trivial (pu_move rfl) ?_
  refine Go.Sl.L.ac rfl rfl trivial (ac_lit encC_30 ([A, B, C]) et_22 ek_30 rfl (by repeat constructor) rfl rfl (by decide)) ?_
  rintro _ _ ⟨a15, rfl, rfl⟩
  refine Go.Sl.L.ac rfl rfl trivial (as_call (great_l (ls := [A, B, C]) (most := 3) (w := a15) hPR (by show 3 ≤ maxLen; decide) (by decide)) (by repeat constructor) (by repeat constructor)) ?_
  rintro _ _ ⟨_, ⟨⟨g, rfl, hg⟩, rfl⟩, rfl⟩
  refine Go.Sl.L.puB rfl rfl trivial (pu_move rfl) (fun hg5 => ?_) (fun hg5 => ?_)
  · skip
    refine Go.Sl.L.off rfl rfl rfl rfl rfl rfl ?_
    refine Go.Sl.L.off rfl rfl rfl rfl rfl rfl ?_
    refine Go.Sl.L.off rfl rfl rfl rfl rfl rfl ?_
    refine Go.Sl.L.pu rfl rfl trivial (by first | exact pu_pick_t rfl rfl | exact pu_pick_f rfl rfl) ?_
    refine Go.Sl.L.pu rfl rfl trivial (pu_move rfl) ?_
    refine Go.Sl.L.off rfl rfl rfl rfl rfl rfl ?_
    refine Go.Sl.L.off rfl rfl rfl rfl rfl rfl ?_
    refine Go.Sl.L.off rfl rfl rfl rfl rfl rfl ?_
    refine Go.Sl.L.pu rfl rfl trivial (by first | exact pu_pick_t rfl rfl | exact pu_pick_f rfl rfl) ?_
    refine Go.Sl.L.pu rfl rfl trivial (pu_move rfl) ?_
    refine Go.Sl.L.off rfl rfl rfl rfl rfl rfl ?_
    refine Go.Sl.L.off rfl rfl rfl rfl rfl rfl ?_
    refine Go.Sl.L.off rfl rfl rfl rfl rfl rfl ?_
    refine Go.Sl.L.pu rfl rfl trivial (by first | exact pu_pick_t rfl rfl | exact pu_pick_f rfl rfl) ?_
    refine Go.Sl.L.nil ?_
    refine Gs.then_n ?_
    refine Gs.cond_t rfl ?_
    refine Gs.seq ?_
    refine Gs.reg ?_
    refine Go.Sl.L.ac rfl rfl trivial (as_call (awake_spec) (by repeat constructor) (by repeat constructor)) ?_
    rintro _ _ ⟨_, ⟨rfl, rfl⟩, rfl⟩
    refine Go.Sl.L.pu rfl rfl trivial (pu_assign rfl) ?_
    refine Go.Sl.L.nil ?_
    refine Gs.then_n ?_
    refine Gs.ret ?_
    refine Gs.then_r ?_
    exact Gs.fin1 Try.results7 rfl _ (⟨rfl, rfl⟩) (by repeat constructor)
  · skip
    have hsm := hg hg5
    have sA := hsm.2 A (by simp)
    have sB := hsm.2 B (by simp)
    have sC := hsm.2 C (by simp)
    have rA : PRd S A.a A.xs ∧ A.xs.length ≤ 1000 := ⟨hA0.prd sA.2, by omega⟩
    have rB : PRd S B.a B.xs ∧ B.xs.length ≤ 1000 := ⟨hB0.prd sB.2, by omega⟩
    have rC : PRd S C.a C.xs ∧ C.xs.length ≤ 1000 := ⟨hC0.prd sC.2, by omega⟩
    refine Go.Sl.L.pu rfl rfl ⟨_, rfl, rfl⟩ (pu_move rfl) ?_
    refine Go.Sl.L.ac rfl rfl ⟨_, rfl, rfl⟩ (as_call (may_spec rA.1 rA.2) (by repeat constructor) (by repeat constructor)) ?_
    rintro _ _ ⟨_, ⟨rfl, rfl⟩, rfl⟩
    refine Go.Sl.L.pu rfl rfl ⟨_, rfl, rfl⟩ (pu_not rfl) ?_
    refine Go.Sl.L.pu rfl rfl trivial (by first | exact pu_pick_t rfl rfl | exact pu_pick_f rfl rfl) ?_
    refine Go.Sl.L.puB rfl rfl trivial (pu_move rfl) (fun hg10 => ?_) (fun hg10 => ?_)
    · skip
      refine Go.Sl.L.off rfl rfl rfl rfl rfl rfl ?_
      refine Go.Sl.L.off rfl rfl rfl rfl rfl rfl ?_
      refine Go.Sl.L.off rfl rfl rfl rfl rfl rfl ?_
      refine Go.Sl.L.pu rfl rfl trivial (by first | exact pu_pick_t rfl rfl | exact pu_pick_f rfl rfl) ?_
      refine Go.Sl.L.pu rfl rfl trivial (pu_move rfl) ?_
      refine Go.Sl.L.off rfl rfl rfl rfl rfl rfl ?_
      refine Go.Sl.L.off rfl rfl rfl rfl rfl rfl ?_
      refine Go.Sl.L.off rfl rfl rfl rfl rfl rfl ?_
      refine Go.Sl.L.pu rfl rfl trivial (by first | exact pu_pick_t rfl rfl | exact pu_pick_f rfl rfl) ?_
      refine Go.Sl.L.nil ?_
      refine Gs.then_n ?_
      refine Gs.cond_t rfl ?_
      refine Gs.seq ?_
      refine Gs.reg ?_
      refine Go.Sl.L.ac rfl rfl trivial (as_call (awake_spec) (by repeat constructor) (by repeat constructor)) ?_
      rintro _ _ ⟨_, ⟨rfl, rfl⟩, rfl⟩
      refine Go.Sl.L.pu rfl rfl trivial (pu_assign rfl) ?_
      refine Go.Sl.L.nil ?_
      refine Gs.then_n ?_
      refine Gs.ret ?_
      refine Gs.then_r ?_
      exact Gs.fin1 Try.results7 rfl _ (⟨rfl, rfl⟩) (by repeat constructor)
    · skip
      refine Go.Sl.L.pu rfl rfl ⟨_, rfl, rfl⟩ (pu_move rfl) ?_
      refine Go.Sl.L.ac rfl rfl ⟨_, rfl, rfl⟩ (as_call (may_spec rB.1 rB.2) (by repeat constructor) (by repeat constructor)) ?_
      rintro _ _ ⟨_, ⟨rfl, rfl⟩, rfl⟩
      refine Go.Sl.L.pu rfl rfl ⟨_, rfl, rfl⟩ (pu_not rfl) ?_
      refine Go.Sl.L.pu rfl rfl trivial (by first | exact pu_pick_t rfl rfl | exact pu_pick_f rfl rfl) ?_
      refine Go.Sl.L.puB rfl rfl trivial (pu_move rfl) (fun hg15 => ?_) (fun hg15 => ?_)
      · skip
        refine Go.Sl.L.off rfl rfl rfl rfl rfl rfl ?_
        refine Go.Sl.L.off rfl rfl rfl rfl rfl rfl ?_
        refine Go.Sl.L.off rfl rfl rfl rfl rfl rfl ?_
        refine Go.Sl.L.pu rfl rfl trivial (by first | exact pu_pick_t rfl rfl | exact pu_pick_f rfl rfl) ?_
        refine Go.Sl.L.nil ?_
        refine Gs.then_n ?_
        refine Gs.cond_t rfl ?_
        refine Gs.seq ?_
        refine Gs.reg ?_
        refine Go.Sl.L.ac rfl rfl trivial (as_call (awake_spec) (by repeat constructor) (by repeat constructor)) ?_
        rintro _ _ ⟨_, ⟨rfl, rfl⟩, rfl⟩
        refine Go.Sl.L.pu rfl rfl trivial (pu_assign rfl) ?_
        refine Go.Sl.L.nil ?_
        refine Gs.then_n ?_
        refine Gs.ret ?_
        refine Gs.then_r ?_
        exact Gs.fin1 Try.results7 rfl _ (⟨rfl, rfl⟩) (by repeat constructor)
      · skip
        refine Go.Sl.L.pu rfl rfl ⟨_, rfl, rfl⟩ (pu_move rfl) ?_
        refine Go.Sl.L.ac rfl rfl ⟨_, rfl, rfl⟩ (as_call (may_spec rC.1 rC.2) (by repeat constructor) (by repeat constructor)) ?_
        rintro _ _ ⟨_, ⟨rfl, rfl⟩, rfl⟩
        refine Go.Sl.L.pu rfl rfl ⟨_, rfl, rfl⟩ (pu_not rfl) ?_
        refine Go.Sl.L.pu rfl rfl trivial (by first | exact pu_pick_t rfl rfl | exact pu_pick_f rfl rfl) ?_
        refine Go.Sl.L.nil ?_
        refine Gs.then_n ?_
        refine Gs.cond rfl (fun hc0 => ?_) (fun hc0 => ?_)
        · skip
          refine Gs.seq ?_
          refine Gs.reg ?_
          refine Go.Sl.L.ac rfl rfl trivial (as_call (awake_spec) (by repeat constructor) (by repeat constructor)) ?_
          rintro _ _ ⟨_, ⟨rfl, rfl⟩, rfl⟩
          refine Go.Sl.L.pu rfl rfl trivial (pu_assign rfl) ?_
          refine Go.Sl.L.nil ?_
          refine Gs.then_n ?_
          refine Gs.ret ?_
          refine Gs.then_r ?_
          exact Gs.fin1 Try.results7 rfl _ (⟨rfl, rfl⟩) (by repeat constructor)
        · skip
          have hA : May1 A := not_f hg10
          have hB : May1 B := not_f hg15
          have hC : May1 C := not_f hc0
          have h3 : ∀ l ∈ [A, B, C], PRd S l.a l.xs ∧ l.xs.length ≤ 1000 := by intro l hl; simp only [List.mem_cons, List.not_mem_nil, or_false] at hl; rcases hl with rfl | rfl | rfl <;> assumption
          have hab : ∀ l ∈ [A, B], PRd S l.a l.xs ∧ l.xs.length ≤ 1000 := by intro l hl; simp only [List.mem_cons, List.not_mem_nil, or_false] at hl; rcases hl with rfl | rfl <;> assumption
          have hbc : ∀ l ∈ [B, C], PRd S l.a l.xs ∧ l.xs.length ≤ 1000 := by intro l hl; simp only [List.mem_cons, List.not_mem_nil, or_false] at hl; rcases hl with rfl | rfl <;> assumption
          have h1C : ∀ l ∈ [C], PRd S l.a l.xs ∧ l.xs.length ≤ 1000 := by intro l hl; simp only [List.mem_cons, List.not_mem_nil, or_false] at hl; rcases hl with rfl; assumption
          have kl3 : (keysL [A, B, C]).length = A.xs.length + (B.xs.length + C.xs.length) := by simp [keysL]
          have kl : ∀ l m : SlV PostV, (keysL [l, m]).length = l.xs.length + m.xs.length := fun l m => by simp [keysL]
          have kl1 : ∀ l : SlV PostV, (keysL [l]).length = l.xs.length := fun l => by simp [keysL]
          have o3 := orV_le [A, B, C]
          have o2 := orV_le [A, B]
          have oC := orV_le [C]
          rw [kl3] at o3
          rw [kl] at o2
          rw [kl1] at oC
          have s2 : Small [A, B] 2 := ⟨Nat.le_refl _, fun l hl => hsm.2 l (by simp at hl ⊢; rcases hl with rfl | rfl <;> simp)⟩
          have s2' : Small [B, C] 2 := ⟨Nat.le_refl _, fun l hl => hsm.2 l (by simp at hl ⊢; rcases hl with rfl | rfl <;> simp)⟩
          have a3l := andV_le hsm
          have p3l := phraseV_le hsm
          have a2l := andV_le s2
          have b2l := andV_le s2'
          have p2l := phraseV_le s2
          have q2l := phraseV_le s2'
          have e3 := three_len hA hB hC
          have l2 := less_le (andV [A, B]) (orV [C])
          have l3 := less_le (orV [A, B, C]) (orV [A, B])
          have l4 := less_le (orV [C]) (orV [A, B])
          have e5 := congrArg List.length (three_less hA hB hC)
          have hsub : ∀ k ∈ orV [A, B], k ∈ orV [A, B, C] := fun k hk => (or3_mem hA hB hC).2 (((or2_mem hA hB).1 hk).imp id .inl)
          refine Gs.skip ?_
          refine Gs.then_n ?_
          refine Gs.seq ?_
          refine Gs.reg ?_
          refine Go.Sl.L.pu rfl rfl trivial (pu_move rfl) ?_
          refine Go.Sl.L.pu rfl rfl trivial (pu_move rfl) ?_
          refine Go.Sl.L.pu rfl rfl trivial (pu_move rfl) ?_
          refine Go.Sl.L.ac rfl rfl trivial (ac_lit encC_30 ([A, B, C]) et_22 ek_30 rfl (by repeat constructor) rfl rfl (by decide)) ?_
          rintro _ _ ⟨a36, rfl, rfl⟩
          refine Go.Sl.L.ac rfl rfl trivial (as_call (and_l h3 (by show 3 ≤ 900; decide) (w := a36)) (by repeat constructor) (by repeat constructor)) ?_
          rintro _ _ ⟨_, ⟨a1, c1, rfl, rfl⟩, rfl⟩
          refine Go.Sl.L.pu rfl rfl trivial (pu_move rfl) ?_
          refine Go.Sl.L.pu rfl rfl trivial (pu_move rfl) ?_
          refine Go.Sl.L.pu rfl rfl trivial (pu_move rfl) ?_
          refine Go.Sl.L.ac rfl rfl trivial (ac_lit encC_30 ([A, B, C]) et_22 ek_30 rfl (by repeat constructor) rfl rfl (by decide)) ?_
          rintro _ _ ⟨a41, rfl, rfl⟩
          refine Go.Sl.L.ac rfl rfl trivial (as_call (or_l h3 (by show 3 ≤ 900; decide) (by rw [kl3]; omega) (w := a41)) (by repeat constructor) (by repeat constructor)) ?_
          rintro _ _ ⟨_, ⟨a2, c2, rfl, rfl⟩, rfl⟩
          refine Go.Sl.L.pu rfl rfl trivial (pu_move rfl) ?_
          refine Go.Sl.L.pu rfl rfl trivial (pu_move rfl) ?_
          refine Go.Sl.L.pu rfl rfl trivial (pu_move rfl) ?_
          refine Go.Sl.L.ac rfl rfl trivial (ac_lit encC_30 ([A, B, C]) et_22 ek_30 rfl (by repeat constructor) rfl rfl (by decide)) ?_
          rintro _ _ ⟨a46, rfl, rfl⟩
          refine Go.Sl.L.ac rfl rfl trivial (as_call (phrase_l h3 (by show 3 ≤ 900; decide) (w := a46)) (by repeat constructor) (by repeat constructor)) ?_
          rintro _ _ ⟨_, ⟨a3, c3, rfl, rfl⟩, rfl⟩
          refine Go.Sl.L.pu rfl rfl trivial (pu_assign rfl) ?_
          refine Go.Sl.L.pu rfl rfl trivial (pu_assign rfl) ?_
          refine Go.Sl.L.pu rfl rfl trivial (pu_assign rfl) ?_
          refine Go.Sl.L.nil ?_
          refine Gs.then_n ?_
          refine Gs.seq ?_
          refine Gs.reg ?_
          refine Go.Sl.L.pu rfl rfl trivial (pu_move rfl) ?_
          refine Go.Sl.L.pu rfl rfl trivial (pu_move rfl) ?_
          refine Go.Sl.L.ac rfl rfl trivial (ac_lit encC_30 ([A, B]) et_22 ek_30 rfl (by repeat constructor) rfl rfl (by decide)) ?_
          rintro _ _ ⟨a50, rfl, rfl⟩
          refine Go.Sl.L.ac rfl rfl trivial (as_call (and_l hab (by show 2 ≤ 900; decide) (w := a50)) (by repeat constructor) (by repeat constructor)) ?_
          rintro _ _ ⟨_, ⟨a4, c4, rfl, rfl⟩, rfl⟩
          refine Go.Sl.L.pu rfl rfl trivial (pu_move rfl) ?_
          refine Go.Sl.L.pu rfl rfl trivial (pu_move rfl) ?_
          refine Go.Sl.L.ac rfl rfl trivial (ac_lit encC_30 ([B, C]) et_22 ek_30 rfl (by repeat constructor) rfl rfl (by decide)) ?_
          rintro _ _ ⟨a54, rfl, rfl⟩
          refine Go.Sl.L.ac rfl rfl trivial (as_call (and_l hbc (by show 2 ≤ 900; decide) (w := a54)) (by repeat constructor) (by repeat constructor)) ?_
          rintro _ _ ⟨_, ⟨a5, c5, rfl, rfl⟩, rfl⟩
          refine Go.Sl.L.pu rfl rfl trivial (pu_assign rfl) ?_
          refine Go.Sl.L.pu rfl rfl trivial (pu_assign rfl) ?_
          refine Go.Sl.L.nil ?_
          refine Gs.then_n ?_
          refine Gs.seq ?_
          refine Gs.seq ?_
          refine Gs.reg ?_
          refine Go.Sl.L.pu rfl rfl trivial (pu_move rfl) ?_
          refine Go.Sl.L.pu rfl rfl trivial (pu_move rfl) ?_
          refine Go.Sl.L.ac rfl rfl trivial (as_call (less_nil (a := a1) (b := a4) (c := c1) (d := c4) (xs := andV [A, B, C]) (ys := andV [A, B]) (fun k hk => (and2_mem hA hB).2 (by have := (and3_mem hA hB hC).1 hk; exact ⟨this.1, this.2.1⟩)) (by omega) (by omega)) (by repeat constructor) (by repeat constructor)) ?_
          rintro _ _ ⟨_, ⟨a6, c6, rfl, rfl⟩, rfl⟩
          refine Go.Sl.L.pu rfl rfl trivial (pu_len Try.underlying25 rfl) ?_
          refine Go.Sl.L.pu rfl rfl trivial (pu_ne rfl rfl) ?_
          refine Go.Sl.L.puBf rfl rfl trivial (pu_move rfl) rfl ?_
          refine Go.Sl.L.pu rfl rfl ⟨_, rfl, rfl⟩ (pu_move rfl) ?_
          refine Go.Sl.L.pu rfl rfl ⟨_, rfl, rfl⟩ (pu_move rfl) ?_
          refine Go.Sl.L.ac rfl rfl ⟨_, rfl, rfl⟩ (as_call (less_nil (a := a1) (b := a5) (c := c1) (d := c5) (xs := andV [A, B, C]) (ys := andV [B, C]) (fun k hk => (and2_mem hB hC).2 ((and3_mem hA hB hC).1 hk).2) (by omega) (by omega)) (by repeat constructor) (by repeat constructor)) ?_
          rintro _ _ ⟨_, ⟨a7, c7, rfl, rfl⟩, rfl⟩
          refine Go.Sl.L.pu rfl rfl ⟨_, rfl, rfl⟩ (pu_len Try.underlying25 rfl) ?_
          refine Go.Sl.L.pu rfl rfl ⟨_, rfl, rfl⟩ (pu_ne rfl rfl) ?_
          refine Go.Sl.L.pu rfl rfl trivial (by first | exact pu_pick_t rfl rfl | exact pu_pick_f rfl rfl) ?_
          refine Go.Sl.L.puBf rfl rfl trivial (pu_move rfl) rfl ?_
          refine Go.Sl.L.pu rfl rfl ⟨_, rfl, rfl⟩ (pu_move rfl) ?_
          refine Go.Sl.L.pu rfl rfl ⟨_, rfl, rfl⟩ (pu_len Try.underlying25 rfl) ?_
          refine Go.Sl.L.pu rfl rfl ⟨_, rfl, rfl⟩ (pu_move rfl) ?_
          refine Go.Sl.L.pu rfl rfl ⟨_, rfl, rfl⟩ (pu_len Try.underlying25 rfl) ?_
          refine Go.Sl.L.pu rfl rfl ⟨_, rfl, rfl⟩ (pu_move rfl) ?_
          refine Go.Sl.L.pu rfl rfl ⟨_, rfl, rfl⟩ (pu_move rfl) ?_
          refine Go.Sl.L.ac rfl rfl ⟨_, rfl, rfl⟩ (ac_lit encC_30 ([C]) et_22 ek_30 rfl (by repeat constructor) rfl rfl (by decide)) ?_
          rintro _ _ ⟨a75, rfl, rfl⟩
          refine Go.Sl.L.ac rfl rfl ⟨_, rfl, rfl⟩ (as_call (or_l h1C (by show 1 ≤ 900; decide) (by rw [kl1]; omega) (w := a75)) (by repeat constructor) (by repeat constructor)) ?_
          rintro _ _ ⟨_, ⟨a8, c8, rfl, rfl⟩, rfl⟩
          refine Go.Sl.L.ac rfl rfl ⟨_, rfl, rfl⟩ (as_call (less_l (a := a4) (b := a8) (c := c4) (d := c8) (xs := andV [A, B]) (ys := orV [C]) (by omega) (by omega)) (by repeat constructor) (by repeat constructor)) ?_
          rintro _ _ ⟨_, ⟨a9, c9, rfl, rfl⟩, rfl⟩
          refine Go.Sl.L.pu rfl rfl ⟨_, rfl, rfl⟩ (pu_len Try.underlying25 rfl) ?_
          refine Go.Sl.L.pu rfl rfl ⟨_, rfl, rfl⟩ (by first | exact pu_subI rfl rfl rfl (by omega) (by omega) | exact pu_sub rfl rfl) ?_
          refine Go.Sl.L.pu rfl rfl ⟨_, rfl, rfl⟩ (pu_ne rfl rfl) ?_
          refine Go.Sl.L.pu rfl rfl trivial (by first | exact pu_pick_t rfl rfl | exact pu_pick_f rfl rfl) ?_
          refine Go.Sl.L.nil ?_
          refine Gs.then_n ?_
          refine Gs.cond_ff rfl (decide_eq_false (by omega)) ?_
          refine Gs.skip ?_
          refine Gs.then_n ?_
          refine Gs.seq ?_
          refine Gs.seq ?_
          refine Gs.reg ?_
          refine Go.Sl.L.pu rfl rfl trivial (pu_move rfl) ?_
          refine Go.Sl.L.pu rfl rfl trivial (pu_move rfl) ?_
          refine Go.Sl.L.ac rfl rfl trivial (ac_lit encC_30 ([A, B]) et_22 ek_30 rfl (by repeat constructor) rfl rfl (by decide)) ?_
          rintro _ _ ⟨a84, rfl, rfl⟩
          refine Go.Sl.L.ac rfl rfl trivial (as_call (or_l hab (by show 2 ≤ 900; decide) (by rw [kl]; omega) (w := a84)) (by repeat constructor) (by repeat constructor)) ?_
          rintro _ _ ⟨_, ⟨ba, bc, rfl, rfl⟩, rfl⟩
          refine Go.Sl.L.pu rfl rfl trivial (pu_move rfl) ?_
          refine Go.Sl.L.ac rfl rfl trivial (as_call (less_nil (a := ba) (b := a2) (c := bc) (d := c2) (xs := orV [A, B]) (ys := orV [A, B, C]) hsub (by omega) (by omega)) (by repeat constructor) (by repeat constructor)) ?_
          rintro _ _ ⟨_, ⟨da, dc, rfl, rfl⟩, rfl⟩
          refine Go.Sl.L.pu rfl rfl trivial (pu_len Try.underlying25 rfl) ?_
          refine Go.Sl.L.pu rfl rfl trivial (pu_ne rfl rfl) ?_
          refine Go.Sl.L.puBf rfl rfl trivial (pu_move rfl) rfl ?_
          refine Go.Sl.L.pu rfl rfl ⟨_, rfl, rfl⟩ (pu_move rfl) ?_
          refine Go.Sl.L.pu rfl rfl ⟨_, rfl, rfl⟩ (pu_move rfl) ?_
          refine Go.Sl.L.pu rfl rfl ⟨_, rfl, rfl⟩ (pu_move rfl) ?_
          refine Go.Sl.L.ac rfl rfl ⟨_, rfl, rfl⟩ (ac_lit encC_30 ([A, B]) et_22 ek_30 rfl (by repeat constructor) rfl rfl (by decide)) ?_
          rintro _ _ ⟨a94, rfl, rfl⟩
          refine Go.Sl.L.ac rfl rfl ⟨_, rfl, rfl⟩ (as_call (or_l hab (by show 2 ≤ 900; decide) (by rw [kl]; omega) (w := a94)) (by repeat constructor) (by repeat constructor)) ?_
          rintro _ _ ⟨_, ⟨ea, ec, rfl, rfl⟩, rfl⟩
          refine Go.Sl.L.ac rfl rfl ⟨_, rfl, rfl⟩ (as_call (less_l (a := a2) (b := ea) (c := c2) (d := ec) (xs := orV [A, B, C]) (ys := orV [A, B]) (by omega) (by omega)) (by repeat constructor) (by repeat constructor)) ?_
          rintro _ _ ⟨_, ⟨fa, fc, rfl, rfl⟩, rfl⟩
          refine Go.Sl.L.pu rfl rfl ⟨_, rfl, rfl⟩ (pu_len Try.underlying25 rfl) ?_
          refine Go.Sl.L.pu rfl rfl ⟨_, rfl, rfl⟩ (pu_move rfl) ?_
          refine Go.Sl.L.ac rfl rfl ⟨_, rfl, rfl⟩ (ac_lit encC_30 ([C]) et_22 ek_30 rfl (by repeat constructor) rfl rfl (by decide)) ?_
          rintro _ _ ⟨a99, rfl, rfl⟩
          refine Go.Sl.L.ac rfl rfl ⟨_, rfl, rfl⟩ (as_call (or_l h1C (by show 1 ≤ 900; decide) (by rw [kl1]; omega) (w := a99)) (by repeat constructor) (by repeat constructor)) ?_
          rintro _ _ ⟨_, ⟨ga, gc, rfl, rfl⟩, rfl⟩
          refine Go.Sl.L.pu rfl rfl ⟨_, rfl, rfl⟩ (pu_move rfl) ?_
          refine Go.Sl.L.pu rfl rfl ⟨_, rfl, rfl⟩ (pu_move rfl) ?_
          refine Go.Sl.L.ac rfl rfl ⟨_, rfl, rfl⟩ (ac_lit encC_30 ([A, B]) et_22 ek_30 rfl (by repeat constructor) rfl rfl (by decide)) ?_
          rintro _ _ ⟨a103, rfl, rfl⟩
          refine Go.Sl.L.ac rfl rfl ⟨_, rfl, rfl⟩ (as_call (or_l hab (by show 2 ≤ 900; decide) (by rw [kl]; omega) (w := a103)) (by repeat constructor) (by repeat constructor)) ?_
          rintro _ _ ⟨_, ⟨ia, ic, rfl, rfl⟩, rfl⟩
          refine Go.Sl.L.ac rfl rfl ⟨_, rfl, rfl⟩ (as_call (less_l (a := ga) (b := ia) (c := gc) (d := ic) (xs := orV [C]) (ys := orV [A, B]) (by omega) (by omega)) (by repeat constructor) (by repeat constructor)) ?_
          rintro _ _ ⟨_, ⟨ja, jc, rfl, rfl⟩, rfl⟩
          refine Go.Sl.L.pu rfl rfl ⟨_, rfl, rfl⟩ (pu_len Try.underlying25 rfl) ?_
          refine Go.Sl.L.pu rfl rfl ⟨_, rfl, rfl⟩ (pu_ne rfl rfl) ?_
          refine Go.Sl.L.pu rfl rfl trivial (by first | exact pu_pick_t rfl rfl | exact pu_pick_f rfl rfl) ?_
          refine Go.Sl.L.nil ?_
          refine Gs.then_n ?_
          refine Gs.cond_ff rfl (decide_eq_false (by omega)) ?_
          refine Gs.skip ?_
          refine Gs.then_n ?_
          refine Gs.seq ?_
          refine Gs.reg ?_
          refine Go.Sl.L.pu rfl rfl trivial (pu_move rfl) ?_
          refine Go.Sl.L.pu rfl rfl trivial (pu_move rfl) ?_
          refine Go.Sl.L.pu rfl rfl trivial (pu_move rfl) ?_
          refine Go.Sl.L.ac rfl rfl trivial (ac_lit encC_30 ([A, B]) et_22 ek_30 rfl (by repeat constructor) rfl rfl (by decide)) ?_
          rintro _ _ ⟨a112, rfl, rfl⟩
          refine Go.Sl.L.ac rfl rfl trivial (as_call (phrase_l hab (by show 2 ≤ 900; decide) (w := a112)) (by repeat constructor) (by repeat constructor)) ?_
          rintro _ _ ⟨_, ⟨ka, kc, rfl, rfl⟩, rfl⟩
          refine Go.Sl.L.ac rfl rfl trivial (as_call (less_nil (a := a3) (b := ka) (c := c3) (d := kc) (xs := phraseV [A, B, C]) (ys := phraseV [A, B]) (fun k hk => (phrase3 hA hB hC hk).1) (by omega) (by omega)) (by repeat constructor) (by repeat constructor)) ?_
          rintro _ _ ⟨_, ⟨la, lc, rfl, rfl⟩, rfl⟩
          refine Go.Sl.L.pu rfl rfl trivial (pu_len Try.underlying25 rfl) ?_
          refine Go.Sl.L.pu rfl rfl trivial (pu_eq rfl rfl) ?_
          refine Go.Sl.L.puBt rfl rfl trivial (pu_move rfl) rfl ?_
          refine Go.Sl.L.pu rfl rfl ⟨_, rfl, rfl⟩ (pu_move rfl) ?_
          refine Go.Sl.L.pu rfl rfl ⟨_, rfl, rfl⟩ (pu_move rfl) ?_
          refine Go.Sl.L.pu rfl rfl ⟨_, rfl, rfl⟩ (pu_move rfl) ?_
          refine Go.Sl.L.ac rfl rfl ⟨_, rfl, rfl⟩ (ac_lit encC_30 ([B, C]) et_22 ek_30 rfl (by repeat constructor) rfl rfl (by decide)) ?_
          rintro _ _ ⟨a121, rfl, rfl⟩
          refine Go.Sl.L.ac rfl rfl ⟨_, rfl, rfl⟩ (as_call (phrase_l hbc (by show 2 ≤ 900; decide) (w := a121)) (by repeat constructor) (by repeat constructor)) ?_
          rintro _ _ ⟨_, ⟨ma, mc, rfl, rfl⟩, rfl⟩
          refine Go.Sl.L.ac rfl rfl ⟨_, rfl, rfl⟩ (as_call (less_nil (a := a3) (b := ma) (c := c3) (d := mc) (xs := phraseV [A, B, C]) (ys := phraseV [B, C]) (fun k hk => (phrase3 hA hB hC hk).2) (by omega) (by omega)) (by repeat constructor) (by repeat constructor)) ?_
          rintro _ _ ⟨_, ⟨na, nc, rfl, rfl⟩, rfl⟩
          refine Go.Sl.L.pu rfl rfl ⟨_, rfl, rfl⟩ (pu_len Try.underlying25 rfl) ?_
          refine Go.Sl.L.pu rfl rfl ⟨_, rfl, rfl⟩ (pu_eq rfl rfl) ?_
          refine Go.Sl.L.pu rfl rfl trivial (by first | exact pu_pick_t rfl rfl | exact pu_pick_f rfl rfl) ?_
          refine Go.Sl.L.puBt rfl rfl trivial (pu_move rfl) rfl ?_
          refine Go.Sl.L.pu rfl rfl ⟨_, rfl, rfl⟩ (pu_move rfl) ?_
          refine Go.Sl.L.pu rfl rfl ⟨_, rfl, rfl⟩ (pu_move rfl) ?_
          refine Go.Sl.L.ac rfl rfl ⟨_, rfl, rfl⟩ (as_call (less_nil (a := a3) (b := a1) (c := c3) (d := c1) (xs := phraseV [A, B, C]) (ys := andV [A, B, C]) (fun k hk => phraseV_sub hk) (by omega) (by omega)) (by repeat constructor) (by repeat constructor)) ?_
          rintro _ _ ⟨_, ⟨oa, oc, rfl, rfl⟩, rfl⟩
          refine Go.Sl.L.pu rfl rfl ⟨_, rfl, rfl⟩ (pu_len Try.underlying25 rfl) ?_
          refine Go.Sl.L.pu rfl rfl ⟨_, rfl, rfl⟩ (pu_eq rfl rfl) ?_
          refine Go.Sl.L.pu rfl rfl trivial (by first | exact pu_pick_t rfl rfl | exact pu_pick_f rfl rfl) ?_
          refine Go.Sl.L.puBt rfl rfl trivial (pu_move rfl) rfl ?_
          refine Go.Sl.L.ac rfl rfl ⟨_, rfl, rfl⟩ (as_call (awake_spec) (by repeat constructor) (by repeat constructor)) ?_
          rintro _ _ ⟨_, ⟨rfl, rfl⟩, rfl⟩
          refine Go.Sl.L.pu rfl rfl trivial (by first | exact pu_pick_t rfl rfl | exact pu_pick_f rfl rfl) ?_
          refine Go.Sl.L.pu rfl rfl trivial (pu_assign rfl) ?_
          refine Go.Sl.L.nil ?_
          refine Gs.then_n ?_
          refine Gs.ret ?_
          exact Gs.fin1 Try.results7 rfl _ (⟨rfl, rfl⟩) (by repeat constructor)
end Go.Proofs.Ytonilkceolbkmaa
