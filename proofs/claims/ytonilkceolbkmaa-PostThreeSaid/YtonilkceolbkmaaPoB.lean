/- Walks: odd, all, find, at, order, BinarySearchFunc, post.find. -/
import Derived.Test.YtonilkceolbkmaaPoA
namespace Go.Po
open Go Go.Sl Go.Gv
def mayAll (ls : List (List PostP)) : Bool := ls.all mayB
theorem all_take {α : Type} {p : α → Bool} {l : List α} {i : Nat} {x : α} (h : l[i]? = some x) : (l.take (i + 1)).all p = ((l.take i).all p && p x) := by
  rw [List.take_add_one, h]; simp
theorem mayFrom_asc : ∀ {q : Option Key} {l : List PostP}, mayFrom q l = true → (l.map Prod.fst).Pairwise (fun a b => before a b = true) ∧ (∀ k, q = some k → ∀ p ∈ l, before k p.1 = true) ∧ ∀ p ∈ l, risesB p.2 = true
  | _, [], _ => ⟨List.Pairwise.nil, fun _ _ _ h => (by cases h), fun _ h => (by cases h)⟩
  | q, p :: l, h => by
    simp only [mayFrom, Bool.and_eq_true] at h
    obtain ⟨h1, h2, h3⟩ := mayFrom_asc h.2.2
    refine ⟨List.pairwise_cons.2 ⟨fun k hk => ?_, h1⟩, fun k hq x hx => ?_, fun x hx => ?_⟩
    · obtain ⟨x, hx, rfl⟩ := List.mem_map.1 hk
      exact h2 _ rfl x hx
    · subst hq
      rcases List.mem_cons.1 hx with rfl | hx
      · exact h.2.1
      · exact before_trans h.2.1 (h2 _ rfl x hx)
    · rcases List.mem_cons.1 hx with rfl | hx
      · exact h.1
      · exact h3 x hx
theorem may_asc {l : List PostP} (h : mayB l = true) : (l.map Prod.fst).Pairwise (fun a b => before a b = true) := (mayFrom_asc h).1
theorem may_rises {l : List PostP} (h : mayB l = true) : ∀ p ∈ l, risesB p.2 = true := (mayFrom_asc h).2.2
def lookP (ps : List PostV) (k : Key) : Option PostV := ps.find? fun p => decide (p.k = k)
def PostV.zero : PostV := ⟨⟨0, 0⟩, ⟨none, [], 0⟩⟩
def ordZ (a k : Key) : Int := if before a k then -1 else if before k a then 1 else 0
/-- Where the first one is that does not stand ahead. -/
def cutI (ps : List PostV) (k : Key) (i : Nat) : Prop := i ≤ ps.length ∧ (∀ m x, m < i → ps[m]? = some x → before x.k k = true) ∧ ∀ m x, i ≤ m → ps[m]? = some x → before x.k k = false
theorem asc_lt {ps : List PostV} (h : ((ps.map PostV.p).map Prod.fst).Pairwise (fun a b => before a b = true)) {i j : Nat} {x y : PostV} (hij : i < j) (hx : ps[i]? = some x) (hy : ps[j]? = some y) : before x.k y.k = true := by
  obtain ⟨h1, rfl⟩ := List.getElem?_eq_some_iff.1 hx
  obtain ⟨h2, rfl⟩ := List.getElem?_eq_some_iff.1 hy
  have := List.pairwise_iff_getElem.1 h i j (by simpa using h1) (by simpa using h2) hij
  simpa [PostV.p] using this
theorem before_asymm {a b : Key} (h : before a b = true) : before b a = false := by rw [before_iff] at h; rw [before_not]; omega
theorem cut_look {ps : List PostV} {k : Key} {i : Nat} (h : cutI ps k i) (ha : ((ps.map PostV.p).map Prod.fst).Pairwise (fun a b => before a b = true)) :
    (∀ x, ps[i]? = some x → x.k = k → lookP ps k = some x) ∧ ((∀ x, ps[i]? = some x → x.k ≠ k) → lookP ps k = none) := by
  constructor
  · intro x hx hk
    unfold lookP
    rw [List.find?_eq_some_iff_append]
    obtain ⟨hl, rfl⟩ := List.getElem?_eq_some_iff.1 hx
    refine ⟨by simpa using hk, ps.take i, ps.drop (i + 1), ?_, fun y hy => ?_⟩
    · exact (List.take_append_drop i ps).symm.trans (by rw [List.drop_eq_getElem_cons hl])
    · obtain ⟨m, hm⟩ := List.mem_iff_getElem?.1 hy
      rw [List.getElem?_take] at hm
      split at hm
      · rename_i hlt
        have := h.2.1 m y hlt hm
        have hne : y.k ≠ k := fun e => by rw [e, before_irr] at this; cases this
        simpa using hne
      · cases hm
  · intro hno
    unfold lookP
    rw [List.find?_eq_none]
    intro y hy
    obtain ⟨m, hm⟩ := List.mem_iff_getElem?.1 hy
    have hne : y.k ≠ k := fun e => by
      rcases Nat.lt_or_ge m i with hlt | hge
      · have := h.2.1 m y hlt hm
        rw [e, before_irr] at this; cases this
      · rcases Nat.lt_or_eq_of_le hge with hlt | heq
        · have hl : m < ps.length := (List.getElem?_eq_some_iff.1 hm).1
          have hi : ps[i]? = some ps[i] := by simp [show i < ps.length by omega]
          have h1 := asc_lt ha hlt hi hm
          rw [e] at h1
          have h2 := h.2.2 i _ (Nat.le_refl i) hi
          rw [h2] at h1; cases h1
        · subst heq; exact hno y hm e
    simpa using hne
end Go.Po
namespace Go.Proofs.Ytonilkceolbkmaa
open Go Go.Sl Go.Gv Go.Po
set_option maxRecDepth 100000
theorem odd1_spec {S : HProp} {a : Option Addr} {c : Nat} {ps : List PostV} (hS : PRd S a ps) (hl : ps.length ≤ 1000) :
    Ct Try.prog 56 [.slice a ps.length c] [S] (fun v hs => v = .bool (!mayB (plain1 ps)) ∧ hs = [S]) := by
  refine Ct.intro Try.func56 rfl (by kernel_rfl) 6 Try.ntmps56 (Nat.le_of_ble_eq_true rfl) fun w0 R => ?_
  refine Gs.seq ?_
  refine Gs.reg ?_
  refine Go.Sl.L.pu rfl rfl trivial (pu_assign rfl) ?_
  refine Go.Sl.L.nil ?_
  refine Gs.then_n ?_
  refine Gs.seq ?_
  refine Gs.reg ?_
  refine Go.Sl.L.pu rfl rfl trivial (pu_move rfl) ?_
  refine Go.Sl.L.ac rfl rfl trivial (as_call (may_spec hS hl) (by repeat constructor) (by repeat constructor)) ?_
  rintro _ _ ⟨_, ⟨rfl, rfl⟩, rfl⟩
  refine Go.Sl.L.pu rfl rfl trivial (pu_not rfl) ?_
  refine Go.Sl.L.pu rfl rfl trivial (pu_assign rfl) ?_
  refine Go.Sl.L.nil ?_
  refine Gs.then_n ?_
  refine Gs.ret ?_
  exact Gs.fin1 Try.results56 rfl _ (⟨rfl, rfl⟩) (by repeat constructor)
theorem indexLL_spec {S : HProp} {g : FuncId} {q : SlV PostV → Bool} {a : Option Addr} {c : Nat} {ls : List (SlV PostV)} (hS : Srd S 1 slC a ls) (hg : ∀ l ∈ ls, Ct Try.prog g ([] ++ [.slice l.a l.xs.length l.c] ++ []) [S] (fun v hs => v = .bool (q l) ∧ hs = [S])) (hl : ls.length ≤ 1000) :
    Ct Try.prog 66 [.slice a ls.length c, .func (.func g) #[] #[]] [S] (fun v hs => (∃ z : Int, v = int z ∧ decide (0 ≤ z) = ls.any q) ∧ hs = [S]) := by
  refine Ct.intro Try.func66 rfl (by kernel_rfl) 19 Try.ntmps66 (Nat.le_of_ble_eq_true rfl) fun w0 R => ?_
  refine Gs.slAddr (hS.h (by repeat constructor)) fun ab ao ha => ?_
  refine Gs.seq ?_
  refine Gs.reg ?_
  refine Go.Sl.L.pu rfl rfl trivial (pu_assign rfl) ?_
  refine Go.Sl.L.nil ?_
  refine Gs.then_n ?_
  refine Gs.seq ?_
  refine Gs.seq ?_
  refine Gs.reg ?_
  refine Go.Sl.L.pu rfl rfl trivial (pu_move rfl) ?_
  refine Go.Sl.L.pu rfl rfl trivial (pu_len Try.underlying22 rfl) ?_
  refine Go.Sl.L.pu rfl rfl trivial (pu_move rfl) ?_
  refine Go.Sl.L.nil ?_
  refine Gs.then_n ?_
  refine Gs.block ?_
  refine Gs.loop1 (fun i : Nat => i ≤ ls.length ∧ (ls.take i).any q = false) (fun i => [(0, .slice a ls.length c), (1, .func (.func g) #[] #[]), (7, int ls.length), (8, int i)]) (fun i => [S] ++ R) (fun i => ls.length - i) 0 (⟨Nat.zero_le _, rfl⟩) (by repeat constructor) (by repeat constructor) (fun i ⟨hi, hq⟩ => ?_)
  refine Gs.seq ?_
  refine Gs.reg ?_
  refine Go.Sl.L.pu rfl rfl trivial (pu_lt rfl rfl) ?_
  refine Go.Sl.L.nil ?_
  refine Gs.then_n ?_
  refine Gs.seq ?_
  refine Gs.cond rfl (fun hc0 => ?_) (fun hc0 => ?_)
  · skip
    have hlt : i < ls.length := by have := of_decide_eq_true hc0; omega
    obtain ⟨x, hx⟩ : ∃ x, ls[i]? = some x := ⟨ls[i], by simp [hlt]⟩
    obtain rfl := ha (by rintro rfl; simp at hlt)
    have hm := List.mem_of_getElem? hx
    refine Gs.skip ?_
    refine Gs.then_n ?_
    refine Gs.seq ?_
    refine Gs.block ?_
    refine Gs.seq ?_
    refine Gs.reg ?_
    refine Go.Sl.L.pu rfl rfl trivial (pu_move rfl) ?_
    refine Go.Sl.L.pu rfl rfl trivial (pu_assign rfl) ?_
    refine Go.Sl.L.nil ?_
    refine Gs.then_n ?_
    refine Gs.seq ?_
    refine Gs.reg ?_
    refine Go.Sl.L.pu rfl rfl trivial (pu_move rfl) ?_
    refine Go.Sl.L.pu rfl rfl trivial (pu_move rfl) ?_
    refine Go.Sl.L.pu rfl rfl trivial (pu_move rfl) ?_
    refine Go.Sl.L.pu rfl rfl trivial (pu_ia se_22 rfl rfl (by omega) (by omega)) ?_
    refine Go.Sl.L.rd rfl rfl trivial (rd_ld na_30 rfl (Rdc.el0 (hS.h (by repeat constructor)) hx rfl rfl)) ?_
    refine Go.Sl.L.ac rfl rfl trivial (as_callV rfl (hg x hm) (by repeat constructor) (by repeat constructor)) ?_
    rintro _ _ ⟨_, ⟨rfl, rfl⟩, rfl⟩
    refine Go.Sl.L.nil ?_
    refine Gs.then_n ?_
    refine Gs.cond rfl (fun hc1 => ?_) (fun hc1 => ?_)
    · skip
      have hyes : ls.any q = true := List.any_eq_true.2 ⟨x, hm, hc1⟩
      refine Gs.seq ?_
      refine Gs.reg ?_
      refine Go.Sl.L.pu rfl rfl trivial (pu_move rfl) ?_
      refine Go.Sl.L.pu rfl rfl trivial (pu_assign rfl) ?_
      refine Go.Sl.L.nil ?_
      refine Gs.then_n ?_
      refine Gs.ret ?_
      refine Gs.blk_r ?_
      refine Gs.then_r ?_
      refine Gs.then_r ?_
      refine Gs.blk_r ?_
      refine Gs.then_r ?_
      exact Gs.fin1 Try.results66 rfl _ (⟨⟨_, rfl, by rw [hyes]; exact decide_eq_true (by omega)⟩, rfl⟩) (by repeat constructor)
    · skip
      have hno : (ls.take (i + 1)).any q = false := by rw [List.take_add_one, hx, List.any_append, hq]; simp [hc1]
      refine Gs.skip ?_
      refine Gs.blk_n ?_
      refine Gs.then_n ?_
      refine Gs.reg ?_
      refine Go.Sl.L.pu rfl rfl trivial (by first | exact pu_addI rfl rfl rfl (by omega) (by omega) | exact pu_add rfl rfl) ?_
      refine Go.Sl.L.pu rfl rfl trivial (pu_move rfl) ?_
      refine Go.Sl.L.nil ?_
      refine Gs.then_n ?_
      exact Gs.again1 (i + 1) ⟨hlt, hno⟩ (by show ls.length - (i + 1) < ls.length - i; omega) (by repeat constructor) (by repeat constructor)
  · skip
    have hge : i = ls.length := by have := of_decide_eq_false hc0; omega
    rw [hge, List.take_length] at hq
    refine Gs.exit ?_
    refine Gs.then_x ?_
    refine Gs.then_x ?_
    refine Gs.blk_hit ?_
    refine Gs.then_n ?_
    refine Gs.seq ?_
    refine Gs.reg ?_
    refine Go.Sl.L.pu rfl rfl trivial (pu_assign rfl) ?_
    refine Go.Sl.L.nil ?_
    refine Gs.then_n ?_
    refine Gs.ret ?_
    exact Gs.fin1 Try.results66 rfl _ (⟨⟨_, rfl, by rw [hq]; rfl⟩, rfl⟩) (by repeat constructor)
theorem containsLL_spec {S : HProp} {g : FuncId} {q : SlV PostV → Bool} {a : Option Addr} {c : Nat} {ls : List (SlV PostV)} (hS : Srd S 1 slC a ls) (hg : ∀ l ∈ ls, Ct Try.prog g ([] ++ [.slice l.a l.xs.length l.c] ++ []) [S] (fun v hs => v = .bool (q l) ∧ hs = [S])) (hl : ls.length ≤ 1000) :
    Ct Try.prog 55 [.slice a ls.length c, .func (.func g) #[] #[]] [S] (fun v hs => v = .bool (ls.any q) ∧ hs = [S]) := by
  refine Ct.intro Try.func55 rfl (by kernel_rfl) 9 Try.ntmps55 (Nat.le_of_ble_eq_true rfl) fun w0 R => ?_
  refine Gs.seq ?_
  refine Gs.reg ?_
  refine Go.Sl.L.pu rfl rfl trivial (pu_assign rfl) ?_
  refine Go.Sl.L.nil ?_
  refine Gs.then_n ?_
  refine Gs.seq ?_
  refine Gs.reg ?_
  refine Go.Sl.L.pu rfl rfl trivial (pu_move rfl) ?_
  refine Go.Sl.L.pu rfl rfl trivial (pu_move rfl) ?_
  refine Go.Sl.L.ac rfl rfl trivial (as_call (indexLL_spec hS hg hl) (by repeat constructor) (by repeat constructor)) ?_
  rintro _ _ ⟨_, ⟨⟨z, rfl, hz⟩, rfl⟩, rfl⟩
  refine Go.Sl.L.pu rfl rfl trivial (pu_ge rfl rfl) ?_
  refine Go.Sl.L.pu rfl rfl trivial (pu_assign rfl) ?_
  refine Go.Sl.L.nil ?_
  refine Gs.then_n ?_
  refine Gs.ret ?_
  exact Gs.fin1 Try.results55 rfl _ (⟨by rw [← hz], rfl⟩) (by repeat constructor)
theorem odd_spec {S : HProp} {a : Option Addr} {c : Nat} {ls : List (SlV PostV)} (hS : LRd S a ls) (hl : ls.length ≤ 1000) :
    Ct Try.prog 32 [.slice a ls.length c] [S] (fun v hs => v = .bool (!mayAll (plain2 ls)) ∧ hs = [S]) := by
  have e : ls.any (fun l => !mayB (plain1 l.xs)) = !mayAll (plain2 ls) := by simp [mayAll, List.all_map, List.not_all_eq_any_not, Function.comp_def]
  refine Ct.intro Try.func32 rfl (by kernel_rfl) 5 Try.ntmps32 (Nat.le_of_ble_eq_true rfl) fun w0 R => ?_
  refine Gs.seq ?_
  refine Gs.reg ?_
  refine Go.Sl.L.pu rfl rfl trivial (pu_assign rfl) ?_
  refine Go.Sl.L.nil ?_
  refine Gs.then_n ?_
  refine Gs.seq ?_
  refine Gs.reg ?_
  refine Go.Sl.L.pu rfl rfl trivial (pu_move rfl) ?_
  refine Go.Sl.L.ac rfl rfl trivial (as_call (containsLL_spec (q := fun l => !mayB (plain1 l.xs)) hS.1 (fun l h => odd1_spec (hS.2 l h).1 (hS.2 l h).2) hl) (by repeat constructor) (by repeat constructor)) ?_
  rintro _ _ ⟨_, ⟨rfl, rfl⟩, rfl⟩
  refine Go.Sl.L.pu rfl rfl trivial (pu_assign rfl) ?_
  refine Go.Sl.L.nil ?_
  refine Gs.then_n ?_
  refine Gs.ret ?_
  exact Gs.fin1 Try.results32 rfl _ (⟨by rw [e], rfl⟩) (by repeat constructor)
theorem all10_spec {S : HProp} {a : Option Addr} {c : Nat} {ls : List (SlV PostV)} (hS : LRd S a ls) (hl : ls.length ≤ 1000) :
    Ct Try.prog 38 [.slice a ls.length c] [S] (fun v hs => v = .bool (mayAll (plain2 ls)) ∧ hs = [S]) := by
  have e : ls.all (fun l => mayB (plain1 l.xs)) = mayAll (plain2 ls) := by simp [mayAll, List.all_map, Function.comp_def]
  refine Ct.intro Try.func38 rfl (by kernel_rfl) 16 Try.ntmps38 (Nat.le_of_ble_eq_true rfl) fun w0 R => ?_
  refine Gs.slAddr (hS.1.h (by repeat constructor)) fun ab ao ha => ?_
  refine Gs.seq ?_
  refine Gs.reg ?_
  refine Go.Sl.L.pu rfl rfl trivial (pu_assign rfl) ?_
  refine Go.Sl.L.nil ?_
  refine Gs.then_n ?_
  refine Gs.seq ?_
  refine Gs.seq ?_
  refine Gs.reg ?_
  refine Go.Sl.L.pu rfl rfl trivial (pu_assign rfl) ?_
  refine Go.Sl.L.nil ?_
  refine Gs.then_n ?_
  refine Gs.block ?_
  refine Gs.loop1 (fun i : Nat => i ≤ ls.length ∧ (ls.take i).all (fun l => mayB (plain1 l.xs)) = true) (fun i => [(0, .slice a ls.length c), (3, int i)]) (fun i => [S] ++ R) (fun i => ls.length - i) 0 (⟨Nat.zero_le _, rfl⟩) (by repeat constructor) (by repeat constructor) (fun i ⟨hi, hq⟩ => ?_)
  refine Gs.seq ?_
  refine Gs.seq ?_
  refine Gs.reg ?_
  refine Go.Sl.L.pu rfl rfl trivial (pu_move rfl) ?_
  refine Go.Sl.L.pu rfl rfl trivial (pu_move rfl) ?_
  refine Go.Sl.L.pu rfl rfl trivial (pu_len Try.underlying22 rfl) ?_
  refine Go.Sl.L.pu rfl rfl trivial (pu_lt rfl rfl) ?_
  refine Go.Sl.L.nil ?_
  refine Gs.then_n ?_
  refine Gs.cond rfl (fun hc0 => ?_) (fun hc0 => ?_)
  · skip
    have hlt : i < ls.length := by have := of_decide_eq_true hc0; omega
    obtain ⟨x, hx⟩ : ∃ x, ls[i]? = some x := ⟨ls[i], by simp [hlt]⟩
    obtain rfl := ha (by rintro rfl; simp at hlt)
    have hm := List.mem_of_getElem? hx
    refine Gs.skip ?_
    refine Gs.then_n ?_
    refine Gs.seq ?_
    refine Gs.block ?_
    refine Gs.seq ?_
    refine Gs.reg ?_
    refine Go.Sl.L.pu rfl rfl trivial (pu_move rfl) ?_
    refine Go.Sl.L.pu rfl rfl trivial (pu_move rfl) ?_
    refine Go.Sl.L.pu rfl rfl trivial (pu_ia se_22 rfl rfl (by omega) (by omega)) ?_
    refine Go.Sl.L.rd rfl rfl trivial (rd_ld na_30 rfl (Rdc.el0 (hS.1.h (by repeat constructor)) hx rfl rfl)) ?_
    refine Go.Sl.L.ac rfl rfl trivial (as_call (may10_spec (hS.2 x hm).1 (hS.2 x hm).2) (by repeat constructor) (by repeat constructor)) ?_
    rintro _ _ ⟨_, ⟨rfl, rfl⟩, rfl⟩
    refine Go.Sl.L.pu rfl rfl trivial (pu_not rfl) ?_
    refine Go.Sl.L.nil ?_
    refine Gs.then_n ?_
    refine Gs.cond rfl (fun hc1 => ?_) (fun hc1 => ?_)
    · skip
      have hno : mayAll (plain2 ls) = false := by rw [← e]; exact List.all_eq_false.2 ⟨x, hm, by rw [not_t hc1]; simp⟩
      refine Gs.seq ?_
      refine Gs.reg ?_
      refine Go.Sl.L.pu rfl rfl trivial (pu_assign rfl) ?_
      refine Go.Sl.L.nil ?_
      refine Gs.then_n ?_
      refine Gs.ret ?_
      refine Gs.blk_r ?_
      refine Gs.then_r ?_
      refine Gs.then_r ?_
      refine Gs.blk_r ?_
      refine Gs.then_r ?_
      exact Gs.fin1 Try.results38 rfl _ (⟨by rw [hno], rfl⟩) (by repeat constructor)
    · skip
      have hyes : (ls.take (i + 1)).all (fun l => mayB (plain1 l.xs)) = true := by rw [all_take hx, hq, not_f hc1]; rfl
      refine Gs.skip ?_
      refine Gs.blk_n ?_
      refine Gs.then_n ?_
      refine Gs.reg ?_
      refine Go.Sl.L.pu rfl rfl trivial (pu_move rfl) ?_
      refine Go.Sl.L.pu rfl rfl trivial (by first | exact pu_addI rfl rfl rfl (by omega) (by omega) | exact pu_add rfl rfl) ?_
      refine Go.Sl.L.pu rfl rfl trivial (pu_assign rfl) ?_
      refine Go.Sl.L.nil ?_
      refine Gs.then_n ?_
      exact Gs.again1 (i + 1) ⟨hlt, hyes⟩ (by omega) (by repeat constructor) (by repeat constructor)
  · skip
    have hge : i = ls.length := by have := of_decide_eq_false hc0; omega
    rw [hge, List.take_length] at hq
    refine Gs.exit ?_
    refine Gs.then_x ?_
    refine Gs.then_x ?_
    refine Gs.blk_hit ?_
    refine Gs.then_n ?_
    refine Gs.seq ?_
    refine Gs.reg ?_
    refine Go.Sl.L.pu rfl rfl trivial (pu_assign rfl) ?_
    refine Go.Sl.L.nil ?_
    refine Gs.then_n ?_
    refine Gs.ret ?_
    exact Gs.fin1 Try.results38 rfl _ (⟨by rw [← e, hq], rfl⟩) (by repeat constructor)
end Go.Proofs.Ytonilkceolbkmaa
