/- Walks: BinarySearch, IndexFunc, ContainsFunc at numbers; follow, each, And, Phrase (post). -/
import Derived.Test.YtonilkceolbkmaaPoC
namespace Go.Po
open Go Go.Sl Go.Gv
theorem rises_pw : ∀ {a : Int} {l : List Int}, risesFrom a l = true → l.Pairwise (· < ·) ∧ ∀ x ∈ l, a < x
  | _, [], _ => ⟨List.Pairwise.nil, fun _ h => (by cases h)⟩
  | a, n :: l, h => by
    simp only [risesFrom, Bool.and_eq_true, decide_eq_true_eq] at h
    obtain ⟨h1, h2⟩ := rises_pw h.2
    refine ⟨List.pairwise_cons.2 ⟨h2, h1⟩, fun x hx => ?_⟩
    rcases List.mem_cons.1 hx with rfl | hx
    · exact h.1
    · have := h2 x hx; omega
theorem pw_lt {l : List Int} (h : l.Pairwise (· < ·)) {i j : Nat} {x y : Int} (hij : i < j) (hx : l[i]? = some x) (hy : l[j]? = some y) : x < y := by
  obtain ⟨h1, rfl⟩ := List.getElem?_eq_some_iff.1 hx
  obtain ⟨h2, rfl⟩ := List.getElem?_eq_some_iff.1 hy
  exact List.pairwise_iff_getElem.1 h i j h1 h2 hij
theorem cut_mem {l : List Int} {z : Int} {i : Nat} (hlo : ∀ m x, m < i → l[m]? = some x → x < z) (hhi : ∀ m x, i ≤ m → l[m]? = some x → ¬ x < z) (hpw : l.Pairwise (· < ·)) : decide (z ∈ l) = decide (l[i]? = some z) := by
  refine decide_eq_decide.2 ⟨fun h => ?_, fun h => List.mem_of_getElem? h⟩
  obtain ⟨m, hm⟩ := List.mem_iff_getElem?.1 h
  rcases Nat.lt_or_ge m i with hlt | hge
  · have := hlo m z hlt hm; omega
  · rcases Nat.lt_or_eq_of_le hge with hlt | heq
    · have hl : m < l.length := (List.getElem?_eq_some_iff.1 hm).1
      have hi : l[i]? = some l[i] := by simp [show i < l.length by omega]
      have h1 := pw_lt hpw hlt hi hm
      exact (hhi i _ (Nat.le_refl i) hi h1).elim
    · rw [heq]; exact hm
/-- Do places follow one another? -/
def stepsFrom (a : Int) : Nat → List (List Int) → Bool
  | _, [] => true
  | i, l :: ls => decide (IntKind.i64.wrap (a + (i : Int)) ∈ l) && stepsFrom a (i + 1) ls
def followB : List (List Int) → Bool
  | [] => false
  | l :: ls => l.any fun a => stepsFrom a 0 (l :: ls)
theorem steps_snoc (a : Int) : ∀ (i : Nat) (ls : List (List Int)) (l : List Int), stepsFrom a i (ls ++ [l]) = (stepsFrom a i ls && decide (IntKind.i64.wrap (a + ((i + ls.length : Nat) : Int)) ∈ l))
  | i, [], l => by simp only [List.nil_append, stepsFrom, List.length_nil, Nat.add_zero, Bool.and_true, Bool.true_and]
  | i, m :: ls, l => by
    have h := steps_snoc a (i + 1) ls l
    simp only [List.cons_append, stepsFrom, h, List.length_cons, Bool.and_assoc]
    rw [show i + 1 + ls.length = i + (ls.length + 1) by omega]
theorem steps_take {a : Int} {ls : List (List Int)} {i : Nat} {l : List Int} (h : ls[i]? = some l) : stepsFrom a 0 (ls.take (i + 1)) = (stepsFrom a 0 (ls.take i) && decide (IntKind.i64.wrap (a + (i : Int)) ∈ l)) := by
  have hl := (List.getElem?_eq_some_iff.1 h).1
  rw [List.take_add_one, h]
  have := steps_snoc a 0 (ls.take i) l
  rw [List.length_take, Nat.zero_add, Nat.min_eq_left (by omega)] at this
  exact this
theorem steps_cut {a : Int} : ∀ {i : Nat} {ls ms : List (List Int)}, stepsFrom a i (ls ++ ms) = true → stepsFrom a i ls = true
  | _, [], _, _ => rfl
  | i, l :: ls, ms, h => by
    simp only [List.cons_append, stepsFrom, Bool.and_eq_true] at h ⊢
    exact ⟨h.1, steps_cut h.2⟩
theorem steps_not {a : Int} {ls : List (List Int)} {i : Nat} (h : stepsFrom a 0 (ls.take i) = false) : stepsFrom a 0 ls = false := by
  cases hr : stepsFrom a 0 ls with
  | false => rfl
  | true =>
    rw [← List.take_append_drop i ls] at hr
    rw [steps_cut hr] at h; cases h
end Go.Po
namespace Go.Proofs.Ytonilkceolbkmaa
open Go Go.Sl Go.Gv Go.Po
set_option maxRecDepth 100000
theorem nan1_spec (z : Int) : Ct Try.prog 86 [int z] [] (fun v hs => v = .bool false ∧ hs = []) := by
  refine Ct.intro Try.func86 rfl (by kernel_rfl) 6 Try.ntmps86 (Nat.le_of_ble_eq_true rfl) fun w0 R => ?_
  refine Gs.seq ?_
  refine Gs.reg ?_
  refine Go.Sl.L.pu rfl rfl trivial (pu_assign rfl) ?_
  refine Go.Sl.L.nil ?_
  refine Gs.then_n ?_
  refine Gs.seq ?_
  refine Gs.reg ?_
  refine Go.Sl.L.pu rfl rfl trivial (pu_move rfl) ?_
  refine Go.Sl.L.pu rfl rfl trivial (pu_move rfl) ?_
  refine Go.Sl.L.pu rfl rfl trivial (pu_ne rfl rfl) ?_
  refine Go.Sl.L.pu rfl rfl trivial (pu_assign rfl) ?_
  refine Go.Sl.L.nil ?_
  refine Gs.then_n ?_
  refine Gs.ret ?_
  exact Gs.fin1 Try.results86 rfl _ (⟨by simp, rfl⟩) (by repeat constructor)
theorem nan2_spec (z : Int) : Ct Try.prog 79 [int z] [] (fun v hs => v = .bool false ∧ hs = []) := by
  refine Ct.intro Try.func79 rfl (by kernel_rfl) 6 Try.ntmps79 (Nat.le_of_ble_eq_true rfl) fun w0 R => ?_
  refine Gs.seq ?_
  refine Gs.reg ?_
  refine Go.Sl.L.pu rfl rfl trivial (pu_assign rfl) ?_
  refine Go.Sl.L.nil ?_
  refine Gs.then_n ?_
  refine Gs.seq ?_
  refine Gs.reg ?_
  refine Go.Sl.L.pu rfl rfl trivial (pu_move rfl) ?_
  refine Go.Sl.L.pu rfl rfl trivial (pu_move rfl) ?_
  refine Go.Sl.L.pu rfl rfl trivial (pu_ne rfl rfl) ?_
  refine Go.Sl.L.pu rfl rfl trivial (pu_assign rfl) ?_
  refine Go.Sl.L.nil ?_
  refine Gs.then_n ?_
  refine Gs.ret ?_
  exact Gs.fin1 Try.results79 rfl _ (⟨by simp, rfl⟩) (by repeat constructor)
theorem less_spec (x y : Int) : Ct Try.prog 78 [int x, int y] [] (fun v hs => v = .bool (decide (x < y)) ∧ hs = []) := by
  refine Ct.intro Try.func78 rfl (by kernel_rfl) 17 Try.ntmps78 (Nat.le_of_ble_eq_true rfl) fun w0 R => ?_
  refine Gs.seq ?_
  refine Gs.reg ?_
  refine Go.Sl.L.pu rfl rfl trivial (pu_assign rfl) ?_
  refine Go.Sl.L.nil ?_
  refine Gs.then_n ?_
  refine Gs.seq ?_
  refine Gs.reg ?_
  refine Go.Sl.L.pu rfl rfl trivial (pu_move rfl) ?_
  refine Go.Sl.L.ac rfl rfl trivial (as_call (nan1_spec x) (by repeat constructor) (by repeat constructor)) ?_
  rintro _ _ ⟨_, ⟨rfl, rfl⟩, rfl⟩
  refine Go.Sl.L.puBf rfl rfl trivial (pu_move rfl) rfl ?_
  refine Go.Sl.L.off rfl rfl rfl rfl rfl rfl ?_
  refine Go.Sl.L.off rfl rfl rfl rfl rfl rfl ?_
  refine Go.Sl.L.off rfl rfl rfl rfl rfl rfl ?_
  refine Go.Sl.L.pu rfl rfl trivial (by first | exact pu_pick_t rfl rfl | exact pu_pick_f rfl rfl) ?_
  refine Go.Sl.L.puBf rfl rfl trivial (pu_move rfl) rfl ?_
  refine Go.Sl.L.pu rfl rfl ⟨_, rfl, rfl⟩ (pu_move rfl) ?_
  refine Go.Sl.L.pu rfl rfl ⟨_, rfl, rfl⟩ (pu_move rfl) ?_
  refine Go.Sl.L.pu rfl rfl ⟨_, rfl, rfl⟩ (pu_lt rfl rfl) ?_
  refine Go.Sl.L.pu rfl rfl trivial (by first | exact pu_pick_t rfl rfl | exact pu_pick_f rfl rfl) ?_
  refine Go.Sl.L.pu rfl rfl trivial (pu_assign rfl) ?_
  refine Go.Sl.L.nil ?_
  refine Gs.then_n ?_
  refine Gs.ret ?_
  exact Gs.fin1 Try.results78 rfl _ (⟨rfl, rfl⟩) (by repeat constructor)
theorem bsearch_spec {S : HProp} {a : Option Addr} {c : Nat} {l : List Int} (hS : Srd S 1 intC a l) (hl : l.length ≤ 1000) (hpw : l.Pairwise (· < ·)) (z : Int) :
    Ct Try.prog 61 [.slice a l.length c, int z] [S] (fun v hs => (∃ i : Nat, v = .tuple #[int i, .bool (decide (z ∈ l))]) ∧ hs = [S]) := by
  refine Ct.intro Try.func61 rfl (by kernel_rfl) 54 Try.ntmps61 (Nat.le_of_ble_eq_true rfl) fun w0 R => ?_
  refine Gs.slAddr (hS.h (by repeat constructor)) fun ab ao ha => ?_
  refine Gs.seq ?_
  refine Gs.reg ?_
  refine Go.Sl.L.pu rfl rfl trivial (pu_assign rfl) ?_
  refine Go.Sl.L.pu rfl rfl trivial (pu_assign rfl) ?_
  refine Go.Sl.L.nil ?_
  refine Gs.then_n ?_
  refine Gs.seq ?_
  refine Gs.reg ?_
  refine Go.Sl.L.pu rfl rfl trivial (pu_move rfl) ?_
  refine Go.Sl.L.pu rfl rfl trivial (pu_len Try.underlying35 rfl) ?_
  refine Go.Sl.L.pu rfl rfl trivial (pu_assign rfl) ?_
  refine Go.Sl.L.nil ?_
  refine Gs.then_n ?_
  refine Gs.seq ?_
  refine Gs.reg ?_
  refine Go.Sl.L.pu rfl rfl trivial (pu_move rfl) ?_
  refine Go.Sl.L.pu rfl rfl trivial (pu_assign rfl) ?_
  refine Go.Sl.L.pu rfl rfl trivial (pu_assign rfl) ?_
  refine Go.Sl.L.nil ?_
  refine Gs.then_n ?_
  refine Gs.seq ?_
  refine Gs.block ?_
  refine Gs.loop1 (fun s : Nat × Nat => s.1 ≤ s.2 ∧ s.2 ≤ l.length ∧ (∀ m x, m < s.1 → l[m]? = some x → x < z) ∧ (∀ m x, s.2 ≤ m → l[m]? = some x → ¬ x < z)) (fun s => [(0, .slice a l.length c), (1, int z), (6, int l.length), (7, int s.1), (8, int s.2)]) (fun s => [S] ++ R) (fun s => s.2 - s.1) (0, l.length) (⟨Nat.zero_le _, Nat.le_refl _, fun m x h => by omega, fun m x h hx => by have := (List.getElem?_eq_some_iff.1 hx).1; omega⟩) (by repeat constructor) (by repeat constructor) (fun s hs => ?_)
  obtain ⟨i, j⟩ := s
  obtain ⟨hij, hj, hlo, hhi⟩ := hs
  dsimp only at hij hj hlo hhi ⊢
  refine Gs.seq ?_
  refine Gs.seq ?_
  refine Gs.reg ?_
  refine Go.Sl.L.pu rfl rfl trivial (pu_move rfl) ?_
  refine Go.Sl.L.pu rfl rfl trivial (pu_move rfl) ?_
  refine Go.Sl.L.pu rfl rfl trivial (pu_lt rfl rfl) ?_
  refine Go.Sl.L.nil ?_
  refine Gs.then_n ?_
  refine Gs.cond rfl (fun hc0 => ?_) (fun hc0 => ?_)
  · skip
    have hlt : i < j := by have := of_decide_eq_true hc0; omega
    obtain ⟨y, hy⟩ : ∃ x, l[(i + j) / 2]? = some x := ⟨l[(i + j) / 2]'(by omega), by simp⟩
    obtain rfl := ha (by rintro rfl; simp at hy)
    refine Gs.skip ?_
    refine Gs.then_n ?_
    refine Gs.block ?_
    refine Gs.seq ?_
    refine Gs.reg ?_
    refine Go.Sl.L.pu rfl rfl trivial (pu_move rfl) ?_
    refine Go.Sl.L.pu rfl rfl trivial (pu_move rfl) ?_
    refine Go.Sl.L.pu rfl rfl trivial (by first | exact pu_addI rfl rfl rfl (by omega) (by omega) | exact pu_add rfl rfl) ?_
    refine Go.Sl.L.pu rfl rfl trivial (pu_conv Try.underlying3 Try.underlying71 rfl) ?_
    refine Go.Sl.L.pu rfl rfl trivial (pu_shr rfl rfl (by omega)) ?_
    refine Go.Sl.L.pu rfl rfl trivial (pu_conv Try.underlying71 Try.underlying3 rfl) ?_
    rw [half (by omega)]
    refine Go.Sl.L.pu rfl rfl trivial (pu_assign rfl) ?_
    refine Go.Sl.L.nil ?_
    refine Gs.then_n ?_
    refine Gs.seq ?_
    refine Gs.reg ?_
    refine Go.Sl.L.pu rfl rfl trivial (pu_move rfl) ?_
    refine Go.Sl.L.pu rfl rfl trivial (pu_move rfl) ?_
    refine Go.Sl.L.pu rfl rfl trivial (pu_ia se_35 rfl rfl (by omega) (by omega)) ?_
    refine Go.Sl.L.rd rfl rfl trivial (rd_ld na_3 rfl (Rdc.el0 (hS.h (by repeat constructor)) hy rfl rfl)) ?_
    refine Go.Sl.L.pu rfl rfl trivial (pu_move rfl) ?_
    refine Go.Sl.L.ac rfl rfl trivial (as_call (less_spec y z) (by repeat constructor) (by repeat constructor)) ?_
    rintro _ _ ⟨_, ⟨rfl, rfl⟩, rfl⟩
    refine Go.Sl.L.nil ?_
    refine Gs.then_n ?_
    refine Gs.cond rfl (fun hc1 => ?_) (fun hc1 => ?_)
    · skip
      have hby : y < z := of_decide_eq_true hc1
      have hlo2 : ∀ m x, m < (i + j) / 2 + 1 → l[m]? = some x → x < z := fun m x hm hx => by
        rcases Nat.lt_or_eq_of_le (Nat.lt_succ_iff.1 hm) with h | h
        · have := pw_lt hpw h hx hy; omega
        · subst h; rw [hy] at hx; cases hx; exact hby
      refine Gs.reg ?_
      refine Go.Sl.L.pu rfl rfl trivial (pu_move rfl) ?_
      refine Go.Sl.L.pu rfl rfl trivial (pu_addI (z := (((i + j) / 2 + 1 : Nat) : Int)) rfl rfl (by omega) (by omega) (by omega)) ?_
      refine Go.Sl.L.pu rfl rfl trivial (pu_assign rfl) ?_
      refine Go.Sl.L.nil ?_
      refine Gs.blk_n ?_
      refine Gs.then_n ?_
      first | exact Gs.again1 ((i + j) / 2 + 1, j) ⟨by show (i + j) / 2 + 1 ≤ j; omega, hj, hlo2, hhi⟩ (by show j - ((i + j) / 2 + 1) < j - i; omega) (by repeat constructor) (by repeat constructor) | exact Gs.again1 (i, (i + j) / 2) ⟨by show i ≤ (i + j) / 2; omega, by show (i + j) / 2 ≤ l.length; omega, hlo, hhi2⟩ (by show (i + j) / 2 - i < j - i; omega) (by repeat constructor) (by repeat constructor)
    · skip
      have hby : ¬ y < z := of_decide_eq_false hc1
      have hhi2 : ∀ m x, (i + j) / 2 ≤ m → l[m]? = some x → ¬ x < z := fun m x hm hx => by
        rcases Nat.lt_or_eq_of_le hm with h | h
        · have := pw_lt hpw h hy hx; omega
        · subst h; rw [hy] at hx; cases hx; exact hby
      refine Gs.reg ?_
      refine Go.Sl.L.pu rfl rfl trivial (pu_move rfl) ?_
      refine Go.Sl.L.pu rfl rfl trivial (pu_assign rfl) ?_
      refine Go.Sl.L.nil ?_
      refine Gs.blk_n ?_
      refine Gs.then_n ?_
      first | exact Gs.again1 ((i + j) / 2 + 1, j) ⟨by show (i + j) / 2 + 1 ≤ j; omega, hj, hlo2, hhi⟩ (by show j - ((i + j) / 2 + 1) < j - i; omega) (by repeat constructor) (by repeat constructor) | exact Gs.again1 (i, (i + j) / 2) ⟨by show i ≤ (i + j) / 2; omega, by show (i + j) / 2 ≤ l.length; omega, hlo, hhi2⟩ (by show (i + j) / 2 - i < j - i; omega) (by repeat constructor) (by repeat constructor)
  · skip
    have hge : i = j := by have := of_decide_eq_false hc0; omega
    subst hge
    have hmem := cut_mem hlo hhi hpw
    refine Gs.exit ?_
    refine Gs.then_x ?_
    refine Gs.then_x ?_
    refine Gs.blk_hit ?_
    refine Gs.then_n ?_
    refine Gs.seq ?_
    refine Gs.reg ?_
    refine Go.Sl.L.pu rfl rfl trivial (pu_move rfl) ?_
    refine Go.Sl.L.pu rfl rfl trivial (pu_move rfl) ?_
    refine Go.Sl.L.pu rfl rfl trivial (pu_move rfl) ?_
    refine Go.Sl.L.pu rfl rfl trivial (pu_lt rfl rfl) ?_
    refine Go.Sl.L.puB rfl rfl trivial (pu_move rfl) (fun hg4 => ?_) (fun hg4 => ?_)
    · skip
      have hlt : i < l.length := by have := of_decide_eq_true hg4; omega
      obtain ⟨y, hy⟩ : ∃ x, l[i]? = some x := ⟨l[i], by simp [hlt]⟩
      obtain rfl := ha (by rintro rfl; simp at hy)
      rw [hy] at hmem
      refine Go.Sl.L.pu rfl rfl ⟨_, rfl, rfl⟩ (pu_move rfl) ?_
      refine Go.Sl.L.pu rfl rfl ⟨_, rfl, rfl⟩ (pu_move rfl) ?_
      refine Go.Sl.L.pu rfl rfl ⟨_, rfl, rfl⟩ (pu_ia se_35 rfl rfl (by omega) (by omega)) ?_
      refine Go.Sl.L.rd rfl rfl ⟨_, rfl, rfl⟩ (rd_ld na_3 rfl (Rdc.el0 (hS.h (by repeat constructor)) hy rfl rfl)) ?_
      refine Go.Sl.L.pu rfl rfl ⟨_, rfl, rfl⟩ (pu_move rfl) ?_
      refine Go.Sl.L.pu rfl rfl ⟨_, rfl, rfl⟩ (pu_eq rfl rfl) ?_
      refine Go.Sl.L.puB rfl rfl ⟨_, rfl, rfl⟩ (pu_move rfl) (fun hg11 => ?_) (fun hg11 => ?_)
      · skip
        have hyz : y = z := of_decide_eq_true hg11
        refine Go.Sl.L.off rfl rfl rfl rfl rfl rfl ?_
        refine Go.Sl.L.off rfl rfl rfl rfl rfl rfl ?_
        refine Go.Sl.L.off rfl rfl rfl rfl rfl rfl ?_
        refine Go.Sl.L.off rfl rfl rfl rfl rfl rfl ?_
        refine Go.Sl.L.off rfl rfl rfl rfl rfl rfl ?_
        refine Go.Sl.L.off rfl rfl rfl rfl rfl rfl ?_
        refine Go.Sl.L.offU rfl rfl rfl rfl rfl ?_
        refine Go.Sl.L.offU rfl rfl rfl rfl rfl ?_
        refine Go.Sl.L.off rfl rfl rfl rfl rfl rfl ?_
        refine Go.Sl.L.pu rfl rfl ⟨_, rfl, rfl⟩ (by first | exact pu_pick_t rfl rfl | exact pu_pick_f rfl rfl) ?_
        refine Go.Sl.L.pu rfl rfl trivial (by first | exact pu_pick_t rfl rfl | exact pu_pick_f rfl rfl) ?_
        refine Go.Sl.L.pu rfl rfl trivial (pu_assign rfl) ?_
        refine Go.Sl.L.pu rfl rfl trivial (pu_assign rfl) ?_
        refine Go.Sl.L.nil ?_
        refine Gs.then_n ?_
        refine Gs.ret ?_
        exact Gs.fin2 Try.results61 rfl rfl _ (⟨⟨i, by rw [hmem]; first | simp [hyz] | simp⟩, rfl⟩) (by repeat constructor)
      · skip
        have hyz : ¬ y = z := of_decide_eq_false hg11
        refine Go.Sl.L.pu rfl rfl ⟨_, rfl, rfl⟩ (pu_move rfl) ?_
        refine Go.Sl.L.pu rfl rfl ⟨_, rfl, rfl⟩ (pu_move rfl) ?_
        refine Go.Sl.L.pu rfl rfl ⟨_, rfl, rfl⟩ (pu_ia se_35 rfl rfl (by omega) (by omega)) ?_
        refine Go.Sl.L.rd rfl rfl ⟨_, rfl, rfl⟩ (rd_ld na_3 rfl (Rdc.el0 (hS.h (by repeat constructor)) hy rfl rfl)) ?_
        refine Go.Sl.L.ac rfl rfl ⟨_, rfl, rfl⟩ (as_call (nan2_spec y) (by repeat constructor) (by repeat constructor)) ?_
        rintro _ _ ⟨_, ⟨rfl, rfl⟩, rfl⟩
        refine Go.Sl.L.puBf rfl rfl ⟨_, rfl, rfl⟩ (pu_move rfl) rfl ?_
        refine Go.Sl.L.off rfl rfl rfl rfl rfl rfl ?_
        refine Go.Sl.L.off rfl rfl rfl rfl rfl rfl ?_
        refine Go.Sl.L.pu rfl rfl ⟨_, rfl, rfl⟩ (by first | exact pu_pick_t rfl rfl | exact pu_pick_f rfl rfl) ?_
        refine Go.Sl.L.pu rfl rfl ⟨_, rfl, rfl⟩ (by first | exact pu_pick_t rfl rfl | exact pu_pick_f rfl rfl) ?_
        refine Go.Sl.L.pu rfl rfl trivial (by first | exact pu_pick_t rfl rfl | exact pu_pick_f rfl rfl) ?_
        refine Go.Sl.L.pu rfl rfl trivial (pu_assign rfl) ?_
        refine Go.Sl.L.pu rfl rfl trivial (pu_assign rfl) ?_
        refine Go.Sl.L.nil ?_
        refine Gs.then_n ?_
        refine Gs.ret ?_
        exact Gs.fin2 Try.results61 rfl rfl _ (⟨⟨i, by rw [hmem]; first | simp [hyz] | simp⟩, rfl⟩) (by repeat constructor)
    · skip
      have hge : i = l.length := by have := of_decide_eq_false hg4; omega
      have hnone : l[i]? = none := by rw [hge]; simp
      rw [hnone] at hmem
      refine Go.Sl.L.off rfl rfl rfl rfl rfl rfl ?_
      refine Go.Sl.L.off rfl rfl rfl rfl rfl rfl ?_
      refine Go.Sl.L.off rfl rfl rfl rfl rfl rfl ?_
      refine Go.Sl.L.off rfl rfl rfl rfl rfl rfl ?_
      refine Go.Sl.L.off rfl rfl rfl rfl rfl rfl ?_
      refine Go.Sl.L.off rfl rfl rfl rfl rfl rfl ?_
      refine Go.Sl.L.off rfl rfl rfl rfl rfl rfl ?_
      refine Go.Sl.L.offU rfl rfl rfl rfl rfl ?_
      refine Go.Sl.L.offU rfl rfl rfl rfl rfl ?_
      refine Go.Sl.L.offU rfl rfl rfl rfl rfl ?_
      refine Go.Sl.L.offU rfl rfl rfl rfl rfl ?_
      refine Go.Sl.L.offU rfl rfl rfl rfl rfl ?_
      refine Go.Sl.L.offU rfl rfl rfl rfl rfl ?_
      refine Go.Sl.L.offU rfl rfl rfl rfl rfl ?_
      refine Go.Sl.L.offU rfl rfl rfl rfl rfl ?_
      refine Go.Sl.L.offU rfl rfl rfl rfl rfl ?_
      refine Go.Sl.L.off rfl rfl rfl rfl rfl rfl ?_
      refine Go.Sl.L.pu rfl rfl trivial (by first | exact pu_pick_t rfl rfl | exact pu_pick_f rfl rfl) ?_
      refine Go.Sl.L.pu rfl rfl trivial (pu_assign rfl) ?_
      refine Go.Sl.L.pu rfl rfl trivial (pu_assign rfl) ?_
      refine Go.Sl.L.nil ?_
      refine Gs.then_n ?_
      refine Gs.ret ?_
      exact Gs.fin2 Try.results61 rfl rfl _ (⟨⟨i, by rw [hmem]; first | simp [hyz] | simp⟩, rfl⟩) (by repeat constructor)
theorem indexI_spec {S : HProp} {F : HProp} {g : FuncId} {c1 : Value} {q : Int → Bool} {a : Option Addr} {c : Nat} {l : List Int} (hS : Srd S 1 intC a l) (hl : l.length ≤ 1000) (hg : ∀ x ∈ l, Ct Try.prog g ([] ++ [int x] ++ [c1]) [S, F] (fun v hs => v = .bool (q x) ∧ hs = [S, F])) :
    Ct Try.prog 77 [.slice a l.length c, .func (.func g) #[] #[c1]] [S, F] (fun v hs => (∃ z : Int, v = int z ∧ decide (0 ≤ z) = l.any q) ∧ hs = [S, F]) := by
  refine Ct.intro Try.func77 rfl (by kernel_rfl) 19 Try.ntmps77 (Nat.le_of_ble_eq_true rfl) fun w0 R => ?_
  refine Gs.slAddr (hS.h (by repeat constructor)) fun ab ao ha => ?_
  refine Gs.seq ?_
  refine Gs.reg ?_
  refine Go.Sl.L.pu rfl rfl trivial (pu_assign rfl) ?_
  refine Go.Sl.L.nil ?_
  refine Gs.then_n ?_
  refine Gs.seq ?_
  refine Gs.seq ?_
  refine Gs.reg ?_
  refine Go.Sl.L.pu rfl rfl trivial (pu_move rfl) ?_
  refine Go.Sl.L.pu rfl rfl trivial (pu_len Try.underlying35 rfl) ?_
  refine Go.Sl.L.pu rfl rfl trivial (pu_move rfl) ?_
  refine Go.Sl.L.nil ?_
  refine Gs.then_n ?_
  refine Gs.block ?_
  refine Gs.loop1 (fun i : Nat => i ≤ l.length ∧ (l.take i).any q = false) (fun i => [(0, .slice a l.length c), (1, .func (.func g) #[] #[c1]), (7, int l.length), (8, int i)]) (fun i => [S, F] ++ R) (fun i => l.length - i) 0 (⟨Nat.zero_le _, rfl⟩) (by repeat constructor) (by repeat constructor) (fun i ⟨hi, hq⟩ => ?_)
  refine Gs.seq ?_
  refine Gs.reg ?_
  refine Go.Sl.L.pu rfl rfl trivial (pu_lt rfl rfl) ?_
  refine Go.Sl.L.nil ?_
  refine Gs.then_n ?_
  refine Gs.seq ?_
  refine Gs.cond rfl (fun hc0 => ?_) (fun hc0 => ?_)
  · skip
    have hlt : i < l.length := by have := of_decide_eq_true hc0; omega
    obtain ⟨x, hx⟩ : ∃ x, l[i]? = some x := ⟨l[i], by simp [hlt]⟩
    obtain rfl := ha (by rintro rfl; simp at hlt)
    have hm := List.mem_of_getElem? hx
    refine Gs.skip ?_
    refine Gs.then_n ?_
    refine Gs.seq ?_
    refine Gs.block ?_
    refine Gs.seq ?_
    refine Gs.reg ?_
    refine Go.Sl.L.pu rfl rfl trivial (pu_move rfl) ?_
    refine Go.Sl.L.pu rfl rfl trivial (pu_assign rfl) ?_
    refine Go.Sl.L.nil ?_
    refine Gs.then_n ?_
    refine Gs.seq ?_
    refine Gs.reg ?_
    refine Go.Sl.L.pu rfl rfl trivial (pu_move rfl) ?_
    refine Go.Sl.L.pu rfl rfl trivial (pu_move rfl) ?_
    refine Go.Sl.L.pu rfl rfl trivial (pu_move rfl) ?_
    refine Go.Sl.L.pu rfl rfl trivial (pu_ia se_35 rfl rfl (by omega) (by omega)) ?_
    refine Go.Sl.L.rd rfl rfl trivial (rd_ld na_3 rfl (Rdc.el0 (hS.h (by repeat constructor)) hx rfl rfl)) ?_
    refine Go.Sl.L.ac rfl rfl trivial (as_callV rfl (hg x hm) (by repeat constructor) (by repeat constructor)) ?_
    rintro _ _ ⟨_, ⟨rfl, rfl⟩, rfl⟩
    refine Go.Sl.L.nil ?_
    refine Gs.then_n ?_
    refine Gs.cond rfl (fun hc1 => ?_) (fun hc1 => ?_)
    · skip
      have hyes : l.any q = true := List.any_eq_true.2 ⟨x, hm, hc1⟩
      refine Gs.seq ?_
      refine Gs.reg ?_
      refine Go.Sl.L.pu rfl rfl trivial (pu_move rfl) ?_
      refine Go.Sl.L.pu rfl rfl trivial (pu_assign rfl) ?_
      refine Go.Sl.L.nil ?_
      refine Gs.then_n ?_
      refine Gs.ret ?_
      refine Gs.blk_r ?_
      refine Gs.then_r ?_
      refine Gs.then_r ?_
      refine Gs.blk_r ?_
      refine Gs.then_r ?_
      exact Gs.fin1 Try.results77 rfl _ (⟨⟨_, rfl, by rw [hyes]; exact decide_eq_true (by omega)⟩, rfl⟩) (by repeat constructor)
    · skip
      have hno : (l.take (i + 1)).any q = false := by rw [List.take_add_one, hx, List.any_append, hq]; simp [hc1]
      refine Gs.skip ?_
      refine Gs.blk_n ?_
      refine Gs.then_n ?_
      refine Gs.reg ?_
      refine Go.Sl.L.pu rfl rfl trivial (by first | exact pu_addI rfl rfl rfl (by omega) (by omega) | exact pu_add rfl rfl) ?_
      refine Go.Sl.L.pu rfl rfl trivial (pu_move rfl) ?_
      refine Go.Sl.L.nil ?_
      refine Gs.then_n ?_
      exact Gs.again1 (i + 1) ⟨hlt, hno⟩ (by show l.length - (i + 1) < l.length - i; omega) (by repeat constructor) (by repeat constructor)
  · skip
    have hge : i = l.length := by have := of_decide_eq_false hc0; omega
    rw [hge, List.take_length] at hq
    refine Gs.exit ?_
    refine Gs.then_x ?_
    refine Gs.then_x ?_
    refine Gs.blk_hit ?_
    refine Gs.then_n ?_
    refine Gs.seq ?_
    refine Gs.reg ?_
    refine Go.Sl.L.pu rfl rfl trivial (pu_assign rfl) ?_
    refine Go.Sl.L.nil ?_
    refine Gs.then_n ?_
    refine Gs.ret ?_
    exact Gs.fin1 Try.results77 rfl _ (⟨⟨_, rfl, by rw [hq]; rfl⟩, rfl⟩) (by repeat constructor)
theorem containsI_spec {S : HProp} {F : HProp} {g : FuncId} {c1 : Value} {q : Int → Bool} {a : Option Addr} {c : Nat} {l : List Int} (hS : Srd S 1 intC a l) (hl : l.length ≤ 1000) (hg : ∀ x ∈ l, Ct Try.prog g ([] ++ [int x] ++ [c1]) [S, F] (fun v hs => v = .bool (q x) ∧ hs = [S, F])) :
    Ct Try.prog 59 [.slice a l.length c, .func (.func g) #[] #[c1]] [S, F] (fun v hs => v = .bool (l.any q) ∧ hs = [S, F]) := by
  refine Ct.intro Try.func59 rfl (by kernel_rfl) 9 Try.ntmps59 (Nat.le_of_ble_eq_true rfl) fun w0 R => ?_
  refine Gs.seq ?_
  refine Gs.reg ?_
  refine Go.Sl.L.pu rfl rfl trivial (pu_assign rfl) ?_
  refine Go.Sl.L.nil ?_
  refine Gs.then_n ?_
  refine Gs.seq ?_
  refine Gs.reg ?_
  refine Go.Sl.L.pu rfl rfl trivial (pu_move rfl) ?_
  refine Go.Sl.L.pu rfl rfl trivial (pu_move rfl) ?_
  refine Go.Sl.L.ac rfl rfl trivial (as_call (indexI_spec hS hl hg) (by repeat constructor) (by repeat constructor)) ?_
  rintro _ _ ⟨_, ⟨⟨z, rfl, hz⟩, rfl⟩, rfl⟩
  refine Go.Sl.L.pu rfl rfl trivial (pu_ge rfl rfl) ?_
  refine Go.Sl.L.pu rfl rfl trivial (pu_assign rfl) ?_
  refine Go.Sl.L.nil ?_
  refine Gs.then_n ?_
  refine Gs.ret ?_
  exact Gs.fin1 Try.results59 rfl _ (⟨by rw [← hz], rfl⟩) (by repeat constructor)
end Go.Proofs.Ytonilkceolbkmaa
