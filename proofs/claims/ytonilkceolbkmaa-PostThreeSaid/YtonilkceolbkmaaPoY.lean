/- Walks: PostTells (grapevinelaw10). -/
import Derived.Test.YtonilkceolbkmaaPoX
namespace Go.Proofs.Ytonilkceolbkmaa
open Go Go.Sl Go.Gv Go.Po
set_option maxRecDepth 100000
theorem and_c {S : HProp} {a : Option Addr} {c : Nat} {ls : List (SlV PostV)} (hS : LRd S a ls) (hl : ls.length ≤ 900) (hc : ls.length ≤ c) :
    Ct Try.prog 10 [.slice a ls.length c] [S] (fun v hs => ∃ a' c', v = .slice a' (andV ls).length c' ∧ hs = [S, sl 34 2 keyC a' c' (andV ls)]) := by
  rw [← andV_eq]; exact pand_spec hS hl hc
theorem or_c {S : HProp} {a : Option Addr} {c : Nat} {ls : List (SlV PostV)} (hS : LRd S a ls) (hl : ls.length ≤ 900) (hk : (keysL ls).length ≤ 90000) :
    Ct Try.prog 11 [.slice a ls.length c] [S] (fun v hs => ∃ a' c', v = .slice a' (orV ls).length c' ∧ hs = [S, sl 34 2 keyC a' c' (orV ls)]) := by
  rw [← porV_eq]; exact por_spec hS hl hk
theorem phrase_c {S : HProp} {a : Option Addr} {c : Nat} {ls : List (SlV PostV)} (hS : LRd S a ls) (hl : ls.length ≤ 900) (hc : ls.length ≤ c) :
    Ct Try.prog 12 [.slice a ls.length c] [S] (fun v hs => ∃ a' c', v = .slice a' (phraseV ls).length c' ∧ hs = [S, sl 34 2 keyC a' c' (phraseV ls)]) := by
  rw [← phrase_eq']; exact pphrase_spec hS hl hc
theorem same_c {a b : Option Addr} {c d : Nat} {xs : List Key} (hl : xs.length ≤ 1000000) : Ct Try.prog 13 [.slice a xs.length c, .slice b xs.length d] [sl 34 2 keyC a c xs, sl 34 2 keyC b d xs] (fun v hs => v = .bool true ∧ hs = [sl 34 2 keyC a c xs, sl 34 2 keyC b d xs]) := by
  refine (Ct.two (sameKeys_spec (c := c) (d := d) (xs := xs) (ys := xs) (Srd.two1 Srd.own) (Srd.two2 Srd.own) hl) (by rintro _ _ ⟨_, rfl⟩; exact ⟨_, rfl⟩)).mono ?_
  rintro _ _ ⟨_, ⟨rfl, ⟨⟩⟩, rfl⟩
  exact ⟨by rw [decide_eq_true rfl], rfl⟩
theorem Small.keys {ls : List (SlV PostV)} {most : Nat} (h : Small ls most) : (keysL ls).length ≤ most * 40 := by
  have : ∀ ls : List (SlV PostV), (∀ l ∈ ls, l.xs.length ≤ 40 ∧ ∀ p ∈ l.xs, p.t.xs.length ≤ 30) → (keysL ls).length ≤ ls.length * 40 := by
    intro ls
    induction ls with
    | nil => intro _; simp [keysL]
    | cons l ls ih =>
      intro h
      have h1 := ih fun m hm => h m (List.mem_cons_of_mem _ hm)
      have h2 := (h l (List.mem_cons_self ..)).1
      have e : keysL (l :: ls) = l.xs.map PostV.k ++ keysL ls := rfl
      rw [e, List.length_append, List.length_map, List.length_cons, Nat.add_mul]; omega
  have h1 := this ls h.2
  have h2 := Nat.mul_le_mul_right 40 h.1
  omega
theorem orV_le (ls : List (SlV PostV)) : (orV ls).length ≤ (keysL ls).length := by
  unfold orV; split
  · exact intoAll_le _
  · exact Nat.zero_le _
theorem andV_le {ls : List (SlV PostV)} {most : Nat} (h : Small ls most) : (andV ls).length ≤ 1000 := andV_length ls fun l hl => Nat.le_trans (h.2 l hl).1 (by decide)
theorem phraseV_le {ls : List (SlV PostV)} {most : Nat} (h : Small ls most) : (phraseV ls).length ≤ 1000 := Nat.le_trans (List.length_filter_le ..) (andV_le h)
theorem postTells_spec {S : HProp} {a : Option Addr} {c : Nat} {ls : List (SlV PostV)} (hS : LR0 S a ls) (hc : ls.length ≤ c) :
    Ct Try.prog 3 [.slice a ls.length c] [S] (fun v hs => v = .bool true ∧ hs = [S]) := by
  refine Ct.intro Try.func3 rfl (by kernel_rfl) 70 Try.ntmps3 (Nat.le_of_ble_eq_true rfl) fun w0 R => ?_
  refine Gs.slAddr (hS.1.h (by repeat constructor)) fun ab ao ha => ?_
  refine Gs.seq ?_
  refine Gs.reg ?_
  refine Go.Sl.L.pu rfl rfl trivial (pu_assign rfl) ?_
  refine Go.Sl.L.nil ?_
  refine Gs.then_n ?_
  refine Gs.seq ?_
  refine Gs.seq ?_
  refine Gs.reg ?_
  refine Go.Sl.L.pu rfl rfl trivial (pu_move rfl) ?_
  refine Go.Sl.L.ac rfl rfl trivial (as_call (greatPosts_spec (most := 6) hS (by decide)) (by repeat constructor) (by repeat constructor)) ?_
  rintro _ _ ⟨_, ⟨⟨g, rfl, hg⟩, rfl⟩, rfl⟩
  refine Go.Sl.L.nil ?_
  refine Gs.then_n ?_
  refine Gs.cond rfl (fun hc0 => ?_) (fun hc0 => ?_)
  · skip
    refine Gs.seq ?_
    refine Gs.reg ?_
    refine Go.Sl.L.ac rfl rfl trivial (as_call (awake_spec) (by repeat constructor) (by repeat constructor)) ?_
    rintro _ _ ⟨_, ⟨rfl, rfl⟩, rfl⟩
    refine Go.Sl.L.pu rfl rfl trivial (pu_assign rfl) ?_
    refine Go.Sl.L.nil ?_
    refine Gs.then_n ?_
    refine Gs.ret ?_
    refine Gs.then_r ?_
    exact Gs.fin1 Try.results3 rfl _ (⟨rfl, rfl⟩) (by repeat constructor)
  · skip
    have hsm := hg hc0
    have hL := hS.lrd hsm
    have hll := hsm.1
    have hkk := hsm.keys
    have ho := orV_le ls
    have hA := andV_le hsm
    have hP := phraseV_le hsm
    refine Gs.skip ?_
    refine Gs.then_n ?_
    refine Gs.seq ?_
    refine Gs.reg ?_
    refine Go.Sl.L.pu rfl rfl trivial (pu_move rfl) ?_
    refine Go.Sl.L.ac rfl rfl trivial (as_call (and_c hL (by omega) hc) (by repeat constructor) (by repeat constructor)) ?_
    rintro _ _ ⟨_, ⟨a1, c1, rfl, rfl⟩, rfl⟩
    refine Go.Sl.L.pu rfl rfl trivial (pu_move rfl) ?_
    refine Go.Sl.L.ac rfl rfl trivial (as_call (or_c hL (by omega) (by omega)) (by repeat constructor) (by repeat constructor)) ?_
    rintro _ _ ⟨_, ⟨a2, c2, rfl, rfl⟩, rfl⟩
    refine Go.Sl.L.pu rfl rfl trivial (pu_move rfl) ?_
    refine Go.Sl.L.ac rfl rfl trivial (as_call (phrase_c hL (by omega) hc) (by repeat constructor) (by repeat constructor)) ?_
    rintro _ _ ⟨_, ⟨a3, c3, rfl, rfl⟩, rfl⟩
    refine Go.Sl.L.pu rfl rfl trivial (pu_assign rfl) ?_
    refine Go.Sl.L.pu rfl rfl trivial (pu_assign rfl) ?_
    refine Go.Sl.L.pu rfl rfl trivial (pu_assign rfl) ?_
    refine Go.Sl.L.nil ?_
    refine Gs.then_n ?_
    refine Gs.seq ?_
    refine Gs.reg ?_
    refine Go.Sl.L.pu rfl rfl trivial (pu_move rfl) ?_
    refine Go.Sl.L.pu rfl rfl trivial (pu_move rfl) ?_
    refine Go.Sl.L.ac rfl rfl trivial (as_call (and10_spec hL (by omega)) (by repeat constructor) (by repeat constructor)) ?_
    rintro _ _ ⟨_, ⟨a4, c4, rfl, rfl⟩, rfl⟩
    refine Go.Sl.L.ac rfl rfl trivial (as_call (same_c (a := a1) (b := a4) (c := c1) (d := c4) (xs := andV ls) (by omega)) (by repeat constructor) (by repeat constructor)) ?_
    rintro _ _ ⟨_, ⟨rfl, rfl⟩, rfl⟩
    refine Go.Sl.L.puBt rfl rfl trivial (pu_move rfl) rfl ?_
    refine Go.Sl.L.pu rfl rfl ⟨_, rfl, rfl⟩ (pu_move rfl) ?_
    refine Go.Sl.L.pu rfl rfl ⟨_, rfl, rfl⟩ (pu_move rfl) ?_
    refine Go.Sl.L.ac rfl rfl ⟨_, rfl, rfl⟩ (as_call (or10_spec hL (by omega) (by omega)) (by repeat constructor) (by repeat constructor)) ?_
    rintro _ _ ⟨_, ⟨a5, c5, rfl, rfl⟩, rfl⟩
    refine Go.Sl.L.ac rfl rfl ⟨_, rfl, rfl⟩ (as_call (same_c (a := a2) (b := a5) (c := c2) (d := c5) (xs := orV ls) (by omega)) (by repeat constructor) (by repeat constructor)) ?_
    rintro _ _ ⟨_, ⟨rfl, rfl⟩, rfl⟩
    refine Go.Sl.L.pu rfl rfl trivial (by first | exact pu_pick_t rfl rfl | exact pu_pick_f rfl rfl) ?_
    refine Go.Sl.L.puBt rfl rfl trivial (pu_move rfl) rfl ?_
    refine Go.Sl.L.pu rfl rfl ⟨_, rfl, rfl⟩ (pu_move rfl) ?_
    refine Go.Sl.L.pu rfl rfl ⟨_, rfl, rfl⟩ (pu_move rfl) ?_
    refine Go.Sl.L.ac rfl rfl ⟨_, rfl, rfl⟩ (as_call (phrase10_spec hL (by omega)) (by repeat constructor) (by repeat constructor)) ?_
    rintro _ _ ⟨_, ⟨a6, c6, rfl, rfl⟩, rfl⟩
    refine Go.Sl.L.ac rfl rfl ⟨_, rfl, rfl⟩ (as_call (same_c (a := a3) (b := a6) (c := c3) (d := c6) (xs := phraseV ls) (by omega)) (by repeat constructor) (by repeat constructor)) ?_
    rintro _ _ ⟨_, ⟨rfl, rfl⟩, rfl⟩
    refine Go.Sl.L.pu rfl rfl trivial (by first | exact pu_pick_t rfl rfl | exact pu_pick_f rfl rfl) ?_
    refine Go.Sl.L.pu rfl rfl trivial (pu_assign rfl) ?_
    refine Go.Sl.L.nil ?_
    refine Gs.then_n ?_
    refine Gs.seq ?_
    refine Gs.seq ?_
    refine Gs.reg ?_
    refine Go.Sl.L.pu rfl rfl trivial (pu_assign rfl) ?_
    refine Go.Sl.L.nil ?_
    refine Gs.then_n ?_
    refine Gs.block ?_
    refine Gs.loop1 (fun i : Nat => i ≤ ls.length) (fun i => [(0, .slice a ls.length c), (3, .slice a1 (andV ls).length c1), (4, .slice a2 (orV ls).length c2), (5, .slice a3 (phraseV ls).length c3), (6, .bool true), (7, int i)]) (fun i => [S, sl 34 2 keyC a1 c1 (andV ls), sl 34 2 keyC a2 c2 (orV ls), sl 34 2 keyC a3 c3 (phraseV ls)] ++ R) (fun i => ls.length - i) 0 (Nat.zero_le _) (by repeat constructor) (by repeat constructor) (fun i hi => ?_)
    refine Gs.seq ?_
    refine Gs.seq ?_
    refine Gs.reg ?_
    refine Go.Sl.L.pu rfl rfl trivial (pu_move rfl) ?_
    refine Go.Sl.L.pu rfl rfl trivial (pu_move rfl) ?_
    refine Go.Sl.L.pu rfl rfl trivial (pu_len Try.underlying22 rfl) ?_
    refine Go.Sl.L.pu rfl rfl trivial (pu_lt rfl rfl) ?_
    refine Go.Sl.L.nil ?_
    refine Gs.then_n ?_
    refine Gs.cond rfl (fun hc1 => ?_) (fun hc1 => ?_)
    · skip
      have hlt : i < ls.length := by have := of_decide_eq_true hc1; omega
      obtain ⟨⟨la, lx, lc⟩, hl⟩ : ∃ x, ls[i]? = some x := ⟨ls[i], by simp [hlt]⟩
      obtain rfl := ha (by rintro rfl; simp at hlt)
      have hl0 : PRd S la lx ∧ lx.length ≤ 1000 := hL.2 ⟨la, lx, lc⟩ (List.mem_of_getElem? hl)
      refine Gs.skip ?_
      refine Gs.then_n ?_
      refine Gs.seq ?_
      refine Gs.block ?_
      refine Gs.regD mixed (by kernel_rfl) ?_
      refine Rg.pu 0 rfl rfl (by kernel_rfl) trivial (pu_move rfl) ?_
      refine Rg.puBt 1 rfl rfl (by kernel_rfl) trivial (pu_move rfl) rfl ?_
      refine Rg.pu 2 rfl rfl (by kernel_rfl) ⟨_, rfl, rfl⟩ (pu_move rfl) ?_
      refine Rg.pu 3 rfl rfl (by kernel_rfl) ⟨_, rfl, rfl⟩ (pu_move rfl) ?_
      refine Rg.pu 4 rfl rfl (by kernel_rfl) ⟨_, rfl, rfl⟩ (pu_ia se_22 rfl rfl (by omega) (by omega)) ?_
      refine Rg.rd 5 rfl rfl (by kernel_rfl) ⟨_, rfl, rfl⟩ (rd_ld na_30 rfl (Rdc.el0 (enc := slC) (sz := 1) (hS.1.h (by repeat constructor)) hl rfl rfl)) ?_
      refine Rg.pu 7 rfl rfl (by kernel_rfl) ⟨_, rfl, rfl⟩ (pu_move rfl) ?_
      refine Rg.pu 8 rfl rfl (by kernel_rfl) ⟨_, rfl, rfl⟩ (pu_move rfl) ?_
      refine Rg.pu 9 rfl rfl (by kernel_rfl) ⟨_, rfl, rfl⟩ (pu_ia se_22 rfl rfl (by omega) (by omega)) ?_
      refine Rg.rd 10 rfl rfl (by kernel_rfl) ⟨_, rfl, rfl⟩ (rd_ld na_30 rfl (Rdc.el0 (enc := slC) (sz := 1) (hS.1.h (by repeat constructor)) hl rfl rfl)) ?_
      refine Rg.one (by kernel_rfl) (Stp.acR 6 [10] rfl rfl (by kernel_rfl) ⟨_, rfl, rfl⟩ (as_call (may_spec hl0.1 hl0.2) (by repeat constructor) (by repeat constructor)) (by rintro _ _ ⟨_, ⟨rfl, rfl⟩, rfl⟩; exact (Reads.cons rfl rfl rfl ⟨_, rfl, rfl⟩ rfl (rd_ld na_30 rfl (Rdc.el0 (enc := slC) (sz := 1) (hS.1.h (by repeat constructor)) hl rfl rfl)) Reads.nil)) ?_)
      rintro _ _ ⟨_, ⟨rfl, rfl⟩, rfl⟩
      refine Rg.one (by kernel_rfl) (Stp.ac 11 rfl rfl (by kernel_rfl) ⟨_, rfl, rfl⟩ (as_call (may10_spec hl0.1 hl0.2) (by repeat constructor) (by repeat constructor))  ?_)
      rintro _ _ ⟨_, ⟨rfl, rfl⟩, rfl⟩
      refine Rg.pu 12 rfl rfl (by kernel_rfl) ⟨_, rfl, rfl⟩ (pu_eqB Try.underlying4 rfl rfl) ?_
      rw [beq_self_eq_true]
      refine Rg.pu 13 rfl rfl (by kernel_rfl) trivial (by first | exact pu_pick_t rfl rfl | exact pu_pick_f rfl rfl) ?_
      refine Rg.pu 14 rfl rfl (by kernel_rfl) trivial (pu_assign rfl) ?_
      refine Rg.end (by kernel_rfl) ?_
      refine Gs.blk_n ?_
      refine Gs.then_n ?_
      refine Gs.reg ?_
      refine Go.Sl.L.pu rfl rfl trivial (pu_move rfl) ?_
      refine Go.Sl.L.pu rfl rfl trivial (by first | exact pu_addI rfl rfl rfl (by omega) (by omega) | exact pu_add rfl rfl) ?_
      refine Go.Sl.L.pu rfl rfl trivial (pu_assign rfl) ?_
      refine Go.Sl.L.nil ?_
      refine Gs.then_n ?_
      exact Gs.again1 (i + 1) hlt (by omega) (by repeat constructor) (by repeat constructor)
    · skip
      refine Gs.exit ?_
      refine Gs.then_x ?_
      refine Gs.then_x ?_
      refine Gs.blk_hit ?_
      refine Gs.then_n ?_
      refine Gs.seq ?_
      refine Gs.reg ?_
      refine Go.Sl.L.pu rfl rfl trivial (pu_move rfl) ?_
      refine Go.Sl.L.ac rfl rfl trivial (as_call (overKeys_spec (xs := andV ls) (by omega)) (by repeat constructor) (by repeat constructor)) ?_
      rintro _ _ ⟨_, ⟨rfl, rfl⟩, rfl⟩
      refine Go.Sl.L.nil ?_
      refine Gs.then_n ?_
      refine Gs.seq ?_
      refine Gs.reg ?_
      refine Go.Sl.L.pu rfl rfl trivial (pu_move rfl) ?_
      refine Go.Sl.L.ac rfl rfl trivial (as_call (overKeys_spec (xs := orV ls) (by omega)) (by repeat constructor) (by repeat constructor)) ?_
      rintro _ _ ⟨_, ⟨rfl, rfl⟩, rfl⟩
      refine Go.Sl.L.nil ?_
      refine Gs.then_n ?_
      refine Gs.seq ?_
      refine Gs.reg ?_
      refine Go.Sl.L.pu rfl rfl trivial (pu_move rfl) ?_
      refine Go.Sl.L.ac rfl rfl trivial (as_call (overKeys_spec (xs := phraseV ls) (by omega)) (by repeat constructor) (by repeat constructor)) ?_
      rintro _ _ ⟨_, ⟨rfl, rfl⟩, rfl⟩
      refine Go.Sl.L.nil ?_
      refine Gs.then_n ?_
      refine Gs.seq ?_
      refine Gs.reg ?_
      refine Go.Sl.L.pu rfl rfl trivial (pu_move rfl) ?_
      refine Go.Sl.L.puBt rfl rfl trivial (pu_move rfl) rfl ?_
      refine Go.Sl.L.pu rfl rfl ⟨_, rfl, rfl⟩ (pu_move rfl) ?_
      refine Go.Sl.L.ac rfl rfl ⟨_, rfl, rfl⟩ (as_call (and_c hL (by omega) hc) (by repeat constructor) (by repeat constructor)) ?_
      rintro _ _ ⟨_, ⟨a1, c1, rfl, rfl⟩, rfl⟩
      refine Go.Sl.L.pu rfl rfl ⟨_, rfl, rfl⟩ (pu_move rfl) ?_
      refine Go.Sl.L.ac rfl rfl ⟨_, rfl, rfl⟩ (as_call (and10_spec hL (by omega)) (by repeat constructor) (by repeat constructor)) ?_
      rintro _ _ ⟨_, ⟨a4, c4, rfl, rfl⟩, rfl⟩
      refine Go.Sl.L.ac rfl rfl ⟨_, rfl, rfl⟩ (as_call (same_c (a := a1) (b := a4) (c := c1) (d := c4) (xs := andV ls) (by omega)) (by repeat constructor) (by repeat constructor)) ?_
      rintro _ _ ⟨_, ⟨rfl, rfl⟩, rfl⟩
      refine Go.Sl.L.pu rfl rfl trivial (by first | exact pu_pick_t rfl rfl | exact pu_pick_f rfl rfl) ?_
      refine Go.Sl.L.puBt rfl rfl trivial (pu_move rfl) rfl ?_
      refine Go.Sl.L.ac rfl rfl ⟨_, rfl, rfl⟩ (as_call (awake_spec) (by repeat constructor) (by repeat constructor)) ?_
      rintro _ _ ⟨_, ⟨rfl, rfl⟩, rfl⟩
      refine Go.Sl.L.pu rfl rfl trivial (by first | exact pu_pick_t rfl rfl | exact pu_pick_f rfl rfl) ?_
      refine Go.Sl.L.pu rfl rfl trivial (pu_assign rfl) ?_
      refine Go.Sl.L.nil ?_
      refine Gs.then_n ?_
      refine Gs.ret ?_
      exact Gs.fin1 Try.results3 rfl _ (⟨rfl, rfl⟩) (by repeat constructor)
end Go.Proofs.Ytonilkceolbkmaa
