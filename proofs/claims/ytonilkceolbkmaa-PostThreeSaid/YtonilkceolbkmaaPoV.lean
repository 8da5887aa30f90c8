/- Walks: SamePosts, OverInts, OverKeys, OverPosts, GreatPosts (grapevinelaw0). -/
import Derived.Test.YtonilkceolbkmaaPoU
namespace Go.Proofs.Ytonilkceolbkmaa
open Go Go.Sl Go.Gv Go.Po
set_option maxRecDepth 100000
theorem samePosts_spec {S : HProp} {a b : Option Addr} {c d : Nat} {xs ys : List PostV} (hS : PRd S a xs) (hU : PRd S b ys) (hl : xs.length ≤ 1000000) :
    Ct Try.prog 23 [.slice a xs.length c, .slice b ys.length d] [S] (fun v hs => v = .bool (decide (plain1 xs = plain1 ys)) ∧ hs = [S]) := by
  refine Ct.intro Try.func23 rfl (by kernel_rfl) 42 Try.ntmps23 (Nat.le_of_ble_eq_true rfl) fun w0 R => ?_
  refine Gs.slAddr (hS.1.h (by repeat constructor)) fun ab ao ha => ?_
  refine Gs.slAddr (hU.1.h (by repeat constructor)) fun ub uo hu => ?_
  refine Gs.seq ?_
  refine Gs.reg ?_
  refine Go.Sl.L.pu rfl rfl trivial (pu_assign rfl) ?_
  refine Go.Sl.L.nil ?_
  refine Gs.then_n ?_
  refine Gs.seq ?_
  refine Gs.seq ?_
  refine Gs.reg ?_
  refine Go.Sl.L.pu rfl rfl trivial (pu_move rfl) ?_
  refine Go.Sl.L.pu rfl rfl trivial (pu_len Try.underlying30 rfl) ?_
  refine Go.Sl.L.pu rfl rfl trivial (pu_move rfl) ?_
  refine Go.Sl.L.pu rfl rfl trivial (pu_len Try.underlying30 rfl) ?_
  refine Go.Sl.L.pu rfl rfl trivial (pu_ne rfl rfl) ?_
  refine Go.Sl.L.nil ?_
  refine Gs.then_n ?_
  refine Gs.cond rfl (fun hc0 => ?_) (fun hc0 => ?_)
  · skip
    have hne : ¬ plain1 xs = plain1 ys := fun e => by
      have h := of_decide_eq_true hc0
      have h2 := congrArg List.length e
      simp only [plain1, List.length_map] at h2
      rw [h2] at h; exact h rfl
    refine Gs.seq ?_
    refine Gs.reg ?_
    refine Go.Sl.L.pu rfl rfl trivial (pu_assign rfl) ?_
    refine Go.Sl.L.nil ?_
    refine Gs.then_n ?_
    refine Gs.ret ?_
    refine Gs.then_r ?_
    exact Gs.fin1 Try.results23 rfl _ (⟨by rw [decide_eq_false hne], rfl⟩) (by repeat constructor)
  · skip
    have hle : xs.length = ys.length := by have := of_decide_eq_false hc0; omega
    refine Gs.skip ?_
    refine Gs.then_n ?_
    refine Gs.seq ?_
    refine Gs.seq ?_
    refine Gs.reg ?_
    refine Go.Sl.L.pu rfl rfl trivial (pu_assign rfl) ?_
    refine Go.Sl.L.nil ?_
    refine Gs.then_n ?_
    refine Gs.block ?_
    refine Gs.loop1 (fun i : Nat => i ≤ xs.length ∧ (plain1 xs).take i = (plain1 ys).take i) (fun i => [(0, .slice a xs.length c), (1, .slice b ys.length d), (5, int i)]) (fun i => [S] ++ R) (fun i => xs.length - i) 0 (⟨Nat.zero_le _, rfl⟩) (by repeat constructor) (by repeat constructor) (fun i ⟨hi, ht⟩ => ?_)
    refine Gs.seq ?_
    refine Gs.seq ?_
    refine Gs.reg ?_
    refine Go.Sl.L.pu rfl rfl trivial (pu_move rfl) ?_
    refine Go.Sl.L.pu rfl rfl trivial (pu_move rfl) ?_
    refine Go.Sl.L.pu rfl rfl trivial (pu_len Try.underlying30 rfl) ?_
    refine Go.Sl.L.pu rfl rfl trivial (pu_lt rfl rfl) ?_
    refine Go.Sl.L.nil ?_
    refine Gs.then_n ?_
    refine Gs.cond rfl (fun hc1 => ?_) (fun hc1 => ?_)
    · skip
      have hlt : i < xs.length := by have := of_decide_eq_true hc1; omega
      obtain ⟨x, hx⟩ : ∃ x, xs[i]? = some x := ⟨xs[i], by simp [hlt]⟩
      obtain ⟨y, hy⟩ : ∃ x, ys[i]? = some x := ⟨ys[i]'(by omega), by simp [← hle, hlt]⟩
      obtain rfl := ha (by rintro rfl; simp at hlt)
      obtain rfl := hu (by rintro rfl; simp at hy)
      have hx1 := plain_at hx
      have hy1 := plain_at hy
      have hxa := hS.2 x (List.mem_of_getElem? hx)
      have hya := hU.2 y (List.mem_of_getElem? hy)
      refine Gs.skip ?_
      refine Gs.then_n ?_
      refine Gs.seq ?_
      refine Gs.block ?_
      refine Gs.seq ?_
      refine Gs.regD mixed (by kernel_rfl) ?_
      refine Rg.pu 0 rfl rfl (by kernel_rfl) trivial (pu_move rfl) ?_
      refine Rg.pu 1 rfl rfl (by kernel_rfl) trivial (pu_move rfl) ?_
      refine Rg.pu 2 rfl rfl (by kernel_rfl) trivial (pu_ia se_30 rfl rfl (by omega) (by omega)) ?_
      refine Rg.pu 3 rfl rfl (by kernel_rfl) trivial (pu_fa fa_37_0 rfl) ?_
      refine Rg.rd 4 rfl rfl (by kernel_rfl) trivial (rd_lda ag_34 rfl (Rdc.elp 2 (hS.1.h (by repeat constructor)) hx rfl rfl) rfl) ?_
      refine Rg.pu 5 rfl rfl (by kernel_rfl) trivial (pu_move rfl) ?_
      refine Rg.pu 6 rfl rfl (by kernel_rfl) trivial (pu_move rfl) ?_
      refine Rg.pu 7 rfl rfl (by kernel_rfl) trivial (pu_ia se_30 rfl rfl (by omega) (by omega)) ?_
      refine Rg.pu 8 rfl rfl (by kernel_rfl) trivial (pu_fa fa_37_0 rfl) ?_
      refine Rg.rd 9 rfl rfl (by kernel_rfl) trivial (rd_lda ag_34 rfl (Rdc.elp 2 (hU.1.h (by repeat constructor)) hy rfl rfl) rfl) ?_
      refine Rg.pu 10 rfl rfl (by kernel_rfl) trivial (pu_neT (a := x.k) (b := y.k) cmp_34 (by decide) Try.eqGuardType34 rfl rfl) ?_
      refine Rg.puB 11 rfl rfl (by kernel_rfl) trivial (pu_move rfl) (fun hg11 => ?_) (fun hg11 => ?_)
      · skip
        have hne : ¬ plain1 xs = plain1 ys := fun e => by
          rw [e, hy1] at hx1
          have h1 : y.k = x.k := congrArg Prod.fst (Option.some.inj hx1)
          have h2 := of_decide_eq_true hg11
          exact h2 h1.symm
        refine Rg.off 12 rfl rfl (by kernel_rfl) rfl rfl rfl rfl ?_
        refine Rg.off 13 rfl rfl (by kernel_rfl) rfl rfl rfl rfl ?_
        refine Rg.off 14 rfl rfl (by kernel_rfl) rfl rfl rfl rfl ?_
        refine Rg.off 15 rfl rfl (by kernel_rfl) rfl rfl rfl rfl ?_
        refine Rg.off 16 rfl rfl (by kernel_rfl) rfl rfl rfl rfl ?_
        refine Rg.off 17 rfl rfl (by kernel_rfl) rfl rfl rfl rfl ?_
        refine Rg.off 18 rfl rfl (by kernel_rfl) rfl rfl rfl rfl ?_
        refine Rg.off 19 rfl rfl (by kernel_rfl) rfl rfl rfl rfl ?_
        refine Rg.off 20 rfl rfl (by kernel_rfl) rfl rfl rfl rfl ?_
        refine Rg.off 21 rfl rfl (by kernel_rfl) rfl rfl rfl rfl ?_
        refine Rg.off 22 rfl rfl (by kernel_rfl) rfl rfl rfl rfl ?_
        refine Rg.off 23 rfl rfl (by kernel_rfl) rfl rfl rfl rfl ?_
        refine Rg.pu 24 rfl rfl (by kernel_rfl) trivial (by first | exact pu_pick_t rfl rfl | exact pu_pick_f rfl rfl) ?_
        refine Rg.end (by kernel_rfl) ?_
        refine Gs.then_n ?_
        refine Gs.cond_t rfl ?_
        refine Gs.seq ?_
        refine Gs.reg ?_
        refine Go.Sl.L.pu rfl rfl trivial (pu_assign rfl) ?_
        refine Go.Sl.L.nil ?_
        refine Gs.then_n ?_
        refine Gs.ret ?_
        refine Gs.blk_r ?_
        refine Gs.then_r ?_
        refine Gs.then_r ?_
        refine Gs.blk_r ?_
        refine Gs.then_r ?_
        exact Gs.fin1 Try.results23 rfl _ (⟨by rw [decide_eq_false hne], rfl⟩) (by repeat constructor)
      · skip
        have hkk : x.k = y.k := Decidable.not_not.1 (of_decide_eq_false hg11)
        refine Rg.pu 12 rfl rfl (by kernel_rfl) ⟨_, rfl, rfl⟩ (pu_move rfl) ?_
        refine Rg.pu 13 rfl rfl (by kernel_rfl) ⟨_, rfl, rfl⟩ (pu_move rfl) ?_
        refine Rg.pu 14 rfl rfl (by kernel_rfl) ⟨_, rfl, rfl⟩ (pu_ia se_30 rfl rfl (by omega) (by omega)) ?_
        refine Rg.pu 15 rfl rfl (by kernel_rfl) ⟨_, rfl, rfl⟩ (pu_fa fa_37_1 rfl) ?_
        refine Rg.rd 16 rfl rfl (by kernel_rfl) ⟨_, rfl, rfl⟩ (rd_ld na_35 rfl (Rdc.elp 1 (hS.1.h (by repeat constructor)) hx rfl rfl)) ?_
        refine Rg.pu 17 rfl rfl (by kernel_rfl) ⟨_, rfl, rfl⟩ (pu_move rfl) ?_
        refine Rg.pu 18 rfl rfl (by kernel_rfl) ⟨_, rfl, rfl⟩ (pu_move rfl) ?_
        refine Rg.pu 19 rfl rfl (by kernel_rfl) ⟨_, rfl, rfl⟩ (pu_ia se_30 rfl rfl (by omega) (by omega)) ?_
        refine Rg.pu 20 rfl rfl (by kernel_rfl) ⟨_, rfl, rfl⟩ (pu_fa fa_37_1 rfl) ?_
        refine Rg.rd 21 rfl rfl (by kernel_rfl) ⟨_, rfl, rfl⟩ (rd_ld na_35 rfl (Rdc.elp 1 (hU.1.h (by repeat constructor)) hy rfl rfl)) ?_
        refine Rg.one (by kernel_rfl) (Stp.ac 22 rfl rfl (by kernel_rfl) ⟨_, rfl, rfl⟩ (as_call (sameInts_spec hxa.1 hya.1 (by omega)) (by repeat constructor) (by repeat constructor))  ?_)
        rintro _ _ ⟨_, ⟨rfl, rfl⟩, rfl⟩
        refine Rg.pu 23 rfl rfl (by kernel_rfl) ⟨_, rfl, rfl⟩ (pu_not rfl) ?_
        refine Rg.pu 24 rfl rfl (by kernel_rfl) trivial (by first | exact pu_pick_t rfl rfl | exact pu_pick_f rfl rfl) ?_
        refine Rg.end (by kernel_rfl) ?_
        refine Gs.then_n ?_
        refine Gs.cond rfl (fun hc2 => ?_) (fun hc2 => ?_)
        · skip
          have hne : ¬ plain1 xs = plain1 ys := fun e => by
            have h := not_t hc2
            rw [e, hy1] at hx1
            have h1 : y.t.xs = x.t.xs := congrArg Prod.snd (Option.some.inj hx1)
            exact (of_decide_eq_false h) h1.symm
          refine Gs.seq ?_
          refine Gs.reg ?_
          refine Go.Sl.L.pu rfl rfl trivial (pu_assign rfl) ?_
          refine Go.Sl.L.nil ?_
          refine Gs.then_n ?_
          refine Gs.ret ?_
          refine Gs.blk_r ?_
          refine Gs.then_r ?_
          refine Gs.then_r ?_
          refine Gs.blk_r ?_
          refine Gs.then_r ?_
          exact Gs.fin1 Try.results23 rfl _ (⟨by rw [decide_eq_false hne], rfl⟩) (by repeat constructor)
        · skip
          have hat : x.t.xs = y.t.xs := of_decide_eq_true (not_f hc2)
          have hxy : x.p = y.p := by show (x.k, x.t.xs) = (y.k, y.t.xs); rw [hkk, hat]
          refine Gs.skip ?_
          refine Gs.blk_n ?_
          refine Gs.then_n ?_
          refine Gs.reg ?_
          refine Go.Sl.L.pu rfl rfl trivial (pu_move rfl) ?_
          refine Go.Sl.L.pu rfl rfl trivial (by first | exact pu_addI rfl rfl rfl (by omega) (by omega) | exact pu_add rfl rfl) ?_
          refine Go.Sl.L.pu rfl rfl trivial (pu_assign rfl) ?_
          refine Go.Sl.L.nil ?_
          refine Gs.then_n ?_
          exact Gs.again1 (i + 1) ⟨by omega, by rw [List.take_add_one, List.take_add_one, ht, hx1, hy1, hxy]⟩ (by omega) (by repeat constructor) (by repeat constructor)
    · skip
      have hge : i = xs.length := by have := of_decide_eq_false hc1; omega
      have heq : plain1 xs = plain1 ys := by rw [hge, List.take_of_length_le (by simp), List.take_of_length_le (by simp [hle])] at ht; exact ht
      refine Gs.exit ?_
      refine Gs.then_x ?_
      refine Gs.then_x ?_
      refine Gs.blk_hit ?_
      refine Gs.then_n ?_
      refine Gs.seq ?_
      refine Gs.reg ?_
      refine Go.Sl.L.pu rfl rfl trivial (pu_assign rfl) ?_
      refine Go.Sl.L.nil ?_
      refine Gs.then_n ?_
      refine Gs.ret ?_
      exact Gs.fin1 Try.results23 rfl _ (⟨by rw [decide_eq_true heq], rfl⟩) (by repeat constructor)
theorem overInts_spec {a : Option Addr} {c : Nat} {xs : List Int} (hl : xs.length ≤ 100000) :
    Ct Try.prog 53 [.slice a xs.length c] [sl 3 1 intC a c xs] (fun v hs => v = .tuple #[] ∧ hs = []) := by
  refine Ct.intro Try.func53 rfl (by kernel_rfl) 15 Try.ntmps53 (Nat.le_of_ble_eq_true rfl) fun w0 R => ?_
  refine Gs.slAddr (xs := xs) (SlH.own (E := 3) (enc := intC) (by repeat constructor)) fun ab ao ha => ?_
  refine Gs.seq ?_
  refine Gs.seq ?_
  refine Gs.reg ?_
  refine Go.Sl.L.pu rfl rfl trivial (pu_assign rfl) ?_
  refine Go.Sl.L.nil ?_
  refine Gs.then_n ?_
  refine Gs.block ?_
  refine Gs.loop1 (fun s : Nat × List Int => s.1 ≤ xs.length ∧ s.2.length = xs.length) (fun s => [(0, .slice a xs.length c), (2, int s.1)]) (fun s => [sl 3 1 intC a c s.2] ++ R) (fun s => xs.length - s.1) (0, xs) (⟨Nat.zero_le _, rfl⟩) (by repeat constructor) (by repeat constructor) (fun s hs => ?_)
  obtain ⟨i, ys⟩ := s
  obtain ⟨hi, hy⟩ := hs
  dsimp only at hi hy ⊢
  refine Gs.seq ?_
  refine Gs.seq ?_
  refine Gs.reg ?_
  refine Go.Sl.L.pu rfl rfl trivial (pu_move rfl) ?_
  refine Go.Sl.L.pu rfl rfl trivial (pu_move rfl) ?_
  refine Go.Sl.L.pu rfl rfl trivial (pu_len Try.underlying35 rfl) ?_
  refine Go.Sl.L.pu rfl rfl trivial (pu_lt rfl rfl) ?_
  refine Go.Sl.L.nil ?_
  refine Gs.then_n ?_
  refine Gs.cond rfl (fun hc0 => ?_) (fun hc0 => ?_)
  · skip
    have hlt : i < xs.length := by have := of_decide_eq_true hc0; omega
    obtain rfl := ha (by rintro rfl; simp at hlt)
    have hset : (ys.set i (-999)).length = xs.length := by rw [List.length_set]; exact hy
    refine Gs.skip ?_
    refine Gs.then_n ?_
    refine Gs.seq ?_
    refine Gs.block ?_
    refine Gs.reg ?_
    refine Go.Sl.L.pu rfl rfl trivial (pu_move rfl) ?_
    refine Go.Sl.L.pu rfl rfl trivial (pu_move rfl) ?_
    refine Go.Sl.L.pu rfl rfl trivial (pu_ia se_35 rfl rfl (by omega) (by omega)) ?_
    refine Go.Sl.L.ac0 rfl trivial (ac_stE (enc := intC) (xs := ys) (i := i) (x0 := ys[i]'(by omega)) (y0 := -999) (vs := intC (-999)) (fo := 0) sz_3 ek_3 rfl rfl (by repeat constructor) rfl rfl rfl (by simp) rfl rfl) ?_
    rintro _ _ rfl
    refine Go.Sl.L.nil ?_
    refine Gs.blk_n ?_
    refine Gs.then_n ?_
    refine Gs.reg ?_
    refine Go.Sl.L.pu rfl rfl trivial (pu_move rfl) ?_
    refine Go.Sl.L.pu rfl rfl trivial (by first | exact pu_addI rfl rfl rfl (by omega) (by omega) | exact pu_add rfl rfl) ?_
    refine Go.Sl.L.pu rfl rfl trivial (pu_assign rfl) ?_
    refine Go.Sl.L.nil ?_
    refine Gs.then_n ?_
    exact Gs.again1 (i + 1, ys.set i (-999)) ⟨hlt, hset⟩ (by show xs.length - (i + 1) < xs.length - i; omega) (by repeat constructor) (by repeat constructor)
  · skip
    refine Gs.exit ?_
    refine Gs.then_x ?_
    refine Gs.then_x ?_
    refine Gs.blk_hit ?_
    refine Gs.then_n ?_
    rw [← hy]
    refine Gs.reg ?_
    refine Go.Sl.L.pu rfl rfl trivial (pu_move rfl) ?_
    refine Go.Sl.L.ac rfl rfl trivial (ac_lit encC_3 ([(-999 : Int)]) et_35 ek_3 rfl (by repeat constructor) rfl rfl (by decide)) ?_
    rintro _ _ ⟨a13, rfl, rfl⟩
    refine Go.Sl.L.ac rfl rfl trivial (ac_append (xs := ys) (ys := [(-999 : Int)]) et_35 ek_3 rfl rfl (by repeat constructor) (SrcH.sl Try.underlying35 ek_3 (SlH.own (by repeat constructor))) (by first | omega | (simp; omega)) (by first | omega | (simp; omega))) ?_
    rintro _ _ ⟨a14, c14, rfl, rfl⟩
    refine Go.Sl.L.nil ?_
    refine Gs.fin_n ?_
    exact Gs.fin0 Try.results53 _ (⟨rfl, rfl⟩) (by repeat constructor)
theorem overKeys_spec {a : Option Addr} {c : Nat} {xs : List Key} (hl : xs.length ≤ 100000) :
    Ct Try.prog 19 [.slice a xs.length c] [sl 34 2 keyC a c xs] (fun v hs => v = .tuple #[] ∧ hs = []) := by
  refine Ct.intro Try.func19 rfl (by kernel_rfl) 17 Try.ntmps19 (Nat.le_of_ble_eq_true rfl) fun w0 R => ?_
  refine Gs.slAddr (xs := xs) (SlH.own (E := 34) (enc := keyC) (by repeat constructor)) fun ab ao ha => ?_
  refine Gs.seq ?_
  refine Gs.seq ?_
  refine Gs.reg ?_
  refine Go.Sl.L.pu rfl rfl trivial (pu_assign rfl) ?_
  refine Go.Sl.L.nil ?_
  refine Gs.then_n ?_
  refine Gs.block ?_
  refine Gs.loop1 (fun s : Nat × List Key => s.1 ≤ xs.length ∧ s.2.length = xs.length) (fun s => [(0, .slice a xs.length c), (2, int s.1)]) (fun s => [sl 34 2 keyC a c s.2] ++ R) (fun s => xs.length - s.1) (0, xs) (⟨Nat.zero_le _, rfl⟩) (by repeat constructor) (by repeat constructor) (fun s hs => ?_)
  obtain ⟨i, ys⟩ := s
  obtain ⟨hi, hy⟩ := hs
  dsimp only at hi hy ⊢
  refine Gs.seq ?_
  refine Gs.seq ?_
  refine Gs.reg ?_
  refine Go.Sl.L.pu rfl rfl trivial (pu_move rfl) ?_
  refine Go.Sl.L.pu rfl rfl trivial (pu_move rfl) ?_
  refine Go.Sl.L.pu rfl rfl trivial (pu_len Try.underlying25 rfl) ?_
  refine Go.Sl.L.pu rfl rfl trivial (pu_lt rfl rfl) ?_
  refine Go.Sl.L.nil ?_
  refine Gs.then_n ?_
  refine Gs.cond rfl (fun hc0 => ?_) (fun hc0 => ?_)
  · skip
    have hlt : i < xs.length := by have := of_decide_eq_true hc0; omega
    obtain rfl := ha (by rintro rfl; simp at hlt)
    have hset : (ys.set i ⟨-9, 0⟩).length = xs.length := by rw [List.length_set]; exact hy
    refine Gs.skip ?_
    refine Gs.then_n ?_
    refine Gs.seq ?_
    refine Gs.block ?_
    refine Gs.reg ?_
    refine Go.Sl.L.pu rfl rfl trivial (pu_move rfl) ?_
    refine Go.Sl.L.pu rfl rfl trivial (pu_move rfl) ?_
    refine Go.Sl.L.pu rfl rfl trivial (pu_build bd_34 (by repeat constructor) rfl) ?_
    refine Go.Sl.L.pu rfl rfl trivial (pu_ia se_25 rfl rfl (by omega) (by omega)) ?_
    refine Go.Sl.L.ac0 rfl trivial (ac_stE (enc := keyC) (xs := ys) (i := i) (x0 := ys[i]'(by omega)) (y0 := ⟨-9, 0⟩) (vs := keyC ⟨-9, 0⟩) (fo := 0) sz_34 ek_34 rfl rfl (by repeat constructor) rfl rfl rfl (by simp) rfl rfl) ?_
    rintro _ _ rfl
    refine Go.Sl.L.nil ?_
    refine Gs.blk_n ?_
    refine Gs.then_n ?_
    refine Gs.reg ?_
    refine Go.Sl.L.pu rfl rfl trivial (pu_move rfl) ?_
    refine Go.Sl.L.pu rfl rfl trivial (by first | exact pu_addI rfl rfl rfl (by omega) (by omega) | exact pu_add rfl rfl) ?_
    refine Go.Sl.L.pu rfl rfl trivial (pu_assign rfl) ?_
    refine Go.Sl.L.nil ?_
    refine Gs.then_n ?_
    exact Gs.again1 (i + 1, ys.set i ⟨-9, 0⟩) ⟨hlt, hset⟩ (by show xs.length - (i + 1) < xs.length - i; omega) (by repeat constructor) (by repeat constructor)
  · skip
    refine Gs.exit ?_
    refine Gs.then_x ?_
    refine Gs.then_x ?_
    refine Gs.blk_hit ?_
    refine Gs.then_n ?_
    rw [← hy]
    refine Gs.reg ?_
    refine Go.Sl.L.pu rfl rfl trivial (pu_move rfl) ?_
    refine Go.Sl.L.pu rfl rfl trivial (pu_build bd_34 (by repeat constructor) rfl) ?_
    refine Go.Sl.L.ac rfl rfl trivial (ac_lit encC_34 ([(⟨-9, 0⟩ : Key)]) et_25 ek_34 rfl (by repeat constructor) rfl rfl (by decide)) ?_
    rintro _ _ ⟨a15, rfl, rfl⟩
    refine Go.Sl.L.ac rfl rfl trivial (ac_append (xs := ys) (ys := [(⟨-9, 0⟩ : Key)]) et_25 ek_34 rfl rfl (by repeat constructor) (SrcH.sl Try.underlying25 ek_34 (SlH.own (by repeat constructor))) (by first | omega | (simp; omega)) (by first | omega | (simp; omega))) ?_
    rintro _ _ ⟨a16, c16, rfl, rfl⟩
    refine Go.Sl.L.nil ?_
    refine Gs.fin_n ?_
    exact Gs.fin0 Try.results19 _ (⟨rfl, rfl⟩) (by repeat constructor)
theorem overPosts_spec {a : Option Addr} {c : Nat} {ps : List PostV} (hl : ps.length ≤ 100000) (hat : ∀ p ∈ ps, p.t.xs.length ≤ 100000) :
    Ct Try.prog 27 [.slice a ps.length c] [plO a c ps] (fun v hs => v = .tuple #[] ∧ hs = []) := by
  refine Ct.intro Try.func27 rfl (by kernel_rfl) 20 Try.ntmps27 (Nat.le_of_ble_eq_true rfl) fun w0 R => ?_
  refine Gs.take (A := plO a c ps) (by repeat constructor) (Gs.two ?_)
  refine Gs.slAddr (xs := ps) (SlH.own (E := 37) (enc := postC) (by repeat constructor)) fun ab ao ha => ?_
  refine Gs.seq ?_
  refine Gs.reg ?_
  refine Go.Sl.L.pu rfl rfl trivial (pu_assign rfl) ?_
  refine Go.Sl.L.nil ?_
  refine Gs.then_n ?_
  refine Gs.block ?_
  refine Gs.loop1 (fun s : Nat × List PostV => s.1 ≤ ps.length ∧ s.2.length = ps.length ∧ s.2.drop s.1 = ps.drop s.1) (fun s => [(0, .slice a ps.length c), (2, int s.1)]) (fun s => [sl 37 3 postC a c s.2, big ((ps.drop s.1).map atO)] ++ R) (fun s => ps.length - s.1) (0, ps) (⟨Nat.zero_le _, rfl, rfl⟩) (by repeat constructor) (by repeat constructor) (fun s hs => ?_)
  obtain ⟨i, qs⟩ := s
  obtain ⟨hi, hy, hd⟩ := hs
  dsimp only at hi hy hd ⊢
  refine Gs.seq ?_
  refine Gs.seq ?_
  refine Gs.reg ?_
  refine Go.Sl.L.pu rfl rfl trivial (pu_move rfl) ?_
  refine Go.Sl.L.pu rfl rfl trivial (pu_move rfl) ?_
  refine Go.Sl.L.pu rfl rfl trivial (pu_len Try.underlying30 rfl) ?_
  refine Go.Sl.L.pu rfl rfl trivial (pu_lt rfl rfl) ?_
  refine Go.Sl.L.nil ?_
  refine Gs.then_n ?_
  refine Gs.cond rfl (fun hc0 => ?_) (fun hc0 => ?_)
  · skip
    have hlt : i < ps.length := by have := of_decide_eq_true hc0; omega
    obtain ⟨p, hp⟩ : ∃ x, ps[i]? = some x := ⟨ps[i], by simp [hlt]⟩
    obtain rfl := ha (by rintro rfl; simp at hlt)
    have hpq : qs[i]? = some p := by
      have := congrArg (·[0]?) hd
      simpa [List.getElem?_drop, hp] using this
    have hdr : ps.drop i = p :: ps.drop (i + 1) := by
      obtain ⟨h1, rfl⟩ := List.getElem?_eq_some_iff.1 hp
      exact List.drop_eq_getElem_cons h1
    have hpl := hat p (List.mem_of_getElem? hp)
    have k1 : (qs.set i ⟨⟨-9, 0⟩, ⟨none, [], 0⟩⟩).length = ps.length := by rw [List.length_set]; exact hy
    have k2 : (qs.set i ⟨⟨-9, 0⟩, ⟨none, [], 0⟩⟩).drop (i + 1) = ps.drop (i + 1) := by rw [List.drop_set_of_lt (by omega), ← List.drop_drop, hd, List.drop_drop]
    rw [hdr]
    refine Gs.take (A := big ((p :: ps.drop (i + 1)).map atO)) (by repeat constructor) (Gs.bigTake (A := atO p) .hd ?_)
    refine Gs.skip ?_
    refine Gs.then_n ?_
    refine Gs.seq ?_
    refine Gs.block ?_
    refine Gs.seq ?_
    refine Gs.reg ?_
    refine Go.Sl.L.pu rfl rfl trivial (pu_move rfl) ?_
    refine Go.Sl.L.pu rfl rfl trivial (pu_move rfl) ?_
    refine Go.Sl.L.pu rfl rfl trivial (pu_ia se_30 rfl rfl (by omega) (by omega)) ?_
    refine Go.Sl.L.pu rfl rfl trivial (pu_fa fa_37_1 rfl) ?_
    refine Go.Sl.L.rd rfl rfl trivial (rd_ld na_35 rfl (Rdc.elp 1 (SlH.own (xs := qs) (E := 37) (c := c) (enc := postC) (sz := 3) (by repeat constructor)) hpq rfl rfl)) ?_
    refine Go.Sl.L.ac rfl rfl trivial (as_call (overInts_spec hpl) (by repeat constructor) (by repeat constructor)) ?_
    rintro _ _ ⟨_, ⟨rfl, rfl⟩, rfl⟩
    refine Go.Sl.L.nil ?_
    refine Gs.then_n ?_
    refine Gs.reg ?_
    refine Go.Sl.L.pu rfl rfl trivial (pu_move rfl) ?_
    refine Go.Sl.L.pu rfl rfl trivial (pu_move rfl) ?_
    refine Go.Sl.L.pu rfl rfl trivial (pu_build bd_34 (by repeat constructor) rfl) ?_
    refine Go.Sl.L.pu rfl rfl trivial (pu_build bd_37 (by repeat constructor) rfl) ?_
    refine Go.Sl.L.pu rfl rfl trivial (pu_ia se_30 rfl rfl (by omega) (by omega)) ?_
    refine Go.Sl.L.ac0 rfl trivial (ac_stE (enc := postC) (xs := qs) (i := i) (x0 := p) (y0 := ⟨⟨-9, 0⟩, ⟨none, [], 0⟩⟩) (vs := postC ⟨⟨-9, 0⟩, ⟨none, [], 0⟩⟩) (fo := 0) sz_37 ek_37 rfl rfl (by repeat constructor) rfl rfl rfl hpq rfl rfl) ?_
    rintro _ _ rfl
    refine Go.Sl.L.nil ?_
    refine Gs.blk_n ?_
    refine Gs.then_n ?_
    refine Gs.reg ?_
    refine Go.Sl.L.pu rfl rfl trivial (pu_move rfl) ?_
    refine Go.Sl.L.pu rfl rfl trivial (by first | exact pu_addI rfl rfl rfl (by omega) (by omega) | exact pu_add rfl rfl) ?_
    refine Go.Sl.L.pu rfl rfl trivial (pu_assign rfl) ?_
    refine Go.Sl.L.nil ?_
    refine Gs.then_n ?_
    exact Gs.again1 (i + 1, qs.set i ⟨⟨-9, 0⟩, ⟨none, [], 0⟩⟩) ⟨hlt, k1, k2⟩ (by show ps.length - (i + 1) < ps.length - i; omega) (by repeat constructor) (by repeat constructor)
  · skip
    refine Gs.exit ?_
    refine Gs.then_x ?_
    refine Gs.then_x ?_
    refine Gs.blk_hit ?_
    refine Gs.fin_n ?_
    exact Gs.fin0 Try.results27 _ (⟨rfl, rfl⟩) (by repeat constructor)
/-- Lists of whatever length. -/
def LR0 (S : HProp) (a : Option Addr) (ls : List (SlV PostV)) : Prop := Srd S 1 slC a ls ∧ ls.length ≤ maxLen ∧ ∀ l ∈ ls, Srd S 3 postC l.a l.xs ∧ l.xs.length ≤ maxLen ∧ ∀ p ∈ l.xs, Srd S 1 intC p.t.a p.t.xs ∧ p.t.xs.length ≤ maxLen
def Small (ls : List (SlV PostV)) (most : Nat) : Prop := ls.length ≤ most ∧ ∀ l ∈ ls, l.xs.length ≤ 40 ∧ ∀ p ∈ l.xs, p.t.xs.length ≤ 30
theorem LR0.lrd {S : HProp} {a : Option Addr} {ls : List (SlV PostV)} {most : Nat} (h : LR0 S a ls) (s : Small ls most) : LRd S a ls :=
  ⟨h.1, fun l hl => ⟨⟨(h.2.2 l hl).1, fun p hp => ⟨((h.2.2 l hl).2.2 p hp).1, Nat.le_trans ((s.2 l hl).2 p hp) (by decide)⟩⟩, Nat.le_trans (s.2 l hl).1 (by decide)⟩⟩
theorem greatPosts_spec {S : HProp} {a : Option Addr} {c most : Nat} {ls : List (SlV PostV)} (hS : LR0 S a ls) (hm : most ≤ 1000) :
    Ct Try.prog 8 [.slice a ls.length c, int most] [S] (fun v hs => (∃ g : Bool, v = .bool g ∧ (g = false → Small ls most)) ∧ hs = [S]) := by
  have hmx : maxLen = 9223372036854775807 := by decide
  have hll := hS.2.1
  refine Ct.intro Try.func8 rfl (by kernel_rfl) 56 Try.ntmps8 (Nat.le_of_ble_eq_true rfl) fun w0 R => ?_
  refine Gs.slAddr (hS.1.h (by repeat constructor)) fun ab ao ha => ?_
  refine Gs.seq ?_
  refine Gs.reg ?_
  refine Go.Sl.L.pu rfl rfl trivial (pu_assign rfl) ?_
  refine Go.Sl.L.nil ?_
  refine Gs.then_n ?_
  refine Gs.seq ?_
  refine Gs.seq ?_
  refine Gs.reg ?_
  refine Go.Sl.L.pu rfl rfl trivial (pu_assign rfl) ?_
  refine Go.Sl.L.nil ?_
  refine Gs.then_n ?_
  refine Gs.block ?_
  refine Gs.loop1 (fun i : Nat => i ≤ ls.length ∧ ∀ l ∈ ls.take i, l.xs.length ≤ 40 ∧ ∀ p ∈ l.xs, p.t.xs.length ≤ 30) (fun i => [(0, .slice a ls.length c), (1, int most), (5, int i)]) (fun i => [S] ++ R) (fun i => ls.length - i) 0 (⟨Nat.zero_le _, fun l hl => by simp at hl⟩) (by repeat constructor) (by repeat constructor) (fun i ⟨hi, hok⟩ => ?_)
  refine Gs.seq ?_
  refine Gs.seq ?_
  refine Gs.reg ?_
  refine Go.Sl.L.pu rfl rfl trivial (pu_move rfl) ?_
  refine Go.Sl.L.pu rfl rfl trivial (pu_move rfl) ?_
  refine Go.Sl.L.pu rfl rfl trivial (pu_len Try.underlying22 rfl) ?_
  refine Go.Sl.L.pu rfl rfl trivial (pu_lt rfl rfl) ?_
  refine Go.Sl.L.puB rfl rfl trivial (pu_move rfl) (fun hg4 => ?_) (fun hg4 => ?_)
  · skip
    have hlt : i < ls.length := by have := of_decide_eq_true hg4; omega
    refine Go.Sl.L.pu rfl rfl ⟨_, rfl, rfl⟩ (pu_move rfl) ?_
    refine Go.Sl.L.pu rfl rfl ⟨_, rfl, rfl⟩ (pu_len Try.underlying22 rfl) ?_
    refine Go.Sl.L.pu rfl rfl ⟨_, rfl, rfl⟩ (pu_move rfl) ?_
    refine Go.Sl.L.pu rfl rfl ⟨_, rfl, rfl⟩ (pu_le rfl rfl) ?_
    refine Go.Sl.L.pu rfl rfl trivial (by first | exact pu_pick_t rfl rfl | exact pu_pick_f rfl rfl) ?_
    refine Go.Sl.L.nil ?_
    refine Gs.then_n ?_
    refine Gs.cond rfl (fun hc0 => ?_) (fun hc0 => ?_)
    · skip
      obtain ⟨⟨la, lx, lc⟩, hl⟩ : ∃ x, ls[i]? = some x := ⟨ls[i], by simp [hlt]⟩
      obtain rfl := ha (by rintro rfl; simp at hlt)
      obtain ⟨l1, l2, l3⟩ := hS.2.2 _ (List.mem_of_getElem? hl)
      dsimp only at l1 l2 l3
      refine Gs.slAddr (l1.h (by repeat constructor)) fun lb lo hla => ?_
      refine Gs.skip ?_
      refine Gs.then_n ?_
      refine Gs.seq ?_
      refine Gs.block ?_
      refine Gs.seq ?_
      refine Gs.seq ?_
      refine Gs.reg ?_
      refine Go.Sl.L.pu rfl rfl trivial (pu_assign rfl) ?_
      refine Go.Sl.L.nil ?_
      refine Gs.then_n ?_
      refine Gs.block ?_
      refine Gs.loop1 (fun k : Nat => k ≤ lx.length ∧ ∀ p ∈ lx.take k, p.t.xs.length ≤ 30) (fun k => [(0, .slice (some ⟨ab, ao, none⟩) ls.length c), (1, int most), (5, int i), (6, int k)]) (fun k => [S] ++ R) (fun k => lx.length - k) 0 (⟨Nat.zero_le _, fun l hl => by simp at hl⟩) (by repeat constructor) (by repeat constructor) (fun k ⟨hk, hok1⟩ => ?_)
      refine Gs.seq ?_
      refine Gs.seq ?_
      refine Gs.reg ?_
      refine Go.Sl.L.pu rfl rfl trivial (pu_move rfl) ?_
      refine Go.Sl.L.pu rfl rfl trivial (pu_move rfl) ?_
      refine Go.Sl.L.pu rfl rfl trivial (pu_move rfl) ?_
      refine Go.Sl.L.pu rfl rfl trivial (pu_ia se_22 rfl rfl (by omega) (by omega)) ?_
      refine Go.Sl.L.rd rfl rfl trivial (rd_ld na_30 rfl (Rdc.el0 (enc := slC) (sz := 1) (hS.1.h (by repeat constructor)) hl rfl rfl)) ?_
      refine Go.Sl.L.pu rfl rfl trivial (pu_len Try.underlying30 rfl) ?_
      refine Go.Sl.L.pu rfl rfl trivial (pu_lt rfl rfl) ?_
      refine Go.Sl.L.puB rfl rfl trivial (pu_move rfl) (fun hg7 => ?_) (fun hg7 => ?_)
      · skip
        have hlt1 : k < lx.length := by have h := of_decide_eq_true hg7; dsimp only at h; omega
        obtain ⟨p, hp⟩ : ∃ x, lx[k]? = some x := ⟨lx[k], by simp [hlt1]⟩
        obtain rfl := hla (by rintro rfl; simp at hlt1)
        have hpp := l3 p (List.mem_of_getElem? hp)
        refine Go.Sl.L.pu rfl rfl ⟨_, rfl, rfl⟩ (pu_move rfl) ?_
        refine Go.Sl.L.pu rfl rfl ⟨_, rfl, rfl⟩ (pu_move rfl) ?_
        refine Go.Sl.L.pu rfl rfl ⟨_, rfl, rfl⟩ (pu_ia se_22 rfl rfl (by omega) (by omega)) ?_
        refine Go.Sl.L.rd rfl rfl ⟨_, rfl, rfl⟩ (rd_ld na_30 rfl (Rdc.el0 (enc := slC) (sz := 1) (hS.1.h (by repeat constructor)) hl rfl rfl)) ?_
        refine Go.Sl.L.pu rfl rfl ⟨_, rfl, rfl⟩ (pu_len Try.underlying30 rfl) ?_
        refine Go.Sl.L.pu rfl rfl ⟨_, rfl, rfl⟩ (pu_le rfl rfl) ?_
        refine Go.Sl.L.pu rfl rfl trivial (by first | exact pu_pick_t rfl rfl | exact pu_pick_f rfl rfl) ?_
        refine Go.Sl.L.nil ?_
        refine Gs.then_n ?_
        refine Gs.cond rfl (fun hc1 => ?_) (fun hc1 => ?_)
        · skip
          refine Gs.skip ?_
          refine Gs.then_n ?_
          refine Gs.seq ?_
          refine Gs.block ?_
          refine Gs.seq ?_
          refine Gs.reg ?_
          refine Go.Sl.L.pu rfl rfl trivial (pu_move rfl) ?_
          refine Go.Sl.L.pu rfl rfl trivial (pu_move rfl) ?_
          refine Go.Sl.L.pu rfl rfl trivial (pu_ia se_22 rfl rfl (by omega) (by omega)) ?_
          refine Go.Sl.L.rd rfl rfl trivial (rd_ld na_30 rfl (Rdc.el0 (enc := slC) (sz := 1) (hS.1.h (by repeat constructor)) hl rfl rfl)) ?_
          refine Go.Sl.L.pu rfl rfl trivial (pu_move rfl) ?_
          refine Go.Sl.L.pu rfl rfl trivial (pu_ia se_30 rfl rfl (by omega) (by dsimp only; omega)) ?_
          refine Go.Sl.L.pu rfl rfl trivial (pu_fa fa_37_1 rfl) ?_
          refine Go.Sl.L.rd rfl rfl trivial (rd_ld na_35 rfl (Rdc.elp 1 (l1.h (by repeat constructor)) hp rfl rfl)) ?_
          refine Go.Sl.L.pu rfl rfl trivial (pu_len Try.underlying35 rfl) ?_
          refine Go.Sl.L.pu rfl rfl trivial (pu_gt rfl rfl) ?_
          refine Go.Sl.L.nil ?_
          refine Gs.then_n ?_
          refine Gs.cond rfl (fun hc2 => ?_) (fun hc2 => ?_)
          · skip
            refine Gs.seq ?_
            refine Gs.reg ?_
            refine Go.Sl.L.pu rfl rfl trivial (pu_assign rfl) ?_
            refine Go.Sl.L.nil ?_
            refine Gs.then_n ?_
            refine Gs.ret ?_
            refine Gs.blk_r ?_
            refine Gs.then_r ?_
            refine Gs.then_r ?_
            refine Gs.blk_r ?_
            refine Gs.then_r ?_
            refine Gs.blk_r ?_
            refine Gs.then_r ?_
            refine Gs.then_r ?_
            refine Gs.blk_r ?_
            refine Gs.then_r ?_
            exact Gs.fin1 Try.results8 rfl _ (⟨⟨true, rfl, fun h => by cases h⟩, rfl⟩) (by repeat constructor)
          · skip
            have hok2 : ∀ p ∈ lx.take (k + 1), p.t.xs.length ≤ 30 := fun q hq => by
              rw [List.take_add_one, hp] at hq
              rcases List.mem_append.1 hq with hq | hq
              · exact hok1 q hq
              · simp at hq; subst hq; have h := of_decide_eq_false hc2; omega
            refine Gs.skip ?_
            refine Gs.blk_n ?_
            refine Gs.then_n ?_
            refine Gs.reg ?_
            refine Go.Sl.L.pu rfl rfl trivial (pu_move rfl) ?_
            refine Go.Sl.L.pu rfl rfl trivial (by first | exact pu_addI rfl rfl rfl (by omega) (by omega) | exact pu_add rfl rfl) ?_
            refine Go.Sl.L.pu rfl rfl trivial (pu_assign rfl) ?_
            refine Go.Sl.L.nil ?_
            refine Gs.then_n ?_
            exact Gs.again1 (k + 1) ⟨hlt1, hok2⟩ (by omega) (by repeat constructor) (by repeat constructor)
        · skip
          have hgo : lx.length ≤ 40 → ∀ p ∈ lx, p.t.xs.length ≤ 30 := fun h => by have h2 := of_decide_eq_false hc1; dsimp only at h2; omega
          refine Gs.exit ?_
          refine Gs.then_x ?_
          refine Gs.then_x ?_
          refine Gs.blk_hit ?_
          refine Gs.then_n ?_
          refine Gs.seq ?_
          refine Gs.reg ?_
          refine Go.Sl.L.pu rfl rfl trivial (pu_move rfl) ?_
          refine Go.Sl.L.pu rfl rfl trivial (pu_move rfl) ?_
          refine Go.Sl.L.pu rfl rfl trivial (pu_ia se_22 rfl rfl (by omega) (by omega)) ?_
          refine Go.Sl.L.rd rfl rfl trivial (rd_ld na_30 rfl (Rdc.el0 (enc := slC) (sz := 1) (hS.1.h (by repeat constructor)) hl rfl rfl)) ?_
          refine Go.Sl.L.pu rfl rfl trivial (pu_len Try.underlying30 rfl) ?_
          refine Go.Sl.L.pu rfl rfl trivial (pu_gt rfl rfl) ?_
          refine Go.Sl.L.nil ?_
          refine Gs.then_n ?_
          refine Gs.cond rfl (fun hc3 => ?_) (fun hc3 => ?_)
          · skip
            refine Gs.seq ?_
            refine Gs.reg ?_
            refine Go.Sl.L.pu rfl rfl trivial (pu_assign rfl) ?_
            refine Go.Sl.L.nil ?_
            refine Gs.then_n ?_
            refine Gs.ret ?_
            refine Gs.blk_r ?_
            refine Gs.then_r ?_
            refine Gs.then_r ?_
            refine Gs.blk_r ?_
            refine Gs.then_r ?_
            exact Gs.fin1 Try.results8 rfl _ (⟨⟨true, rfl, fun h => by cases h⟩, rfl⟩) (by repeat constructor)
          · skip
            have hok3 : ∀ l ∈ ls.take (i + 1), l.xs.length ≤ 40 ∧ ∀ p ∈ l.xs, p.t.xs.length ≤ 30 := fun q hq => by
              rw [List.take_add_one, hl] at hq
              rcases List.mem_append.1 hq with hq | hq
              · exact hok q hq
              · simp at hq; subst hq
                have h40 : lx.length ≤ 40 := by have h := of_decide_eq_false hc3; dsimp only at h; omega
                exact ⟨h40, hgo h40⟩
            refine Gs.skip ?_
            refine Gs.blk_n ?_
            refine Gs.then_n ?_
            refine Gs.reg ?_
            refine Go.Sl.L.pu rfl rfl trivial (pu_move rfl) ?_
            refine Go.Sl.L.pu rfl rfl trivial (by first | exact pu_addI rfl rfl rfl (by omega) (by omega) | exact pu_add rfl rfl) ?_
            refine Go.Sl.L.pu rfl rfl trivial (pu_assign rfl) ?_
            refine Go.Sl.L.nil ?_
            refine Gs.then_n ?_
            exact Gs.again1 (i + 1) ⟨hlt, hok3⟩ (by omega) (by repeat constructor) (by repeat constructor)
      · skip
        have hgo : lx.length ≤ 40 → ∀ p ∈ lx, p.t.xs.length ≤ 30 := fun _ p hp => hok1 p (by rw [List.take_of_length_le (by have h := of_decide_eq_false hg7; dsimp only at h; omega)]; exact hp)
        refine Go.Sl.L.off rfl rfl rfl rfl rfl rfl ?_
        refine Go.Sl.L.off rfl rfl rfl rfl rfl rfl ?_
        refine Go.Sl.L.off rfl rfl rfl rfl rfl rfl ?_
        refine Go.Sl.L.off rfl rfl rfl rfl rfl rfl ?_
        refine Go.Sl.L.off rfl rfl rfl rfl rfl rfl ?_
        refine Go.Sl.L.off rfl rfl rfl rfl rfl rfl ?_
        refine Go.Sl.L.pu rfl rfl trivial (by first | exact pu_pick_t rfl rfl | exact pu_pick_f rfl rfl) ?_
        refine Go.Sl.L.nil ?_
        refine Gs.then_n ?_
        refine Gs.cond_f rfl ?_
        refine Gs.exit ?_
        refine Gs.then_x ?_
        refine Gs.then_x ?_
        refine Gs.blk_hit ?_
        refine Gs.then_n ?_
        refine Gs.seq ?_
        refine Gs.reg ?_
        refine Go.Sl.L.pu rfl rfl trivial (pu_move rfl) ?_
        refine Go.Sl.L.pu rfl rfl trivial (pu_move rfl) ?_
        refine Go.Sl.L.pu rfl rfl trivial (pu_ia se_22 rfl rfl (by omega) (by omega)) ?_
        refine Go.Sl.L.rd rfl rfl trivial (rd_ld na_30 rfl (Rdc.el0 (enc := slC) (sz := 1) (hS.1.h (by repeat constructor)) hl rfl rfl)) ?_
        refine Go.Sl.L.pu rfl rfl trivial (pu_len Try.underlying30 rfl) ?_
        refine Go.Sl.L.pu rfl rfl trivial (pu_gt rfl rfl) ?_
        refine Go.Sl.L.nil ?_
        refine Gs.then_n ?_
        refine Gs.cond rfl (fun hc3 => ?_) (fun hc3 => ?_)
        · skip
          refine Gs.seq ?_
          refine Gs.reg ?_
          refine Go.Sl.L.pu rfl rfl trivial (pu_assign rfl) ?_
          refine Go.Sl.L.nil ?_
          refine Gs.then_n ?_
          refine Gs.ret ?_
          refine Gs.blk_r ?_
          refine Gs.then_r ?_
          refine Gs.then_r ?_
          refine Gs.blk_r ?_
          refine Gs.then_r ?_
          exact Gs.fin1 Try.results8 rfl _ (⟨⟨true, rfl, fun h => by cases h⟩, rfl⟩) (by repeat constructor)
        · skip
          have hok3 : ∀ l ∈ ls.take (i + 1), l.xs.length ≤ 40 ∧ ∀ p ∈ l.xs, p.t.xs.length ≤ 30 := fun q hq => by
            rw [List.take_add_one, hl] at hq
            rcases List.mem_append.1 hq with hq | hq
            · exact hok q hq
            · simp at hq; subst hq
              have h40 : lx.length ≤ 40 := by have h := of_decide_eq_false hc3; dsimp only at h; omega
              exact ⟨h40, hgo h40⟩
          refine Gs.skip ?_
          refine Gs.blk_n ?_
          refine Gs.then_n ?_
          refine Gs.reg ?_
          refine Go.Sl.L.pu rfl rfl trivial (pu_move rfl) ?_
          refine Go.Sl.L.pu rfl rfl trivial (by first | exact pu_addI rfl rfl rfl (by omega) (by omega) | exact pu_add rfl rfl) ?_
          refine Go.Sl.L.pu rfl rfl trivial (pu_assign rfl) ?_
          refine Go.Sl.L.nil ?_
          refine Gs.then_n ?_
          exact Gs.again1 (i + 1) ⟨hlt, hok3⟩ (by omega) (by repeat constructor) (by repeat constructor)
    · skip
      have hfin : decide ((most : Int) < (ls.length : Int)) = false → Small ls most := fun h => by have h1 := of_decide_eq_false h; have h2 := of_decide_eq_false hc0; omega
      refine Gs.exit ?_
      refine Gs.then_x ?_
      refine Gs.then_x ?_
      refine Gs.blk_hit ?_
      refine Gs.then_n ?_
      refine Gs.seq ?_
      refine Gs.reg ?_
      refine Go.Sl.L.pu rfl rfl trivial (pu_move rfl) ?_
      refine Go.Sl.L.pu rfl rfl trivial (pu_len Try.underlying22 rfl) ?_
      refine Go.Sl.L.pu rfl rfl trivial (pu_move rfl) ?_
      refine Go.Sl.L.pu rfl rfl trivial (pu_gt rfl rfl) ?_
      refine Go.Sl.L.pu rfl rfl trivial (pu_assign rfl) ?_
      refine Go.Sl.L.nil ?_
      refine Gs.then_n ?_
      refine Gs.ret ?_
      exact Gs.fin1 Try.results8 rfl _ (⟨⟨_, rfl, hfin⟩, rfl⟩) (by repeat constructor)
  · skip
    have hfin : decide ((most : Int) < (ls.length : Int)) = false → Small ls most := fun h => ⟨by have := of_decide_eq_false h; omega, fun l hl => hok l (by rw [List.take_of_length_le (by have := of_decide_eq_false hg4; omega)]; exact hl)⟩
    refine Go.Sl.L.off rfl rfl rfl rfl rfl rfl ?_
    refine Go.Sl.L.off rfl rfl rfl rfl rfl rfl ?_
    refine Go.Sl.L.off rfl rfl rfl rfl rfl rfl ?_
    refine Go.Sl.L.off rfl rfl rfl rfl rfl rfl ?_
    refine Go.Sl.L.pu rfl rfl trivial (by first | exact pu_pick_t rfl rfl | exact pu_pick_f rfl rfl) ?_
    refine Go.Sl.L.nil ?_
    refine Gs.then_n ?_
    refine Gs.cond_f rfl ?_
    refine Gs.exit ?_
    refine Gs.then_x ?_
    refine Gs.then_x ?_
    refine Gs.blk_hit ?_
    refine Gs.then_n ?_
    refine Gs.seq ?_
    refine Gs.reg ?_
    refine Go.Sl.L.pu rfl rfl trivial (pu_move rfl) ?_
    refine Go.Sl.L.pu rfl rfl trivial (pu_len Try.underlying22 rfl) ?_
    refine Go.Sl.L.pu rfl rfl trivial (pu_move rfl) ?_
    refine Go.Sl.L.pu rfl rfl trivial (pu_gt rfl rfl) ?_
    refine Go.Sl.L.pu rfl rfl trivial (pu_assign rfl) ?_
    refine Go.Sl.L.nil ?_
    refine Gs.then_n ?_
    refine Gs.ret ?_
    exact Gs.fin1 Try.results8 rfl _ (⟨⟨_, rfl, hfin⟩, rfl⟩) (by repeat constructor)
end Go.Proofs.Ytonilkceolbkmaa
