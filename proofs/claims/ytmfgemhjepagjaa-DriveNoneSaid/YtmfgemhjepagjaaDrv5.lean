/- Walks: drive.Sync, Crash. -/
import Derived.Test.YtmfgemhjepagjaaDrv4
namespace Go.Proofs.Ytmfgemhjepagjaa
open Go Go.Sl Go.Gv Go.Kv Go.Dv Go.Bst
set_option maxRecDepth 100000
def syncE (D : List Fl) (ns : List ByteArray) : Int := if allB D ns then 0 else 13
theorem allB_take {D : List Fl} {ns : List ByteArray} {i : Nat} {n : ByteArray} (h : ns[i]? = some n) : allB D (ns.take (i + 1)) = (allB D (ns.take i) && (lookF D n).isSome) := by
  unfold allB; rw [List.take_add_one, h]; simp
theorem allB_off {D : List Fl} {ns : List ByteArray} {n : ByteArray} (h : n ∈ ns) (hn : lookF D n = none) : allB D ns = false := by
  unfold allB; rw [List.all_eq_false]; exact ⟨n, h, by simp [hn]⟩
theorem syncL_nil (D : List Fl) : syncL D [] = D := by simp [syncL]
theorem Ok.sync {most : Int} {D : List Fl} (h : Ok most D) (ns : List ByteArray) : Ok most (syncL D ns) := by
  have e1 : names (syncL D ns) = names D := by
    simp only [names, syncL, List.map_map]
    exact List.map_congr_left fun f _ => by simp only [Function.comp]; split <;> rfl
  have e2 : used (syncL D ns) = used D := by
    simp only [used, syncL, List.map_map]
    congr 1
    exact List.map_congr_left fun f _ => by simp only [Function.comp]; split <;> rfl
  refine ⟨h.lo, h.hi, by rw [e1]; exact h.nd, by rw [e2]; exact h.room, fun f hf => ?_⟩
  obtain ⟨x, hx, rfl⟩ := List.mem_map.1 hf
  split
  · exact Nat.le_refl _
  · exact h.firm x hx
theorem names_sync (D : List Fl) (ns : List ByteArray) : names (syncL D ns) = names D := by
  simp only [names, syncL, List.map_map]
  exact List.map_congr_left fun f _ => by simp only [Function.comp]; split <;> rfl
theorem syncL_take {D : List Fl} {ns : List ByteArray} {i : Nat} {n : ByteArray} (h : ns[i]? = some n) : syncL D (ns.take (i + 1)) = upd (syncL D (ns.take i)) n (fun f => { f with s := f.b.length }) := by
  unfold syncL upd
  rw [List.map_map, List.take_add_one, h]
  refine List.map_congr_left fun f _ => ?_
  simp only [Function.comp, Option.toList_some, List.any_append, List.any_cons, List.any_nil, Bool.or_false, Bool.or_eq_true]
  by_cases h1 : (ns.take i).any (fun n => decide (n = f.n)) = true
  · simp only [h1, true_or, if_true]
    by_cases h2 : f.n = n <;> simp [h2]
  · simp only [h1, false_or]
    by_cases h2 : f.n = n
    · simp [h2]
    · have h3 : ¬ n = f.n := fun e => h2 e.symm
      simp [h2, h3]
theorem sync_spec {S : HProp} (b : Nat) (most : Int) (D : List Fl) {a : Option Addr} {c : Nat} {ns : List ByteArray} (hS : Srd S 1 strC a ns) (hl : ns.length ≤ 1000000) :
    Ct Try.prog 11 [ptr b, .slice a ns.length c] [drv b most D, S] (fun v hs => v = int (syncE D ns) ∧ hs = [drv b most (if syncE D ns = 0 then syncL D ns else D), S]) := by
  refine Ct.intro Try.func11 rfl (by kernel_rfl) 51 Try.ntmps11 (Nat.le_of_ble_eq_true rfl) fun w0 R => ?_
  refine Gs.slAddr (hS.h (by repeat constructor)) fun ab ao hka => ?_
  refine Gs.drvOpen (by repeat constructor) fun m P hP hok => ?_
  refine Gs.seq ?_
  refine Gs.reg ?_
  refine Go.Sl.L.pu rfl rfl trivial (pu_assign rfl) ?_
  refine Go.Sl.L.nil ?_
  refine Gs.then_n ?_
  refine Gs.seq ?_
  refine Gs.seq ?_
  refine Gs.reg ?_
  refine Go.Sl.L.pu rfl rfl trivial (pu_move rfl) ?_
  refine Go.Sl.L.pu rfl rfl trivial (pu_eqN Try.underlying24 rfl rfl) ?_
  refine Go.Sl.L.nil ?_
  refine Gs.then_n ?_
  refine Gs.cond_f rfl ?_
  refine Gs.skip ?_
  refine Gs.then_n ?_
  refine Gs.seq ?_
  refine Gs.seq ?_
  refine Gs.reg ?_
  refine Go.Sl.L.pu rfl rfl trivial (pu_move rfl) ?_
  refine Go.Sl.L.pu rfl rfl trivial (pu_len Try.underlying37 rfl) ?_
  refine Go.Sl.L.pu rfl rfl trivial (pu_move rfl) ?_
  refine Go.Sl.L.nil ?_
  refine Gs.then_n ?_
  refine Gs.block ?_
  refine Gs.loop1 (fun i : Nat => i ≤ ns.length ∧ allB D (ns.take i) = true) (fun i => [(0, ptr b), (1, .slice a ns.length c), (14, .slice a ns.length c), (15, int ns.length), (16, int i)]) (fun i => [cl b 51 (driveC most m), mp strV pv m (pairs P), files P, S] ++ R) (fun i => ns.length - i) 0 (⟨Nat.zero_le _, rfl⟩) (by repeat constructor) (by repeat constructor) (fun i ⟨hi, hall⟩ => ?_)
  refine Gs.seq ?_
  refine Gs.reg ?_
  refine Go.Sl.L.pu rfl rfl trivial (pu_lt rfl rfl) ?_
  refine Go.Sl.L.nil ?_
  refine Gs.then_n ?_
  refine Gs.seq ?_
  refine Gs.cond rfl (fun hc1 => ?_) (fun hc1 => ?_)
  · skip
    have hlt : i < ns.length := by have := of_decide_eq_true hc1; omega
    obtain ⟨k, hk⟩ : ∃ k, ns[i]? = some k := ⟨ns[i], by simp [hlt]⟩
    obtain rfl := hka (by rintro rfl; simp at hlt)
    obtain ⟨x, e, hx, hxe⟩ : ∃ (x : Option Nat) (e : Int), Ct Try.prog 24 [ptr b, .string k] (fpre b m most P) (fun v hs => v = .tuple #[pv x, int e] ∧ hs = fpre b m most P) ∧ ((e = 0 ∧ (lookF D k).isSome = true) ∨ (e = 13 ∧ lookF D k = none)) := by
      obtain ⟨h1, h2⟩ | ⟨U, f, p, V, e0, e1, e2, e3, -⟩ := find_at (P := P) (by rw [hP]; exact hok.nd) k
      · exact ⟨none, 13, find_none h2, .inr ⟨rfl, by rw [← hP]; exact h1⟩⟩
      · exact ⟨some p, 0, find_some e3, .inl ⟨rfl, by rw [← hP, e2]; rfl⟩⟩
    refine Gs.skip ?_
    refine Gs.then_n ?_
    refine Gs.seq ?_
    refine Gs.block ?_
    refine Gs.seq ?_
    refine Gs.reg ?_
    refine Go.Sl.L.pu rfl rfl trivial (pu_ia se_37 rfl rfl (by omega) (by omega)) ?_
    refine Go.Sl.L.rd rfl rfl trivial (rd_ld na_9 rfl (Rdc.el0 (hS.h (by repeat constructor)) hk rfl rfl)) ?_
    refine Go.Sl.L.pu rfl rfl trivial (pu_assign rfl) ?_
    refine Go.Sl.L.nil ?_
    refine Gs.then_n ?_
    refine Gs.seq ?_
    refine Gs.reg ?_
    refine Go.Sl.L.pu rfl rfl trivial (pu_move rfl) ?_
    refine Go.Sl.L.pu rfl rfl trivial (pu_move rfl) ?_
    refine Go.Sl.L.ac rfl rfl trivial (as_call (hx) (by repeat constructor) (by repeat constructor)) ?_
    rintro _ _ ⟨_, ⟨rfl, rfl⟩, rfl⟩
    refine Go.Sl.L.pu rfl rfl trivial (pu_move rfl) ?_
    refine Go.Sl.L.pu rfl rfl trivial (pu_extract rfl rfl) ?_
    refine Go.Sl.L.pu rfl rfl trivial (pu_extract rfl rfl) ?_
    refine Go.Sl.L.pu rfl rfl trivial (pu_assign rfl) ?_
    refine Go.Sl.L.pu rfl rfl trivial (pu_assign rfl) ?_
    refine Go.Sl.L.nil ?_
    refine Gs.then_n ?_
    refine Gs.seq ?_
    refine Gs.reg ?_
    refine Go.Sl.L.pu rfl rfl trivial (pu_move rfl) ?_
    refine Go.Sl.L.pu rfl rfl trivial (pu_ne rfl rfl) ?_
    refine Go.Sl.L.nil ?_
    refine Gs.then_n ?_
    refine Gs.cond rfl (fun hc2 => ?_) (fun hc2 => ?_)
    · skip
      have hne := of_decide_eq_true hc2
      have hkn : lookF D k = none := by rcases hxe with ⟨h, -⟩ | ⟨-, h⟩ <;> first | exact absurd h hne | exact h
      have hb : allB D ns = false := allB_off (List.mem_of_getElem? hk) hkn
      have he : e = 13 := by rcases hxe with ⟨h, -⟩ | ⟨h, -⟩ <;> first | exact absurd h hne | exact h
      have hE : syncE D ns = 13 := by simp [syncE, hb]
      refine Gs.seq ?_
      refine Gs.reg ?_
      refine Go.Sl.L.pu rfl rfl trivial (pu_move rfl) ?_
      refine Go.Sl.L.pu rfl rfl trivial (pu_assign rfl) ?_
      refine Go.Sl.L.nil ?_
      refine Gs.then_n ?_
      refine Gs.ret ?_
      refine Gs.blk_r ?_
      refine Gs.then_r ?_
      refine Gs.then_r ?_
      refine Gs.blk_r ?_
      refine Gs.then_r ?_
      refine Gs.drvClose (P := P) (D := D) (by repeat constructor) hP hok ?_
      exact Gs.fin1 Try.results11 rfl _ (⟨by rw [hE, he], by rw [if_neg (by omega)]⟩) (by repeat constructor)
    · skip
      have hne := of_decide_eq_false hc2
      have hs1 : (lookF D k).isSome = true := by rcases hxe with ⟨-, h⟩ | ⟨h, -⟩ <;> first | exact h | exact absurd h (by omega)
      refine Gs.skip ?_
      refine Gs.blk_n ?_
      refine Gs.then_n ?_
      refine Gs.reg ?_
      refine Go.Sl.L.pu rfl rfl trivial (by first | exact pu_addI rfl rfl rfl (by omega) (by omega) | exact pu_add rfl rfl) ?_
      refine Go.Sl.L.pu rfl rfl trivial (pu_move rfl) ?_
      refine Go.Sl.L.nil ?_
      refine Gs.then_n ?_
      exact Gs.again1 (i + 1) ⟨by omega, by rw [allB_take hk, hall, hs1]; rfl⟩ (by show ns.length - (i + 1) < ns.length - i; omega) (by repeat constructor) (by repeat constructor)
  · skip
    have hge : i = ns.length := by have := of_decide_eq_false hc1; omega
    have hall' : allB D ns = true := by rw [hge, List.take_length] at hall; exact hall
    have hE : syncE D ns = 0 := by simp [syncE, hall']
    clear hi hall hge
    refine Gs.exit ?_
    refine Gs.then_x ?_
    refine Gs.then_x ?_
    refine Gs.blk_hit ?_
    refine Gs.then_n ?_
    refine Gs.seq ?_
    refine Gs.seq ?_
    refine Gs.reg ?_
    refine Go.Sl.L.pu rfl rfl trivial (pu_move rfl) ?_
    refine Go.Sl.L.pu rfl rfl trivial (pu_len Try.underlying37 rfl) ?_
    refine Go.Sl.L.pu rfl rfl trivial (pu_move rfl) ?_
    refine Go.Sl.L.nil ?_
    refine Gs.then_n ?_
    refine Gs.block ?_
    refine Gs.loop1 (fun s : Nat × DP => s.1 ≤ ns.length ∧ fls s.2 = syncL D (ns.take s.1)) (fun s => [(0, ptr b), (1, .slice a ns.length c), (30, .slice a ns.length c), (31, int ns.length), (32, int s.1)]) (fun s => [cl b 51 (driveC most m), mp strV pv m (pairs s.2), files s.2, S] ++ R) (fun s => ns.length - s.1) (0, P) (⟨Nat.zero_le _, by rw [hP]; exact (syncL_nil D).symm⟩) (by repeat constructor) (by repeat constructor) (fun s hs => ?_)
    obtain ⟨j, Q⟩ := s
    obtain ⟨hj, hQ⟩ := hs
    dsimp only at hj hQ ⊢
    have hokQ : Ok most (fls Q) := by rw [hQ]; exact Ok.sync hok _
    refine Gs.seq ?_
    refine Gs.reg ?_
    refine Go.Sl.L.pu rfl rfl trivial (pu_lt rfl rfl) ?_
    refine Go.Sl.L.nil ?_
    refine Gs.then_n ?_
    refine Gs.seq ?_
    refine Gs.cond rfl (fun hc3 => ?_) (fun hc3 => ?_)
    · skip
      have hlt : j < ns.length := by have := of_decide_eq_true hc3; omega
      obtain ⟨k, hk⟩ : ∃ k, ns[j]? = some k := ⟨ns[j], by simp [hlt]⟩
      obtain rfl := hka (by rintro rfl; simp at hlt)
      have hmem : k ∈ names (fls Q) := by
        rw [hQ, names_sync]
        have := List.all_eq_true.1 hall' k (List.mem_of_getElem? hk)
        apply Classical.byContradiction
        intro h; rw [lookF_none.2 h] at this; cases this
      obtain ⟨h1, h2⟩ | ⟨U, f, p, V, e0, e1, e2, e3, e4, -, -, e7, -⟩ := find_at (P := Q) hokQ.nd k
      · exact (lookF_none.1 h1 hmem).elim
      have hn1 : fls (U ++ ({ f with s := f.b.length }, p) :: V) = syncL D (ns.take (j + 1)) := by
        rw [syncL_take hk, ← hQ, e4]; simp
      refine Gs.skip ?_
      refine Gs.then_n ?_
      refine Gs.seq ?_
      refine Gs.block ?_
      refine Gs.seq ?_
      refine Gs.reg ?_
      refine Go.Sl.L.pu rfl rfl trivial (pu_ia se_37 rfl rfl (by omega) (by omega)) ?_
      refine Go.Sl.L.rd rfl rfl trivial (rd_ld na_9 rfl (Rdc.el0 (hS.h (by repeat constructor)) hk rfl rfl)) ?_
      refine Go.Sl.L.pu rfl rfl trivial (pu_assign rfl) ?_
      refine Go.Sl.L.nil ?_
      refine Gs.then_n ?_
      refine Gs.seq ?_
      refine Gs.reg ?_
      refine Go.Sl.L.pu rfl rfl trivial (pu_move rfl) ?_
      refine Go.Sl.L.pu rfl rfl trivial (by first | exact pu_nil rfl | exact pu_nilF rfl) ?_
      refine Go.Sl.L.pu rfl rfl trivial (pu_fa fa_51_1 rfl) ?_
      refine Go.Sl.L.rd rfl rfl trivial (rd_ld na_49 rfl (Rdc.cl1 (by repeat constructor) rfl)) ?_
      refine Go.Sl.L.pu rfl rfl trivial (pu_move rfl) ?_
      refine Go.Sl.L.rd rfl rfl trivial (rd_look1 (k := k) Try.underlying49 kt_9 zvk_53 rfl rfl (by repeat constructor)) ?_
      rw [e3]
      rw [← e7 { f with s := f.b.length } e1]
      subst e0
      refine Gs.filOpen (U := U) (V := V) (f := f) (p := p) (by repeat constructor) fun fa fc => ?_
      refine Go.Sl.L.pu rfl rfl trivial (pu_assign rfl) ?_
      refine Go.Sl.L.nil ?_
      refine Gs.then_n ?_
      refine Gs.reg ?_
      refine Go.Sl.L.pu rfl rfl trivial (pu_move rfl) ?_
      refine Go.Sl.L.pu rfl rfl trivial (pu_move rfl) ?_
      refine Go.Sl.L.pu rfl rfl trivial (by first | exact pu_nil rfl | exact pu_nilF rfl) ?_
      refine Go.Sl.L.pu rfl rfl trivial (pu_fa fa_55_0 rfl) ?_
      refine Go.Sl.L.rd rfl rfl trivial (rd_ld na_22 rfl (Rdc.cl1 (by repeat constructor) rfl)) ?_
      refine Go.Sl.L.pu rfl rfl trivial (pu_len Try.underlying22 rfl) ?_
      refine Go.Sl.L.pu rfl rfl trivial (by first | exact pu_nil rfl | exact pu_nilF rfl) ?_
      refine Go.Sl.L.pu rfl rfl trivial (pu_fa fa_55_1 rfl) ?_
      refine Go.Sl.L.ac0 rfl trivial (ac_st sz_3 rfl rfl (by repeat constructor) rfl rfl rfl rfl) ?_
      rintro _ _ rfl
      refine Go.Sl.L.nil ?_
      refine Gs.filClose (U := U) (V := V) (f := { f with s := f.b.length }) (p := p) (by repeat constructor) rfl rfl rfl ?_
      refine Gs.blk_n ?_
      refine Gs.then_n ?_
      refine Gs.reg ?_
      refine Go.Sl.L.pu rfl rfl trivial (by first | exact pu_addI rfl rfl rfl (by omega) (by omega) | exact pu_add rfl rfl) ?_
      refine Go.Sl.L.pu rfl rfl trivial (pu_move rfl) ?_
      refine Go.Sl.L.nil ?_
      refine Gs.then_n ?_
      exact Gs.again1 (j + 1, U ++ ({ f with s := f.b.length }, p) :: V) ⟨by show j + 1 ≤ ns.length; omega, hn1⟩ (by show ns.length - (j + 1) < ns.length - j; omega) (by repeat constructor) (by repeat constructor)
    · skip
      have hge : j = ns.length := by have := of_decide_eq_false hc3; omega
      rw [hge, List.take_length] at hQ
      refine Gs.exit ?_
      refine Gs.then_x ?_
      refine Gs.then_x ?_
      refine Gs.blk_hit ?_
      refine Gs.then_n ?_
      refine Gs.seq ?_
      refine Gs.reg ?_
      refine Go.Sl.L.pu rfl rfl trivial (pu_assign rfl) ?_
      refine Go.Sl.L.nil ?_
      refine Gs.then_n ?_
      refine Gs.ret ?_
      refine Gs.drvClose (P := Q) (D := syncL D ns) (by repeat constructor) hQ (Ok.sync hok _) ?_
      exact Gs.fin1 Try.results11 rfl _ (⟨by rw [hE], by rw [hE, if_pos rfl]⟩) (by repeat constructor)
theorem syncNil_spec (a : Option Addr) (l c : Nat) : Ct Try.prog 11 [.pointer none, .slice a l c] [] (fun v hs => v = int 1 ∧ hs = []) := by
  refine Ct.intro Try.func11 rfl (by kernel_rfl) 51 Try.ntmps11 (Nat.le_of_ble_eq_true rfl) fun w0 R => ?_
  refine Gs.seq ?_
  refine Gs.reg ?_
  refine Go.Sl.L.pu rfl rfl trivial (pu_assign rfl) ?_
  refine Go.Sl.L.nil ?_
  refine Gs.then_n ?_
  refine Gs.seq ?_
  refine Gs.seq ?_
  refine Gs.reg ?_
  refine Go.Sl.L.pu rfl rfl trivial (pu_move rfl) ?_
  refine Go.Sl.L.pu rfl rfl trivial (pu_eqN Try.underlying24 rfl rfl) ?_
  refine Go.Sl.L.nil ?_
  refine Gs.then_n ?_
  refine Gs.cond_t rfl ?_
  refine Gs.seq ?_
  refine Gs.reg ?_
  refine Go.Sl.L.pu rfl rfl trivial (pu_assign rfl) ?_
  refine Go.Sl.L.nil ?_
  refine Gs.then_n ?_
  refine Gs.ret ?_
  refine Gs.then_r ?_
  exact Gs.fin1 Try.results11 rfl _ (⟨rfl, rfl⟩) (by repeat constructor)
theorem crash_spec (b : Nat) (most : Int) (D : List Fl) (st0 : Int) (hD : D.length ≤ 1000) (hlo : -9223372036854775808 ≤ st0) (hhi0 : st0 < 9223372036854775808) :
    Ct Try.prog 13 [ptr b, int st0] [drv b most D] (fun v hs => v = .tuple #[] ∧ hs = [drv b most (crashL st0 D)]) := by
  refine Ct.intro Try.func13 rfl (by kernel_rfl) 62 Try.ntmps13 (Nat.le_of_ble_eq_true rfl) fun w0 R => ?_
  refine Gs.seq ?_
  refine Gs.reg ?_
  refine Go.Sl.L.pu rfl rfl trivial (pu_move rfl) ?_
  refine Go.Sl.L.ac rfl rfl trivial (as_call (names_spec b most D hD) (by repeat constructor) (by repeat constructor)) ?_
  rintro _ _ ⟨_, ⟨a2, c2, rfl, rfl⟩, rfl⟩
  refine Gs.drvOpen (by repeat constructor) fun m P hP hok => ?_
  obtain ⟨ns, hns⟩ : ∃ ns, ns = sortB (names D) := ⟨_, rfl⟩
  have hperm : List.Perm ns (names D) := by rw [hns]; exact sortB_perm _
  have hnl : ns.length ≤ 1000 := by rw [hperm.length_eq]; simpa using hD
  have hL : crashL st0 D = crashN st0 ns D := by rw [hns]; rfl
  rw [← hns]
  refine Gs.slAddr (SlH.own (by repeat constructor) : SlH _ _ 1 strC a2 ns) fun kb ko hka => ?_
  refine Go.Sl.L.pu rfl rfl trivial (pu_len Try.underlying37 rfl) ?_
  refine Go.Sl.L.pu rfl rfl trivial (pu_move rfl) ?_
  refine Go.Sl.L.nil ?_
  refine Gs.then_n ?_
  refine Gs.block ?_
  refine Gs.loop1 (fun s : Nat × Int × DP => s.1 ≤ ns.length ∧ crashN s.2.1 (ns.drop s.1) (fls s.2.2) = crashL st0 D ∧ Ok most (fls s.2.2) ∧ names (fls s.2.2) = names D ∧ -9223372036854775808 ≤ s.2.1 ∧ s.2.1 < 9223372036854775808) (fun s => [(0, ptr b), (1, int s.2.1), (9, .slice a2 ns.length c2), (10, int ns.length), (11, int s.1)]) (fun s => [cl b 51 (driveC most m), mp strV pv m (pairs s.2.2), files s.2.2, sl 9 1 strC a2 c2 ns] ++ R) (fun s => ns.length - s.1) (0, st0, P) (⟨Nat.zero_le _, by rw [hL, List.drop_zero, hP], by rw [hP]; exact hok, by rw [hP], hlo, hhi0⟩) (by repeat constructor) (by repeat constructor) (fun s hs => ?_)
  obtain ⟨i, st, Q⟩ := s
  obtain ⟨hi, hcr, hokQ, hnm, hs1, hs2⟩ := hs
  dsimp only at hi hcr hokQ hnm hs1 hs2 ⊢
  refine Gs.seq ?_
  refine Gs.reg ?_
  refine Go.Sl.L.pu rfl rfl trivial (pu_lt rfl rfl) ?_
  refine Go.Sl.L.nil ?_
  refine Gs.then_n ?_
  refine Gs.seq ?_
  refine Gs.cond rfl (fun hc0 => ?_) (fun hc0 => ?_)
  · skip
    have hlt : i < ns.length := by have := of_decide_eq_true hc0; omega
    obtain ⟨k, hk⟩ : ∃ k, ns[i]? = some k := ⟨ns[i], by simp [hlt]⟩
    obtain rfl := hka (by rintro rfl; simp at hlt)
    have hmem : k ∈ names (fls Q) := by rw [hnm]; exact hperm.mem_iff.1 (List.mem_of_getElem? hk)
    obtain ⟨h1, h2⟩ | ⟨U, f, p, V, e0, e1, e2, e3, e4, -, -, e7, -⟩ := find_at (P := Q) hokQ.nd k
    · exact (lookF_none.1 h1 hmem).elim
    have hfm : f ∈ fls Q := by rw [e0]; simp
    have hf1 := hokQ.firm f hfm
    have hf2 := used_mem hfm
    have hr := hokQ.room
    have hh := hokQ.hi
    have hkeep : min (max st 0) ((f.b.length : Int) - f.s) = (lostF st f : Int) := by unfold lostF; omega
    have hk2 : lostF st f ≤ f.b.length - f.s := by unfold lostF; omega
    have hk3 : (lostF st f : Int) ≤ max st 0 := by omega
    have hn1 : fls (U ++ (crashF st f, p) :: V) = upd (fls Q) k (crashF st) := by rw [e4]; simp
    have hstep : crashN (st - lostF st f) (ns.drop (i + 1)) (upd (fls Q) k (crashF st)) = crashL st0 D := by
      rw [← hcr, List.drop_eq_getElem_cons hlt]
      have : ns[i] = k := by rw [List.getElem?_eq_getElem hlt] at hk; exact Option.some.inj hk
      rw [this, crashN_cons e2]
    have hok2 := hokQ.crash k st
    have hnm2 : names (upd (fls Q) k (crashF st)) = names D := by rw [names_crash, hnm]
    clear hcr
    refine Gs.skip ?_
    refine Gs.then_n ?_
    refine Gs.seq ?_
    refine Gs.block ?_
    refine Gs.seq ?_
    refine Gs.reg ?_
    refine Go.Sl.L.pu rfl rfl trivial (pu_ia se_37 rfl rfl (by omega) (by omega)) ?_
    refine Go.Sl.L.rd rfl rfl trivial (rd_ld na_9 rfl (Rdc.el0 (SlH.own (by repeat constructor)) hk rfl rfl)) ?_
    refine Go.Sl.L.pu rfl rfl trivial (pu_assign rfl) ?_
    refine Go.Sl.L.nil ?_
    refine Gs.then_n ?_
    refine Gs.seq ?_
    refine Gs.reg ?_
    refine Go.Sl.L.pu rfl rfl trivial (pu_move rfl) ?_
    refine Go.Sl.L.pu rfl rfl trivial (by first | exact pu_nil rfl | exact pu_nilF rfl) ?_
    refine Go.Sl.L.pu rfl rfl trivial (pu_fa fa_51_1 rfl) ?_
    refine Go.Sl.L.rd rfl rfl trivial (rd_ld na_49 rfl (Rdc.cl1 (by repeat constructor) rfl)) ?_
    refine Go.Sl.L.pu rfl rfl trivial (pu_move rfl) ?_
    refine Go.Sl.L.rd rfl rfl trivial (rd_look1 (k := k) Try.underlying49 kt_9 zvk_53 rfl rfl (by repeat constructor)) ?_
    rw [e3]
    rw [← e7 (crashF st f) e1]
    subst e0
    refine Gs.filOpen (U := U) (V := V) (f := f) (p := p) (by repeat constructor) fun fa fc => ?_
    refine Gs.slLen (E := 5) (sz := 1) (enc := byteC) (a := fa) (c := fc) (xs := f.b) (by repeat constructor) fun hlc => ?_
    refine Go.Sl.L.pu rfl rfl trivial (pu_assign rfl) ?_
    refine Go.Sl.L.nil ?_
    refine Gs.then_n ?_
    refine Gs.seq ?_
    refine Gs.regD mixed (by kernel_rfl) ?_
    refine Rg.pu 0 rfl rfl (by kernel_rfl) trivial (pu_move rfl) ?_
    refine Rg.pu 1 rfl rfl (by kernel_rfl) trivial (pu_max rfl rfl) ?_
    refine Rg.pu 2 rfl rfl (by kernel_rfl) trivial (pu_move rfl) ?_
    refine Rg.pu 3 rfl rfl (by kernel_rfl) trivial (by first | exact pu_nil rfl | exact pu_nilF rfl) ?_
    refine Rg.pu 4 rfl rfl (by kernel_rfl) trivial (pu_fa fa_55_0 rfl) ?_
    refine Rg.rd 5 rfl rfl (by kernel_rfl) trivial (rd_ld na_22 rfl (Rdc.cl1 (by repeat constructor) rfl)) ?_
    refine Rg.pu 6 rfl rfl (by kernel_rfl) trivial (pu_len Try.underlying22 rfl) ?_
    refine Rg.pu 7 rfl rfl (by kernel_rfl) trivial (pu_move rfl) ?_
    refine Rg.pu 8 rfl rfl (by kernel_rfl) trivial (by first | exact pu_nil rfl | exact pu_nilF rfl) ?_
    refine Rg.pu 9 rfl rfl (by kernel_rfl) trivial (pu_fa fa_55_1 rfl) ?_
    refine Rg.rd 10 rfl rfl (by kernel_rfl) trivial (rd_ld na_3 rfl (Rdc.cl1 (by repeat constructor) rfl)) ?_
    refine Rg.pu 11 rfl rfl (by kernel_rfl) trivial (by first | exact pu_subI rfl rfl rfl (by omega) (by omega) | exact pu_sub rfl rfl) ?_
    refine Rg.pu 12 rfl rfl (by kernel_rfl) trivial (pu_min rfl rfl) ?_
    refine Rg.pu 13 rfl rfl (by kernel_rfl) trivial (pu_assign rfl) ?_
    refine Rg.end (by kernel_rfl) ?_
    rw [hkeep]
    refine Gs.then_n ?_
    refine Gs.seq ?_
    refine Gs.reg ?_
    refine Go.Sl.L.pu rfl rfl trivial (pu_move rfl) ?_
    refine Go.Sl.L.pu rfl rfl trivial (pu_move rfl) ?_
    refine Go.Sl.L.pu rfl rfl trivial (by first | exact pu_subI rfl rfl rfl (by omega) (by omega) | exact pu_sub rfl rfl) ?_
    refine Go.Sl.L.pu rfl rfl trivial (pu_assign rfl) ?_
    refine Go.Sl.L.nil ?_
    refine Gs.then_n ?_
    refine Gs.seq ?_
    refine Gs.reg ?_
    refine Go.Sl.L.pu rfl rfl trivial (pu_move rfl) ?_
    refine Go.Sl.L.pu rfl rfl trivial (by first | exact pu_nil rfl | exact pu_nilF rfl) ?_
    refine Go.Sl.L.pu rfl rfl trivial (pu_fa fa_55_1 rfl) ?_
    refine Go.Sl.L.rd rfl rfl trivial (rd_ld na_3 rfl (Rdc.cl1 (by repeat constructor) rfl)) ?_
    refine Go.Sl.L.pu rfl rfl trivial (pu_move rfl) ?_
    refine Go.Sl.L.pu rfl rfl trivial (pu_addI (z := ((f.s + lostF st f : Nat) : Int)) rfl rfl (by omega) (by omega) (by omega)) ?_
    refine Go.Sl.L.pu rfl rfl trivial (by first | exact pu_nil rfl | exact pu_nilF rfl) ?_
    refine Go.Sl.L.pu rfl rfl trivial (pu_fa fa_55_1 rfl) ?_
    refine Go.Sl.L.ac0 rfl trivial (ac_st sz_3 rfl rfl (by repeat constructor) rfl rfl rfl rfl) ?_
    rintro _ _ rfl
    refine Go.Sl.L.nil ?_
    refine Gs.then_n ?_
    refine Gs.regD mixed (by kernel_rfl) ?_
    refine Rg.pu 0 rfl rfl (by kernel_rfl) trivial (pu_move rfl) ?_
    refine Rg.pu 1 rfl rfl (by kernel_rfl) trivial (pu_move rfl) ?_
    refine Rg.pu 2 rfl rfl (by kernel_rfl) trivial (by first | exact pu_nil rfl | exact pu_nilF rfl) ?_
    refine Rg.pu 3 rfl rfl (by kernel_rfl) trivial (pu_fa fa_55_0 rfl) ?_
    refine Rg.rd 4 rfl rfl (by kernel_rfl) trivial (rd_ld na_22 rfl (Rdc.cl1 (by repeat constructor) rfl)) ?_
    refine Rg.pu 5 rfl rfl (by kernel_rfl) trivial (pu_move rfl) ?_
    refine Rg.pu 6 rfl rfl (by kernel_rfl) trivial (by first | exact pu_nil rfl | exact pu_nilF rfl) ?_
    refine Rg.pu 7 rfl rfl (by kernel_rfl) trivial (pu_fa fa_55_1 rfl) ?_
    refine Rg.rd 8 rfl rfl (by kernel_rfl) trivial (rd_ld na_3 rfl (Rdc.cl1 (by repeat constructor) rfl)) ?_
    refine Rg.pu 9 rfl rfl (by kernel_rfl) trivial (pu_move rfl) ?_
    refine Rg.pu 10 rfl rfl (by kernel_rfl) trivial (by first | exact pu_nil rfl | exact pu_nilF rfl) ?_
    refine Rg.pu 11 rfl rfl (by kernel_rfl) trivial (pu_fa fa_55_1 rfl) ?_
    refine Rg.rd 12 rfl rfl (by kernel_rfl) trivial (rd_ld na_3 rfl (Rdc.cl1 (by repeat constructor) rfl)) ?_
    refine Rg.pu 13 rfl rfl (by kernel_rfl) trivial (pu_slice3H et_22 rfl rfl rfl (by omega) (by omega) (by omega)) ?_
    refine Rg.pu 14 rfl rfl (by kernel_rfl) trivial (by first | exact pu_nil rfl | exact pu_nilF rfl) ?_
    refine Rg.pu 15 rfl rfl (by kernel_rfl) trivial (pu_fa fa_55_0 rfl) ?_
    refine Rg.one (by kernel_rfl) (Stp.ac0 16 rfl rfl (by kernel_rfl) trivial (ac_st sz_22 rfl rfl (by repeat constructor) rfl rfl rfl rfl)  ?_)
    rintro _ _ rfl
    refine Rg.end (by kernel_rfl) ?_
    simp only [Int.toNat_natCast]
    refine Gs.slRoom (E := 5) (sz := 1) (enc := byteC) (a := fa) (c := fc) (xs := f.b) (f.s + lostF st f) (by omega) (by repeat constructor) ?_
    refine Gs.filClose (U := U) (V := V) (f := crashF st f) (p := p) (a := fa) (c := f.s + lostF st f) (by repeat constructor) (by simp [crashF]; omega) rfl rfl ?_
    refine Gs.blk_n ?_
    refine Gs.then_n ?_
    refine Gs.reg ?_
    refine Go.Sl.L.pu rfl rfl trivial (by first | exact pu_addI rfl rfl rfl (by omega) (by omega) | exact pu_add rfl rfl) ?_
    refine Go.Sl.L.pu rfl rfl trivial (pu_move rfl) ?_
    refine Go.Sl.L.nil ?_
    refine Gs.then_n ?_
    exact Gs.again1 (i + 1, st - lostF st f, U ++ (crashF st f, p) :: V) ⟨by show i + 1 ≤ ns.length; omega, by rw [hn1]; exact hstep, by rw [hn1]; exact hok2, by rw [hn1]; exact hnm2, by show -9223372036854775808 ≤ st - lostF st f; omega, by show st - lostF st f < 9223372036854775808; omega⟩ (by show ns.length - (i + 1) < ns.length - i; omega) (by repeat constructor) (by repeat constructor)
  · skip
    have hge : i = ns.length := by have := of_decide_eq_false hc0; omega
    have hend : fls Q = crashL st0 D := by rw [← hcr, hge, List.drop_length]; rfl
    refine Gs.exit ?_
    refine Gs.then_x ?_
    refine Gs.then_x ?_
    refine Gs.blk_hit ?_
    refine Gs.fin_n ?_
    refine Gs.drvClose (P := Q) (D := crashL st0 D) (by repeat constructor) hend (by rw [← hend]; exact hokQ) ?_
    exact Gs.fin0 Try.results13 _ (⟨rfl, rfl⟩) (by repeat constructor)
theorem crashNil_spec (k : Int) : Ct Try.prog 13 [.pointer none, int k] [] (fun v hs => v = .tuple #[] ∧ hs = []) := by
  refine Ct.intro Try.func13 rfl (by kernel_rfl) 62 Try.ntmps13 (Nat.le_of_ble_eq_true rfl) fun w0 R => ?_
  refine Gs.seq ?_
  refine Gs.reg ?_
  refine Go.Sl.L.pu rfl rfl trivial (pu_move rfl) ?_
  refine Go.Sl.L.ac rfl rfl trivial (as_call (namesNil_spec) (by repeat constructor) (by repeat constructor)) ?_
  rintro _ _ ⟨_, ⟨rfl, rfl⟩, rfl⟩
  rename_i RR
  refine Go.Sl.L.pu rfl rfl trivial (pu_len Try.underlying37 rfl) ?_
  refine Go.Sl.L.pu rfl rfl trivial (pu_move rfl) ?_
  refine Go.Sl.L.nil ?_
  refine Gs.then_n ?_
  refine Gs.block ?_
  refine Gs.loop1 (fun _ : Unit => True) (fun _ => [(10, int 0), (11, int 0)]) (fun _ => RR) (fun _ => 0) () (trivial) (by repeat constructor) (by repeat constructor) (fun i hi => ?_)
  refine Gs.seq ?_
  refine Gs.reg ?_
  refine Go.Sl.L.pu rfl rfl trivial (pu_lt rfl rfl) ?_
  refine Go.Sl.L.nil ?_
  refine Gs.then_n ?_
  refine Gs.seq ?_
  refine Gs.cond_f rfl ?_
  refine Gs.exit ?_
  refine Gs.then_x ?_
  refine Gs.then_x ?_
  refine Gs.blk_hit ?_
  refine Gs.fin_n ?_
  exact Gs.fin0 Try.results13 _ (⟨rfl, rfl⟩) (by repeat constructor)
end Go.Proofs.Ytmfgemhjepagjaa
