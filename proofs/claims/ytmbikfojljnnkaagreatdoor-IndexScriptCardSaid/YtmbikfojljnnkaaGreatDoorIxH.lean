/- Walks: what the statements on an index share: GreatRecords, SameTexts, Num, rec, great. How great an index is. -/
import Derived.Test.YtmbikfojljnnkaaGreatDoorIxL
namespace Go.Ix
open Go Go.Sl Go.Gv Go.Kv Go.Po Go.Bst
theorem nodup_sub {α : Type} [BEq α] [LawfulBEq α] : ∀ {l m : List α}, l.Nodup → (∀ x ∈ l, x ∈ m) → l.length ≤ m.length
  | [], _, _, _ => Nat.zero_le _
  | a :: l, m, hn, h => by
    have hn' := List.nodup_cons.1 hn
    have ha := h a List.mem_cons_self
    have hp := List.perm_cons_erase ha
    have := nodup_sub (m := m.erase a) hn'.2 fun x hx => by
      have hx2 := hp.subset (h x (List.mem_cons_of_mem _ hx))
      rcases List.mem_cons.1 hx2 with e | e
      · exact (hn'.1 (e ▸ hx)).elim
      · exact e
    have hl := hp.length_eq
    simp only [List.length_cons] at hl ⊢
    omega
end Go.Ix
namespace Go.Proofs.YtmbikfojljnnkaaGreatDoor
open Go Go.Sl Go.Gv Go.Kv Go.Po Go.Ix Go.Bst
set_option maxRecDepth 100000
theorem greatRecords_spec {S : HProp} {a : Option Addr} {c : Nat} {xs : List Rec} (hS : Srd S 5 recC a xs) (hl : xs.length ≤ 9223372036854775807) (k : Int) :
    Ct Tryz.prog 27 [.slice a xs.length c, int k] [S] (fun v hs => (∃ b : Bool, v = .bool b ∧ (b = false → xs.length ≤ k)) ∧ hs = [S]) := by
  refine Ct.intro Tryz.func27 rfl (by kernel_rfl) 29 Tryz.ntmps27 (Nat.le_of_ble_eq_true rfl) fun w0 R => ?_
  refine Gs.slAddr (hS.h (by repeat constructor)) fun ab ao ha => ?_
  refine Gs.seq ?_
  refine Gs.reg ?_
  refine Go.Sl.L.pu rfl rfl trivial (pu_assign rfl) ?_
  refine Go.Sl.L.nil ?_
  refine Gs.then_n ?_
  refine Gs.seq ?_
  refine Gs.seq ?_
  refine Gs.reg ?_
  refine Go.Sl.L.pu rfl rfl trivial (pu_assign rfl) ?_
  refine Go.Sl.L.nil ?_
  refine Gs.then_n ?_
  refine Gs.block ?_
  refine Gs.loop1 (fun i : Nat => i ≤ xs.length) (fun i => [(0, .slice a xs.length c), (1, int k), (5, int i)]) (fun i => [S] ++ R) (fun i => xs.length - i) 0 (Nat.zero_le _) (by repeat constructor) (by repeat constructor) (fun i hi => ?_)
  refine Gs.seq ?_
  refine Gs.seq ?_
  refine Gs.reg ?_
  refine Go.Sl.L.pu rfl rfl trivial (pu_move rfl) ?_
  refine Go.Sl.L.pu rfl rfl trivial (pu_move rfl) ?_
  refine Go.Sl.L.pu rfl rfl trivial (pu_len Tryz.underlying27 rfl) ?_
  refine Go.Sl.L.pu rfl rfl trivial (pu_lt rfl rfl) ?_
  refine Go.Sl.L.puB rfl rfl trivial (pu_move rfl) (fun hg4 => ?_) (fun hg4 => ?_)
  · skip
    have hlt : i < xs.length := by have := of_decide_eq_true hg4; omega
    obtain ⟨x, hx⟩ : ∃ x, xs[i]? = some x := ⟨xs[i], by simp [hlt]⟩
    obtain rfl := ha (by rintro rfl; simp at hlt)
    refine Go.Sl.L.pu rfl rfl ⟨_, rfl, rfl⟩ (pu_move rfl) ?_
    refine Go.Sl.L.pu rfl rfl ⟨_, rfl, rfl⟩ (pu_len Tryz.underlying27 rfl) ?_
    refine Go.Sl.L.pu rfl rfl ⟨_, rfl, rfl⟩ (pu_move rfl) ?_
    refine Go.Sl.L.pu rfl rfl ⟨_, rfl, rfl⟩ (pu_le rfl rfl) ?_
    refine Go.Sl.L.pu rfl rfl trivial (by first | exact pu_pick_t rfl rfl | exact pu_pick_f rfl rfl) ?_
    refine Go.Sl.L.nil ?_
    refine Gs.then_n ?_
    refine Gs.cond rfl (fun hc0 => ?_) (fun hc0 => ?_)
    · skip
      refine Gs.skip ?_
      refine Gs.then_n ?_
      refine Gs.seq ?_
      refine Gs.block ?_
      refine Gs.seq ?_
      refine Gs.reg ?_
      refine Go.Sl.L.pu rfl rfl trivial (pu_move rfl) ?_
      refine Go.Sl.L.pu rfl rfl trivial (pu_move rfl) ?_
      refine Go.Sl.L.pu rfl rfl trivial (pu_ia se_27 rfl rfl (by omega) (by omega)) ?_
      refine Go.Sl.L.pu rfl rfl trivial (pu_fa fa_35_2 rfl) ?_
      refine Go.Sl.L.rd rfl rfl trivial (rd_ld na_9 rfl (Rdc.elp 1 (hS.h (by repeat constructor)) hx rfl rfl)) ?_
      refine Go.Sl.L.pu rfl rfl trivial (pu_lenS Tryz.underlying9 rfl) ?_
      refine Go.Sl.L.pu rfl rfl trivial (pu_gt rfl rfl) ?_
      refine Go.Sl.L.nil ?_
      refine Gs.then_n ?_
      refine Gs.cond rfl (fun hc1 => ?_) (fun hc1 => ?_)
      · skip
        refine Gs.seq ?_
        refine Gs.reg ?_
        refine Go.Sl.L.pu rfl rfl trivial (pu_assign rfl) ?_
        refine Go.Sl.L.nil ?_
        refine Gs.then_n ?_
        refine Gs.ret ?_
        refine Gs.blk_r ?_
        refine Gs.then_r ?_
        refine Gs.then_r ?_
        refine Gs.blk_r ?_
        refine Gs.then_r ?_
        exact Gs.fin1 Tryz.results27 rfl _ (⟨⟨true, rfl, fun h => by cases h⟩, rfl⟩) (by repeat constructor)
      · skip
        refine Gs.skip ?_
        refine Gs.blk_n ?_
        refine Gs.then_n ?_
        refine Gs.reg ?_
        refine Go.Sl.L.pu rfl rfl trivial (pu_move rfl) ?_
        refine Go.Sl.L.pu rfl rfl trivial (by first | exact pu_addI rfl rfl rfl (by omega) (by omega) | exact pu_add rfl rfl) ?_
        refine Go.Sl.L.pu rfl rfl trivial (pu_assign rfl) ?_
        refine Go.Sl.L.nil ?_
        refine Gs.then_n ?_
        exact Gs.again1 (i + 1) (by omega) (by omega) (by repeat constructor) (by repeat constructor)
    · skip
      refine Gs.exit ?_
      refine Gs.then_x ?_
      refine Gs.then_x ?_
      refine Gs.blk_hit ?_
      refine Gs.then_n ?_
      refine Gs.seq ?_
      refine Gs.reg ?_
      refine Go.Sl.L.pu rfl rfl trivial (pu_move rfl) ?_
      refine Go.Sl.L.pu rfl rfl trivial (pu_len Tryz.underlying27 rfl) ?_
      refine Go.Sl.L.pu rfl rfl trivial (pu_move rfl) ?_
      refine Go.Sl.L.pu rfl rfl trivial (pu_gt rfl rfl) ?_
      refine Go.Sl.L.pu rfl rfl trivial (pu_assign rfl) ?_
      refine Go.Sl.L.nil ?_
      refine Gs.then_n ?_
      refine Gs.ret ?_
      exact Gs.fin1 Tryz.results27 rfl _ (⟨⟨_, rfl, fun h => by have := of_decide_eq_false h; omega⟩, rfl⟩) (by repeat constructor)
  · skip
    refine Go.Sl.L.off rfl rfl rfl rfl rfl rfl ?_
    refine Go.Sl.L.off rfl rfl rfl rfl rfl rfl ?_
    refine Go.Sl.L.off rfl rfl rfl rfl rfl rfl ?_
    refine Go.Sl.L.off rfl rfl rfl rfl rfl rfl ?_
    refine Go.Sl.L.pu rfl rfl trivial (by first | exact pu_pick_t rfl rfl | exact pu_pick_f rfl rfl) ?_
    refine Go.Sl.L.nil ?_
    refine Gs.then_n ?_
    refine Gs.cond_f rfl ?_
    refine Gs.exit ?_
    refine Gs.then_x ?_
    refine Gs.then_x ?_
    refine Gs.blk_hit ?_
    refine Gs.then_n ?_
    refine Gs.seq ?_
    refine Gs.reg ?_
    refine Go.Sl.L.pu rfl rfl trivial (pu_move rfl) ?_
    refine Go.Sl.L.pu rfl rfl trivial (pu_len Tryz.underlying27 rfl) ?_
    refine Go.Sl.L.pu rfl rfl trivial (pu_move rfl) ?_
    refine Go.Sl.L.pu rfl rfl trivial (pu_gt rfl rfl) ?_
    refine Go.Sl.L.pu rfl rfl trivial (pu_assign rfl) ?_
    refine Go.Sl.L.nil ?_
    refine Gs.then_n ?_
    refine Gs.ret ?_
    exact Gs.fin1 Tryz.results27 rfl _ (⟨⟨_, rfl, fun h => by have := of_decide_eq_false h; omega⟩, rfl⟩) (by repeat constructor)
theorem sameTexts_spec {S U : HProp} {a b : Option Addr} {c d : Nat} {xs ys : List ByteArray} (hS : Srd S 1 strC a xs) (hU : Srd U 1 strC b ys) (hl : xs.length ≤ 1048576) :
    Ct Tryz.prog 25 [.slice a xs.length c, .slice b ys.length d] [S, U] (fun v hs => v = .bool (decide (xs = ys)) ∧ hs = [S, U]) := by
  refine Ct.intro Tryz.func25 rfl (by kernel_rfl) 26 Tryz.ntmps25 (Nat.le_of_ble_eq_true rfl) fun w0 R => ?_
  refine Gs.slAddr (hS.h (by repeat constructor)) fun ab ao ha => ?_
  refine Gs.slAddr (hU.h (by repeat constructor)) fun ub uo hu => ?_
  refine Gs.seq ?_
  refine Gs.reg ?_
  refine Go.Sl.L.pu rfl rfl trivial (pu_assign rfl) ?_
  refine Go.Sl.L.nil ?_
  refine Gs.then_n ?_
  refine Gs.seq ?_
  refine Gs.seq ?_
  refine Gs.reg ?_
  refine Go.Sl.L.pu rfl rfl trivial (pu_move rfl) ?_
  refine Go.Sl.L.pu rfl rfl trivial (pu_len Tryz.underlying58 rfl) ?_
  refine Go.Sl.L.pu rfl rfl trivial (pu_move rfl) ?_
  refine Go.Sl.L.pu rfl rfl trivial (pu_len Tryz.underlying58 rfl) ?_
  refine Go.Sl.L.pu rfl rfl trivial (pu_ne rfl rfl) ?_
  refine Go.Sl.L.nil ?_
  refine Gs.then_n ?_
  refine Gs.cond rfl (fun hc0 => ?_) (fun hc0 => ?_)
  · skip
    have hne : ¬ xs = ys := fun e => by have := of_decide_eq_true hc0; rw [e] at this; exact this rfl
    refine Gs.seq ?_
    refine Gs.reg ?_
    refine Go.Sl.L.pu rfl rfl trivial (pu_assign rfl) ?_
    refine Go.Sl.L.nil ?_
    refine Gs.then_n ?_
    refine Gs.ret ?_
    refine Gs.then_r ?_
    exact Gs.fin1 Tryz.results25 rfl _ (⟨by rw [decide_eq_false hne], rfl⟩) (by repeat constructor)
  · skip
    have hle : xs.length = ys.length := by have := of_decide_eq_false hc0; omega
    refine Gs.skip ?_
    refine Gs.then_n ?_
    refine Gs.seq ?_
    refine Gs.seq ?_
    refine Gs.reg ?_
    refine Go.Sl.L.pu rfl rfl trivial (pu_assign rfl) ?_
    refine Go.Sl.L.nil ?_
    refine Gs.then_n ?_
    refine Gs.block ?_
    refine Gs.loop1 (fun i : Nat => i ≤ xs.length ∧ xs.take i = ys.take i) (fun i => [(0, .slice a xs.length c), (1, .slice b ys.length d), (5, int i)]) (fun i => [S, U] ++ R) (fun i => xs.length - i) 0 (⟨Nat.zero_le _, rfl⟩) (by repeat constructor) (by repeat constructor) (fun i ⟨hi, ht⟩ => ?_)
    refine Gs.seq ?_
    refine Gs.seq ?_
    refine Gs.reg ?_
    refine Go.Sl.L.pu rfl rfl trivial (pu_move rfl) ?_
    refine Go.Sl.L.pu rfl rfl trivial (pu_move rfl) ?_
    refine Go.Sl.L.pu rfl rfl trivial (pu_len Tryz.underlying58 rfl) ?_
    refine Go.Sl.L.pu rfl rfl trivial (pu_lt rfl rfl) ?_
    refine Go.Sl.L.nil ?_
    refine Gs.then_n ?_
    refine Gs.cond rfl (fun hc1 => ?_) (fun hc1 => ?_)
    · skip
      have hlt : i < xs.length := by have := of_decide_eq_true hc1; omega
      obtain ⟨x, hx⟩ : ∃ x, xs[i]? = some x := ⟨xs[i], by simp [hlt]⟩
      obtain ⟨y, hy⟩ : ∃ x, ys[i]? = some x := ⟨ys[i]'(by omega), by simp [← hle, hlt]⟩
      obtain rfl := ha (by rintro rfl; simp at hlt)
      obtain rfl := hu (by rintro rfl; simp at hy)
      refine Gs.skip ?_
      refine Gs.then_n ?_
      refine Gs.seq ?_
      refine Gs.block ?_
      refine Gs.seq ?_
      refine Gs.regD mixed (by kernel_rfl) ?_
      refine Rg.pu 0 rfl rfl (by kernel_rfl) trivial (pu_move rfl) ?_
      refine Rg.pu 1 rfl rfl (by kernel_rfl) trivial (pu_move rfl) ?_
      refine Rg.pu 2 rfl rfl (by kernel_rfl) trivial (pu_ia se_58 rfl rfl (by omega) (by omega)) ?_
      refine Rg.rd 3 rfl rfl (by kernel_rfl) trivial (rd_ld na_9 rfl (Rdc.el0 (hS.h (by repeat constructor)) hx rfl rfl)) ?_
      refine Rg.pu 4 rfl rfl (by kernel_rfl) trivial (pu_move rfl) ?_
      refine Rg.pu 5 rfl rfl (by kernel_rfl) trivial (pu_move rfl) ?_
      refine Rg.pu 6 rfl rfl (by kernel_rfl) trivial (pu_ia se_58 rfl rfl (by omega) (by omega)) ?_
      refine Rg.rd 7 rfl rfl (by kernel_rfl) trivial (rd_ld na_9 rfl (Rdc.el0 (hU.h (by repeat constructor)) hy rfl rfl)) ?_
      refine Rg.pu 8 rfl rfl (by kernel_rfl) trivial (pu_neS rfl rfl) ?_
      refine Rg.end (by kernel_rfl) ?_
      refine Gs.then_n ?_
      refine Gs.cond rfl (fun hc2 => ?_) (fun hc2 => ?_)
      · skip
        have hne : ¬ xs = ys := fun e => by have := of_decide_eq_true hc2; rw [e, hy] at hx; exact this (Option.some.inj hx).symm
        refine Gs.seq ?_
        refine Gs.reg ?_
        refine Go.Sl.L.pu rfl rfl trivial (pu_assign rfl) ?_
        refine Go.Sl.L.nil ?_
        refine Gs.then_n ?_
        refine Gs.ret ?_
        refine Gs.blk_r ?_
        refine Gs.then_r ?_
        refine Gs.then_r ?_
        refine Gs.blk_r ?_
        refine Gs.then_r ?_
        exact Gs.fin1 Tryz.results25 rfl _ (⟨by rw [decide_eq_false hne], rfl⟩) (by repeat constructor)
      · skip
        have hxy : x = y := by have := of_decide_eq_false hc2; exact Decidable.not_not.1 this
        refine Gs.skip ?_
        refine Gs.blk_n ?_
        refine Gs.then_n ?_
        refine Gs.reg ?_
        refine Go.Sl.L.pu rfl rfl trivial (pu_move rfl) ?_
        refine Go.Sl.L.pu rfl rfl trivial (by first | exact pu_addI rfl rfl rfl (by omega) (by omega) | exact pu_add rfl rfl) ?_
        refine Go.Sl.L.pu rfl rfl trivial (pu_assign rfl) ?_
        refine Go.Sl.L.nil ?_
        refine Gs.then_n ?_
        exact Gs.again1 (i + 1) ⟨by omega, by rw [List.take_add_one, List.take_add_one, ht, hx, hy, hxy]⟩ (by omega) (by repeat constructor) (by repeat constructor)
    · skip
      have hge : i = xs.length := by have := of_decide_eq_false hc1; omega
      have heq : xs = ys := by rw [hge, List.take_length, hle, List.take_length] at ht; exact ht
      refine Gs.exit ?_
      refine Gs.then_x ?_
      refine Gs.then_x ?_
      refine Gs.blk_hit ?_
      refine Gs.then_n ?_
      refine Gs.seq ?_
      refine Gs.reg ?_
      refine Go.Sl.L.pu rfl rfl trivial (pu_assign rfl) ?_
      refine Go.Sl.L.nil ?_
      refine Gs.then_n ?_
      refine Gs.ret ?_
      exact Gs.fin1 Tryz.results25 rfl _ (⟨by rw [decide_eq_true heq], rfl⟩) (by repeat constructor)
theorem num_spec (i : Int) : Ct Tryz.prog 13 [int i] [] (fun v hs => v = int i ∧ hs = []) := by
  refine Ct.intro Tryz.func13 rfl (by kernel_rfl) 4 Tryz.ntmps13 (Nat.le_of_ble_eq_true rfl) fun w0 R => ?_
  refine Gs.seq ?_
  refine Gs.reg ?_
  refine Go.Sl.L.pu rfl rfl trivial (pu_assign rfl) ?_
  refine Go.Sl.L.nil ?_
  refine Gs.then_n ?_
  refine Gs.seq ?_
  refine Gs.reg ?_
  refine Go.Sl.L.pu rfl rfl trivial (pu_move rfl) ?_
  refine Go.Sl.L.pu rfl rfl trivial (pu_assign rfl) ?_
  refine Go.Sl.L.nil ?_
  refine Gs.then_n ?_
  refine Gs.ret ?_
  exact Gs.fin1 Tryz.results13 rfl _ (⟨rfl, rfl⟩) (by repeat constructor)
abbrev recI (n : Int) (s : ByteArray) : Rec := ⟨1, n, 0, 0, s⟩
theorem rec_spec (n : Int) (s : ByteArray) : Ct Tryz.prog 30 [int n, .string s] [] (fun v hs => v = recV (recI n s) ∧ hs = []) := by
  refine Ct.intro Tryz.func30 rfl (by kernel_rfl) 9 Tryz.ntmps30 (Nat.le_of_ble_eq_true rfl) fun w0 R => ?_
  refine Gs.seq ?_
  refine Gs.reg ?_
  refine Go.Sl.L.ac rfl rfl trivial (ac_alloc zv_35 rfl) ?_
  rintro _ _ ⟨rb, rfl, rfl⟩
  refine Go.Sl.L.nil ?_
  refine Gs.then_n ?_
  refine Gs.seq ?_
  refine Gs.reg ?_
  refine Go.Sl.L.pu rfl rfl trivial (pu_move rfl) ?_
  refine Go.Sl.L.pu rfl rfl trivial (pu_build bd_31 (by repeat constructor) rfl) ?_
  refine Go.Sl.L.pu rfl rfl trivial (pu_move rfl) ?_
  refine Go.Sl.L.pu rfl rfl trivial (pu_build bd_35 (by repeat constructor) rfl) ?_
  refine Go.Sl.L.ac0 rfl trivial (ac_st sz_35 rfl rfl (by repeat constructor) rfl rfl rfl rfl) ?_
  rintro _ _ rfl
  refine Go.Sl.L.nil ?_
  refine Gs.then_n ?_
  refine Gs.ret ?_
  exact Gs.finc1 Tryz.results30 ag_35 rfl (Rdc.cl 5 (by repeat constructor) rfl) rfl _ (⟨rfl, rfl⟩) (by repeat constructor)
theorem toks_le (r : Rec) : (tok r).length ≤ 121 := by
  have h : ∀ T : List WordP, (posL T).length ≤ T.length := fun T => by
    refine snoc_ind (P := fun T => (posL T).length ≤ T.length) (Nat.le_refl _) (fun T p ih => ?_) T
    rw [posL_snoc, posStep, List.length_append]
    have := mput_len (posL T) p.1 ((mget (posL T) p.1).getD [] ++ [p.2])
    simp only [List.length_cons, List.length_nil]; omega
  have := h (toksV r.t)
  rw [toksV, toks_length] at this
  exact Nat.le_trans this (words_len _)
theorem sum_le {α : Type} {f : α → List ByteArray} {k : Nat} : ∀ (l : List α), (∀ x ∈ l, (f x).length ≤ k) → (l.flatMap f).length ≤ k * l.length
  | [], _ => by simp
  | x :: l, h => by
    have h1 := h x List.mem_cons_self
    have h2 := sum_le l fun y hy => h y (List.mem_cons_of_mem _ hy)
    rw [List.flatMap_cons, List.length_append, List.length_cons, Nat.mul_add]; omega
theorem IxIs.words {rs : List Rec} {s : PL × PW} (h : IxIs rs s) : s.1.length ≤ 121 * rs.length := by
  have h1 : (mkeys s.1).length ≤ (rs.flatMap fun r => mkeys (tok r)).length := by
    have hb : ∀ l m : List ByteArray, l.Nodup → (∀ x ∈ l, x ∈ m) → l.length ≤ m.length := fun l m => by
      letI : BEq ByteArray := instBEqOfDecidableEq
      exact nodup_sub
    refine hb _ _ h.ln fun w hw => ?_
    cases hm : mget s.1 w with
    | none => exact (mget_none.1 hm hw).elim
    | some l =>
      obtain ⟨h1, -, h3⟩ := h.mem w l hm
      obtain ⟨p, hpl⟩ := List.exists_mem_of_ne_nil l h1
      obtain ⟨r, hr, -, h5⟩ := (h3 p).1 hpl
      exact List.mem_flatMap.2 ⟨r, hr, List.mem_map.2 ⟨_, mget_mem h5, rfl⟩⟩
  have h2 := sum_le (f := fun r => mkeys (tok r)) (k := 121) rs fun r _ => by rw [List.length_map]; exact toks_le r
  rw [List.length_map] at h1; omega
theorem IxIs.wlen {rs : List Rec} {s : PL × PW} (h : IxIs rs s) : s.2.length = rs.length := by have := h.wkeys.length_eq; simpa using this
theorem IxIs.lists {rs : List Rec} {s : PL × PW} (h : IxIs rs s) {w : ByteArray} {l : List PostP} (hm : mget s.1 w = some l) : l.length ≤ rs.length := by
  obtain ⟨-, h2, h3⟩ := h.mem w l hm
  have nd : (l.map Prod.fst).Nodup := by
    have := may_asc h2
    exact this.imp fun {a b} hab e => by rw [e, before_irr] at hab; cases hab
  have := nodup_sub (m := rs.map Rec.key) nd fun k hk => by
    obtain ⟨p, hp, rfl⟩ := List.mem_map.1 hk
    obtain ⟨r, hr, h4, -⟩ := (h3 p).1 hp
    exact List.mem_map.2 ⟨r, hr, h4.symm⟩
  simpa using this
theorem IxIs.short {rs : List Rec} {L : List (ByteArray × SlV PostV)} {W : List (Key × SlV ByteArray)} (h : IxIs rs (plL L, plW W)) : ∀ p ∈ L, p.2.xs.length ≤ rs.length := fun p hp => by
  have hn : (mkeys L).Nodup := by have := h.ln; simpa [plL, mm, mkeys, Function.comp_def] using this
  have hm := mget_of_mem hn (show (p.1, p.2) ∈ L from hp)
  have := h.lists (w := p.1) (l := plain1 p.2.xs) (by show mget (plL L) p.1 = _; rw [plL, mm_get, hm]; rfl)
  simpa using this
theorem IxIs.llen {rs : List Rec} {L : List (ByteArray × SlV PostV)} {W : List (Key × SlV ByteArray)} (h : IxIs rs (plL L, plW W)) : L.length ≤ 121 * rs.length := by have := h.words; simpa [plL, mm] using this
theorem IxIs.rlen {rs : List Rec} {L : List (ByteArray × SlV PostV)} {W : List (Key × SlV ByteArray)} (h : IxIs rs (plL L, plW W)) : W.length = rs.length := by have := h.wlen; simpa [plW, mm] using this
theorem putR_len (rs : List Rec) (r : Rec) : (putR rs r).length ≤ rs.length + 1 := by unfold putR; split <;> simp
end Go.Proofs.YtmbikfojljnnkaaGreatDoor
