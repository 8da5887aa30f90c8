/- What the closing leans on: part 5. -/
import Derived.Test.YtklgiidfompdpaaGreatDoorYc
import Derived.Test.YtklgiidfompdpaaGreatDoorYd
import Derived.Test.YtklgiidfompdpaaGreatDoorYb
import Derived.Shelf.Unicode.ValidAny
import Derived.Shelf.Strings.FieldsFuncGrows
import Derived.Shelf.Unicode.PredsPay
import Derived.Shelf.Unicode.CaseLaid
import Derived.Shelf.Strings.BuilderK
import Derived.Shelf.Strings.BuilderRune
import Derived.Shelf.Strings.Prefix
import Derived.Shelf.SlSortCmp.NoneTotal
import Derived.Ground.SlsfProg
import Derived.Shelf.Slices.In.SortNone
import Derived.Test.YtklgiidfompdpaaGreatDoorProg
import Derived.Sort.Grow
import Derived.WalkMore
namespace Go.Proofs.YtklgiidfompdpaaGreatDoor
open Go Go.Sl Go.Gv
set_option maxRecDepth 100000
end Go.Proofs.YtklgiidfompdpaaGreatDoor
namespace Go.Proofs.YtklgiidfompdpaaGreatDoor
open Go Go.Sl Go.Gv
set_option maxRecDepth 100000
end Go.Proofs.YtklgiidfompdpaaGreatDoor
namespace Go.Proofs.YtklgiidfompdpaaGreatDoor
open Go Go.Sl Go.Gv Go.Po
set_option maxRecDepth 100000
def lessK (xs ys : List Key) : List Key := xs.filter fun k => !decide (k ∈ ys)
theorem less_t {xs ys : List Key} {i : Nat} {k : Key} (h : xs[i]? = some k) (hk : k ∉ ys) : lessK (xs.take (i + 1)) ys = lessK (xs.take i) ys ++ [k] := by
 rw [List.take_add_one, h]; simp [lessK, hk]
theorem less_f {xs ys : List Key} {i : Nat} {k : Key} (h : xs[i]? = some k) (hk : k ∈ ys) : lessK (xs.take (i + 1)) ys = lessK (xs.take i) ys := by
 rw [List.take_add_one, h]; simp [lessK, hk]
theorem less_le (xs ys : List Key) : (lessK xs ys).length ≤ xs.length := List.length_filter_le ..
theorem indexK_spec {S : HProp} {a : Option Addr} {c : Nat} {ys : List Key} (hS : Srd S 2 keyC a ys) (hl : ys.length ≤ 100000) (k : Key) :
   Ct Tryz.prog 179 [.slice a ys.length c, keyV k] [S] (fun v hs => (∃ z : Int, v = int z ∧ decide (0 ≤ z) = decide (k ∈ ys)) ∧ hs = [S]) := by
 refine Cti Tryz.func179 (by kernel_rfl) 19 Tryz.ntmps179 rfl rfl fun w0 R => ?_
 refine Gs.slAddr (hS.h (by repeat constructor)) fun ab ao ha => ?_
 refine Gsr (La rfl (ac_box rfl rfl) ?_)
 rintro _ _ ⟨kb, rfl, rfl⟩
 refine Las rfl rfl (Lnt (Gs.seq (Gsr (Lmv rfl rfl (Lq rfl (pu_len Tryz.underlying48 rfl) (Lmv rfl rfl (Lnt (Gs.block (Gs.loop1 (fun i : Nat => i ≤ ys.length ∧ k ∉ ys.take i) (fun i => [(0, .slice a ys.length c), (3, ptr kb), (7, int ys.length), (8, int i)]) (fun i => [S, cl kb 28 (keyC k)] ++ R) (fun i => ys.length - i) 0 (⟨Nat.zero_le _, by simp⟩) (by repeat constructor) (by repeat constructor) (fun i ⟨hi, hq⟩ => ?_))))))))))
 refine Gsr (Lq rfl (pu_lt rfl rfl) (Lnt (Gs.seq (Gs.cond rfl (fun hc0 => ?_) (fun hc0 => ?_)))))
 ·
  have hlt : i < ys.length := by have := of_decide_eq_true hc0; omega
  obtain ⟨x, hx⟩ : ∃ x, ys[i]? = some x := ⟨ys[i], by simp [hlt]⟩
  obtain rfl := ha (by rintro rfl; simp at hlt)
  refine Gs.skip (Gn (Gs.seq (Gs.block (Gsr (Lmv rfl rfl (Las rfl rfl (Lnt (Gs.seq (Gs.regD mixed (by kernel_rfl) (Rr 0 rfl (by kernel_rfl) (rd_lda ag_28 rfl (Rdc.cl 2 (by repeat constructor) rfl) rfl) ?_))))))))))
  refine Rmv 1 rfl (by kernel_rfl) rfl (Rmv 2 rfl (by kernel_rfl) rfl (Rq 3 rfl (by kernel_rfl) (pu_ia se_48 rfl rfl (by omega) (by omega)) (Rr 4 rfl (by kernel_rfl) (rd_lda ag_28 rfl (Rdc.el0 (hS.h (by repeat constructor)) hx rfl rfl) rfl) ?_)))
  refine Rq 5 rfl (by kernel_rfl) (pu_eqT (a := k) (b := x) cmp_28 (by decide) Tryz.eqGuardType28 rfl rfl) ?_
  refine Rg.end (by kernel_rfl) (Gn (Gs.cond rfl (fun hc1 => ?_) (fun hc1 => ?_)))
  ·
   have hyes : k ∈ ys := by have : k = x := of_decide_eq_true hc1; rw [this]; exact List.mem_of_getElem? hx
   refine Gsr (Lmv rfl rfl (Las rfl rfl (Lnt (Gs.ret (Gs.blk_r (Gr (Gr (Gs.blk_r (Gr ?_)))))))))
   exact Gs.fin1 Tryz.results179 rfl _ (⟨⟨_, rfl, by rw [decide_eq_true hyes]; exact decide_eq_true (by omega)⟩, rfl⟩) (by repeat constructor)
  have hno : k ∉ ys.take (i + 1) := by rw [List.take_add_one, hx]; intro hm; rcases List.mem_append.1 hm with hm | hm; exact hq hm; have h2 : k ≠ x := of_decide_eq_false hc1; simp at hm; exact h2 hm
  refine Gs.skip (Gs.blk_n (Gn (Gs.reg (Lq rfl (by first | exact pu_addI rfl rfl rfl (by omega) (by omega) | exact pu_add rfl rfl) ?_))))
  refine Lmv rfl rfl (Lnt ?_)
  exact Ag (i + 1) ⟨hlt, hno⟩ (by omega)
 have hge : i = ys.length := by have := of_decide_eq_false hc0; omega
 rw [hge, List.take_length] at hq
 refine Gs.exit (Gx (Gx (Gs.blk_hit (Gn (Gsr (Las rfl rfl (Lnt (Gs.ret ?_))))))))
 exact Gs.fin1 Tryz.results179 rfl _ (⟨⟨_, rfl, by rw [decide_eq_false hq]; rfl⟩, rfl⟩) (by repeat constructor)
theorem containsK_spec {S : HProp} {a : Option Addr} {c : Nat} {ys : List Key} (hS : Srd S 2 keyC a ys) (hl : ys.length ≤ 100000) (k : Key) :
   Ct Tryz.prog 133 [.slice a ys.length c, keyV k] [S] (fun v hs => v = .bool (decide (k ∈ ys)) ∧ hs = [S]) := by
 refine Cti Tryz.func133 (by kernel_rfl) 9 Tryz.ntmps133 rfl rfl fun w0 R => ?_
 refine Gsr (La rfl (ac_box rfl rfl) ?_)
 rintro _ _ ⟨kb, rfl, rfl⟩
 refine Las rfl rfl (Lnt (Gsr (Lmv rfl rfl (Lr rfl (rd_lda ag_28 rfl (Rdc.cl 2 (by repeat constructor) rfl) rfl) ?_))))
 refine La rfl (asC (indexK_spec hS hl k)) ?_
 rintro _ _ ⟨_, ⟨⟨z, rfl, hz⟩, rfl⟩, rfl⟩
 refine Lq rfl (pu_ge rfl rfl) (Las rfl rfl (Lnt (Gs.ret ?_)))
 exact Gs.fin1 Tryz.results133 rfl _ (⟨by rw [← hz], rfl⟩) (by repeat constructor)
theorem pless_spec {S : HProp} {a b : Option Addr} {c d : Nat} {xs ys : List Key} (hS : Srd S 2 keyC a xs) (hU : Srd S 2 keyC b ys) (hl : xs.length ≤ 100000) (hm : ys.length ≤ 100000) :
   Ct Tryz.prog 79 [.slice a xs.length c, .slice b ys.length d] [S] (fun v hs => ∃ a' c', v = .slice a' (lessK xs ys).length c' ∧ hs = [S, sl 28 2 keyC a' c' (lessK xs ys)]) := by
 refine Cti Tryz.func79 (by kernel_rfl) 24 Tryz.ntmps79 rfl rfl fun w0 R => ?_
 refine Gs.slAddr (hS.h (by repeat constructor)) fun ab ao ha => ?_
 refine Gsr (Las rfl rfl (Lnt (Gsr (Las rfl rfl (Lnil (Gs.slNil 28 2 keyC (Gn (Gs.seq (Gsr (Lmv rfl rfl (Lq rfl (pu_len Tryz.underlying48 rfl) ?_)))))))))))
 refine Lmv rfl rfl (Lnt (Gs.block (Gs.loop1 (fun s : Nat × (Option Addr × Nat) × List Key => s.1 ≤ xs.length ∧ s.2.2 = lessK (xs.take s.1) ys) (fun s => [(1, .slice b ys.length d), (5, .slice s.2.1.1 s.2.2.length s.2.1.2), (8, .slice a xs.length c), (9, int xs.length), (10, int s.1)]) (fun s => [S, sl 28 2 keyC s.2.1.1 s.2.1.2 s.2.2] ++ R) (fun s => xs.length - s.1) (0, (none, 0), []) (⟨Nat.zero_le _, rfl⟩) (by repeat constructor) (by repeat constructor) (fun s hs => ?_))))
 obtain ⟨i, ⟨ka, kc⟩, K⟩ := s
 obtain ⟨hi, hK⟩ := hs
 dsimp only at hi hK ⊢
 have hKl : K.length ≤ 100000 := by rw [hK]; refine Nat.le_trans (less_le _ _) ?_; rw [List.length_take]; omega
 refine Gsr (Lq rfl (pu_lt rfl rfl) (Lnt (Gs.seq (Gs.cond rfl (fun hc0 => ?_) (fun hc0 => ?_)))))
 ·
  have hlt : i < xs.length := by have := of_decide_eq_true hc0; omega
  obtain ⟨k, hk⟩ : ∃ x, xs[i]? = some x := ⟨xs[i], by simp [hlt]⟩
  obtain rfl := ha (by rintro rfl; simp at hlt)
  refine Gs.skip (Gn (Gs.seq (Gs.block (Gsr (Lq rfl (pu_ia se_48 rfl rfl (by omega) (by omega)) (Lr rfl (rd_lda ag_28 rfl (Rdc.el0 (hS.h (by repeat constructor)) hk rfl rfl) rfl) ?_))))))
  refine La rfl (ac_alloc zv_28 rfl) ?_
  rintro _ _ ⟨kb, rfl, rfl⟩
  refine Lac0 rfl trivial (ac_st sz_28 rfl rfl (by repeat constructor) rfl rfl rfl rfl) ?_
  rintro _ _ rfl
  refine Lnt (Gsr (Lmv rfl rfl (Lr rfl (rd_lda ag_28 rfl (Rdc.cl 2 (by repeat constructor) rfl) rfl) ?_)))
  refine La rfl (asC (containsK_spec hU hm k)) ?_
  rintro _ _ ⟨_, ⟨rfl, rfl⟩, rfl⟩
  refine Lq rfl (pu_not rfl) (Lnt (Gs.cond rfl (fun hc1 => ?_) (fun hc1 => ?_)))
  ·
   have hin : K ++ [k] = lessK (xs.take (i + 1)) ys := by rw [hK, less_t hk (of_decide_eq_false (not_t hc1))]
   refine Gs.reg (Lmv rfl rfl (Lr rfl (rd_lda ag_28 rfl (Rdc.cl 2 (by repeat constructor) rfl) rfl) ?_))
   refine La rfl (ac_lit encC_28 ([k]) et_48 ek_28 rfl (by repeat constructor) rfl rfl (by decide)) ?_
   rintro _ _ ⟨a20, rfl, rfl⟩
   refine La rfl (ac_append (xs := K) (ys := [k]) et_48 ek_28 rfl rfl (by repeat constructor) (SrcH.sl Tryz.underlying48 ek_28 (SlH.own (by repeat constructor))) (by first | omega | (simp; omega)) (by first | omega | (simp; omega))) ?_
   rintro _ _ ⟨a21, c21, rfl, rfl⟩
   refine Las rfl rfl (Lnil (Gs.blk_n (Gn (Gs.reg (Lq rfl (by first | exact pu_addI rfl rfl rfl (by omega) (by omega) | exact pu_add rfl rfl) ?_)))))
   refine Lmv rfl rfl (Lnt ?_)
   first | exact Ag (i + 1, (a21, c21), K ++ [k]) ⟨by show i + 1 ≤ xs.length; omega, hin⟩ (by show xs.length - (i + 1) < xs.length - i; omega) | exact Ag (i + 1, (ka, kc), K) ⟨by show i + 1 ≤ xs.length; omega, hin⟩ (by show xs.length - (i + 1) < xs.length - i; omega)
  have hin : K = lessK (xs.take (i + 1)) ys := by rw [hK, less_f hk (of_decide_eq_true (not_f hc1))]
  refine Gs.skip (Gs.blk_n (Gn (Gs.reg (Lq rfl (by first | exact pu_addI rfl rfl rfl (by omega) (by omega) | exact pu_add rfl rfl) ?_))))
  refine Lmv rfl rfl (Lnt ?_)
  first | exact Ag (i + 1, (a21, c21), K ++ [k]) ⟨by show i + 1 ≤ xs.length; omega, hin⟩ (by show xs.length - (i + 1) < xs.length - i; omega) | exact Ag (i + 1, (ka, kc), K) ⟨by show i + 1 ≤ xs.length; omega, hin⟩ (by show xs.length - (i + 1) < xs.length - i; omega)
 have hge : i = xs.length := by have := of_decide_eq_false hc0; omega
 rw [hge, List.take_length] at hK
 subst hK
 refine Gs.exit (Gx (Gx (Gs.blk_hit (Gn (Gsr (Lmv rfl rfl (Las rfl rfl (Lnt (Gs.ret ?_)))))))))
 exact Gs.fin1 Tryz.results79 rfl _ (⟨ka, kc, rfl, rfl⟩) (by repeat constructor)
end Go.Proofs.YtklgiidfompdpaaGreatDoor
namespace Go.Proofs.YtklgiidfompdpaaGreatDoor
open Go Go.Sl Go.Gv Go.Po
set_option maxRecDepth 100000
theorem sameKeys_spec {S : HProp} {a b : Option Addr} {c d : Nat} {xs ys : List Key} (hS : Srd S 2 keyC a xs) (hU : Srd S 2 keyC b ys) (hl : xs.length ≤ 1000000) :
   Ct Tryz.prog 23 [.slice a xs.length c, .slice b ys.length d] [S] (fun v hs => v = .bool (decide (xs = ys)) ∧ hs = [S]) := by
 refine Cti Tryz.func23 (by kernel_rfl) 26 Tryz.ntmps23 rfl rfl fun w0 R => ?_
 refine Gs.slAddr (hS.h (by repeat constructor)) fun ab ao ha => ?_
 refine Gs.slAddr (hU.h (by repeat constructor)) fun ub uo hu => ?_
 refine Gsr (Las rfl rfl (Lnt (Gs.seq (Gsr (Lmv rfl rfl (Lq rfl (pu_len Tryz.underlying48 rfl) (Lmv rfl rfl (Lq rfl (pu_len Tryz.underlying48 rfl) (Lq rfl (pu_ne rfl rfl) (Lnt (Gs.cond rfl (fun hc0 => ?_) (fun hc0 => ?_))))))))))))
 ·
  have hne : ¬ xs = ys := fun e => by have := of_decide_eq_true hc0; rw [e] at this; exact this rfl
  refine Gsr (Las rfl rfl (Lnt (Gs.ret (Gr ?_))))
  exact Gs.fin1 Tryz.results23 rfl _ (⟨by rw [decide_eq_false hne], rfl⟩) (by repeat constructor)
 have hle : xs.length = ys.length := by have := of_decide_eq_false hc0; omega
 refine Gs.skip (Gn (Gs.seq (Gsr (Las rfl rfl (Lnt (Gs.block (Gs.loop1 (fun i : Nat => i ≤ xs.length ∧ xs.take i = ys.take i) (fun i => [(0, .slice a xs.length c), (1, .slice b ys.length d), (5, int i)]) (fun i => [S] ++ R) (fun i => xs.length - i) 0 (⟨Nat.zero_le _, rfl⟩) (by repeat constructor) (by repeat constructor) (fun i ⟨hi, ht⟩ => ?_))))))))
 refine Gs.seq (Gsr (Lmv rfl rfl (Lmv rfl rfl (Lq rfl (pu_len Tryz.underlying48 rfl) (Lq rfl (pu_lt rfl rfl) (Lnt (Gs.cond rfl (fun hc1 => ?_) (fun hc1 => ?_))))))))
 ·
  have hlt : i < xs.length := by have := of_decide_eq_true hc1; omega
  obtain ⟨x, hx⟩ : ∃ x, xs[i]? = some x := ⟨xs[i], by simp [hlt]⟩
  obtain ⟨y, hy⟩ : ∃ x, ys[i]? = some x := ⟨ys[i]'(by omega), by simp [← hle, hlt]⟩
  obtain rfl := ha (by rintro rfl; simp at hlt)
  obtain rfl := hu (by rintro rfl; simp at hy)
  refine Gs.skip (Gn (Gs.seq (Gs.block (Gs.seq (Gs.regD mixed (by kernel_rfl) (Rmv 0 rfl (by kernel_rfl) rfl (Rmv 1 rfl (by kernel_rfl) rfl (Rq 2 rfl (by kernel_rfl) (pu_ia se_48 rfl rfl (by omega) (by omega)) (Rr 3 rfl (by kernel_rfl) (rd_lda ag_28 rfl (Rdc.el0 (hS.h (by repeat constructor)) hx rfl rfl) rfl) ?_)))))))))
  refine Rmv 4 rfl (by kernel_rfl) rfl (Rmv 5 rfl (by kernel_rfl) rfl (Rq 6 rfl (by kernel_rfl) (pu_ia se_48 rfl rfl (by omega) (by omega)) (Rr 7 rfl (by kernel_rfl) (rd_lda ag_28 rfl (Rdc.el0 (hU.h (by repeat constructor)) hy rfl rfl) rfl) ?_)))
  refine Rq 8 rfl (by kernel_rfl) (pu_neT (a := x) (b := y) cmp_28 (by decide) Tryz.eqGuardType28 rfl rfl) ?_
  refine Rg.end (by kernel_rfl) (Gn (Gs.cond rfl (fun hc2 => ?_) (fun hc2 => ?_)))
  ·
   have hne : ¬ xs = ys := fun e => by have := of_decide_eq_true hc2; rw [e, hy] at hx; exact this (Option.some.inj hx).symm
   refine Gsr (Las rfl rfl (Lnt (Gs.ret (Gs.blk_r (Gr (Gr (Gs.blk_r (Gr ?_))))))))
   exact Gs.fin1 Tryz.results23 rfl _ (⟨by rw [decide_eq_false hne], rfl⟩) (by repeat constructor)
  have hxy : x = y := by have := of_decide_eq_false hc2; exact Decidable.not_not.1 this
  refine Gs.skip (Gs.blk_n (Gn (Gs.reg (Lmv rfl rfl (Lq rfl (by first | exact pu_addI rfl rfl rfl (by omega) (by omega) | exact pu_add rfl rfl) ?_)))))
  refine Las rfl rfl (Lnt ?_)
  exact Ag (i + 1) ⟨by omega, by rw [List.take_add_one, List.take_add_one, ht, hx, hy, hxy]⟩ (by omega)
 have hge : i = xs.length := by have := of_decide_eq_false hc1; omega
 have heq : xs = ys := by rw [hge, List.take_length, hle, List.take_length] at ht; exact ht
 refine Gs.exit (Gx (Gx (Gs.blk_hit (Gn (Gsr (Las rfl rfl (Lnt (Gs.ret ?_))))))))
 exact Gs.fin1 Tryz.results23 rfl _ (⟨by rw [decide_eq_true heq], rfl⟩) (by repeat constructor)
theorem less10_spec {S : HProp} {a b : Option Addr} {c d : Nat} {xs ys : List Key} (hS : Srd S 2 keyC a xs) (hU : Srd S 2 keyC b ys) (hl : xs.length ≤ 100000) (hm : ys.length ≤ 100000) :
   Ct Tryz.prog 27 [.slice a xs.length c, .slice b ys.length d] [S] (fun v hs => ∃ a' c', v = .slice a' (lessK xs ys).length c' ∧ hs = [S, sl 28 2 keyC a' c' (lessK xs ys)]) := by
 refine Cti Tryz.func27 (by kernel_rfl) 43 Tryz.ntmps27 rfl rfl fun w0 R => ?_
 refine Gs.slAddr (hS.h (by repeat constructor)) fun ab ao ha => ?_
 refine Gs.slAddr (hU.h (by repeat constructor)) fun ub uo hu => ?_
 refine Gsr (Las rfl rfl (Lnt (Gsr (Las rfl rfl (Lnil (Gs.slNil 28 2 keyC (Gn (Gs.seq (Gsr (Las rfl rfl (Lnt ?_)))))))))))
 refine Gs.block (Gs.loop1 (fun s : Nat × (Option Addr × Nat) × List Key => s.1 ≤ xs.length ∧ s.2.2 = lessK (xs.take s.1) ys) (fun s => [(0, .slice a xs.length c), (1, .slice b ys.length d), (5, .slice s.2.1.1 s.2.2.length s.2.1.2), (6, int s.1)]) (fun s => [S, sl 28 2 keyC s.2.1.1 s.2.1.2 s.2.2] ++ R) (fun s => xs.length - s.1) (0, (none, 0), []) (⟨Nat.zero_le _, rfl⟩) (by repeat constructor) (by repeat constructor) (fun s hs => ?_))
 obtain ⟨i, ⟨ka, kc⟩, K⟩ := s
 obtain ⟨hi, hK⟩ := hs
 dsimp only at hi hK ⊢
 have hKl : K.length ≤ 100000 := by rw [hK]; refine Nat.le_trans (less_le _ _) ?_; rw [List.length_take]; omega
 refine Gs.seq (Gsr (Lmv rfl rfl (Lmv rfl rfl (Lq rfl (pu_len Tryz.underlying48 rfl) (Lq rfl (pu_lt rfl rfl) (Lnt (Gs.cond rfl (fun hc0 => ?_) (fun hc0 => ?_))))))))
 ·
  have hlt : i < xs.length := by have := of_decide_eq_true hc0; omega
  obtain ⟨k, hk⟩ : ∃ x, xs[i]? = some x := ⟨xs[i], by simp [hlt]⟩
  obtain rfl := ha (by rintro rfl; simp at hlt)
  refine Gs.skip (Gn (Gs.seq (Gs.block (Gsr (Las rfl rfl (Lnt (Gs.seq (Gsr (Las rfl rfl (Lnt (Gs.block ?_)))))))))))
  refine Gs.loop1 (fun s : Nat × Bool => s.1 ≤ ys.length ∧ s.2 = decide (k ∈ ys.take s.1)) (fun s => [(0, .slice (some ⟨ab, ao, none⟩) xs.length c), (1, .slice b ys.length d), (5, .slice ka K.length kc), (6, int i), (7, .bool s.2), (8, int s.1)]) (fun s => [S, sl 28 2 keyC ka kc K] ++ R) (fun s => ys.length - s.1) (0, false) (⟨Nat.zero_le _, by simp⟩) (by repeat constructor) (by repeat constructor) (fun s hs1 => ?_)
  obtain ⟨j, e⟩ := s
  obtain ⟨hj, he⟩ := hs1
  dsimp only at hj he ⊢
  refine Gs.seq (Gsr (Lmv rfl rfl (Lmv rfl rfl (Lq rfl (pu_len Tryz.underlying48 rfl) (Lq rfl (pu_lt rfl rfl) (Lnt (Gs.cond rfl (fun hc1 => ?_) (fun hc1 => ?_))))))))
  ·
   have hlt1 : j < ys.length := by have := of_decide_eq_true hc1; omega
   obtain ⟨y, hy⟩ : ∃ x, ys[j]? = some x := ⟨ys[j], by simp [hlt1]⟩
   obtain rfl := hu (by rintro rfl; simp at hlt1)
   have hst : decide (k ∈ ys.take (j + 1)) = (e || decide (y = k)) := by rw [List.take_add_one, hy, he, ← Bool.decide_or]; exact decide_eq_decide.2 ⟨fun h => (List.mem_append.1 h).imp id (fun h => by simp at h; exact h.symm), fun h => List.mem_append.2 (h.imp id (fun h => by simp [h]))⟩
   refine Gs.skip (Gn (Gs.seq (Gs.block (Gs.regD mixed (by kernel_rfl) (Rmv 0 rfl (by kernel_rfl) rfl (Rg.puB 1 rfl rfl (by kernel_rfl) trivial (pu_move rfl) (fun hg1 => ?_) (fun hg1 => ?_)))))))
   ·
    have hsb : true = decide (k ∈ ys.take (j + 1)) := by rw [hst, hg1]; rfl
    refine Rof 2 rfl (by kernel_rfl) rfl (Rof 3 rfl (by kernel_rfl) rfl (Rof 4 rfl (by kernel_rfl) rfl (Rof 5 rfl (by kernel_rfl) rfl (Rof 6 rfl (by kernel_rfl) rfl (Rof 7 rfl (by kernel_rfl) rfl (Rof 8 rfl (by kernel_rfl) rfl (Rof 9 rfl (by kernel_rfl) rfl (Rof 10 rfl (by kernel_rfl) rfl (Rpk 11 rfl (by kernel_rfl) rfl rfl (Rg.one (by kernel_rfl) (Stp.ac 12 rfl rfl (by kernel_rfl) trivial (Pu.ac (pu_assign rfl))  ?_)))))))))))
    rintro _ _ ⟨rfl, rfl⟩
    refine Rg.end (by kernel_rfl) (Gs.blk_n (Gn (Gs.reg (Lmv rfl rfl (Lq rfl (by first | exact pu_addI rfl rfl rfl (by omega) (by omega) | exact pu_add rfl rfl) ?_)))))
    refine Las rfl rfl (Lnt ?_)
    first | exact Ag (j + 1, decide (y = k)) ⟨by show j + 1 ≤ ys.length; omega, hsb⟩ (by show ys.length - (j + 1) < ys.length - j; omega) | exact Ag (j + 1, true) ⟨by show j + 1 ≤ ys.length; omega, hsb⟩ (by show ys.length - (j + 1) < ys.length - j; omega)
   have hsb : decide (y = k) = decide (k ∈ ys.take (j + 1)) := by rw [hst, hg1]; rfl
   refine Rg.pu 2 rfl rfl (by kernel_rfl) ⟨_, rfl, rfl⟩ (pu_move rfl) (Rg.pu 3 rfl rfl (by kernel_rfl) ⟨_, rfl, rfl⟩ (pu_move rfl) (Rg.pu 4 rfl rfl (by kernel_rfl) ⟨_, rfl, rfl⟩ (pu_ia se_48 rfl rfl (by omega) (by omega)) (Rg.rd 5 rfl rfl (by kernel_rfl) ⟨_, rfl, rfl⟩ (rd_lda ag_28 rfl (Rdc.el0 (hU.h (by repeat constructor)) hy rfl rfl) rfl) ?_)))
   refine Rg.pu 6 rfl rfl (by kernel_rfl) ⟨_, rfl, rfl⟩ (pu_move rfl) (Rg.pu 7 rfl rfl (by kernel_rfl) ⟨_, rfl, rfl⟩ (pu_move rfl) (Rg.pu 8 rfl rfl (by kernel_rfl) ⟨_, rfl, rfl⟩ (pu_ia se_48 rfl rfl (by omega) (by omega)) (Rg.rd 9 rfl rfl (by kernel_rfl) ⟨_, rfl, rfl⟩ (rd_lda ag_28 rfl (Rdc.el0 (hS.h (by repeat constructor)) hk rfl rfl) rfl) ?_)))
   refine Rg.pu 10 rfl rfl (by kernel_rfl) ⟨_, rfl, rfl⟩ (pu_eqT (a := y) (b := k) cmp_28 (by decide) Tryz.eqGuardType28 rfl rfl) ?_
   refine Rpk 11 rfl (by kernel_rfl) rfl rfl (Rg.one (by kernel_rfl) (Stp.ac 12 rfl rfl (by kernel_rfl) trivial (Pu.ac (pu_assign rfl))  ?_))
   rintro _ _ ⟨rfl, rfl⟩
   refine Rg.end (by kernel_rfl) (Gs.blk_n (Gn (Gs.reg (Lmv rfl rfl (Lq rfl (by first | exact pu_addI rfl rfl rfl (by omega) (by omega) | exact pu_add rfl rfl) ?_)))))
   refine Las rfl rfl (Lnt ?_)
   first | exact Ag (j + 1, decide (y = k)) ⟨by show j + 1 ≤ ys.length; omega, hsb⟩ (by show ys.length - (j + 1) < ys.length - j; omega) | exact Ag (j + 1, true) ⟨by show j + 1 ≤ ys.length; omega, hsb⟩ (by show ys.length - (j + 1) < ys.length - j; omega)
  have hge1 : j = ys.length := by have := of_decide_eq_false hc1; omega
  rw [hge1, List.take_length] at he
  refine Gs.exit (Gx (Gx (Gs.blk_hit (Gn (Gsr (Lmv rfl rfl (Lq rfl (pu_not rfl) (Lnt (Gs.cond rfl (fun hc2 => ?_) (fun hc2 => ?_))))))))))
  ·
   have hin : K ++ [k] = lessK (xs.take (i + 1)) ys := by rw [hK, less_t hk (of_decide_eq_false (he.symm.trans (not_t hc2)))]
   refine Gs.reg (Lmv rfl rfl (Lmv rfl rfl (Lmv rfl rfl (Lq rfl (pu_ia se_48 rfl rfl (by omega) (by omega)) (Lr rfl (rd_lda ag_28 rfl (Rdc.el0 (hS.h (by repeat constructor)) hk rfl rfl) rfl) ?_)))))
   refine La rfl (ac_lit encC_28 ([k]) et_48 ek_28 rfl (by repeat constructor) rfl rfl (by decide)) ?_
   rintro _ _ ⟨a40, rfl, rfl⟩
   refine La rfl (ac_append (xs := K) (ys := [k]) et_48 ek_28 rfl rfl (by repeat constructor) (SrcH.sl Tryz.underlying48 ek_28 (SlH.own (by repeat constructor))) (by first | omega | (simp; omega)) (by first | omega | (simp; omega))) ?_
   rintro _ _ ⟨a41, c41, rfl, rfl⟩
   refine Las rfl rfl (Lnil (Gs.blk_n (Gn (Gs.reg (Lmv rfl rfl (Lq rfl (by first | exact pu_addI rfl rfl rfl (by omega) (by omega) | exact pu_add rfl rfl) ?_))))))
   refine Las rfl rfl (Lnt ?_)
   first | exact Ag (i + 1, (a41, c41), K ++ [k]) ⟨by show i + 1 ≤ xs.length; omega, hin⟩ (by show xs.length - (i + 1) < xs.length - i; omega) | exact Ag (i + 1, (ka, kc), K) ⟨by show i + 1 ≤ xs.length; omega, hin⟩ (by show xs.length - (i + 1) < xs.length - i; omega)
  have hin : K = lessK (xs.take (i + 1)) ys := by rw [hK, less_f hk (of_decide_eq_true (he.symm.trans (not_f hc2)))]
  refine Gs.skip (Gs.blk_n (Gn (Gs.reg (Lmv rfl rfl (Lq rfl (by first | exact pu_addI rfl rfl rfl (by omega) (by omega) | exact pu_add rfl rfl) ?_)))))
  refine Las rfl rfl (Lnt ?_)
  first | exact Ag (i + 1, (a41, c41), K ++ [k]) ⟨by show i + 1 ≤ xs.length; omega, hin⟩ (by show xs.length - (i + 1) < xs.length - i; omega) | exact Ag (i + 1, (ka, kc), K) ⟨by show i + 1 ≤ xs.length; omega, hin⟩ (by show xs.length - (i + 1) < xs.length - i; omega)
 have hge : i = xs.length := by have := of_decide_eq_false hc0; omega
 rw [hge, List.take_length] at hK
 subst hK
 refine Gs.exit (Gx (Gx (Gs.blk_hit (Gn (Gsr (Lmv rfl rfl (Las rfl rfl (Lnt (Gs.ret ?_)))))))))
 exact Gs.fin1 Tryz.results27 rfl _ (⟨ka, kc, rfl, rfl⟩) (by repeat constructor)
end Go.Proofs.YtklgiidfompdpaaGreatDoor
namespace Go.Proofs.YtklgiidfompdpaaGreatDoor
open Go Go.Sl Go.Gv Go.Po
set_option maxRecDepth 100000
theorem cloneI_spec {S : HProp} {a : Option Addr} {c : Nat} {l : List Int} (hS : Srd S 1 intC a l) (hl : l.length ≤ 100000) :
   Ct Tryz.prog 100 [.slice a l.length c] [S] (fun v hs => ∃ a' c', v = .slice a' l.length c' ∧ hs = [S, sl 3 1 intC a' c' l]) := by
 refine Cti Tryz.func100 (by kernel_rfl) 8 Tryz.ntmps100 rfl rfl fun w0 R => ?_
 refine Gs.slAddr (hS.h (by repeat constructor)) fun ab ao ha => ?_
 refine Gsr (Las rfl rfl (Lnt (Gs.seq (Gsr (Lmv rfl rfl (Lq rfl (pu_eqL Tryz.underlying99 rfl rfl) (Lnt (Gs.cond rfl (fun hc0 => ?_) (fun hc0 => ?_)))))))))
 ·
  have hnil : l = [] := Classical.byContradiction fun h => by rw [ha h] at hc0; cases hc0
  refine Gs.slNil 3 1 intC (Gsr (Las rfl rfl (Lnt (Gs.ret (Gr ?_)))))
  exact Gs.fin1 Tryz.results100 rfl _ (⟨none, 0, by rw [hnil]; rfl, by rw [hnil]⟩) (by repeat constructor)
 refine Gs.skip (Gn (Gsr (La rfl (ac_lit encC_3 (([] : List Int)) et_99 ek_3 rfl (by repeat constructor) rfl rfl (by decide)) ?_)))
 rintro _ _ ⟨a5, rfl, rfl⟩
 refine Lmv rfl rfl (La rfl (ac_append (xs := ([] : List Int)) (ys := l) et_99 ek_3 rfl rfl (by repeat constructor) (SrcH.sl Tryz.underlying99 ek_3 (hS.h (by repeat constructor))) (by simp; omega) (by simp; omega)) ?_)
 rintro _ _ ⟨a7, c7, rfl, rfl⟩
 refine Las rfl rfl (Lnt (Gs.ret ?_))
 exact Gs.fin1 Tryz.results100 rfl _ (⟨a7, c7, rfl, rfl⟩) (by repeat constructor)
theorem cloneP_spec {S : HProp} {a : Option Addr} {c : Nat} {l : List PostV} (hS : Srd S 3 postC a l) (hl : l.length ≤ 100000) :
   Ct Tryz.prog 89 [.slice a l.length c] [S] (fun v hs => ∃ a' c', v = .slice a' l.length c' ∧ hs = [S, sl 106 3 postC a' c' l]) := by
 refine Cti Tryz.func89 (by kernel_rfl) 8 Tryz.ntmps89 rfl rfl fun w0 R => ?_
 refine Gs.slAddr (hS.h (by repeat constructor)) fun ab ao ha => ?_
 refine Gsr (Las rfl rfl (Lnt (Gs.seq (Gsr (Lmv rfl rfl (Lq rfl (pu_eqL Tryz.underlying94 rfl rfl) (Lnt (Gs.cond rfl (fun hc0 => ?_) (fun hc0 => ?_)))))))))
 ·
  have hnil : l = [] := Classical.byContradiction fun h => by rw [ha h] at hc0; cases hc0
  refine Gs.slNil 106 3 postC (Gsr (Las rfl rfl (Lnt (Gs.ret (Gr ?_)))))
  exact Gs.fin1 Tryz.results89 rfl _ (⟨none, 0, by rw [hnil]; rfl, by rw [hnil]⟩) (by repeat constructor)
 refine Gs.skip (Gn (Gsr (La rfl (ac_lit encC_106 (([] : List PostV)) et_94 ek_106 rfl (by repeat constructor) rfl rfl (by decide)) ?_)))
 rintro _ _ ⟨a5, rfl, rfl⟩
 refine Lmv rfl rfl (La rfl (ac_append (xs := ([] : List PostV)) (ys := l) et_94 ek_106 rfl rfl (by repeat constructor) (SrcH.sl Tryz.underlying94 ek_106 (hS.h (by repeat constructor))) (by simp; omega) (by simp; omega)) ?_)
 rintro _ _ ⟨a7, c7, rfl, rfl⟩
 refine Las rfl rfl (Lnt (Gs.ret ?_))
 exact Gs.fin1 Tryz.results89 rfl _ (⟨a7, c7, rfl, rfl⟩) (by repeat constructor)
end Go.Proofs.YtklgiidfompdpaaGreatDoor
namespace Go.Proofs.YtklgiidfompdpaaGreatDoor
open Go Go.Sl Go.Gv Go.Po
set_option maxRecDepth 100000
def atO (p : PostV) : HProp := sl 3 1 intC p.t.a p.t.c p.t.xs
def plO (a : Option Addr) (c : Nat) (ps : List PostV) : HProp := two (sl 106 3 postC a c ps) (big (ps.map atO))
theorem prd_plO {a : Option Addr} {c : Nat} {ps : List PostV} (h : ∀ p ∈ ps, p.t.xs.length ≤ 1000) : PRd (plO a c ps) a ps :=
 ⟨Srd.two1 Srd.own, fun p hp => ⟨Srd.two2 (Srd.bigs (A := atO p) Srd.own (List.mem_map.2 ⟨p, hp, rfl⟩)), h p hp⟩⟩
theorem own_spec {S : HProp} {a : Option Addr} {c : Nat} {ps : List PostV} (hS : PRd S a ps) (hl : ps.length ≤ 1000) :
   Ct Tryz.prog 87 [.slice a ps.length c] [S] (fun v hs => ∃ a' c' qs, v = .slice a' qs.length c' ∧ plain1 qs = plain1 ps ∧ hs = [S, plO a' c' qs]) := by
 refine Cti Tryz.func87 (by kernel_rfl) 23 Tryz.ntmps87 rfl rfl fun w0 R => ?_
 refine Gsr (Las rfl rfl (Lnt (Gsr (Lmv rfl rfl (La rfl (asC (cloneP_spec hS.1 (by omega))) ?_)))))
 rintro _ _ ⟨_, ⟨na, nc, rfl, rfl⟩, rfl⟩
 refine Las rfl rfl (Lnt (Gs.seq (Gsr (Lmv rfl rfl (Lq rfl (pu_len Tryz.underlying94 rfl) (Lmv rfl rfl (Lnil (Gs.bigNil (Gs.slAddr (xs := ps) (SlH.own (E := 106) (enc := postC) (by repeat constructor)) fun ab ao ha => ?_)))))))))
 refine Gn (Gs.block (Gs.loop1 (fun s : Nat × List PostV => s.1 ≤ ps.length ∧ plain1 s.2 = plain1 ps ∧ s.2.drop s.1 = ps.drop s.1) (fun s => [(0, .slice na ps.length nc), (7, int ps.length), (8, int s.1)]) (fun s => [S, sl 106 3 postC na nc s.2, big ((s.2.take s.1).map atO)] ++ R) (fun s => ps.length - s.1) (0, ps) (⟨Nat.zero_le _, rfl, rfl⟩) (by repeat constructor) (by repeat constructor) (fun s hs => ?_)))
 obtain ⟨i, qs⟩ := s
 obtain ⟨hi, hq, hd⟩ := hs
 dsimp only at hi hq hd ⊢
 have hql : qs.length = ps.length := by have := congrArg List.length hq; simpa using this
 refine Gsr (Lq rfl (pu_lt rfl rfl) (Lnt (Gs.seq (Gs.cond rfl (fun hc0 => ?_) (fun hc0 => ?_)))))
 ·
  have hlt : i < ps.length := by have := of_decide_eq_true hc0; omega
  obtain ⟨p, hp⟩ : ∃ x, ps[i]? = some x := ⟨ps[i], by simp [hlt]⟩
  obtain rfl := ha (by rintro rfl; simp at hlt)
  have hpq : qs[i]? = some p := by
    have := congrArg (·[0]?) hd
    simpa [List.getElem?_drop, hp] using this
  obtain ⟨hat, hatl⟩ := hS.2 p (List.mem_of_getElem? hp)
  refine Gs.skip (Gn (Gs.seq (Gs.block (Gsr (Lmv rfl rfl (Las rfl rfl (Lnt (Gs.reg (Lmv rfl rfl (Lmv rfl rfl (Lmv rfl rfl ?_)))))))))))
  refine Lmv rfl rfl (Lq rfl (pu_ia se_94 rfl rfl (by omega) (by omega)) (Lq rfl (pu_fa fa_106_1 rfl) (Lr rfl (rd_ld na_99 rfl (Rdc.elp 1 (SlH.own (xs := qs) (E := 106) (enc := postC) (sz := 3) (by repeat constructor)) hpq rfl rfl)) ?_)))
  refine La rfl (asC (cloneI_spec hat (by omega))) ?_
  rintro _ _ ⟨_, ⟨ka, kc, rfl, rfl⟩, rfl⟩
  refine Lq rfl (pu_ia se_94 rfl rfl (by omega) (by omega)) (Lq rfl (pu_fa fa_106_1 rfl) (Lac0 rfl trivial (ac_stE (enc := postC) (xs := qs) (i := i) (x0 := p) (y0 := ⟨p.k, ⟨ka, p.t.xs, kc⟩⟩) (vs := [.slice ka p.t.xs.length kc]) (fo := 2) sz_99 ek_106 rfl rfl (by repeat constructor) rfl rfl rfl hpq rfl rfl) ?_))
  rintro _ _ rfl
  refine Lnil ?_
  have hset : ((qs.set i ⟨p.k, ⟨ka, p.t.xs, kc⟩⟩).take (i + 1)).map atO = (qs.take i).map atO ++ [atO ⟨p.k, ⟨ka, p.t.xs, kc⟩⟩] := by
    rw [List.take_add_one, List.getElem?_set_self (by omega), List.take_set_of_le (Nat.le_refl _), List.map_append]; rfl
  refine Gs.takes (As := [atO ⟨p.k, ⟨ka, p.t.xs, kc⟩⟩, big ((qs.take i).map atO)]) (by repeat constructor) (Gs.bigBack take_snoc ?_)
  rw [← hset]
  have k1 : plain1 (qs.set i ⟨p.k, ⟨ka, p.t.xs, kc⟩⟩) = plain1 ps := by
    rw [← hq]
    show (qs.set i _).map PostV.p = qs.map PostV.p
    rw [List.map_set]
    refine List.ext_getElem? fun j => ?_
    by_cases hj : i = j
    · subst hj; rw [List.getElem?_set_self (by simp; omega), List.getElem?_map, hpq]; rfl
    · rw [List.getElem?_set_ne hj]
  have k2 : (qs.set i ⟨p.k, ⟨ka, p.t.xs, kc⟩⟩).drop (i + 1) = ps.drop (i + 1) := by rw [List.drop_set_of_lt (by omega), ← List.drop_drop, hd, List.drop_drop]
  refine Gs.blk_n (Gn (Gs.reg (Lq rfl (by first | exact pu_addI rfl rfl rfl (by omega) (by omega) | exact pu_add rfl rfl) ?_)))
  refine Lmv rfl rfl (Lnt ?_)
  exact Ag (i + 1, qs.set i ⟨p.k, ⟨ka, p.t.xs, kc⟩⟩) ⟨hlt, k1, k2⟩ (by show ps.length - (i + 1) < ps.length - i; omega)
 have hge : i = ps.length := by have := of_decide_eq_false hc0; omega
 rw [List.take_of_length_le (by omega)]
 refine Gs.exit (Gx (Gx (Gs.blk_hit (Gn (Gsr (Lmv rfl rfl (Las rfl rfl (Lnt (Gs.ret (Gs.takes (As := [sl 106 3 postC na nc qs, big (qs.map atO)]) (by repeat constructor) (Gs.toTwo ?_)))))))))))
 exact Gs.fin1 Tryz.results87 rfl _ (⟨na, nc, qs, by rw [hql], hq, rfl⟩) (by repeat constructor)
end Go.Proofs.YtklgiidfompdpaaGreatDoor
namespace Go.Sl
theorem ins_grown {α : Type} {xs Z : List α} {x : α} {i : Nat} (hi : i < xs.length) (hz : Z.take i = xs.take i) (hl : Z.length = xs.length + 1) :
   (Z.take i ++ [x] ++ Z.drop (i + [x].length)).take (i + 1) ++ xs.drop i ++ (Z.take i ++ [x] ++ Z.drop (i + [x].length)).drop (i + 1 + (xs.drop i).length) = xs.take i ++ [x] ++ xs.drop i := by
 have h1 : (Z.take i ++ [x]).length = i + 1 := by simp; omega
 have h2 : (Z.take i ++ [x] ++ Z.drop (i + [x].length)).length ≤ i + 1 + (xs.drop i).length := by simp; omega
 rw [List.drop_eq_nil_of_le h2, List.append_nil]
 congr 1
 rw [List.take_append_of_le_length (by omega), List.take_of_length_le (by omega), hz]
theorem ins_room {α : Type} {xs : List α} {x : α} {i : Nat} (hi : i < xs.length) :
   (xs.take (i + 1) ++ xs.drop i ++ xs.drop (i + 1 + (xs.drop i).length)).take i ++ [x] ++ (xs.take (i + 1) ++ xs.drop i ++ xs.drop (i + 1 + (xs.drop i).length)).drop (i + [x].length) = xs.take i ++ [x] ++ xs.drop i := by
 have h0 : xs.drop (i + 1 + (xs.drop i).length) = [] := List.drop_eq_nil_of_le (by simp; omega)
 have h1 : (xs.take (i + 1)).length = i + 1 := by simp; omega
 rw [h0, List.append_nil]
 congr 1
 · congr 1
   rw [List.take_append_of_le_length (by omega), List.take_take]; congr 1; omega
 · show (xs.take (i + 1) ++ xs.drop i).drop (i + 1) = _
   rw [List.drop_append_of_le_length (by omega), List.drop_eq_nil_of_le (by omega), List.nil_append]
end Go.Sl
namespace Go.Proofs.YtklgiidfompdpaaGreatDoor
open Go Go.Sl Go.Gv Go.Po
set_option maxRecDepth 100000
theorem insert_spec {a : Option Addr} {c vb i : Nat} {xs : List PostV} {x : PostV} (hi : i ≤ xs.length) (hl : xs.length ≤ 100000) :
   Ct Tryz.prog 103 [.slice a xs.length c, int i, .slice (some ⟨vb, 0, none⟩) 1 1] [sl 106 3 postC a c xs, sl 106 3 postC (some ⟨vb, 0, none⟩) 1 [x]]
     (fun v hs => ∃ a' c', v = .slice a' (xs.take i ++ [x] ++ xs.drop i).length c' ∧ hs = [sl 106 3 postC a' c' (xs.take i ++ [x] ++ xs.drop i)]) := by
 have hlen : (xs.take i ++ [x] ++ xs.drop i).length = xs.length + 1 := by simp; omega
 refine Cti Tryz.func103 (by kernel_rfl) 95 Tryz.ntmps103 rfl rfl fun w0 R => ?_
 refine Gs.slAddr (xs := xs) (SlH.own (E := 106) (enc := postC) (by repeat constructor)) fun ab ao ha => Gs.slLen (xs := xs) (by repeat constructor) fun hlc => ?_
 refine Gsr (Las rfl rfl (Lnt (Gsr (Lmv rfl rfl (Lmv rfl rfl (Lq rfl (pu_sliceL et_94 rfl rfl (by omega) (by omega)) (Lnt (Gsr (Lmv rfl rfl (Lq rfl (pu_len Tryz.underlying94 rfl) (Las rfl rfl ?_)))))))))))
 refine Lnt (Gs.seq (Gsr (Lmv rfl rfl (Lq rfl (pu_eq rfl rfl) (Lnt (Gs.cond_ff rfl (by decide) ?_))))))
 refine Gs.skip (Gn (Gsr (Lmv rfl rfl (Lq rfl (pu_len Tryz.underlying94 rfl) (Las rfl rfl (Lnt (Gs.seq (Gsr (Lmv rfl rfl (Lmv rfl rfl (Lq rfl (pu_eq rfl rfl) ?_)))))))))))
 refine Lnt (Gs.cond rfl (fun hc1 => ?_) (fun hc1 => ?_))
 ·
  have hie : i = xs.length := by have := of_decide_eq_true hc1; omega
  refine Gsr (Lmv rfl rfl (Lmv rfl rfl (La rfl (ac_append (xs := xs) (ys := [x]) et_94 ek_106 rfl rfl (by repeat constructor) (SrcH.sl (ys := [x]) Tryz.underlying94 ek_106 (SlH.own (xs := [x]) (E := 106) (c := 1) (by repeat constructor))) (by simp; omega) (by simp; omega)) ?_)))
  rintro _ _ ⟨a25, c25, rfl, rfl⟩
  refine Las rfl rfl (Lnil ?_)
  have hfin : xs ++ [x] = xs.take i ++ [x] ++ xs.drop i := by rw [hie]; simp
  rw [hfin]
  refine Gn (Gs.ret (Gr ?_))
  exact Gs.fin1 Tryz.results103 rfl _ (⟨a25, c25, rfl, rfl⟩) (by repeat constructor)
 have hil : i < xs.length := by have := of_decide_eq_false hc1; omega
 obtain rfl := ha (by rintro rfl; simp at hil)
 refine Gs.skip (Gn (Gs.seq (Gsr (Lmv rfl rfl (Lmv rfl rfl (Lq rfl (pu_addI (z := ((xs.length + 1 : Nat) : Int)) rfl rfl (by omega) (by omega) (by omega)) ?_))))))
 refine Lmv rfl rfl (Lq rfl (pu_cap Tryz.underlying94 rfl) (Lq rfl (pu_gt rfl rfl) (Lnt (Gs.cond rfl (fun hc2 => ?_) (fun hc2 => ?_)))))
 ·
  have hg : c < xs.length + 1 := by have := of_decide_eq_true hc2; omega
  have htl : (xs.take i).length = i := by rw [List.length_take]; omega
  have hsz : (xs.take i ++ List.replicate (xs.length + 1 - i) PostV.zero).length = xs.length + 1 := by simp; omega
  refine Gsr (Lmv rfl rfl (Lmv rfl rfl (Lq rfl (pu_sliceH et_94 rfl rfl (by omega) (by omega)) ?_)))
  rw [suba_zero, show (i : Int).toNat = i from rfl]
  refine Lmv rfl rfl (Lmv rfl rfl (Lq rfl (pu_addI (z := ((xs.length + 1 : Nat) : Int)) rfl rfl (by omega) (by omega) (by omega)) ?_))
  refine Lmv rfl rfl (Lq rfl (pu_subI (z := ((xs.length + 1 - i : Nat) : Int)) rfl rfl (by omega) (by omega) (by omega)) ?_)
  refine La rfl (ac_appendZ (xs := xs.take i) (z0 := PostV.zero) (k := xs.length + 1 - i) (enc := postC) et_94 (.inl zv_106) Tryz.underlying3 ek_106 rfl htl.symm rfl (SlH.pre (ys := xs.drop i) (by rw [List.take_append_drop]; exact SlH.own (by repeat constructor))) (by omega) (by decide) (by omega) (by omega) (by omega)) ?_
  rintro _ _ ⟨nb, nc, rfl, hnc, rfl⟩
  refine Las rfl rfl (Lnt (Gsr (Lmv rfl rfl (Lmv rfl rfl (Lq rfl (pu_sliceL et_94 rfl rfl (by omega) (by omega)) ?_)))))
  rw [show (i : Int).toNat = i from rfl, suba_some (by omega)]
  refine Lmv rfl rfl (La rfl (ac_cp (xs := xs.take i ++ List.replicate (xs.length + 1 - i) PostV.zero) (ys := [x]) (p := i) (enc := postC) Tryz.underlying94 sz_106 ek_106 rfl rfl rfl (by show 1 = min 1 _; omega) (by repeat constructor) (SlH.own (by repeat constructor)) (by omega) (by show i + 1 ≤ nc; omega)) ?_)
  rintro _ _ ⟨rfl, rfl⟩
  refine Lnt (Gs.seq (Gs.regD mixed (by kernel_rfl) (Rmv 0 rfl (by kernel_rfl) rfl (Rmv 1 rfl (by kernel_rfl) rfl (Rmv 2 rfl (by kernel_rfl) rfl (Rq 3 rfl (by kernel_rfl) (pu_addI (z := ((i + 1 : Nat) : Int)) rfl rfl (by omega) (by omega) (by omega)) ?_))))))
  refine Rq 4 rfl (by kernel_rfl) (pu_sliceL et_94 rfl rfl (by omega) (by omega)) ?_
  rw [show ((i + 1 : Nat) : Int).toNat = i + 1 from rfl, suba_some (by omega)]
  refine Rmv 5 rfl (by kernel_rfl) rfl (Rmv 6 rfl (by kernel_rfl) rfl (Rq 7 rfl (by kernel_rfl) (pu_sliceL et_94 rfl rfl (by omega) (by omega)) ?_))
  rw [show (i : Int).toNat = i from rfl, suba_some (by omega)]
  refine Rg.one (by kernel_rfl) (Stp.ac 8 rfl rfl (by kernel_rfl) trivial (ac_cp (xs := (xs.take i ++ List.replicate (xs.length + 1 - i) PostV.zero).take i ++ [x] ++ (xs.take i ++ List.replicate (xs.length + 1 - i) PostV.zero).drop (i + [x].length)) (ys := xs.drop i) (p := i + 1) (enc := postC) Tryz.underlying94 sz_106 ek_106 rfl rfl rfl (by rw [List.length_drop]; show _ = min _ _; omega) (by repeat constructor) (SlH.cutS (SlH.own (xs := xs) (E := 106) (c := c) (by repeat constructor)) i c (by omega) (by omega)) (by simp; omega) (by rw [List.length_drop]; omega))  ?_)
  rintro _ _ ⟨rfl, rfl⟩
  refine Rg.end (by kernel_rfl) (Gn (Gs.seq ?_))
  rw [ins_grown hil (by rw [List.take_append_of_le_length (by omega), List.take_take, Nat.min_self]) hsz]
  refine Gs.reg (Lmv rfl rfl (Las rfl rfl (Lnt (Gs.ret (Gr ?_)))))
  exact Gs.fin1 Tryz.results103 rfl _ (⟨some ⟨nb, 0, none⟩, nc, by rw [hlen]; congr 1; omega, rfl⟩) (by repeat constructor)
 have hg : xs.length + 1 ≤ c := by have := of_decide_eq_false hc2; omega
 refine Gs.skip (Gn (Gsr (Lmv rfl rfl (Lmv rfl rfl (Lmv rfl rfl (Lq rfl (pu_addI (z := ((xs.length + 1 : Nat) : Int)) rfl rfl (by omega) (by omega) (by omega)) ?_))))))
 refine Lq rfl (pu_sliceH et_94 rfl rfl (by omega) (by omega)) ?_
 rw [suba_zero, show ((xs.length + 1 : Nat) : Int).toNat = xs.length + 1 from rfl]
 refine Las rfl rfl (Lnt (Gs.seq (Gsr (Lmv rfl rfl (Lmv rfl rfl (Lmv rfl rfl (Lmv rfl rfl (Lq rfl (pu_addI (z := ((i + 1 : Nat) : Int)) rfl rfl (by omega) (by omega) (by omega)) ?_))))))))
 refine Lq rfl (pu_sliceL et_94 rfl rfl (by omega) (by omega)) ?_
 rw [show ((i + 1 : Nat) : Int).toNat = i + 1 from rfl, suba_some (by omega)]
 refine Lr rfl (rd_overlaps (R := 4) (xs := [x]) (ys := xs) Tryz.func147 (by kernel_rfl) (by kernel_rfl) (by kernel_rfl) (by kernel_rfl) Tryz.underlying94 sz_106 rfl rfl (by repeat constructor) (by repeat constructor) (by omega)) ?_
 refine Lq rfl (pu_not rfl) (Lnt (Gs.cond_tt rfl rfl (Gs.seq (Gs.regD mixed (by kernel_rfl) (Rmv 0 rfl (by kernel_rfl) rfl (Rmv 1 rfl (by kernel_rfl) rfl (Rmv 2 rfl (by kernel_rfl) rfl (Rq 3 rfl (by kernel_rfl) (pu_addI (z := ((i + 1 : Nat) : Int)) rfl rfl (by omega) (by omega) (by omega)) ?_))))))))
 refine Rq 4 rfl (by kernel_rfl) (pu_sliceL et_94 rfl rfl (by omega) (by omega)) ?_
 rw [show ((i + 1 : Nat) : Int).toNat = i + 1 from rfl, suba_some (by omega)]
 refine Rmv 5 rfl (by kernel_rfl) rfl (Rmv 6 rfl (by kernel_rfl) rfl (Rq 7 rfl (by kernel_rfl) (pu_sliceL et_94 rfl rfl (by omega) (by omega)) ?_))
 rw [show (i : Int).toNat = i from rfl, suba_some (by omega)]
 refine Rg.one (by kernel_rfl) (Stp.ac 8 rfl rfl (by kernel_rfl) trivial (ac_cp (xs := xs) (ys := xs.drop i) (p := i + 1) (enc := postC) Tryz.underlying94 sz_106 ek_106 rfl rfl rfl (by rw [List.length_drop]; show _ = min _ _; omega) (by repeat constructor) (SlH.cutS (SlH.own (xs := xs) (E := 106) (c := c) (by repeat constructor)) i c (by omega) (by omega)) (by omega) (by rw [List.length_drop]; omega))  ?_)
 rintro _ _ ⟨rfl, rfl⟩
 refine Rg.end (by kernel_rfl) (Gn (Gsr (Lmv rfl rfl (Lmv rfl rfl (Lq rfl (pu_sliceL et_94 rfl rfl (by omega) (by omega)) ?_)))))
 rw [show (i : Int).toNat = i from rfl, suba_some (by omega)]
 refine Lmv rfl rfl (La rfl (ac_cp (xs := xs.take (i + 1) ++ xs.drop i ++ xs.drop (i + 1 + (xs.drop i).length)) (ys := [x]) (p := i) (enc := postC) Tryz.underlying94 sz_106 ek_106 rfl rfl rfl (by show 1 = min 1 _; omega) (by repeat constructor) (SlH.own (by repeat constructor)) (by simp; omega) (by show i + 1 ≤ c; omega)) ?_)
 rintro _ _ ⟨rfl, rfl⟩
 refine Lnt (Gs.seq ?_)
 rw [ins_room hil]
 refine Gs.reg (Lmv rfl rfl (Las rfl rfl (Lnt (Gs.ret (Gr ?_)))))
 exact Gs.fin1 Tryz.results103 rfl _ (⟨some ⟨ab, ao, none⟩, c, by rw [hlen], rfl⟩) (by repeat constructor)
end Go.Proofs.YtklgiidfompdpaaGreatDoor
namespace Go.Po
open Go Go.Sl Go.Gv
def putP (L : List PostP) (x : PostP) : List PostP :=
 if mayB L then (if risesB x.2 then L.filter (fun y => before y.1 x.1) ++ [x] ++ L.filter (fun y => before x.1 y.1) else L) else []
def dropP (L : List PostP) (k : Key) : List PostP := if mayB L then L.filter (fun y => decide (y.1 ≠ k)) else []
theorem filter_cut {L : List PostP} {f : PostP → Bool} {i : Nat} (h1 : ∀ x ∈ L.take i, f x = true) (h2 : ∀ x ∈ L.drop i, f x = false) : L.filter f = L.take i := by
 have e : L.filter f = (L.take i).filter f ++ (L.drop i).filter f := by rw [← List.filter_append, List.take_append_drop]
 rw [e, List.filter_eq_self.2 h1, List.filter_eq_nil_iff.2 (fun x hx => by rw [h2 x hx]; decide), List.append_nil]
theorem filter_cut2 {L : List PostP} {f : PostP → Bool} {i : Nat} (h1 : ∀ x ∈ L.take i, f x = false) (h2 : ∀ x ∈ L.drop i, f x = true) : L.filter f = L.drop i := by
 have e : L.filter f = (L.take i).filter f ++ (L.drop i).filter f := by rw [← List.filter_append, List.take_append_drop]
 rw [e, List.filter_eq_self.2 h2, List.filter_eq_nil_iff.2 (fun x hx => by rw [h1 x hx]; decide), List.nil_append]
theorem mem_take_at {α : Type} {L : List α} {i : Nat} {x : α} (h : x ∈ L.take i) : ∃ m, m < i ∧ L[m]? = some x := by
 obtain ⟨m, hm⟩ := List.mem_iff_getElem?.1 h
 rw [List.getElem?_take] at hm
 split at hm
 · exact ⟨m, by assumption, hm⟩
 · cases hm
theorem mem_drop_at {α : Type} {L : List α} {i : Nat} {x : α} (h : x ∈ L.drop i) : ∃ m, i ≤ m ∧ L[m]? = some x := by
 obtain ⟨m, hm⟩ := List.mem_iff_getElem?.1 h
 rw [List.getElem?_drop] at hm
 exact ⟨i + m, by omega, hm⟩
end Go.Po
namespace Go.Proofs.YtklgiidfompdpaaGreatDoor
open Go Go.Sl Go.Gv Go.Po
set_option maxRecDepth 100000
theorem put_new {qs : List PostV} {k : Key} {i : Nat} (h : cutI qs k i) (hno : ∀ x, qs[i]? = some x → x.k ≠ k) (ha : ((qs.map PostV.p).map Prod.fst).Pairwise (fun a b => before a b = true)) (hm : mayB (plain1 qs) = true) {x : PostV} (hx : x.k = k) (hr : risesB x.t.xs = true) :
   plain1 (qs.take i ++ [x] ++ qs.drop i) = putP (plain1 qs) x.p := by
 obtain ⟨hi, hlo, hhi⟩ := h
 have e1 : (plain1 qs).filter (fun y => before y.1 x.k) = (plain1 qs).take i := filter_cut
   (fun y hy => by
     obtain ⟨m, hm, hy⟩ := mem_take_at hy
     rw [List.getElem?_map] at hy
     obtain ⟨z, hz, rfl⟩ := Option.map_eq_some_iff.1 hy
     have := hlo m z hm hz; rw [hx]; exact this)
   (fun y hy => by
     obtain ⟨m, hm, hy⟩ := mem_drop_at hy
     rw [List.getElem?_map] at hy
     obtain ⟨z, hz, rfl⟩ := Option.map_eq_some_iff.1 hy
     have := hhi m z hm hz; rw [hx]; exact this)
 have e2 : (plain1 qs).filter (fun y => before x.k y.1) = (plain1 qs).drop i := filter_cut2
   (fun y hy => by
     obtain ⟨m, hm, hy⟩ := mem_take_at hy
     rw [List.getElem?_map] at hy
     obtain ⟨z, hz, rfl⟩ := Option.map_eq_some_iff.1 hy
     have := hlo m z hm hz; rw [hx]; exact before_asymm this)
   (fun y hy => by
     obtain ⟨m, hm, hy⟩ := mem_drop_at hy
     rw [List.getElem?_map] at hy
     obtain ⟨z, hz, rfl⟩ := Option.map_eq_some_iff.1 hy
     have h1 := hhi m z hm hz
     have hne : z.k ≠ k := by
       rcases Nat.lt_or_eq_of_le hm with hlt | heq
       · intro e
         obtain ⟨u, hu⟩ : ∃ u, qs[i]? = some u := ⟨qs[i]'(by have := (List.getElem?_eq_some_iff.1 hz).1; omega), by simp⟩
         have h2 := asc_lt ha hlt hu hz
         have h3 := hhi i u (Nat.le_refl _) hu
         have h4 : before u.k z.k = true := h2
         rw [e] at h4; rw [h4] at h3; cases h3
       · exact hno z (heq ▸ hz)
     rw [hx]
     show before k z.k = true
     rcases before_total hne with h | h
     · have h5 : before z.k k = true := h
       rw [h5] at h1; cases h1
     · exact h)
 unfold putP
 rw [if_pos hm, if_pos (show risesB x.p.2 = true from hr)]
 show _ = (plain1 qs).filter (fun y => before y.1 x.k) ++ [x.p] ++ (plain1 qs).filter (fun y => before x.k y.1)
 rw [e1, e2]; simp [plain1, List.map_take, List.map_drop]
theorem put_old {qs : List PostV} {k : Key} {i : Nat} (h : cutI qs k i) {y : PostV} (hy : qs[i]? = some y) (hyk : y.k = k) (ha : ((qs.map PostV.p).map Prod.fst).Pairwise (fun a b => before a b = true)) (hm : mayB (plain1 qs) = true) {x : PostV} (hx : x.k = k) (hr : risesB x.t.xs = true) :
   plain1 (qs.set i x) = putP (plain1 qs) x.p := by
 obtain ⟨hi, hlo, hhi⟩ := h
 have hlt := (List.getElem?_eq_some_iff.1 hy).1
 have e1 : (plain1 qs).filter (fun y => before y.1 x.k) = (plain1 qs).take i := filter_cut
   (fun y hy => by
     obtain ⟨m, hm, hy⟩ := mem_take_at hy
     rw [List.getElem?_map] at hy
     obtain ⟨z, hz, rfl⟩ := Option.map_eq_some_iff.1 hy
     have := hlo m z hm hz; rw [hx]; exact this)
   (fun y hy => by
     obtain ⟨m, hm, hy⟩ := mem_drop_at hy
     rw [List.getElem?_map] at hy
     obtain ⟨z, hz, rfl⟩ := Option.map_eq_some_iff.1 hy
     have := hhi m z hm hz; rw [hx]; exact this)
 have e2 : (plain1 qs).filter (fun y => before x.k y.1) = (plain1 qs).drop (i + 1) := filter_cut2
   (fun u hu => by
     obtain ⟨m, hm, hu⟩ := mem_take_at hu
     rw [List.getElem?_map] at hu
     obtain ⟨z, hz, rfl⟩ := Option.map_eq_some_iff.1 hu
     rw [hx]
     show before k z.k = false
     rcases Nat.lt_or_eq_of_le (Nat.lt_succ_iff.1 hm) with h | h
     · exact before_asymm (hlo m z h hz)
     · subst h; rw [hy] at hz; cases hz; rw [hyk]; exact before_irr)
   (fun u hu => by
     obtain ⟨m, hm, hu⟩ := mem_drop_at hu
     rw [List.getElem?_map] at hu
     obtain ⟨z, hz, rfl⟩ := Option.map_eq_some_iff.1 hu
     have h2 := asc_lt ha (show i < m by omega) hy hz
     rw [hx]
     have h3 : before y.k z.k = true := h2
     rw [hyk] at h3; exact h3)
 unfold putP
 rw [if_pos hm, if_pos (show risesB x.p.2 = true from hr)]
 show _ = (plain1 qs).filter (fun y => before y.1 x.k) ++ [x.p] ++ (plain1 qs).filter (fun y => before x.k y.1)
 rw [e1, e2, List.set_eq_take_append_cons_drop, if_pos hlt]
 simp [plain1, List.map_take, List.map_drop]
theorem pput_spec {S : HProp} {a : Option Addr} {c : Nat} {ps : List PostV} {p : PostV} (hS : PRd S a ps) (hl : ps.length ≤ 1000) (hU : Srd S 1 intC p.t.a p.t.xs) (hul : p.t.xs.length ≤ 1000) :
   Ct Tryz.prog 52 [.slice a ps.length c, postV p] [S] (fun v hs => ∃ a' c' qs, v = .slice a' qs.length c' ∧ plain1 qs = putP (plain1 ps) p.p ∧ hs = [S, plO a' c' qs]) := by
 refine Cti Tryz.func52 (by kernel_rfl) 40 Tryz.ntmps52 rfl rfl fun w0 R => ?_
 refine Gsr (La rfl (ac_box rfl rfl) ?_)
 rintro _ _ ⟨b3, rfl, rfl⟩
 refine Las rfl rfl (Lnt (Gs.seq (Gsr (Lmv rfl rfl (La rfl (asC (may_spec hS hl)) ?_)))))
 rintro _ _ ⟨_, ⟨rfl, rfl⟩, rfl⟩
 refine Lq rfl (pu_not rfl) (Lnt (Gs.cond rfl (fun hc0 => ?_) (fun hc0 => ?_)))
 ·
  have hno := not_t hc0
  refine Gsr (Las rfl rfl (Lnt (Gs.ret (Gr (Gs.bigNil (Gs.slNil 106 3 postC (Gs.toTwo ?_)))))))
  exact Gs.fin1 Tryz.results52 rfl _ (⟨none, 0, [], rfl, by rw [putP, hno]; rfl, rfl⟩) (by repeat constructor)
 have hmay := not_f hc0
 refine Gs.skip (Gn (Gsr (Lmv rfl rfl (La rfl (asC (own_spec hS hl)) ?_))))
 rintro _ _ ⟨_, ⟨na, nc, qs, rfl, hqs, rfl⟩, rfl⟩
 refine Las rfl rfl (Lnil ?_)
 have hql : qs.length = ps.length := by have := congrArg List.length hqs; simpa using this
 have hmq : mayB (plain1 qs) = true := by rw [hqs]; exact hmay
 have hasc := may_asc hmq
 refine Gn (Gs.seq (Gsr (Lq rfl (pu_fa fa_106_1 rfl) (Lr rfl (rd_ld na_99 rfl (Rdc.cl1 (by repeat constructor) rfl)) ?_))))
 refine La rfl (asC (rises_spec hU hul)) ?_
 rintro _ _ ⟨_, ⟨rfl, rfl⟩, rfl⟩
 refine Lq rfl (pu_not rfl) (Lnt (Gs.cond rfl (fun hc1 => ?_) (fun hc1 => ?_)))
 ·
  have hnr : risesB p.p.2 = false := not_t hc1
  refine Gsr (Lmv rfl rfl (Las rfl rfl (Lnt (Gs.ret (Gr ?_)))))
  exact Gs.fin1 Tryz.results52 rfl _ (⟨na, nc, qs, rfl, by rw [putP, hmay, hnr, hqs]; rfl, rfl⟩) (by repeat constructor)
 have hri : risesB p.t.xs = true := not_f hc1
 refine Gs.skip (Gn (Gsr (Lq rfl (pu_fa fa_106_1 rfl) (Lr rfl (rd_ld na_99 rfl (Rdc.cl1 (by repeat constructor) rfl)) ?_))))
 refine La rfl (asC (cloneI_spec hU (by omega))) ?_
 rintro _ _ ⟨_, ⟨ka, kc, rfl, rfl⟩, rfl⟩
 refine Lq rfl (pu_fa fa_106_1 rfl) (Lac0 rfl trivial (ac_st sz_99 rfl rfl (by repeat constructor) rfl rfl rfl rfl) ?_)
 rintro _ _ rfl
 refine Lnt (Gsr (Lmv rfl rfl (Lq rfl (pu_fa fa_106_0 rfl) (Lr rfl (rd_lda ag_28 rfl (Rdc.cl 2 (by repeat constructor) rfl) rfl) ?_))))
 refine La rfl (asC (bsf_spec (S := plO na nc qs) (Srd.two1 Srd.own) (by omega) hasc p.k)) ?_
 rintro _ _ ⟨_, ⟨⟨i, rfl, hcut⟩, rfl⟩, rfl⟩
 refine Lmv rfl rfl (Lq rfl (pu_extract rfl rfl) (Lq rfl (pu_extract rfl rfl) (Las rfl rfl (Las rfl rfl (Lnt (Gs.seq (Gsr (Lmv rfl rfl (Lnt (Gs.cond rfl (fun hc2 => ?_) (fun hc2 => ?_)))))))))))
 ·
  obtain ⟨y, hy, hyk⟩ := Option.map_eq_some_iff.1 (of_decide_eq_true hc2)
  have hlt := (List.getElem?_eq_some_iff.1 hy).1
  have hpl := put_old hcut hy hyk hasc hmq (x := ⟨p.k, ⟨ka, p.t.xs, kc⟩⟩) rfl hri
  refine Gs.take (A := plO na nc qs) (by repeat constructor) (Gs.two ?_)
  refine Gs.slAddr (xs := qs) (SlH.own (E := 106) (enc := postC) (by repeat constructor)) fun ab ao ha => ?_
  obtain rfl := ha (by rintro rfl; simp at hy)
  refine Gsr (Lmv rfl rfl (Lmv rfl rfl (Lr rfl (rd_lda ag_106 rfl (Rdc.cl 3 (by repeat constructor) rfl) rfl) ?_)))
  refine Lq rfl (pu_ia se_94 rfl rfl (by omega) (by omega)) (Lac0 rfl trivial (ac_stE (enc := postC) (xs := qs) (i := i) (x0 := y) (y0 := ⟨p.k, ⟨ka, p.t.xs, kc⟩⟩) (vs := postC ⟨p.k, ⟨ka, p.t.xs, kc⟩⟩) (fo := 0) sz_106 ek_106 rfl rfl (by repeat constructor) rfl rfl rfl hy rfl rfl) ?_)
  rintro _ _ rfl
  refine Lnil (Gs.takes (As := [big (qs.map atO)]) (by repeat constructor) (Gs.bigTake (take_at (A := atO y) (i := i) (by simp [hy])) (Gs.drop ?_)))
  refine Gs.takes (As := [atO ⟨p.k, ⟨ka, p.t.xs, kc⟩⟩, big ((qs.map atO).eraseIdx i)]) (by repeat constructor) (Gs.bigBack (take_set (by simpa using hlt)) ?_)
  rw [← List.map_set]
  refine Gn (Gsr (Lmv rfl rfl (Las rfl rfl (Lnt (Gs.ret (Gr (Gs.takes (As := [sl 106 3 postC (some ⟨ab, ao, none⟩) nc (qs.set i ⟨p.k, ⟨ka, p.t.xs, kc⟩⟩), big ((qs.set i ⟨p.k, ⟨ka, p.t.xs, kc⟩⟩).map atO)]) (by repeat constructor) (Gs.toTwo ?_))))))))
  exact Gs.fin1 Tryz.results52 rfl _ (⟨some ⟨ab, ao, none⟩, nc, qs.set i ⟨p.k, ⟨ka, p.t.xs, kc⟩⟩, by rw [List.length_set], by rw [hpl, hqs]; rfl, rfl⟩) (by repeat constructor)
 have hpl := put_new hcut (fun x hx e => (of_decide_eq_false hc2) (by rw [hx]; exact congrArg some e)) hasc hmq (x := ⟨p.k, ⟨ka, p.t.xs, kc⟩⟩) rfl hri
 refine Gs.take (A := plO na nc qs) (by repeat constructor) (Gs.two ?_)
 refine Gs.skip (Gn (Gsr (Lmv rfl rfl (Lmv rfl rfl (Lr rfl (rd_lda ag_106 rfl (Rdc.cl 3 (by repeat constructor) rfl) rfl) ?_)))))
 refine La rfl (ac_lit encC_106 ([(⟨p.k, ⟨ka, p.t.xs, kc⟩⟩ : PostV)]) et_94 ek_106 rfl (by repeat constructor) rfl rfl (by decide)) ?_
 rintro _ _ ⟨a38, rfl, rfl⟩
 refine La rfl (asC (insert_spec (xs := qs) (x := ⟨p.k, ⟨ka, p.t.xs, kc⟩⟩) hcut.1 (by omega))) ?_
 rintro _ _ ⟨_, ⟨ia, ic, rfl, rfl⟩, rfl⟩
 refine Las rfl rfl (Lnil ?_)
 have hm2 : (qs.take i ++ [(⟨p.k, ⟨ka, p.t.xs, kc⟩⟩ : PostV)] ++ qs.drop i).map atO = (qs.take i).map atO ++ atO ⟨p.k, ⟨ka, p.t.xs, kc⟩⟩ :: (qs.drop i).map atO := by simp
 have hm3 : qs.map atO = (qs.take i).map atO ++ (qs.drop i).map atO := by rw [← List.map_append, List.take_append_drop]
 refine Gs.takes (As := [atO ⟨p.k, ⟨ka, p.t.xs, kc⟩⟩, big (qs.map atO)]) (by repeat constructor) ?_
 rw [hm3]
 refine Gs.bigBack take_mid ?_
 rw [← hm2]
 refine Gn (Gs.ret (Gs.takes (As := [sl 106 3 postC ia ic (qs.take i ++ [(⟨p.k, ⟨ka, p.t.xs, kc⟩⟩ : PostV)] ++ qs.drop i), big ((qs.take i ++ [(⟨p.k, ⟨ka, p.t.xs, kc⟩⟩ : PostV)] ++ qs.drop i).map atO)]) (by repeat constructor) (Gs.toTwo ?_)))
 exact Gs.fin1 Tryz.results52 rfl _ (⟨ia, ic, _, rfl, by rw [hpl, hqs]; rfl, rfl⟩) (by repeat constructor)
end Go.Proofs.YtklgiidfompdpaaGreatDoor
namespace Go.Proofs.YtklgiidfompdpaaGreatDoor
open Go Go.Sl Go.Gv Go.Po
set_option maxRecDepth 100000
theorem indexP_spec {F : HProp} {g : FuncId} {c1 : Value} {q : PostV → Bool} {a : Option Addr} {c : Nat} {xs : List PostV} (hg : ∀ p, Ct Tryz.prog g ([] ++ [postV p] ++ [c1]) [F] (fun v hs => v = .bool (q p) ∧ hs = [F])) (hl : xs.length ≤ 100000) :
   Ct Tryz.prog 139 [.slice a xs.length c, .func (.func g) #[] #[c1]] [sl 106 3 postC a c xs, F] (fun v hs => (∃ z : Int, v = int z ∧ ((z = -1 ∧ ∀ x ∈ xs, q x = false) ∨ (∃ i : Nat, z = i ∧ (∃ x, xs[i]? = some x ∧ q x = true) ∧ ∀ x ∈ xs.take i, q x = false))) ∧ hs = [sl 106 3 postC a c xs, F]) := by
 refine Cti Tryz.func139 (by kernel_rfl) 19 Tryz.ntmps139 rfl rfl fun w0 R => ?_
 refine Gs.slAddr (SlH.own (by repeat constructor)) fun ab ao ha => ?_
 refine Gsr (Las rfl rfl (Lnt (Gs.seq (Gsr (Lmv rfl rfl (Lq rfl (pu_len Tryz.underlying94 rfl) (Lmv rfl rfl (Lnt (Gs.block (Gs.loop1 (fun i : Nat => i ≤ xs.length ∧ ∀ x ∈ xs.take i, q x = false) (fun i => [(0, .slice a xs.length c), (1, .func (.func g) #[] #[c1]), (7, int xs.length), (8, int i)]) (fun i => [sl 106 3 postC a c xs, F] ++ R) (fun i => xs.length - i) 0 (⟨Nat.zero_le _, fun x hx => by simp at hx⟩) (by repeat constructor) (by repeat constructor) (fun i ⟨hi, hq⟩ => ?_)))))))))))
 refine Gsr (Lq rfl (pu_lt rfl rfl) (Lnt (Gs.seq (Gs.cond rfl (fun hc0 => ?_) (fun hc0 => ?_)))))
 ·
  have hlt : i < xs.length := by have := of_decide_eq_true hc0; omega
  obtain ⟨x, hx⟩ : ∃ x, xs[i]? = some x := ⟨xs[i], by simp [hlt]⟩
  obtain rfl := ha (by rintro rfl; simp at hlt)
  refine Gs.skip (Gn (Gs.seq (Gs.block (Gsr (Lmv rfl rfl (Las rfl rfl (Lnt (Gsr (Lmv rfl rfl (Lmv rfl rfl (Lmv rfl rfl ?_)))))))))))
  refine Lq rfl (pu_ia se_94 rfl rfl (by omega) (by omega)) (Lr rfl (rd_lda ag_106 rfl (Rdc.el0 (SlH.own (by repeat constructor)) hx rfl rfl) rfl) ?_)
  refine La rfl (as_callV rfl (hg x) (by repeat constructor) (by repeat constructor)) ?_
  rintro _ _ ⟨_, ⟨rfl, rfl⟩, rfl⟩
  refine Lnt (Gs.cond rfl (fun hc1 => ?_) (fun hc1 => ?_))
  ·
   refine Gsr (Lmv rfl rfl (Las rfl rfl (Lnt (Gs.ret (Gs.blk_r (Gr (Gr (Gs.blk_r (Gr ?_)))))))))
   exact Gs.fin1 Tryz.results139 rfl _ (⟨⟨_, rfl, .inr ⟨i, rfl, ⟨x, hx, hc1⟩, hq⟩⟩, rfl⟩) (by repeat constructor)
  refine Gs.skip (Gs.blk_n (Gn (Gs.reg (Lq rfl (by first | exact pu_addI rfl rfl rfl (by omega) (by omega) | exact pu_add rfl rfl) ?_))))
  refine Lmv rfl rfl (Lnt ?_)
  exact Ag (i + 1) ⟨hlt, fun y hy => by rw [List.take_add_one, hx] at hy; rcases List.mem_append.1 hy with hy | hy; exact hq y hy; simp at hy; subst hy; exact hc1⟩ (by show xs.length - (i + 1) < xs.length - i; omega)
 have hge : i = xs.length := by have := of_decide_eq_false hc0; omega
 rw [hge, List.take_length] at hq
 refine Gs.exit (Gx (Gx (Gs.blk_hit (Gn (Gsr (Las rfl rfl (Lnt (Gs.ret ?_))))))))
 exact Gs.fin1 Tryz.results139 rfl _ (⟨⟨_, rfl, .inl ⟨rfl, hq⟩⟩, rfl⟩) (by repeat constructor)
theorem del_keep {α : Type} {ys : List α} {m : Nat} {x : α} (h : m < ys.length) : (ys.set m x).take (m + 1) = ys.take m ++ [x] := by
 rw [List.take_add_one, List.getElem?_set_self h, List.take_set_of_le (Nat.le_refl _)]; rfl
theorem deleteP_spec {F : HProp} {g : FuncId} {c1 : Value} {q : PostV → Bool} {a : Option Addr} {c : Nat} {xs : List PostV} (hg : ∀ p, Ct Tryz.prog g ([] ++ [postV p] ++ [c1]) [F] (fun v hs => v = .bool (q p) ∧ hs = [F])) (hl : xs.length ≤ 100000) :
   Ct Tryz.prog 88 [.slice a xs.length c, .func (.func g) #[] #[c1]] [sl 106 3 postC a c xs, F]
     (fun v hs => v = .slice a (xs.filter fun x => !q x).length c ∧ hs = [sl 106 3 postC a c (xs.filter fun x => !q x), F]) := by
 refine Cti Tryz.func88 (by kernel_rfl) 42 Tryz.ntmps88 rfl rfl fun w0 R => ?_
 refine Gs.slAddr (SlH.own (by repeat constructor)) fun ab ao ha => Gs.slLen (by repeat constructor) fun hlc => ?_
 refine Gsr (Las rfl rfl (Lnt (Gsr (Lmv rfl rfl (Lmv rfl rfl (La rfl (asC (indexP_spec (q := q) hg hl)) ?_))))))
 rintro _ _ ⟨_, ⟨⟨z, rfl, hz⟩, rfl⟩, rfl⟩
 refine Las rfl rfl (Lnt (Gs.seq (Gsr (Lmv rfl rfl (Lq rfl (pu_eq rfl rfl) (Lnt (Gs.cond rfl (fun hc0 => ?_) (fun hc0 => ?_))))))))
 ·
  have hall : xs.filter (fun x => !q x) = xs := List.filter_eq_self.2 fun x hx => by rcases hz with ⟨-, h⟩ | ⟨i, rfl, -⟩ <;> first | (rw [h x hx]; rfl) | (have := of_decide_eq_true hc0; omega)
  refine Gsr (Lmv rfl rfl (Las rfl rfl (Lnt (Gs.ret (Gr ?_)))))
  exact Gs.fin1 Tryz.results88 rfl _ (⟨by rw [hall], by rw [hall]⟩) (by repeat constructor)
 obtain ⟨i0, rfl, ⟨x0, hx0, hq0⟩, hz2⟩ : ∃ i : Nat, z = i ∧ (∃ x, xs[i]? = some x ∧ q x = true) ∧ ∀ x ∈ xs.take i, q x = false := by rcases hz with ⟨h, -⟩ | h <;> first | exact h | (exact absurd h (of_decide_eq_false hc0))
 have hi0 : i0 < xs.length := (List.getElem?_eq_some_iff.1 hx0).1
 obtain rfl := ha (by rintro rfl; simp at hi0)
 have hst : xs.take i0 = (xs.take (i0 + 1)).filter (fun x => !q x) := by rw [List.take_add_one, hx0, List.filter_append, List.filter_eq_self.2 (fun x hx => by rw [hz2 x hx]; rfl)]; simp [hq0]
 refine Gs.skip (Gn (Gs.seq (Gsr (Lmv rfl rfl (Lq rfl (by first | exact pu_addI rfl rfl rfl (by omega) (by omega) | exact pu_add rfl rfl) ?_)))))
 refine Las rfl rfl (Lnt (Gs.block (Gs.loop1 (fun s : Nat × Nat × List PostV => s.1 ≤ xs.length ∧ s.2.1 ≤ s.1 ∧ s.2.2.length = xs.length ∧ s.2.2.take s.2.1 = (xs.take s.1).filter (fun x => !q x) ∧ s.2.2.drop s.1 = xs.drop s.1) (fun s => [(0, .slice (some ⟨ab, ao, none⟩) xs.length c), (1, .func (.func g) #[] #[c1]), (5, int s.2.1), (6, int s.1)]) (fun s => [sl 106 3 postC (some ⟨ab, ao, none⟩) c s.2.2, F] ++ R) (fun s => xs.length - s.1) (i0 + 1, i0, xs) (⟨hi0, Nat.le_succ _, rfl, hst, rfl⟩) (by repeat constructor) (by repeat constructor) (fun s hs => ?_))))
 obtain ⟨j, m, ys⟩ := s
 obtain ⟨hj, hm, hyl, hyt, hyd⟩ := hs
 dsimp only at hj hm hyl hyt hyd ⊢
 refine Gs.seq (Gsr (Lmv rfl rfl (Lmv rfl rfl (Lq rfl (pu_len Tryz.underlying94 rfl) (Lq rfl (pu_lt rfl rfl) (Lnt (Gs.cond rfl (fun hc1 => ?_) (fun hc1 => ?_))))))))
 ·
  have hlt : j < xs.length := by have := of_decide_eq_true hc1; omega
  obtain ⟨x, hx⟩ : ∃ x, xs[j]? = some x := ⟨xs[j], by simp [hlt]⟩
  have hxy : ys[j]? = some x := by have := congrArg (·[0]?) hyd; simp only [List.getElem?_drop, Nat.add_zero] at this; rw [this]; exact hx
  refine Gs.skip (Gn (Gs.seq (Gs.block (Gsr (Lmv rfl rfl (Lmv rfl rfl (Lq rfl (pu_ia se_94 rfl rfl (by omega) (by omega)) (Lr rfl (rd_lda ag_106 rfl (Rdc.el0 (SlH.own (by repeat constructor)) hxy rfl rfl) rfl) ?_))))))))
  refine La rfl (ac_alloc zv_106 rfl) ?_
  rintro _ _ ⟨xb, rfl, rfl⟩
  refine Lac0 rfl trivial (ac_st sz_106 rfl rfl (by repeat constructor) rfl rfl rfl rfl) ?_
  rintro _ _ rfl
  refine Lnt (Gsr (Lmv rfl rfl (Lr rfl (rd_lda ag_106 rfl (Rdc.cl 3 (by repeat constructor) rfl) rfl) ?_)))
  refine La rfl (as_callV rfl (hg x) (by repeat constructor) (by repeat constructor)) ?_
  rintro _ _ ⟨_, ⟨rfl, rfl⟩, rfl⟩
  refine Lq rfl (pu_not rfl) (Lnt (Gs.cond rfl (fun hc2 => ?_) (fun hc2 => ?_)))
  ·
   have hX : q x = false := by simpa using hc2
   have k1 : (ys.set m x).length = xs.length := by rw [List.length_set]; exact hyl
   have k2 : (ys.set m x).take (m + 1) = (xs.take (j + 1)).filter (fun x => !q x) := by rw [del_keep (by omega), hyt, List.take_add_one, hx, List.filter_append]; simp [hX]
   have k3 : (ys.set m x).drop (j + 1) = xs.drop (j + 1) := by rw [List.drop_set_of_lt (by omega), ← List.drop_drop, hyd, List.drop_drop]
   refine Gsr (Lmv rfl rfl (Lmv rfl rfl (Lr rfl (rd_lda ag_106 rfl (Rdc.cl 3 (by repeat constructor) rfl) rfl) ?_)))
   refine Lq rfl (pu_ia se_94 rfl rfl (by omega) (by omega)) (Lac0 rfl trivial (ac_stE (enc := postC) (xs := ys) (i := m) (x0 := ys[m]'(by omega)) (y0 := x) (vs := postC x) (fo := 0) sz_106 ek_106 rfl rfl (by repeat constructor) rfl rfl rfl (by simp) rfl rfl) ?_)
   rintro _ _ rfl
   refine Lnt (Gs.reg (Lmv rfl rfl (Lq rfl (by first | exact pu_addI rfl rfl rfl (by omega) (by omega) | exact pu_add rfl rfl) ?_)))
   refine Las rfl rfl (Lnil (Gs.blk_n (Gn (Gs.reg (Lmv rfl rfl (Lq rfl (by first | exact pu_addI rfl rfl rfl (by omega) (by omega) | exact pu_add rfl rfl) ?_))))))
   refine Las rfl rfl (Lnt ?_)
   first | exact Ag (j + 1, m + 1, ys.set m x) ⟨by show j + 1 ≤ xs.length; omega, by show m + 1 ≤ j + 1; omega, k1, k2, k3⟩ (by show xs.length - (j + 1) < xs.length - j; omega) | exact Ag (j + 1, m, ys) ⟨by show j + 1 ≤ xs.length; omega, by show m ≤ j + 1; omega, hyl, k2, k3⟩ (by show xs.length - (j + 1) < xs.length - j; omega)
  have hX : q x = true := by simpa using hc2
  have k2 : ys.take m = (xs.take (j + 1)).filter (fun x => !q x) := by rw [hyt, List.take_add_one, hx, List.filter_append]; simp [hX]
  have k3 : ys.drop (j + 1) = xs.drop (j + 1) := by rw [← List.drop_drop, hyd, List.drop_drop]
  refine Gs.skip (Gs.blk_n (Gn (Gs.reg (Lmv rfl rfl (Lq rfl (by first | exact pu_addI rfl rfl rfl (by omega) (by omega) | exact pu_add rfl rfl) ?_)))))
  refine Las rfl rfl (Lnt ?_)
  first | exact Ag (j + 1, m + 1, ys.set m x) ⟨by show j + 1 ≤ xs.length; omega, by show m + 1 ≤ j + 1; omega, k1, k2, k3⟩ (by show xs.length - (j + 1) < xs.length - j; omega) | exact Ag (j + 1, m, ys) ⟨by show j + 1 ≤ xs.length; omega, by show m ≤ j + 1; omega, hyl, k2, k3⟩ (by show xs.length - (j + 1) < xs.length - j; omega)
 have hge : j = xs.length := by have := of_decide_eq_false hc1; omega
 rw [hge, List.take_length] at hyt
 have hml : (ys.take m).length = m := by rw [List.length_take]; omega
 have hdl : (ys.drop m).length = xs.length - m := by rw [List.length_drop]; omega
 refine Gs.exit (Gx (Gx (Gs.blk_hit (Gn (Gsr (Lmv rfl rfl (Lmv rfl rfl (Lq rfl (pu_sliceL et_94 rfl rfl (by omega) (by omega)) (Lac0 rfl trivial (ac_clear (enc := postC) (xs := ys.take m) (zs := ys.drop m) Tryz.underlying94 zv_106 rfl rfl rfl (by decide) (by rw [hml]; rfl) hdl.symm ek_106 (by rw [List.take_append_drop]; repeat constructor)) ?_)))))))))
 rintro _ _ rfl
 refine Lnt (Gsr (Lmv rfl rfl (Lmv rfl rfl (Lq rfl (pu_sliceH et_94 rfl rfl (by omega) (by omega)) (Las rfl rfl (Lnil ?_))))))
 rw [show suba (some ⟨ab, ao, none⟩) 0 c 3 = some ⟨ab, ao, none⟩ from suba_0, hyt]
 refine Gn (Gs.ret ?_)
 exact Gs.fin1 Tryz.results88 rfl _ (⟨by rw [← hyt, hml]; rfl, rfl⟩) (by repeat constructor)
theorem drop1_spec (k : Key) (kb : Nat) (p : PostV) : Ct Tryz.prog 90 ([] ++ [postV p] ++ [ptr kb]) [cl kb 28 (keyC k)] (fun v hs => v = .bool (decide (p.k = k)) ∧ hs = [cl kb 28 (keyC k)]) := by
 refine Cti Tryz.func90 (by kernel_rfl) 8 Tryz.ntmps90 rfl rfl fun w0 R => ?_
 refine Gsr (La rfl (ac_box rfl rfl) ?_)
 rintro _ _ ⟨pb, rfl, rfl⟩
 refine Las rfl rfl (Lnt (Gsr (Lq rfl (pu_fa fa_106_0 rfl) (Lr rfl (rd_lda ag_28 rfl (Rdc.cl 2 (by repeat constructor) rfl) rfl) ?_))))
 refine Lr rfl (rd_lda ag_28 rfl (Rdc.cl 2 (by repeat constructor) rfl) rfl) ?_
 refine Lq rfl (pu_eqT (a := p.k) (b := k) cmp_28 (by decide) Tryz.eqGuardType28 rfl rfl) ?_
 refine Las rfl rfl (Lnt (Gs.ret ?_))
 exact Gs.fin1 Tryz.results90 rfl _ (⟨rfl, rfl⟩) (by repeat constructor)
theorem pdrop_spec {S : HProp} {a : Option Addr} {c : Nat} {ps : List PostV} (hS : PRd S a ps) (hl : ps.length ≤ 1000) (k : Key) :
   Ct Tryz.prog 47 [.slice a ps.length c, keyV k] [S] (fun v hs => ∃ a' c' qs, v = .slice a' qs.length c' ∧ plain1 qs = dropP (plain1 ps) k ∧ hs = [S, plO a' c' qs]) := by
 refine Cti Tryz.func47 (by kernel_rfl) 13 Tryz.ntmps47 rfl rfl fun w0 R => ?_
 refine Gsr (La rfl (ac_box rfl rfl) ?_)
 rintro _ _ ⟨kb, rfl, rfl⟩
 refine Las rfl rfl (Lnt (Gs.seq (Gsr (Lmv rfl rfl (La rfl (asC (may_spec hS hl)) ?_)))))
 rintro _ _ ⟨_, ⟨rfl, rfl⟩, rfl⟩
 refine Lq rfl (pu_not rfl) (Lnt (Gs.cond rfl (fun hc0 => ?_) (fun hc0 => ?_)))
 ·
  have hno := not_t hc0
  refine Gsr (Las rfl rfl (Lnt (Gs.ret (Gr (Gs.bigNil (Gs.slNil 106 3 postC (Gs.toTwo ?_)))))))
  exact Gs.fin1 Tryz.results47 rfl _ (⟨none, 0, [], rfl, by rw [dropP, hno]; rfl, rfl⟩) (by repeat constructor)
 have hmay := not_f hc0
 refine Gs.skip (Gn (Gsr (Lmv rfl rfl (La rfl (asC (cloneP_spec hS.1 (by omega))) ?_))))
 rintro _ _ ⟨_, ⟨na, nc, rfl, rfl⟩, rfl⟩
 refine Lq rfl (pu_func (by repeat constructor) (by repeat constructor)) ?_
 refine La rfl (asC (deleteP_spec (F := cl kb 28 (keyC k)) (q := fun p => decide (p.k = k)) (xs := ps) (fun p => drop1_spec k kb p) (by omega))) ?_
 rintro _ _ ⟨_, ⟨rfl, rfl⟩, rfl⟩
 refine La rfl (asC (Ct.two (own_spec (S := two (sl 106 3 postC na nc (ps.filter fun p => !decide (p.k = k))) S) ⟨Srd.two1 Srd.own, fun p hp => ⟨Srd.two2 (hS.2 p ((List.mem_filter.1 hp).1)).1, (hS.2 p ((List.mem_filter.1 hp).1)).2⟩⟩ (Nat.le_trans (List.length_filter_le ..) hl)) (by rintro _ _ ⟨_, _, _, _, _, rfl⟩; exact ⟨_, rfl⟩))) ?_
 rintro _ _ ⟨_, ⟨_, ⟨oa, oc, qs, rfl, hqs, ⟨⟩⟩, rfl⟩, rfl⟩
 refine Las rfl rfl (Lnt (Gs.ret ?_))
 exact Gs.fin1 Tryz.results47 rfl _ (⟨oa, oc, qs, rfl, by rw [hqs, dropP, if_pos hmay]; simp only [plain1, List.filter_map, Function.comp_def]; congr 2; funext x; by_cases h : x.k = k <;> simp [PostV.p, h], rfl⟩) (by repeat constructor)
end Go.Proofs.YtklgiidfompdpaaGreatDoor
namespace Go.Proofs.YtklgiidfompdpaaGreatDoor
open Go Go.Sl Go.Gv Go.Po
set_option maxRecDepth 100000
end Go.Proofs.YtklgiidfompdpaaGreatDoor
namespace Go.Proofs.YtklgiidfompdpaaGreatDoor
open Go Go.Sl Go.Gv Go.Po
set_option maxRecDepth 100000
end Go.Proofs.YtklgiidfompdpaaGreatDoor
namespace Go.Proofs.YtklgiidfompdpaaGreatDoor
open Go Go.Sl Go.Gv Go.Po
abbrev AscP (L : List PostP) : Prop := L.Pairwise fun a b => before a.1 b.1 = true
theorem ascP_of {L : List PostP} (h : mayB L = true) : AscP L := by
 have := may_asc h
 rwa [List.pairwise_map] at this
theorem mayFrom_of : ∀ {q : Option Key} {L : List PostP}, AscP L → (∀ p ∈ L, risesB p.2 = true) → (∀ k, q = some k → ∀ p ∈ L, before k p.1 = true) → mayFrom q L = true
 | _, [], _, _, _ => rfl
 | q, p :: L, ha, hr, hq => by
   have ha' := List.pairwise_cons.1 ha
   unfold mayFrom
   rw [hr p (by simp), Bool.true_and, Bool.and_eq_true]
   refine ⟨?_, mayFrom_of ha'.2 (fun x hx => hr x (by simp [hx])) fun k hk x hx => ?_⟩
   · cases q with
     | none => rfl
     | some k => exact hq k rfl p (by simp)
   · cases hk; exact ha'.1 x hx
theorem may_of {L : List PostP} (ha : AscP L) (hr : ∀ p ∈ L, risesB p.2 = true) : mayB L = true := mayFrom_of ha hr fun _ h => by cases h
theorem drop_may {L : List PostP} (hm : mayB L = true) (k : Key) : mayB (dropP L k) = true := by
 rw [dropP, if_pos hm]
 exact may_of (List.Pairwise.filter _ (ascP_of hm)) fun p hp => may_rises hm p (List.mem_filter.1 hp).1
section
variable {L : List PostP} {x : PostP} (hm : mayB L = true) (hx : risesB x.2 = true)
include hm hx
theorem put_is : putP L x = L.filter (fun y => before y.1 x.1) ++ [x] ++ L.filter (fun y => before x.1 y.1) := by rw [putP, if_pos hm, if_pos hx]
theorem put_may : mayB (putP L x) = true := by
 rw [put_is hm hx]
 have ha := ascP_of hm
 have h1 : AscP (L.filter fun y => before y.1 x.1) := List.Pairwise.filter _ ha
 have h2 : AscP (L.filter fun y => before x.1 y.1) := List.Pairwise.filter _ ha
 refine may_of (List.pairwise_append.2 ⟨List.pairwise_append.2 ⟨h1, List.pairwise_singleton .., fun u hu v hv => ?_⟩, h2, fun u hu v hv => ?_⟩) fun p hp => ?_
 · simp at hv; subst hv; exact (List.mem_filter.1 hu).2
 · have hv' := (List.mem_filter.1 hv).2
   rcases List.mem_append.1 hu with hu | hu
   · exact before_trans (List.mem_filter.1 hu).2 hv'
   · simp at hu; subst hu; exact hv'
 · rcases List.mem_append.1 hp with hp | hp
   · rcases List.mem_append.1 hp with hp | hp
     · exact may_rises hm p (List.mem_filter.1 hp).1
     · simp at hp; subst hp; exact hx
   · exact may_rises hm p (List.mem_filter.1 hp).1
end
end Go.Proofs.YtklgiidfompdpaaGreatDoor
namespace Go.Ix
open Go Go.Sl Go.Gv Go.Po
abbrev strV (s : ByteArray) : Value := .string s
abbrev strC (s : ByteArray) : List Value := [.string s]
abbrev slV {α : Type} (s : SlV α) : Value := .slice s.a s.xs.length s.c
abbrev slZ {α : Type} : SlV α := ⟨none, [], 0⟩
abbrev WordP : Type := ByteArray × Int
abbrev wordC (p : WordP) : List Value := [.string p.1, int p.2]
abbrev wordV (p : WordP) : Value := .agg (wordC p).toArray
end Go.Ix
namespace Go.Proofs.YtklgiidfompdpaaGreatDoor
open Go Go.Sl Go.Gv Go.Kv Go.Po Go.Ix
set_option maxRecDepth 100000
theorem kt_9 : KeyT Tryz.prog 9 strV := KeyT.str Tryz.underlying9
abbrev enck_9 : ByteArray → Value := strV
abbrev encv_94 : SlV PostV → Value := slV
abbrev encv_23 : SlV ByteArray → Value := slV
abbrev encv_99 : SlV Int → Value := slV
theorem zvk_94 : ZV Tryz.prog 94 (slV (slZ : SlV PostV)) := zv_94
theorem zvk_23 : ZV Tryz.prog 23 (slV (slZ : SlV ByteArray)) := zv_23
theorem zvk_99 : ZV Tryz.prog 99 (slV (slZ : SlV Int)) := zv_99
abbrev encC_9 : ByteArray → List Value := strC
abbrev encC_98 : WordP → List Value := wordC
theorem ek_9 : EncOk 1 strC := ⟨fun _ => rfl, fun x v hv => by
 simp only [strC, List.mem_cons, List.not_mem_nil, or_false] at hv
 rcases hv with rfl; rfl⟩
theorem ek_98 : EncOk 2 wordC := ⟨fun _ => rfl, fun x v hv => by
 simp only [wordC, List.mem_cons, List.not_mem_nil, or_false] at hv
 rcases hv with rfl | rfl <;> rfl⟩
def RdL (S : HProp) (L : List (ByteArray × SlV PostV)) : Prop := ∀ p ∈ L, PRd S p.2.a p.2.xs ∧ p.2.xs.length ≤ 1000
def RdW (S : HProp) (W : List (Key × SlV ByteArray)) : Prop := ∀ p ∈ W, Srd S 1 strC p.2.a p.2.xs ∧ p.2.xs.length ≤ 1000
theorem PRd.l {S U : HProp} {a : Option Addr} {ps : List PostV} (h : PRd S a ps) : PRd (two S U) a ps := ⟨Srd.two1 h.1, fun p hp => ⟨Srd.two1 (h.2 p hp).1, (h.2 p hp).2⟩⟩
theorem PRd.r {S U : HProp} {a : Option Addr} {ps : List PostV} (h : PRd U a ps) : PRd (two S U) a ps := ⟨Srd.two2 h.1, fun p hp => ⟨Srd.two2 (h.2 p hp).1, (h.2 p hp).2⟩⟩
theorem RdL.l {S U : HProp} {L : List (ByteArray × SlV PostV)} (h : RdL S L) : RdL (two S U) L := fun p hp => ⟨(h p hp).1.l, (h p hp).2⟩
theorem RdW.l {S U : HProp} {W : List (Key × SlV ByteArray)} (h : RdW S W) : RdW (two S U) W := fun p hp => ⟨Srd.two1 (h p hp).1, (h p hp).2⟩
def ixA (x : Nat) (L : List (ByteArray × SlV PostV)) (W : List (Key × SlV ByteArray)) : HProp := fun h => ∃ q : Nat × Nat × HProp, (RdL q.2.2 L ∧ RdW q.2.2 W) ∧
 two (cl x 92 [.map (some q.1), .map (some q.2.1)]) (two (mp strV slV q.1 L) (two (mp keyV slV q.2.1 W) q.2.2)) h
section
variable {w0 : World} {n : Nat} {env : Env} {H : List HProp} {X : Act → World → Prop} {x : Nat} {L : List (ByteArray × SlV PostV)} {W : List (Key × SlV ByteArray)}
theorem Gs.ix (g : ∀ ml mw S, RdL S L → RdW S W → Gs w0 n env (cl x 92 [.map (some ml), .map (some mw)] :: mp strV slV ml L :: mp keyV slV mw W :: S :: H) X) : Gs w0 n env (ixA x L W :: H) X :=
 Gs.ex (A := fun q : Nat × Nat × HProp => fun h => (RdL q.2.2 L ∧ RdW q.2.2 W) ∧ two (cl x 92 [.map (some q.1), .map (some q.2.1)]) (two (mp strV slV q.1 L) (two (mp keyV slV q.2.1 W) q.2.2)) h)
   fun q => Gs.pure fun hq => Gs.two (fun a w e s => g q.1 q.2.1 q.2.2 hq.1 hq.2 a w e (by
     have s1 := s.take (.tl .hd)
     have s2 := Sat.two.1 s1
     have s3 := s2.take (.tl .hd)
     have s4 := Sat.two.1 s3
     exact Ent.sat (by repeat constructor) s4))
theorem Sat.ixc {w : World} {ml mw : Nat} {S : HProp} (h1 : RdL S L) (h2 : RdW S W) (s : Sat w0 w (cl x 92 [.map (some ml), .map (some mw)] :: mp strV slV ml L :: mp keyV slV mw W :: S :: H)) : Sat w0 w (ixA x L W :: H) := by
 have s1 : Sat w0 w (mp keyV slV mw W :: S :: mp strV slV ml L :: cl x 92 [.map (some ml), .map (some mw)] :: H) := Ent.sat (by repeat constructor) s
 have s2 := (Sat.two.2 s1).take (.tl .hd)
 have s3 := (Sat.two.2 s2).take (.tl .hd)
 exact (Sat.two.2 s3).ent fun h hh => ⟨(ml, mw, S), ⟨h1, h2⟩, hh⟩
theorem Gs.ixc {ml mw : Nat} {S : HProp} (h1 : RdL S L) (h2 : RdW S W) (g : Gs w0 n env (ixA x L W :: H) X) : Gs w0 n env (cl x 92 [.map (some ml), .map (some mw)] :: mp strV slV ml L :: mp keyV slV mw W :: S :: H) X :=
 fun a w e s => g a w e (Sat.ixc h1 h2 s)
end
theorem new_spec : Ct Tryz.prog 31 [] [] (fun v hs => ∃ x, v = ptr x ∧ hs = [ixA x [] []]) := by
 refine Cti Tryz.func31 (by kernel_rfl) 5 Tryz.ntmps31 rfl rfl fun w0 R => ?_
 refine Gsr (Las rfl rfl (Lnt (Gsr (La rfl (ac_mkmap enck_9 encv_94) ?_))))
 rintro _ _ ⟨m1, rfl, rfl⟩
 refine La rfl (ac_mkmap enck_28 encv_23) ?_
 rintro _ _ ⟨m2, rfl, rfl⟩
 refine Lq rfl (pu_build bd_92 (by repeat constructor) rfl) ?_
 refine La rfl (ac_box rfl rfl) ?_
 rintro _ _ ⟨b3, rfl, rfl⟩
 refine Las rfl rfl (Lnt (Gs.ret (Gs.bigNil (Gs.takes (As := [cl b3 92 [.map (some m1), .map (some m2)], mp strV slV m1 ([] : List (ByteArray × SlV PostV)), mp keyV slV m2 ([] : List (Key × SlV ByteArray)), big []]) (by repeat constructor) (Gs.ixc (L := []) (W := []) (fun _ h => by cases h) (fun _ h => by cases h) ?_)))))
 exact Gs.fin1 Tryz.results31 rfl _ (⟨b3, rfl, rfl⟩) (by repeat constructor)
theorem ownI_spec {S : HProp} {a : Option Addr} {c : Nat} {ps : List PostV} (hS : PRd S a ps) (hl : ps.length ≤ 1000) :
   Ct Tryz.prog 168 [.slice a ps.length c] [S] (fun v hs => ∃ a' c' qs, v = .slice a' qs.length c' ∧ plain1 qs = plain1 ps ∧ hs = [S, plO a' c' qs]) := by
 refine Cti Tryz.func168 (by kernel_rfl) 23 Tryz.ntmps168 rfl rfl fun w0 R => ?_
 refine Gsr (Las rfl rfl (Lnt (Gsr (Lmv rfl rfl (La rfl (asC (cloneP_spec hS.1 (by omega))) ?_)))))
 rintro _ _ ⟨_, ⟨na, nc, rfl, rfl⟩, rfl⟩
 refine Las rfl rfl (Lnt (Gs.seq (Gsr (Lmv rfl rfl (Lq rfl (pu_len Tryz.underlying94 rfl) (Lmv rfl rfl (Lnil (Gs.bigNil (Gs.slAddr (xs := ps) (SlH.own (E := 106) (enc := postC) (by repeat constructor)) fun ab ao ha => ?_)))))))))
 refine Gn (Gs.block (Gs.loop1 (fun s : Nat × List PostV => s.1 ≤ ps.length ∧ plain1 s.2 = plain1 ps ∧ s.2.drop s.1 = ps.drop s.1) (fun s => [(0, .slice na ps.length nc), (7, int ps.length), (8, int s.1)]) (fun s => [S, sl 106 3 postC na nc s.2, big ((s.2.take s.1).map atO)] ++ R) (fun s => ps.length - s.1) (0, ps) (⟨Nat.zero_le _, rfl, rfl⟩) (by repeat constructor) (by repeat constructor) (fun s hs => ?_)))
 obtain ⟨i, qs⟩ := s
 obtain ⟨hi, hq, hd⟩ := hs
 dsimp only at hi hq hd ⊢
 have hql : qs.length = ps.length := by have := congrArg List.length hq; simpa using this
 refine Gsr (Lq rfl (pu_lt rfl rfl) (Lnt (Gs.seq (Gs.cond rfl (fun hc0 => ?_) (fun hc0 => ?_)))))
 ·
  have hlt : i < ps.length := by have := of_decide_eq_true hc0; omega
  obtain ⟨p, hp⟩ : ∃ x, ps[i]? = some x := ⟨ps[i], by simp [hlt]⟩
  obtain rfl := ha (by rintro rfl; simp at hlt)
  have hpq : qs[i]? = some p := by
    have := congrArg (·[0]?) hd
    simpa [List.getElem?_drop, hp] using this
  obtain ⟨hat, hatl⟩ := hS.2 p (List.mem_of_getElem? hp)
  refine Gs.skip (Gn (Gs.seq (Gs.block (Gsr (Lmv rfl rfl (Las rfl rfl (Lnt (Gs.reg (Lmv rfl rfl (Lmv rfl rfl (Lmv rfl rfl ?_)))))))))))
  refine Lmv rfl rfl (Lq rfl (pu_ia se_94 rfl rfl (by omega) (by omega)) (Lq rfl (pu_fa fa_106_1 rfl) (Lr rfl (rd_ld na_99 rfl (Rdc.elp 1 (SlH.own (xs := qs) (E := 106) (enc := postC) (sz := 3) (by repeat constructor)) hpq rfl rfl)) ?_)))
  refine La rfl (asC (cloneI_spec hat (by omega))) ?_
  rintro _ _ ⟨_, ⟨ka, kc, rfl, rfl⟩, rfl⟩
  refine Lq rfl (pu_ia se_94 rfl rfl (by omega) (by omega)) (Lq rfl (pu_fa fa_106_1 rfl) (Lac0 rfl trivial (ac_stE (enc := postC) (xs := qs) (i := i) (x0 := p) (y0 := ⟨p.k, ⟨ka, p.t.xs, kc⟩⟩) (vs := [.slice ka p.t.xs.length kc]) (fo := 2) sz_99 ek_106 rfl rfl (by repeat constructor) rfl rfl rfl hpq rfl rfl) ?_))
  rintro _ _ rfl
  refine Lnil ?_
  have hset : ((qs.set i ⟨p.k, ⟨ka, p.t.xs, kc⟩⟩).take (i + 1)).map atO = (qs.take i).map atO ++ [atO ⟨p.k, ⟨ka, p.t.xs, kc⟩⟩] := by
    rw [List.take_add_one, List.getElem?_set_self (by omega), List.take_set_of_le (Nat.le_refl _), List.map_append]; rfl
  refine Gs.takes (As := [atO ⟨p.k, ⟨ka, p.t.xs, kc⟩⟩, big ((qs.take i).map atO)]) (by repeat constructor) (Gs.bigBack take_snoc ?_)
  rw [← hset]
  have k1 : plain1 (qs.set i ⟨p.k, ⟨ka, p.t.xs, kc⟩⟩) = plain1 ps := by
    rw [← hq]
    show (qs.set i _).map PostV.p = qs.map PostV.p
    rw [List.map_set]
    refine List.ext_getElem? fun j => ?_
    by_cases hj : i = j
    · subst hj; rw [List.getElem?_set_self (by simp; omega), List.getElem?_map, hpq]; rfl
    · rw [List.getElem?_set_ne hj]
  have k2 : (qs.set i ⟨p.k, ⟨ka, p.t.xs, kc⟩⟩).drop (i + 1) = ps.drop (i + 1) := by rw [List.drop_set_of_lt (by omega), ← List.drop_drop, hd, List.drop_drop]
  refine Gs.blk_n (Gn (Gs.reg (Lq rfl (by first | exact pu_addI rfl rfl rfl (by omega) (by omega) | exact pu_add rfl rfl) ?_)))
  refine Lmv rfl rfl (Lnt ?_)
  exact Ag (i + 1, qs.set i ⟨p.k, ⟨ka, p.t.xs, kc⟩⟩) ⟨hlt, k1, k2⟩ (by show ps.length - (i + 1) < ps.length - i; omega)
 have hge : i = ps.length := by have := of_decide_eq_false hc0; omega
 rw [List.take_of_length_le (by omega)]
 refine Gs.exit (Gx (Gx (Gs.blk_hit (Gn (Gsr (Lmv rfl rfl (Las rfl rfl (Lnt (Gs.ret (Gs.takes (As := [sl 106 3 postC na nc qs, big (qs.map atO)]) (by repeat constructor) (Gs.toTwo ?_)))))))))))
 exact Gs.fin1 Tryz.results168 rfl _ (⟨na, nc, qs, by rw [hql], hq, rfl⟩) (by repeat constructor)
def lisT (L : List (ByteArray × SlV PostV)) (w : ByteArray) : SlV PostV := (mget L w).getD slZ
theorem lisT_rd {S : HProp} {L : List (ByteArray × SlV PostV)} (h : RdL S L) (w : ByteArray) : PRd S (lisT L w).a (lisT L w).xs ∧ (lisT L w).xs.length ≤ 1000 := by
 unfold lisT
 cases hm : mget L w with
 | none => exact ⟨⟨fun _ _ _ _ _ _ hne => (hne rfl).elim, fun _ hp => by cases hp⟩, Nat.zero_le _⟩
 | some s => exact h (w, s) (mget_mem hm)
theorem word_spec (x : Nat) (L : List (ByteArray × SlV PostV)) (W : List (Key × SlV ByteArray)) (w : ByteArray) :
   Ct Tryz.prog 123 [ptr x, .string w] [ixA x L W] (fun v hs => ∃ a' c' qs, v = .slice a' qs.length c' ∧ plain1 qs = plain1 (lisT L w).xs ∧ hs = [ixA x L W, plO a' c' qs]) := by
 refine Cti Tryz.func123 (by kernel_rfl) 14 Tryz.ntmps123 rfl rfl fun w0 R => ?_
 refine Gs.ix fun ml mw S hL hW => ?_
 refine Gsr (Las rfl rfl (Lnt (Gs.seq (Gsr (Lmv rfl rfl (Lq rfl (pu_eqN Tryz.underlying72 rfl rfl) (Lnt (Gs.cond_ff rfl rfl (Gs.skip (Gn (Gsr ?_)))))))))))
 refine Lmv rfl rfl (Lq rfl (by first | exact pu_nil rfl | exact pu_nilF rfl) ?_)
 refine Lq rfl (pu_fa fa_92_0 rfl) (Lr rfl (rd_ld na_89 rfl (Rdc.cl1 (by repeat constructor) rfl)) ?_)
 refine Lmv rfl rfl (Lr rfl (rd_look1 Tryz.underlying89 kt_9 zvk_94 rfl rfl (by repeat constructor)) ?_)
 refine La rfl (asC (ownI_spec (lisT_rd hL w).1 (lisT_rd hL w).2)) ?_
 rintro _ _ ⟨_, ⟨na, nc, qs, rfl, hq, rfl⟩, rfl⟩
 refine Las rfl rfl (Lnt (Gs.ret (Gs.takes (As := [cl x 92 [.map (some ml), .map (some mw)], mp strV slV ml L, mp keyV slV mw W, S]) (by repeat constructor) (Gs.ixc hL hW ?_))))
 exact Gs.fin1 Tryz.results123 rfl _ (⟨na, nc, qs, rfl, hq, rfl⟩) (by repeat constructor)
end Go.Proofs.YtklgiidfompdpaaGreatDoor
namespace Go.Proofs
open Go.Shelf
def Tryz.laysValid_ren : Go.Shelf.Ren := ⟨fun | 196 => 105 | 259 => 149 | n => n, fun | 9 => 9 | 4 => 4 | 3 => 3 | 5 => 5 | 12 => 12 | 119 => 189 | 0 => 0 | 46 => 185 | 139 => 192 | 138 => 191 | 53 => 229 | n => n, fun | 3 => 0 | 4 => 1 | n => n⟩
theorem Tryz.laysValid : Go.Proofs.Lays.n196 Tryz.prog Tryz.laysValid_ren := {
 mixed := by kernel_rfl
 f196 := Tryz.func105.trans (congrArg some (by kernel_rfl))
 f259 := Tryz.func149.trans (congrArg some (by kernel_rfl))
 t0 := Tryz.underlying0
 a0 := Tryz.isAgg0
 z0 := Tryz.sizeOf0
 v0 := Tryz.zeroValue0
 t3 := Tryz.underlying3
 a3 := Tryz.isAgg3
 z3 := Tryz.sizeOf3
 v3 := Tryz.zeroValue3
 t4 := Tryz.underlying4
 a4 := Tryz.isAgg4
 z4 := Tryz.sizeOf4
 v4 := Tryz.zeroValue4
 t5 := Tryz.underlying5
 a5 := Tryz.isAgg5
 z5 := Tryz.sizeOf5
 v5 := Tryz.zeroValue5
 t9 := Tryz.underlying9
 a9 := Tryz.isAgg9
 z9 := Tryz.sizeOf9
 v9 := Tryz.zeroValue9
 t12 := Tryz.underlying12
 a12 := Tryz.isAgg12
 z12 := Tryz.sizeOf12
 v12 := Tryz.zeroValue12
 t46 := Tryz.underlying185
 a46 := Tryz.isAgg185
 z46 := Tryz.sizeOf185
 v46 := Tryz.zeroValue185
 t53 := Tryz.underlying229
 a53 := Tryz.isAgg229
 z53 := Tryz.sizeOf229
 v53 := Tryz.zeroValue229
 t119 := Tryz.underlying189
 a119 := Tryz.isAgg189
 z119 := Tryz.sizeOf189
 t138 := Tryz.underlying191
 a138 := Tryz.isAgg191
 z138 := Tryz.sizeOf191
 v138 := Tryz.zeroValue191
 t139 := Tryz.underlying192
 a139 := Tryz.isAgg192
 z139 := Tryz.sizeOf192
 v139 := Tryz.zeroValue192
 g3 := by kernel_rfl
 g4 := by kernel_rfl }
def Tryz.laysFF_ren : Go.Shelf.Ren := ⟨fun | 229 => 93 | n => n, fun | 9 => 9 | 40 => 114 | 31 => 23 | 152 => 170 | 3 => 3 | 0 => 0 | 4 => 4 | 21 => 21 | 154 => 172 | n => n, fun | n => n⟩
theorem Tryz.laysFF : Go.Proofs.Lays.n229 Tryz.prog Tryz.laysFF_ren := {
 mixed := by kernel_rfl
 f229 := Tryz.func93.trans (congrArg some (by kernel_rfl))
 t0 := Tryz.underlying0
 a0 := Tryz.isAgg0
 z0 := Tryz.sizeOf0
 v0 := Tryz.zeroValue0
 t3 := Tryz.underlying3
 a3 := Tryz.isAgg3
 z3 := Tryz.sizeOf3
 v3 := Tryz.zeroValue3
 t4 := Tryz.underlying4
 a4 := Tryz.isAgg4
 z4 := Tryz.sizeOf4
 v4 := Tryz.zeroValue4
 t9 := Tryz.underlying9
 a9 := Tryz.isAgg9
 z9 := Tryz.sizeOf9
 v9 := Tryz.zeroValue9
 t21 := Tryz.underlying21
 a21 := Tryz.isAgg21
 z21 := Tryz.sizeOf21
 v21 := Tryz.zeroValue21
 t31 := Tryz.underlying23
 a31 := Tryz.isAgg23
 z31 := Tryz.sizeOf23
 v31 := Tryz.zeroValue23
 t40 := Tryz.underlying114
 a40 := Tryz.isAgg114
 z40 := Tryz.sizeOf114
 v40 := Tryz.zeroValue114
 t152 := Tryz.underlying170
 a152 := Tryz.isAgg170
 z152 := Tryz.sizeOf170
 v152 := Tryz.zeroValue170
 t154 := Tryz.underlying172
 a154 := Tryz.isAgg172
 z154 := Tryz.sizeOf172
 v154 := Tryz.zeroValue172 }
def Tryz.laysLetter_ren : Go.Shelf.Ren := ⟨fun | 200 => 107 | 261 => 151 | 311 => 197 | 312 => 198 | n => n, fun | 21 => 21 | 4 => 4 | 51 => 193 | 5 => 5 | 119 => 189 | 0 => 0 | 141 => 195 | 196 => 233 | 193 => 230 | 3 => 3 | 198 => 236 | 49 => 234 | 194 => 231 | 201 => 239 | 226 => 277 | 46 => 185 | 227 => 278 | n => n, fun | 7 => 2 | 8 => 3 | n => n⟩
theorem Tryz.laysLetter : Go.Proofs.Lays.n200 Tryz.prog Tryz.laysLetter_ren := {
 mixed := by kernel_rfl
 f200 := Tryz.func107.trans (congrArg some (by kernel_rfl))
 f261 := Tryz.func151.trans (congrArg some (by kernel_rfl))
 f311 := Tryz.func197.trans (congrArg some (by kernel_rfl))
 f312 := Tryz.func198.trans (congrArg some (by kernel_rfl))
 t0 := Tryz.underlying0
 a0 := Tryz.isAgg0
 z0 := Tryz.sizeOf0
 v0 := Tryz.zeroValue0
 t3 := Tryz.underlying3
 a3 := Tryz.isAgg3
 z3 := Tryz.sizeOf3
 v3 := Tryz.zeroValue3
 t4 := Tryz.underlying4
 a4 := Tryz.isAgg4
 z4 := Tryz.sizeOf4
 v4 := Tryz.zeroValue4
 t5 := Tryz.underlying5
 a5 := Tryz.isAgg5
 z5 := Tryz.sizeOf5
 v5 := Tryz.zeroValue5
 t21 := Tryz.underlying21
 a21 := Tryz.isAgg21
 z21 := Tryz.sizeOf21
 v21 := Tryz.zeroValue21
 t46 := Tryz.underlying185
 a46 := Tryz.isAgg185
 z46 := Tryz.sizeOf185
 v46 := Tryz.zeroValue185
 t49 := Tryz.underlying234
 a49 := Tryz.isAgg234
 z49 := Tryz.sizeOf234
 v49 := Tryz.zeroValue234
 t51 := Tryz.underlying193
 a51 := Tryz.isAgg193
 z51 := Tryz.sizeOf193
 v51 := Tryz.zeroValue193
 t119 := Tryz.underlying189
 a119 := Tryz.isAgg189
 z119 := Tryz.sizeOf189
 t141 := Tryz.underlying195
 a141 := Tryz.isAgg195
 z141 := Tryz.sizeOf195
 v141 := Tryz.zeroValue195
 t193 := Tryz.underlying230
 a193 := Tryz.isAgg230
 z193 := Tryz.sizeOf230
 v193 := Tryz.zeroValue230
 t194 := Tryz.underlying231
 a194 := Tryz.isAgg231
 z194 := Tryz.sizeOf231
 v194 := Tryz.zeroValue231
 t196 := Tryz.underlying233
 a196 := Tryz.isAgg233
 z196 := Tryz.sizeOf233
 v196 := Tryz.zeroValue233
 t198 := Tryz.underlying236
 a198 := Tryz.isAgg236
 z198 := Tryz.sizeOf236
 v198 := Tryz.zeroValue236
 t201 := Tryz.underlying239
 a201 := Tryz.isAgg239
 z201 := Tryz.sizeOf239
 v201 := Tryz.zeroValue239
 t226 := Tryz.underlying277
 a226 := Tryz.isAgg277
 z226 := Tryz.sizeOf277
 v226 := Tryz.zeroValue277
 t227 := Tryz.underlying278
 a227 := Tryz.isAgg278
 z227 := Tryz.sizeOf278
 v227 := Tryz.zeroValue278
 g7 := by kernel_rfl
 g8 := by kernel_rfl }
def Tryz.laysDigit_ren : Go.Shelf.Ren := ⟨fun | 198 => 108 | 261 => 151 | 311 => 197 | 312 => 198 | n => n, fun | 21 => 21 | 4 => 4 | 141 => 195 | 0 => 0 | 196 => 233 | 193 => 230 | 3 => 3 | 51 => 193 | 198 => 236 | 49 => 234 | 194 => 231 | 201 => 239 | 226 => 277 | 46 => 185 | 227 => 278 | n => n, fun | 5 => 4 | n => n⟩
theorem Tryz.laysDigit : Go.Proofs.Lays.n198 Tryz.prog Tryz.laysDigit_ren := {
 mixed := by kernel_rfl
 f198 := Tryz.func108.trans (congrArg some (by kernel_rfl))
 f261 := Tryz.func151.trans (congrArg some (by kernel_rfl))
 f311 := Tryz.func197.trans (congrArg some (by kernel_rfl))
 f312 := Tryz.func198.trans (congrArg some (by kernel_rfl))
 t0 := Tryz.underlying0
 a0 := Tryz.isAgg0
 z0 := Tryz.sizeOf0
 v0 := Tryz.zeroValue0
 t3 := Tryz.underlying3
 a3 := Tryz.isAgg3
 z3 := Tryz.sizeOf3
 v3 := Tryz.zeroValue3
 t4 := Tryz.underlying4
 a4 := Tryz.isAgg4
 z4 := Tryz.sizeOf4
 v4 := Tryz.zeroValue4
 t21 := Tryz.underlying21
 a21 := Tryz.isAgg21
 z21 := Tryz.sizeOf21
 v21 := Tryz.zeroValue21
 t46 := Tryz.underlying185
 a46 := Tryz.isAgg185
 z46 := Tryz.sizeOf185
 v46 := Tryz.zeroValue185
 t49 := Tryz.underlying234
 a49 := Tryz.isAgg234
 z49 := Tryz.sizeOf234
 v49 := Tryz.zeroValue234
 t51 := Tryz.underlying193
 a51 := Tryz.isAgg193
 z51 := Tryz.sizeOf193
 v51 := Tryz.zeroValue193
 t141 := Tryz.underlying195
 a141 := Tryz.isAgg195
 z141 := Tryz.sizeOf195
 v141 := Tryz.zeroValue195
 t193 := Tryz.underlying230
 a193 := Tryz.isAgg230
 z193 := Tryz.sizeOf230
 v193 := Tryz.zeroValue230
 t194 := Tryz.underlying231
 a194 := Tryz.isAgg231
 z194 := Tryz.sizeOf231
 v194 := Tryz.zeroValue231
 t196 := Tryz.underlying233
 a196 := Tryz.isAgg233
 z196 := Tryz.sizeOf233
 v196 := Tryz.zeroValue233
 t198 := Tryz.underlying236
 a198 := Tryz.isAgg236
 z198 := Tryz.sizeOf236
 v198 := Tryz.zeroValue236
 t201 := Tryz.underlying239
 a201 := Tryz.isAgg239
 z201 := Tryz.sizeOf239
 v201 := Tryz.zeroValue239
 t226 := Tryz.underlying277
 a226 := Tryz.isAgg277
 z226 := Tryz.sizeOf277
 v226 := Tryz.zeroValue277
 t227 := Tryz.underlying278
 a227 := Tryz.isAgg278
 z227 := Tryz.sizeOf278
 v227 := Tryz.zeroValue278
 g5 := by kernel_rfl }
def Tryz.laysLower_ren : Go.Shelf.Ren := ⟨fun | 204 => 109 | 262 => 152 | 313 => 199 | 274 => 247 | 275 => 248 | n => n, fun | 21 => 21 | 4 => 4 | 3 => 3 | 162 => 243 | 203 => 241 | 160 => 279 | 46 => 185 | 0 => 0 | 208 => 297 | 51 => 193 | 206 => 295 | n => n, fun | 13 => 5 | n => n⟩
theorem Tryz.laysLower : Go.Proofs.Lays.n204 Tryz.prog Tryz.laysLower_ren := {
 mixed := by kernel_rfl
 f204 := Tryz.func109.trans (congrArg some (by kernel_rfl))
 f262 := Tryz.func152.trans (congrArg some (by kernel_rfl))
 f274 := Tryz.func247.trans (congrArg some (by kernel_rfl))
 f275 := Tryz.func248.trans (congrArg some (by kernel_rfl))
 f313 := Tryz.func199.trans (congrArg some (by kernel_rfl))
 t0 := Tryz.underlying0
 a0 := Tryz.isAgg0
 z0 := Tryz.sizeOf0
 v0 := Tryz.zeroValue0
 t3 := Tryz.underlying3
 a3 := Tryz.isAgg3
 z3 := Tryz.sizeOf3
 v3 := Tryz.zeroValue3
 t4 := Tryz.underlying4
 a4 := Tryz.isAgg4
 z4 := Tryz.sizeOf4
 v4 := Tryz.zeroValue4
 t21 := Tryz.underlying21
 a21 := Tryz.isAgg21
 z21 := Tryz.sizeOf21
 v21 := Tryz.zeroValue21
 t46 := Tryz.underlying185
 a46 := Tryz.isAgg185
 z46 := Tryz.sizeOf185
 v46 := Tryz.zeroValue185
 t51 := Tryz.underlying193
 a51 := Tryz.isAgg193
 z51 := Tryz.sizeOf193
 v51 := Tryz.zeroValue193
 t160 := Tryz.underlying279
 a160 := Tryz.isAgg279
 z160 := Tryz.sizeOf279
 v160 := Tryz.zeroValue279
 t162 := Tryz.underlying243
 a162 := Tryz.isAgg243
 z162 := Tryz.sizeOf243
 v162 := Tryz.zeroValue243
 t203 := Tryz.underlying241
 a203 := Tryz.isAgg241
 z203 := Tryz.sizeOf241
 v203 := Tryz.zeroValue241
 t206 := Tryz.underlying295
 a206 := Tryz.isAgg295
 z206 := Tryz.sizeOf295
 v206 := Tryz.zeroValue295
 t208 := Tryz.underlying297
 a208 := Tryz.isAgg297
 z208 := Tryz.sizeOf297
 v208 := Tryz.zeroValue297
 g13 := by kernel_rfl }
def Tryz.laysBS_ren : Go.Shelf.Ren := ⟨fun | 169 => 143 | n => n, fun | 70 => 173 | 9 => 9 | 0 => 0 | 72 => 176 | 37 => 174 | 127 => 220 | 3 => 3 | 5 => 5 | n => n, fun | n => n⟩
theorem Tryz.laysBS : Go.Proofs.Lays.n169 Tryz.prog Tryz.laysBS_ren := {
 mixed := by kernel_rfl
 f169 := Tryz.func143.trans (congrArg some (by kernel_rfl))
 t0 := Tryz.underlying0
 a0 := Tryz.isAgg0
 z0 := Tryz.sizeOf0
 v0 := Tryz.zeroValue0
 t3 := Tryz.underlying3
 a3 := Tryz.isAgg3
 z3 := Tryz.sizeOf3
 v3 := Tryz.zeroValue3
 t9 := Tryz.underlying9
 a9 := Tryz.isAgg9
 z9 := Tryz.sizeOf9
 v9 := Tryz.zeroValue9
 t37 := Tryz.underlying174
 a37 := Tryz.isAgg174
 z37 := Tryz.sizeOf174
 v37 := Tryz.zeroValue174
 t70 := Tryz.underlying173
 a70 := Tryz.isAgg173
 z70 := Tryz.sizeOf173
 v70 := Tryz.zeroValue173
 t72 := Tryz.underlying176
 a72 := Tryz.isAgg176
 z72 := Tryz.sizeOf176
 v72 := Tryz.zeroValue176
 t127 := Tryz.underlying220
 a127 := Tryz.isAgg220
 z127 := Tryz.sizeOf220
 v127 := Tryz.zeroValue220 }
def Tryz.laysHP_ren : Go.Shelf.Ren := ⟨fun | 99 => 125 | 206 => 170 | n => n, fun | 9 => 9 | 4 => 4 | 3 => 3 | n => n, fun | n => n⟩
theorem Tryz.laysHP : Go.Proofs.Lays.n99 Tryz.prog Tryz.laysHP_ren := {
 mixed := by kernel_rfl
 f99 := Tryz.func125.trans (congrArg some (by kernel_rfl))
 f206 := Tryz.func170.trans (congrArg some (by kernel_rfl))
 t3 := Tryz.underlying3
 a3 := Tryz.isAgg3
 z3 := Tryz.sizeOf3
 v3 := Tryz.zeroValue3
 t4 := Tryz.underlying4
 a4 := Tryz.isAgg4
 z4 := Tryz.sizeOf4
 v4 := Tryz.zeroValue4
 t9 := Tryz.underlying9
 a9 := Tryz.isAgg9
 z9 := Tryz.sizeOf9
 v9 := Tryz.zeroValue9 }
def Tryz.sortKeys_ren : Go.Shelf.Ren := ⟨fun | 6 => 135 | 15 => 146 | 14 => 181 | 28 => 193 | 29 => 194 | 20 => 230 | 21 => 231 | 22 => 232 | 23 => 233 | 24 => 234 | 25 => 235 | 26 => 236 | 27 => 237 | 46 => 261 | 47 => 241 | 48 => 242 | 49 => 262 | 50 => 263 | 57 => 274 | n => n, fun | 22 => 48 | 24 => 28 | 25 => 129 | 3 => 3 | 39 => 185 | 0 => 0 | 53 => 193 | 55 => 229 | 4 => 4 | 46 => 223 | 45 => 222 | 50 => 139 | 5 => 5 | 9 => 9 | 66 => 270 | 70 => 274 | 76 => 291 | 77 => 292 | n => n, fun | n => n⟩
theorem Tryz.sortKeys : Go.Proofs.SlLaysF0.n6 Tryz.prog Tryz.sortKeys_ren := {
 mixed := by kernel_rfl
 f6 := ⟨Tryz.f135.name, by decide, Tryz.func135.trans (congrArg some (by kernel_rfl))⟩
 f14 := ⟨Tryz.f181.name, by decide, Tryz.func181.trans (congrArg some (by kernel_rfl))⟩
 f15 := Tryz.func146.trans (congrArg some (by kernel_rfl))
 f20 := ⟨Tryz.f230.name, by decide, Tryz.func230.trans (congrArg some (by kernel_rfl))⟩
 f21 := ⟨Tryz.f231.name, by decide, Tryz.func231.trans (congrArg some (by kernel_rfl))⟩
 f22 := ⟨Tryz.f232.name, by decide, Tryz.func232.trans (congrArg some (by kernel_rfl))⟩
 f23 := ⟨Tryz.f233.name, by decide, Tryz.func233.trans (congrArg some (by kernel_rfl))⟩
 f24 := ⟨Tryz.f234.name, by decide, Tryz.func234.trans (congrArg some (by kernel_rfl))⟩
 f25 := ⟨Tryz.f235.name, by decide, Tryz.func235.trans (congrArg some (by kernel_rfl))⟩
 f26 := ⟨Tryz.f236.name, by decide, Tryz.func236.trans (congrArg some (by kernel_rfl))⟩
 f27 := ⟨Tryz.f237.name, by decide, Tryz.func237.trans (congrArg some (by kernel_rfl))⟩
 f28 := Tryz.func193.trans (congrArg some (by kernel_rfl))
 f29 := Tryz.func194.trans (congrArg some (by kernel_rfl))
 f46 := ⟨Tryz.f261.name, by decide, Tryz.func261.trans (congrArg some (by kernel_rfl))⟩
 f47 := Tryz.func241.trans (congrArg some (by kernel_rfl))
 f48 := Tryz.func242.trans (congrArg some (by kernel_rfl))
 f49 := ⟨Tryz.f262.name, by decide, Tryz.func262.trans (congrArg some (by kernel_rfl))⟩
 f50 := ⟨Tryz.f263.name, by decide, Tryz.func263.trans (congrArg some (by kernel_rfl))⟩
 f57 := ⟨Tryz.f274.name, by decide, Tryz.func274.trans (congrArg some (by kernel_rfl))⟩
 t0 := Tryz.underlying0
 a0 := Tryz.isAgg0
 z0 := Tryz.sizeOf0
 v0 := Tryz.zeroValue0
 t3 := Tryz.underlying3
 a3 := Tryz.isAgg3
 z3 := Tryz.sizeOf3
 v3 := Tryz.zeroValue3
 t4 := Tryz.underlying4
 a4 := Tryz.isAgg4
 z4 := Tryz.sizeOf4
 v4 := Tryz.zeroValue4
 t5 := Tryz.underlying5
 a5 := Tryz.isAgg5
 z5 := Tryz.sizeOf5
 v5 := Tryz.zeroValue5
 t9 := Tryz.underlying9
 a9 := Tryz.isAgg9
 z9 := Tryz.sizeOf9
 v9 := Tryz.zeroValue9
 t22 := Tryz.underlying48
 a22 := Tryz.isAgg48
 z22 := Tryz.sizeOf48
 v22 := Tryz.zeroValue48
 t25 := Tryz.underlying129
 a25 := Tryz.isAgg129
 z25 := Tryz.sizeOf129
 v25 := Tryz.zeroValue129
 t39 := Tryz.underlying185
 a39 := Tryz.isAgg185
 z39 := Tryz.sizeOf185
 v39 := Tryz.zeroValue185
 t45 := Tryz.underlying222
 a45 := Tryz.isAgg222
 z45 := Tryz.sizeOf222
 v45 := Tryz.zeroValue222
 t46 := Tryz.underlying223
 a46 := Tryz.isAgg223
 z46 := Tryz.sizeOf223
 v46 := Tryz.zeroValue223
 t50 := Tryz.underlying139
 a50 := Tryz.isAgg139
 z50 := Tryz.sizeOf139
 v50 := Tryz.zeroValue139
 t53 := Tryz.underlying193
 a53 := Tryz.isAgg193
 z53 := Tryz.sizeOf193
 v53 := Tryz.zeroValue193
 t55 := Tryz.underlying229
 a55 := Tryz.isAgg229
 z55 := Tryz.sizeOf229
 v55 := Tryz.zeroValue229
 t66 := Tryz.underlying270
 a66 := Tryz.isAgg270
 z66 := Tryz.sizeOf270
 v66 := Tryz.zeroValue270
 t70 := Tryz.underlying274
 a70 := Tryz.isAgg274
 z70 := Tryz.sizeOf274
 v70 := Tryz.zeroValue274
 t76 := Tryz.underlying291
 a76 := Tryz.isAgg291
 z76 := Tryz.sizeOf291
 v76 := Tryz.zeroValue291
 t77 := Tryz.underlying292
 a77 := Tryz.isAgg292
 z77 := Tryz.sizeOf292
 v77 := Tryz.zeroValue292 }
def Tryz.sortPosts_ren : Go.Shelf.Ren := ⟨fun | 6 => 127 | 15 => 146 | 14 => 172 | 28 => 193 | 29 => 194 | 20 => 220 | 21 => 221 | 22 => 222 | 23 => 223 | 24 => 224 | 25 => 225 | 26 => 226 | 27 => 227 | 46 => 258 | 47 => 241 | 48 => 242 | 49 => 259 | 50 => 260 | 57 => 273 | n => n, fun | 22 => 94 | 24 => 106 | 25 => 163 | 3 => 3 | 39 => 185 | 0 => 0 | 53 => 193 | 55 => 229 | 4 => 4 | 46 => 223 | 45 => 222 | 50 => 139 | 5 => 5 | 9 => 9 | 66 => 270 | 70 => 274 | 76 => 291 | 77 => 292 | n => n, fun | n => n⟩
theorem Tryz.sortPosts : Go.Proofs.SlLaysF0.n6 Tryz.prog Tryz.sortPosts_ren := {
 mixed := by kernel_rfl
 f6 := ⟨Tryz.f127.name, by decide, Tryz.func127.trans (congrArg some (by kernel_rfl))⟩
 f14 := ⟨Tryz.f172.name, by decide, Tryz.func172.trans (congrArg some (by kernel_rfl))⟩
 f15 := Tryz.func146.trans (congrArg some (by kernel_rfl))
 f20 := ⟨Tryz.f220.name, by decide, Tryz.func220.trans (congrArg some (by kernel_rfl))⟩
 f21 := ⟨Tryz.f221.name, by decide, Tryz.func221.trans (congrArg some (by kernel_rfl))⟩
 f22 := ⟨Tryz.f222.name, by decide, Tryz.func222.trans (congrArg some (by kernel_rfl))⟩
 f23 := ⟨Tryz.f223.name, by decide, Tryz.func223.trans (congrArg some (by kernel_rfl))⟩
 f24 := ⟨Tryz.f224.name, by decide, Tryz.func224.trans (congrArg some (by kernel_rfl))⟩
 f25 := ⟨Tryz.f225.name, by decide, Tryz.func225.trans (congrArg some (by kernel_rfl))⟩
 f26 := ⟨Tryz.f226.name, by decide, Tryz.func226.trans (congrArg some (by kernel_rfl))⟩
 f27 := ⟨Tryz.f227.name, by decide, Tryz.func227.trans (congrArg some (by kernel_rfl))⟩
 f28 := Tryz.func193.trans (congrArg some (by kernel_rfl))
 f29 := Tryz.func194.trans (congrArg some (by kernel_rfl))
 f46 := ⟨Tryz.f258.name, by decide, Tryz.func258.trans (congrArg some (by kernel_rfl))⟩
 f47 := Tryz.func241.trans (congrArg some (by kernel_rfl))
 f48 := Tryz.func242.trans (congrArg some (by kernel_rfl))
 f49 := ⟨Tryz.f259.name, by decide, Tryz.func259.trans (congrArg some (by kernel_rfl))⟩
 f50 := ⟨Tryz.f260.name, by decide, Tryz.func260.trans (congrArg some (by kernel_rfl))⟩
 f57 := ⟨Tryz.f273.name, by decide, Tryz.func273.trans (congrArg some (by kernel_rfl))⟩
 t0 := Tryz.underlying0
 a0 := Tryz.isAgg0
 z0 := Tryz.sizeOf0
 v0 := Tryz.zeroValue0
 t3 := Tryz.underlying3
 a3 := Tryz.isAgg3
 z3 := Tryz.sizeOf3
 v3 := Tryz.zeroValue3
 t4 := Tryz.underlying4
 a4 := Tryz.isAgg4
 z4 := Tryz.sizeOf4
 v4 := Tryz.zeroValue4
 t5 := Tryz.underlying5
 a5 := Tryz.isAgg5
 z5 := Tryz.sizeOf5
 v5 := Tryz.zeroValue5
 t9 := Tryz.underlying9
 a9 := Tryz.isAgg9
 z9 := Tryz.sizeOf9
 v9 := Tryz.zeroValue9
 t22 := Tryz.underlying94
 a22 := Tryz.isAgg94
 z22 := Tryz.sizeOf94
 v22 := Tryz.zeroValue94
 t25 := Tryz.underlying163
 a25 := Tryz.isAgg163
 z25 := Tryz.sizeOf163
 v25 := Tryz.zeroValue163
 t39 := Tryz.underlying185
 a39 := Tryz.isAgg185
 z39 := Tryz.sizeOf185
 v39 := Tryz.zeroValue185
 t45 := Tryz.underlying222
 a45 := Tryz.isAgg222
 z45 := Tryz.sizeOf222
 v45 := Tryz.zeroValue222
 t46 := Tryz.underlying223
 a46 := Tryz.isAgg223
 z46 := Tryz.sizeOf223
 v46 := Tryz.zeroValue223
 t50 := Tryz.underlying139
 a50 := Tryz.isAgg139
 z50 := Tryz.sizeOf139
 v50 := Tryz.zeroValue139
 t53 := Tryz.underlying193
 a53 := Tryz.isAgg193
 z53 := Tryz.sizeOf193
 v53 := Tryz.zeroValue193
 t55 := Tryz.underlying229
 a55 := Tryz.isAgg229
 z55 := Tryz.sizeOf229
 v55 := Tryz.zeroValue229
 t66 := Tryz.underlying270
 a66 := Tryz.isAgg270
 z66 := Tryz.sizeOf270
 v66 := Tryz.zeroValue270
 t70 := Tryz.underlying274
 a70 := Tryz.isAgg274
 z70 := Tryz.sizeOf274
 v70 := Tryz.zeroValue274
 t76 := Tryz.underlying291
 a76 := Tryz.isAgg291
 z76 := Tryz.sizeOf291
 v76 := Tryz.zeroValue291
 t77 := Tryz.underlying292
 a77 := Tryz.isAgg292
 z77 := Tryz.sizeOf292
 v77 := Tryz.zeroValue292 }
def Tryz.laysSortS_ren : Go.Shelf.Ren := ⟨fun | 190 => 97 | 125 => 146 | 258 => 145 | 128 => 193 | 129 => 194 | 302 => 184 | 303 => 185 | 304 => 186 | 305 => 187 | 306 => 188 | 307 => 189 | 308 => 190 | 309 => 191 | 310 => 192 | 333 => 240 | 329 => 241 | 330 => 242 | 334 => 243 | 335 => 244 | 336 => 245 | 344 => 264 | n => n, fun | 31 => 23 | 9 => 9 | 3 => 3 | 46 => 185 | 0 => 0 | 51 => 193 | 53 => 229 | 4 => 4 | 183 => 223 | 182 => 222 | 131 => 139 | 5 => 5 | 218 => 270 | 222 => 274 | 228 => 291 | 229 => 292 | n => n, fun | n => n⟩
theorem Tryz.laysSortS : Go.Proofs.Lays.n190 Tryz.prog Tryz.laysSortS_ren := {
 mixed := by kernel_rfl
 f125 := Tryz.func146.trans (congrArg some (by kernel_rfl))
 f128 := Tryz.func193.trans (congrArg some (by kernel_rfl))
 f129 := Tryz.func194.trans (congrArg some (by kernel_rfl))
 f190 := Tryz.func97.trans (congrArg some (by kernel_rfl))
 f258 := Tryz.func145.trans (congrArg some (by kernel_rfl))
 f302 := Tryz.func184.trans (congrArg some (by kernel_rfl))
 f303 := Tryz.func185.trans (congrArg some (by kernel_rfl))
 f304 := Tryz.func186.trans (congrArg some (by kernel_rfl))
 f305 := Tryz.func187.trans (congrArg some (by kernel_rfl))
 f306 := Tryz.func188.trans (congrArg some (by kernel_rfl))
 f307 := Tryz.func189.trans (congrArg some (by kernel_rfl))
 f308 := Tryz.func190.trans (congrArg some (by kernel_rfl))
 f309 := Tryz.func191.trans (congrArg some (by kernel_rfl))
 f310 := Tryz.func192.trans (congrArg some (by kernel_rfl))
 f329 := Tryz.func241.trans (congrArg some (by kernel_rfl))
 f330 := Tryz.func242.trans (congrArg some (by kernel_rfl))
 f333 := Tryz.func240.trans (congrArg some (by kernel_rfl))
 f334 := Tryz.func243.trans (congrArg some (by kernel_rfl))
 f335 := Tryz.func244.trans (congrArg some (by kernel_rfl))
 f336 := Tryz.func245.trans (congrArg some (by kernel_rfl))
 f344 := Tryz.func264.trans (congrArg some (by kernel_rfl))
 t0 := Tryz.underlying0
 a0 := Tryz.isAgg0
 z0 := Tryz.sizeOf0
 v0 := Tryz.zeroValue0
 t3 := Tryz.underlying3
 a3 := Tryz.isAgg3
 z3 := Tryz.sizeOf3
 v3 := Tryz.zeroValue3
 t4 := Tryz.underlying4
 a4 := Tryz.isAgg4
 z4 := Tryz.sizeOf4
 v4 := Tryz.zeroValue4
 t5 := Tryz.underlying5
 a5 := Tryz.isAgg5
 z5 := Tryz.sizeOf5
 v5 := Tryz.zeroValue5
 t9 := Tryz.underlying9
 a9 := Tryz.isAgg9
 z9 := Tryz.sizeOf9
 v9 := Tryz.zeroValue9
 t31 := Tryz.underlying23
 a31 := Tryz.isAgg23
 z31 := Tryz.sizeOf23
 v31 := Tryz.zeroValue23
 t46 := Tryz.underlying185
 a46 := Tryz.isAgg185
 z46 := Tryz.sizeOf185
 v46 := Tryz.zeroValue185
 t51 := Tryz.underlying193
 a51 := Tryz.isAgg193
 z51 := Tryz.sizeOf193
 v51 := Tryz.zeroValue193
 t53 := Tryz.underlying229
 a53 := Tryz.isAgg229
 z53 := Tryz.sizeOf229
 v53 := Tryz.zeroValue229
 t131 := Tryz.underlying139
 a131 := Tryz.isAgg139
 z131 := Tryz.sizeOf139
 v131 := Tryz.zeroValue139
 t182 := Tryz.underlying222
 a182 := Tryz.isAgg222
 z182 := Tryz.sizeOf222
 v182 := Tryz.zeroValue222
 t183 := Tryz.underlying223
 a183 := Tryz.isAgg223
 z183 := Tryz.sizeOf223
 v183 := Tryz.zeroValue223
 t218 := Tryz.underlying270
 a218 := Tryz.isAgg270
 z218 := Tryz.sizeOf270
 v218 := Tryz.zeroValue270
 t222 := Tryz.underlying274
 a222 := Tryz.isAgg274
 z222 := Tryz.sizeOf274
 v222 := Tryz.zeroValue274
 t228 := Tryz.underlying291
 a228 := Tryz.isAgg291
 z228 := Tryz.sizeOf291
 v228 := Tryz.zeroValue291
 t229 := Tryz.underlying292
 a229 := Tryz.isAgg292
 z229 := Tryz.sizeOf292
 v229 := Tryz.zeroValue292 }
def Tryz.laysSortI_ren : Go.Shelf.Ren := ⟨fun | 189 => 126 | 125 => 146 | 257 => 171 | 128 => 193 | 129 => 194 | 294 => 211 | 295 => 212 | 296 => 213 | 297 => 214 | 298 => 215 | 299 => 216 | 216 => 217 | 300 => 218 | 301 => 219 | 328 => 254 | 329 => 241 | 330 => 242 | 331 => 255 | 332 => 256 | 215 => 257 | 343 => 272 | n => n, fun | 28 => 99 | 3 => 3 | 46 => 185 | 0 => 0 | 51 => 193 | 53 => 229 | 4 => 4 | 183 => 223 | 182 => 222 | 131 => 139 | 5 => 5 | 9 => 9 | 218 => 270 | 222 => 274 | 228 => 291 | 229 => 292 | n => n, fun | n => n⟩
theorem Tryz.laysSortI : Go.Proofs.Lays.n189 Tryz.prog Tryz.laysSortI_ren := {
 mixed := by kernel_rfl
 f125 := Tryz.func146.trans (congrArg some (by kernel_rfl))
 f128 := Tryz.func193.trans (congrArg some (by kernel_rfl))
 f129 := Tryz.func194.trans (congrArg some (by kernel_rfl))
 f189 := Tryz.func126.trans (congrArg some (by kernel_rfl))
 f215 := Tryz.func257.trans (congrArg some (by kernel_rfl))
 f216 := Tryz.func217.trans (congrArg some (by kernel_rfl))
 f257 := Tryz.func171.trans (congrArg some (by kernel_rfl))
 f294 := Tryz.func211.trans (congrArg some (by kernel_rfl))
 f295 := Tryz.func212.trans (congrArg some (by kernel_rfl))
 f296 := Tryz.func213.trans (congrArg some (by kernel_rfl))
 f297 := Tryz.func214.trans (congrArg some (by kernel_rfl))
 f298 := Tryz.func215.trans (congrArg some (by kernel_rfl))
 f299 := Tryz.func216.trans (congrArg some (by kernel_rfl))
 f300 := Tryz.func218.trans (congrArg some (by kernel_rfl))
 f301 := Tryz.func219.trans (congrArg some (by kernel_rfl))
 f328 := Tryz.func254.trans (congrArg some (by kernel_rfl))
 f329 := Tryz.func241.trans (congrArg some (by kernel_rfl))
 f330 := Tryz.func242.trans (congrArg some (by kernel_rfl))
 f331 := Tryz.func255.trans (congrArg some (by kernel_rfl))
 f332 := Tryz.func256.trans (congrArg some (by kernel_rfl))
 f343 := Tryz.func272.trans (congrArg some (by kernel_rfl))
 t0 := Tryz.underlying0
 a0 := Tryz.isAgg0
 z0 := Tryz.sizeOf0
 v0 := Tryz.zeroValue0
 t3 := Tryz.underlying3
 a3 := Tryz.isAgg3
 z3 := Tryz.sizeOf3
 v3 := Tryz.zeroValue3
 t4 := Tryz.underlying4
 a4 := Tryz.isAgg4
 z4 := Tryz.sizeOf4
 v4 := Tryz.zeroValue4
 t5 := Tryz.underlying5
 a5 := Tryz.isAgg5
 z5 := Tryz.sizeOf5
 v5 := Tryz.zeroValue5
 t9 := Tryz.underlying9
 a9 := Tryz.isAgg9
 z9 := Tryz.sizeOf9
 v9 := Tryz.zeroValue9
 t28 := Tryz.underlying99
 a28 := Tryz.isAgg99
 z28 := Tryz.sizeOf99
 v28 := Tryz.zeroValue99
 t46 := Tryz.underlying185
 a46 := Tryz.isAgg185
 z46 := Tryz.sizeOf185
 v46 := Tryz.zeroValue185
 t51 := Tryz.underlying193
 a51 := Tryz.isAgg193
 z51 := Tryz.sizeOf193
 v51 := Tryz.zeroValue193
 t53 := Tryz.underlying229
 a53 := Tryz.isAgg229
 z53 := Tryz.sizeOf229
 v53 := Tryz.zeroValue229
 t131 := Tryz.underlying139
 a131 := Tryz.isAgg139
 z131 := Tryz.sizeOf139
 v131 := Tryz.zeroValue139
 t182 := Tryz.underlying222
 a182 := Tryz.isAgg222
 z182 := Tryz.sizeOf222
 v182 := Tryz.zeroValue222
 t183 := Tryz.underlying223
 a183 := Tryz.isAgg223
 z183 := Tryz.sizeOf223
 v183 := Tryz.zeroValue223
 t218 := Tryz.underlying270
 a218 := Tryz.isAgg270
 z218 := Tryz.sizeOf270
 v218 := Tryz.zeroValue270
 t222 := Tryz.underlying274
 a222 := Tryz.isAgg274
 z222 := Tryz.sizeOf274
 v222 := Tryz.zeroValue274
 t228 := Tryz.underlying291
 a228 := Tryz.isAgg291
 z228 := Tryz.sizeOf291
 v228 := Tryz.zeroValue291
 t229 := Tryz.underlying292
 a229 := Tryz.isAgg292
 z229 := Tryz.sizeOf292
 v229 := Tryz.zeroValue292 }
end Go.Proofs
namespace Go.Proofs
open Go.Shelf
namespace YtklgiidfompdpaaGreatDoor
open Go Go.Sl Go.Gv Go.Kv Go.Sort Go.Po
set_option maxRecDepth 100000
theorem grow2 (w : World) (o o' : Obj) : (w.alloc o).alloc o' = grow w #[o, o'] := by rw [alloc_eq_grow, alloc_eq_grow, grow_grow]; rfl
theorem before_exact (a1 a2 b1 b2 : Int) (w : World) : Calls Tryz.prog 137 #[.agg #[.int .i64 a1, .int .i64 a2], .agg #[.int .i64 b1, .int .i64 b2]] w fun e w' => e = .returned (.bool (before ⟨a1, a2⟩ ⟨b1, b2⟩)) ∧ ∃ os, w' = grow w os := by
 by_cases h : a1 = b1
 · go_enter Tryz.func137, Tryz.ntmps137
   subst h
   go_wp2
   go_ret
   exact ⟨by simp [before], _, grow2 ..⟩
 · go_enter Tryz.func137, Tryz.ntmps137
   go_wp2
   go_ret
   exact ⟨by simp [before, h], _, grow2 ..⟩
def Grw (w w' : World) : Prop := ∃ os, w' = grow w os
def Aft (a1 a2 b1 b2 : Int) (w w' : World) : Prop := Grw w w' ∧ w'.cell? ⟨w.heap.size, 0, none⟩ = some (.int .i64 a1) ∧ w'.cell? ⟨w.heap.size, 1, none⟩ = some (.int .i64 a2) ∧ w'.cell? ⟨w.heap.size + 1, 0, none⟩ = some (.int .i64 b1) ∧ w'.cell? ⟨w.heap.size + 1, 1, none⟩ = some (.int .i64 b2)
theorem heap2 (w : World) (o o' : Obj) : ((w.alloc o).alloc o').heap[w.heap.size]? = some o ∧ ((w.alloc o).alloc o').heap[w.heap.size + 1]? = some o' := by
 constructor
 · show ((w.heap.push o).push o')[w.heap.size]? = _
   rw [Array.getElem?_push_lt (by simp)]; simp
 · show ((w.heap.push o).push o')[w.heap.size + 1]? = _
   have : w.heap.size + 1 = (w.heap.push o).size := by simp
   rw [this, Array.getElem?_push_size]
theorem size2 (w : World) (o o' : Obj) : ((w.alloc o).alloc o').heap.size = w.heap.size + 2 := by show ((w.heap.push o).push o').size = _; simp
theorem aft_of (a1 a2 b1 b2 : Int) (w : World) (os : Array Obj) : Aft a1 a2 b1 b2 w (grow ((w.alloc (.cells #[.int .i64 a1, .int .i64 a2] 28)).alloc (.cells #[.int .i64 b1, .int .i64 b2] 28)) os) := by
 obtain ⟨h1, h2⟩ := heap2 w (.cells #[.int .i64 a1, .int .i64 a2] 28) (.cells #[.int .i64 b1, .int .i64 b2] 28)
 have hs := size2 w (.cells #[.int .i64 a1, .int .i64 a2] 28) (.cells #[.int .i64 b1, .int .i64 b2] 28)
 refine ⟨⟨_, by rw [grow2, grow_grow]⟩, ?_, ?_, ?_, ?_⟩
 · rw [cell?_grow _ _ _ (by rw [hs]; show w.heap.size < _; omega)]; unfold World.cell?; dsimp only; rw [h1]; rfl
 · rw [cell?_grow _ _ _ (by rw [hs]; show w.heap.size < _; omega)]; unfold World.cell?; dsimp only; rw [h1]; rfl
 · rw [cell?_grow _ _ _ (by rw [hs]; show w.heap.size + 1 < _; omega)]; unfold World.cell?; dsimp only; rw [h2]; rfl
 · rw [cell?_grow _ _ _ (by rw [hs]; show w.heap.size + 1 < _; omega)]; unfold World.cell?; dsimp only; rw [h2]; rfl
set_option maxHeartbeats 800000 in
theorem orderI_exact (a1 a2 b1 b2 : Int) (w : World) : Calls Tryz.prog 82 #[.agg #[.int .i64 a1, .int .i64 a2], .agg #[.int .i64 b1, .int .i64 b2]] w fun e w' => e = .returned (.int .i64 (ordZ ⟨a1, a2⟩ ⟨b1, b2⟩)) ∧ ∃ os, w' = grow w os := by
 have hB : Calls Tryz.prog 137 #[.agg #[.int .i64 a1, .int .i64 a2], .agg #[.int .i64 b1, .int .i64 b2]] ((w.alloc (.cells #[.int .i64 a1, .int .i64 a2] 28)).alloc (.cells #[.int .i64 b1, .int .i64 b2] 28)) fun e w' => e = .returned (.bool (before ⟨a1, a2⟩ ⟨b1, b2⟩)) ∧ Aft a1 a2 b1 b2 w w' := by
   refine (before_exact a1 a2 b1 b2 _).mono ?_
   rintro e w' ⟨h, os, rfl⟩
   exact ⟨h, aft_of ..⟩
 have hC := fun W => before_exact b1 b2 a1 a2 W
 unfold ordZ
 generalize before ⟨a1, a2⟩ ⟨b1, b2⟩ = B at hB ⊢
 generalize before ⟨b1, b2⟩ ⟨a1, a2⟩ = C at hC ⊢
 go_enter Tryz.func82, Tryz.ntmps82
 cases B
 · cases C
   · go_wp2_with (go_at_call 137; first | (with_reducible refine (hC _).mono ?_; rintro e w'' ⟨rfl, os2, rfl⟩) | (refine hB.mono ?_; rintro e w' ⟨rfl, hG, c0, c1, d0, d1⟩))
     go_ret
     obtain ⟨os, rfl⟩ := hG
     exact ⟨by simp, _, by rw [grow_grow]⟩
   · go_wp2_with (go_at_call 137; first | (with_reducible refine (hC _).mono ?_; rintro e w'' ⟨rfl, os2, rfl⟩) | (refine hB.mono ?_; rintro e w' ⟨rfl, hG, c0, c1, d0, d1⟩))
     go_ret
     obtain ⟨os, rfl⟩ := hG
     exact ⟨by simp, _, by rw [grow_grow]⟩
 · go_wp2_with (go_at_call 137; refine hB.mono ?_; rintro e w' ⟨rfl, hG, c0, c1, d0, d1⟩)
   go_ret
   obtain ⟨os, rfl⟩ := hG
   exact ⟨by simp, _, rfl⟩
theorem prefix1_exact (a1 a2 b1 b2 : Int) (u v : Value) (hu : u.oneCell' = true) (hv : v.oneCell' = true) (w : World) : Calls Tryz.prog 128 #[.agg #[.int .i64 a1, .int .i64 a2, u], .agg #[.int .i64 b1, .int .i64 b2, v]] w fun e w' => e = .returned (.int .i64 (ordZ ⟨a1, a2⟩ ⟨b1, b2⟩)) ∧ ∃ os, w' = grow w os := by
 have hB := fun W => orderI_exact a1 a2 b1 b2 W
 go_enter Tryz.func128, Tryz.ntmps128
 go_wp2_with (go_at_call 82; refine (hB _).mono ?_; rintro e w' ⟨rfl, os, rfl⟩)
 go_ret
 exact ⟨by simp, _, by rw [grow2, grow_grow]⟩
end YtklgiidfompdpaaGreatDoor
end Go.Proofs
