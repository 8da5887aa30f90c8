/- What the closing leans on: part 6. -/
import Derived.Test.YtklgiidfompdpaaGreatDoorXe
import Derived.Test.YtklgiidfompdpaaGreatDoorXc
import Derived.Test.YtklgiidfompdpaaGreatDoorXd
import Derived.Test.YtklgiidfompdpaaGreatDoorXb
namespace Go.Proofs.YtklgiidfompdpaaGreatDoor
open Go Go.Sl Go.Gv Go.Po
set_option maxRecDepth 100000
theorem kt_28 : KeyT Tryz.prog 28 keyV :=
  KeyT.struct Tryz.underlying28 cmp_28 (by decide) (fun e k w => check_struct Tryz.underlying28 (by
    intro f hf
    simp only [List.mem_cons, List.not_mem_nil, or_false] at hf
    rcases hf with rfl | rfl
    · exact ⟨_, part_na na_3 rfl, check_int Tryz.underlying3⟩
    · exact ⟨_, part_na na_3 rfl, check_int Tryz.underlying3⟩)) (fun k => by simp [Instr.sameBits])
theorem cmp_30 : CmpT Tryz.prog 30 (fun p : Int × Int => .agg #[.int .i64 p.1, .int .i64 p.2]) 2 :=
  cmp_ii Tryz.underlying30 Tryz.stoodInHeld30 ⟨by decide, by decide⟩ ⟨⟨rfl, rfl⟩, rfl, rfl⟩ Tryz.underlying3 na_3
theorem cmp_32 : CmpT Tryz.prog 32 recV 3 :=
  CmpT.of (fun r : Rec => (r.o, r.q, r.w, r.c, r.t)) (fun a b => by cases a; cases b; simp) (fun _ => rfl)
    (cmp_iiiis Tryz.underlying32 Tryz.stoodInHeld32 ⟨by decide, by decide, by decide⟩ ⟨⟨rfl, rfl, rfl⟩, rfl, rfl, rfl⟩
      (cmp_ii Tryz.underlying28 Tryz.stoodInHeld28 ⟨by decide, by decide⟩ ⟨⟨rfl, rfl⟩, rfl, rfl⟩ Tryz.underlying3 na_3) ag_28 cmp_30 ag_30 Tryz.underlying9 na_9)
abbrev enck_28 : Key → Value := keyV
abbrev encv_32 : Rec → Value := recV
theorem zvk_32 : ZV Tryz.prog 32 (recV Rec.zero) := zv_32
abbrev encC_32 : Rec → List Value := recC
theorem ek_32 : EncOk 5 recC := ⟨fun _ => rfl, fun x v hv => by
  simp only [recC, List.mem_cons, List.not_mem_nil, or_false] at hv
  rcases hv with rfl | rfl | rfl | rfl | rfl <;> rfl⟩
end Go.Proofs.YtklgiidfompdpaaGreatDoor
namespace Go.Proofs.YtklgiidfompdpaaGreatDoor
open Go Go.Sl Go.Gv
set_option maxRecDepth 100000
end Go.Proofs.YtklgiidfompdpaaGreatDoor
namespace Go.Proofs.YtklgiidfompdpaaGreatDoor
open Go Go.Sl Go.Gv
set_option maxRecDepth 100000
end Go.Proofs.YtklgiidfompdpaaGreatDoor
namespace Go.Proofs.YtklgiidfompdpaaGreatDoor
open Go Go.Sl Go.Gv Go.Po
set_option maxRecDepth 100000
def lessK (xs ys : List Key) : List Key := xs.filter fun k => !decide (k ∈ ys)
theorem less_t {xs ys : List Key} {i : Nat} {k : Key} (h : xs[i]? = some k) (hk : k ∉ ys) : lessK (xs.take (i + 1)) ys = lessK (xs.take i) ys ++ [k] := by
  rw [List.take_add_one, h]; simp [lessK, hk]
theorem less_f {xs ys : List Key} {i : Nat} {k : Key} (h : xs[i]? = some k) (hk : k ∈ ys) : lessK (xs.take (i + 1)) ys = lessK (xs.take i) ys := by
  rw [List.take_add_one, h]; simp [lessK, hk]
theorem less_le (xs ys : List Key) : (lessK xs ys).length ≤ xs.length := List.length_filter_le ..
theorem indexK_spec {S : HProp} {a : Option Addr} {c : Nat} {ys : List Key} (hS : Srd S 2 keyC a ys) (hl : ys.length ≤ 100000) (k : Key) :
    Ct Tryz.prog 179 [.slice a ys.length c, keyV k] [S] (fun v hs => (∃ z : Int, v = int z ∧ decide (0 ≤ z) = decide (k ∈ ys)) ∧ hs = [S]) := by
  refine Ct.intro Tryz.func179 rfl (by kernel_rfl) 19 Tryz.ntmps179 (Nat.le_of_ble_eq_true rfl) fun w0 R => ?_
  refine Gs.slAddr (hS.h (by repeat constructor)) fun ab ao ha => ?_
  refine Gsr ?_
  refine Lac rfl rfl trivial (ac_box rfl rfl) ?_
  rintro _ _ ⟨kb, rfl, rfl⟩
  refine Las rfl rfl ?_
  refine Lnt ?_
  refine Gs.seq ?_
  refine Gsr ?_
  refine Lmv rfl rfl ?_
  refine Lpu rfl rfl trivial (pu_len Tryz.underlying48 rfl) ?_
  refine Lmv rfl rfl ?_
  refine Lnt ?_
  refine Gs.block ?_
  refine Gs.loop1 (fun i : Nat => i ≤ ys.length ∧ k ∉ ys.take i) (fun i => [(0, .slice a ys.length c), (3, ptr kb), (7, int ys.length), (8, int i)]) (fun i => [S, cl kb 28 (keyC k)] ++ R) (fun i => ys.length - i) 0 (⟨Nat.zero_le _, by simp⟩) (by repeat constructor) (by repeat constructor) (fun i ⟨hi, hq⟩ => ?_)
  refine Gsr ?_
  refine Lpu rfl rfl trivial (pu_lt rfl rfl) ?_
  refine Lnt ?_
  refine Gs.seq ?_
  refine Gs.cond rfl (fun hc0 => ?_) (fun hc0 => ?_)
  ·
   have hlt : i < ys.length := by have := of_decide_eq_true hc0; omega
   obtain ⟨x, hx⟩ : ∃ x, ys[i]? = some x := ⟨ys[i], by simp [hlt]⟩
   obtain rfl := ha (by rintro rfl; simp at hlt)
   refine Gs.skip ?_
   refine Gs.then_n ?_
   refine Gs.seq ?_
   refine Gs.block ?_
   refine Gsr ?_
   refine Lmv rfl rfl ?_
   refine Las rfl rfl ?_
   refine Lnt ?_
   refine Gs.seq ?_
   refine Gs.regD mixed (by kernel_rfl) ?_
   refine Rg.rd 0 rfl rfl (by kernel_rfl) trivial (rd_lda ag_28 rfl (Rdc.cl 2 (by repeat constructor) rfl) rfl) ?_
   refine Rg.pu 1 rfl rfl (by kernel_rfl) trivial (pu_move rfl) ?_
   refine Rg.pu 2 rfl rfl (by kernel_rfl) trivial (pu_move rfl) ?_
   refine Rg.pu 3 rfl rfl (by kernel_rfl) trivial (pu_ia se_48 rfl rfl (by omega) (by omega)) ?_
   refine Rg.rd 4 rfl rfl (by kernel_rfl) trivial (rd_lda ag_28 rfl (Rdc.el0 (hS.h (by repeat constructor)) hx rfl rfl) rfl) ?_
   refine Rg.pu 5 rfl rfl (by kernel_rfl) trivial (pu_eqT (a := k) (b := x) cmp_28 (by decide) Tryz.eqGuardType28 rfl rfl) ?_
   refine Rg.end (by kernel_rfl) ?_
   refine Gs.then_n ?_
   refine Gs.cond rfl (fun hc1 => ?_) (fun hc1 => ?_)
   ·
    have hyes : k ∈ ys := by have : k = x := of_decide_eq_true hc1; rw [this]; exact List.mem_of_getElem? hx
    refine Gsr ?_
    refine Lmv rfl rfl ?_
    refine Las rfl rfl ?_
    refine Lnt ?_
    refine Gs.ret ?_
    refine Gs.blk_r ?_
    refine Gs.then_r ?_
    refine Gs.then_r ?_
    refine Gs.blk_r ?_
    refine Gs.then_r ?_
    exact Gs.fin1 Tryz.results179 rfl _ (⟨⟨_, rfl, by rw [decide_eq_true hyes]; exact decide_eq_true (by omega)⟩, rfl⟩) (by repeat constructor)
   ·
    have hno : k ∉ ys.take (i + 1) := by rw [List.take_add_one, hx]; intro hm; rcases List.mem_append.1 hm with hm | hm; exact hq hm; have h2 : k ≠ x := of_decide_eq_false hc1; simp at hm; exact h2 hm
    refine Gs.skip ?_
    refine Gs.blk_n ?_
    refine Gs.then_n ?_
    refine Gs.reg ?_
    refine Lpu rfl rfl trivial (by first | exact pu_addI rfl rfl rfl (by omega) (by omega) | exact pu_add rfl rfl) ?_
    refine Lmv rfl rfl ?_
    refine Lnt ?_
    exact Gs.again1 (i + 1) ⟨hlt, hno⟩ (by omega) (by repeat constructor) (by repeat constructor)
  ·
   have hge : i = ys.length := by have := of_decide_eq_false hc0; omega
   rw [hge, List.take_length] at hq
   refine Gs.exit ?_
   refine Gs.then_x ?_
   refine Gs.then_x ?_
   refine Gs.blk_hit ?_
   refine Gs.then_n ?_
   refine Gsr ?_
   refine Las rfl rfl ?_
   refine Lnt ?_
   refine Gs.ret ?_
   exact Gs.fin1 Tryz.results179 rfl _ (⟨⟨_, rfl, by rw [decide_eq_false hq]; rfl⟩, rfl⟩) (by repeat constructor)
theorem containsK_spec {S : HProp} {a : Option Addr} {c : Nat} {ys : List Key} (hS : Srd S 2 keyC a ys) (hl : ys.length ≤ 100000) (k : Key) :
    Ct Tryz.prog 133 [.slice a ys.length c, keyV k] [S] (fun v hs => v = .bool (decide (k ∈ ys)) ∧ hs = [S]) := by
  refine Ct.intro Tryz.func133 rfl (by kernel_rfl) 9 Tryz.ntmps133 (Nat.le_of_ble_eq_true rfl) fun w0 R => ?_
  refine Gsr ?_
  refine Lac rfl rfl trivial (ac_box rfl rfl) ?_
  rintro _ _ ⟨kb, rfl, rfl⟩
  refine Las rfl rfl ?_
  refine Lnt ?_
  refine Gsr ?_
  refine Lmv rfl rfl ?_
  refine Lrd rfl rfl trivial (rd_lda ag_28 rfl (Rdc.cl 2 (by repeat constructor) rfl) rfl) ?_
  refine Lac rfl rfl trivial (as_call (indexK_spec hS hl k) (by repeat constructor) (by repeat constructor)) ?_
  rintro _ _ ⟨_, ⟨⟨z, rfl, hz⟩, rfl⟩, rfl⟩
  refine Lpu rfl rfl trivial (pu_ge rfl rfl) ?_
  refine Las rfl rfl ?_
  refine Lnt ?_
  refine Gs.ret ?_
  exact Gs.fin1 Tryz.results133 rfl _ (⟨by rw [← hz], rfl⟩) (by repeat constructor)
theorem pless_spec {S : HProp} {a b : Option Addr} {c d : Nat} {xs ys : List Key} (hS : Srd S 2 keyC a xs) (hU : Srd S 2 keyC b ys) (hl : xs.length ≤ 100000) (hm : ys.length ≤ 100000) :
    Ct Tryz.prog 79 [.slice a xs.length c, .slice b ys.length d] [S] (fun v hs => ∃ a' c', v = .slice a' (lessK xs ys).length c' ∧ hs = [S, sl 28 2 keyC a' c' (lessK xs ys)]) := by
  refine Ct.intro Tryz.func79 rfl (by kernel_rfl) 24 Tryz.ntmps79 (Nat.le_of_ble_eq_true rfl) fun w0 R => ?_
  refine Gs.slAddr (hS.h (by repeat constructor)) fun ab ao ha => ?_
  refine Gsr ?_
  refine Las rfl rfl ?_
  refine Lnt ?_
  refine Gsr ?_
  refine Las rfl rfl ?_
  refine Lnil ?_
  refine Gs.slNil 28 2 keyC ?_
  refine Gs.then_n ?_
  refine Gs.seq ?_
  refine Gsr ?_
  refine Lmv rfl rfl ?_
  refine Lpu rfl rfl trivial (pu_len Tryz.underlying48 rfl) ?_
  refine Lmv rfl rfl ?_
  refine Lnt ?_
  refine Gs.block ?_
  refine Gs.loop1 (fun s : Nat × (Option Addr × Nat) × List Key => s.1 ≤ xs.length ∧ s.2.2 = lessK (xs.take s.1) ys) (fun s => [(1, .slice b ys.length d), (5, .slice s.2.1.1 s.2.2.length s.2.1.2), (8, .slice a xs.length c), (9, int xs.length), (10, int s.1)]) (fun s => [S, sl 28 2 keyC s.2.1.1 s.2.1.2 s.2.2] ++ R) (fun s => xs.length - s.1) (0, (none, 0), []) (⟨Nat.zero_le _, rfl⟩) (by repeat constructor) (by repeat constructor) (fun s hs => ?_)
  obtain ⟨i, ⟨ka, kc⟩, K⟩ := s
  obtain ⟨hi, hK⟩ := hs
  dsimp only at hi hK ⊢
  have hKl : K.length ≤ 100000 := by rw [hK]; refine Nat.le_trans (less_le _ _) ?_; rw [List.length_take]; omega
  refine Gsr ?_
  refine Lpu rfl rfl trivial (pu_lt rfl rfl) ?_
  refine Lnt ?_
  refine Gs.seq ?_
  refine Gs.cond rfl (fun hc0 => ?_) (fun hc0 => ?_)
  ·
   have hlt : i < xs.length := by have := of_decide_eq_true hc0; omega
   obtain ⟨k, hk⟩ : ∃ x, xs[i]? = some x := ⟨xs[i], by simp [hlt]⟩
   obtain rfl := ha (by rintro rfl; simp at hlt)
   refine Gs.skip ?_
   refine Gs.then_n ?_
   refine Gs.seq ?_
   refine Gs.block ?_
   refine Gsr ?_
   refine Lpu rfl rfl trivial (pu_ia se_48 rfl rfl (by omega) (by omega)) ?_
   refine Lrd rfl rfl trivial (rd_lda ag_28 rfl (Rdc.el0 (hS.h (by repeat constructor)) hk rfl rfl) rfl) ?_
   refine Lac rfl rfl trivial (ac_alloc zv_28 rfl) ?_
   rintro _ _ ⟨kb, rfl, rfl⟩
   refine Lac0 rfl trivial (ac_st sz_28 rfl rfl (by repeat constructor) rfl rfl rfl rfl) ?_
   rintro _ _ rfl
   refine Lnt ?_
   refine Gsr ?_
   refine Lmv rfl rfl ?_
   refine Lrd rfl rfl trivial (rd_lda ag_28 rfl (Rdc.cl 2 (by repeat constructor) rfl) rfl) ?_
   refine Lac rfl rfl trivial (as_call (containsK_spec hU hm k) (by repeat constructor) (by repeat constructor)) ?_
   rintro _ _ ⟨_, ⟨rfl, rfl⟩, rfl⟩
   refine Lpu rfl rfl trivial (pu_not rfl) ?_
   refine Lnt ?_
   refine Gs.cond rfl (fun hc1 => ?_) (fun hc1 => ?_)
   ·
    have hin : K ++ [k] = lessK (xs.take (i + 1)) ys := by rw [hK, less_t hk (of_decide_eq_false (not_t hc1))]
    refine Gs.reg ?_
    refine Lmv rfl rfl ?_
    refine Lrd rfl rfl trivial (rd_lda ag_28 rfl (Rdc.cl 2 (by repeat constructor) rfl) rfl) ?_
    refine Lac rfl rfl trivial (ac_lit encC_28 ([k]) et_48 ek_28 rfl (by repeat constructor) rfl rfl (by decide)) ?_
    rintro _ _ ⟨a20, rfl, rfl⟩
    refine Lac rfl rfl trivial (ac_append (xs := K) (ys := [k]) et_48 ek_28 rfl rfl (by repeat constructor) (SrcH.sl Tryz.underlying48 ek_28 (SlH.own (by repeat constructor))) (by first | omega | (simp; omega)) (by first | omega | (simp; omega))) ?_
    rintro _ _ ⟨a21, c21, rfl, rfl⟩
    refine Las rfl rfl ?_
    refine Lnil ?_
    refine Gs.blk_n ?_
    refine Gs.then_n ?_
    refine Gs.reg ?_
    refine Lpu rfl rfl trivial (by first | exact pu_addI rfl rfl rfl (by omega) (by omega) | exact pu_add rfl rfl) ?_
    refine Lmv rfl rfl ?_
    refine Lnt ?_
    first | exact Gs.again1 (i + 1, (a21, c21), K ++ [k]) ⟨by show i + 1 ≤ xs.length; omega, hin⟩ (by show xs.length - (i + 1) < xs.length - i; omega) (by repeat constructor) (by repeat constructor) | exact Gs.again1 (i + 1, (ka, kc), K) ⟨by show i + 1 ≤ xs.length; omega, hin⟩ (by show xs.length - (i + 1) < xs.length - i; omega) (by repeat constructor) (by repeat constructor)
   ·
    have hin : K = lessK (xs.take (i + 1)) ys := by rw [hK, less_f hk (of_decide_eq_true (not_f hc1))]
    refine Gs.skip ?_
    refine Gs.blk_n ?_
    refine Gs.then_n ?_
    refine Gs.reg ?_
    refine Lpu rfl rfl trivial (by first | exact pu_addI rfl rfl rfl (by omega) (by omega) | exact pu_add rfl rfl) ?_
    refine Lmv rfl rfl ?_
    refine Lnt ?_
    first | exact Gs.again1 (i + 1, (a21, c21), K ++ [k]) ⟨by show i + 1 ≤ xs.length; omega, hin⟩ (by show xs.length - (i + 1) < xs.length - i; omega) (by repeat constructor) (by repeat constructor) | exact Gs.again1 (i + 1, (ka, kc), K) ⟨by show i + 1 ≤ xs.length; omega, hin⟩ (by show xs.length - (i + 1) < xs.length - i; omega) (by repeat constructor) (by repeat constructor)
  ·
   have hge : i = xs.length := by have := of_decide_eq_false hc0; omega
   rw [hge, List.take_length] at hK
   subst hK
   refine Gs.exit ?_
   refine Gs.then_x ?_
   refine Gs.then_x ?_
   refine Gs.blk_hit ?_
   refine Gs.then_n ?_
   refine Gsr ?_
   refine Lmv rfl rfl ?_
   refine Las rfl rfl ?_
   refine Lnt ?_
   refine Gs.ret ?_
   exact Gs.fin1 Tryz.results79 rfl _ (⟨ka, kc, rfl, rfl⟩) (by repeat constructor)
end Go.Proofs.YtklgiidfompdpaaGreatDoor
namespace Go.Proofs.YtklgiidfompdpaaGreatDoor
open Go Go.Sl Go.Gv Go.Po
set_option maxRecDepth 100000
theorem sameKeys_spec {S : HProp} {a b : Option Addr} {c d : Nat} {xs ys : List Key} (hS : Srd S 2 keyC a xs) (hU : Srd S 2 keyC b ys) (hl : xs.length ≤ 1000000) :
    Ct Tryz.prog 23 [.slice a xs.length c, .slice b ys.length d] [S] (fun v hs => v = .bool (decide (xs = ys)) ∧ hs = [S]) := by
  refine Ct.intro Tryz.func23 rfl (by kernel_rfl) 26 Tryz.ntmps23 (Nat.le_of_ble_eq_true rfl) fun w0 R => ?_
  refine Gs.slAddr (hS.h (by repeat constructor)) fun ab ao ha => ?_
  refine Gs.slAddr (hU.h (by repeat constructor)) fun ub uo hu => ?_
  refine Gsr ?_
  refine Las rfl rfl ?_
  refine Lnt ?_
  refine Gs.seq ?_
  refine Gsr ?_
  refine Lmv rfl rfl ?_
  refine Lpu rfl rfl trivial (pu_len Tryz.underlying48 rfl) ?_
  refine Lmv rfl rfl ?_
  refine Lpu rfl rfl trivial (pu_len Tryz.underlying48 rfl) ?_
  refine Lpu rfl rfl trivial (pu_ne rfl rfl) ?_
  refine Lnt ?_
  refine Gs.cond rfl (fun hc0 => ?_) (fun hc0 => ?_)
  ·
   have hne : ¬ xs = ys := fun e => by have := of_decide_eq_true hc0; rw [e] at this; exact this rfl
   refine Gsr ?_
   refine Las rfl rfl ?_
   refine Lnt ?_
   refine Gs.ret ?_
   refine Gs.then_r ?_
   exact Gs.fin1 Tryz.results23 rfl _ (⟨by rw [decide_eq_false hne], rfl⟩) (by repeat constructor)
  ·
   have hle : xs.length = ys.length := by have := of_decide_eq_false hc0; omega
   refine Gs.skip ?_
   refine Gs.then_n ?_
   refine Gs.seq ?_
   refine Gsr ?_
   refine Las rfl rfl ?_
   refine Lnt ?_
   refine Gs.block ?_
   refine Gs.loop1 (fun i : Nat => i ≤ xs.length ∧ xs.take i = ys.take i) (fun i => [(0, .slice a xs.length c), (1, .slice b ys.length d), (5, int i)]) (fun i => [S] ++ R) (fun i => xs.length - i) 0 (⟨Nat.zero_le _, rfl⟩) (by repeat constructor) (by repeat constructor) (fun i ⟨hi, ht⟩ => ?_)
   refine Gs.seq ?_
   refine Gsr ?_
   refine Lmv rfl rfl ?_
   refine Lmv rfl rfl ?_
   refine Lpu rfl rfl trivial (pu_len Tryz.underlying48 rfl) ?_
   refine Lpu rfl rfl trivial (pu_lt rfl rfl) ?_
   refine Lnt ?_
   refine Gs.cond rfl (fun hc1 => ?_) (fun hc1 => ?_)
   ·
    have hlt : i < xs.length := by have := of_decide_eq_true hc1; omega
    obtain ⟨x, hx⟩ : ∃ x, xs[i]? = some x := ⟨xs[i], by simp [hlt]⟩
    obtain ⟨y, hy⟩ : ∃ x, ys[i]? = some x := ⟨ys[i]'(by omega), by simp [← hle, hlt]⟩
    obtain rfl := ha (by rintro rfl; simp at hlt)
    obtain rfl := hu (by rintro rfl; simp at hy)
    refine Gs.skip ?_
    refine Gs.then_n ?_
    refine Gs.seq ?_
    refine Gs.block ?_
    refine Gs.seq ?_
    refine Gs.regD mixed (by kernel_rfl) ?_
    refine Rg.pu 0 rfl rfl (by kernel_rfl) trivial (pu_move rfl) ?_
    refine Rg.pu 1 rfl rfl (by kernel_rfl) trivial (pu_move rfl) ?_
    refine Rg.pu 2 rfl rfl (by kernel_rfl) trivial (pu_ia se_48 rfl rfl (by omega) (by omega)) ?_
    refine Rg.rd 3 rfl rfl (by kernel_rfl) trivial (rd_lda ag_28 rfl (Rdc.el0 (hS.h (by repeat constructor)) hx rfl rfl) rfl) ?_
    refine Rg.pu 4 rfl rfl (by kernel_rfl) trivial (pu_move rfl) ?_
    refine Rg.pu 5 rfl rfl (by kernel_rfl) trivial (pu_move rfl) ?_
    refine Rg.pu 6 rfl rfl (by kernel_rfl) trivial (pu_ia se_48 rfl rfl (by omega) (by omega)) ?_
    refine Rg.rd 7 rfl rfl (by kernel_rfl) trivial (rd_lda ag_28 rfl (Rdc.el0 (hU.h (by repeat constructor)) hy rfl rfl) rfl) ?_
    refine Rg.pu 8 rfl rfl (by kernel_rfl) trivial (pu_neT (a := x) (b := y) cmp_28 (by decide) Tryz.eqGuardType28 rfl rfl) ?_
    refine Rg.end (by kernel_rfl) ?_
    refine Gs.then_n ?_
    refine Gs.cond rfl (fun hc2 => ?_) (fun hc2 => ?_)
    ·
     have hne : ¬ xs = ys := fun e => by have := of_decide_eq_true hc2; rw [e, hy] at hx; exact this (Option.some.inj hx).symm
     refine Gsr ?_
     refine Las rfl rfl ?_
     refine Lnt ?_
     refine Gs.ret ?_
     refine Gs.blk_r ?_
     refine Gs.then_r ?_
     refine Gs.then_r ?_
     refine Gs.blk_r ?_
     refine Gs.then_r ?_
     exact Gs.fin1 Tryz.results23 rfl _ (⟨by rw [decide_eq_false hne], rfl⟩) (by repeat constructor)
    ·
     have hxy : x = y := by have := of_decide_eq_false hc2; exact Decidable.not_not.1 this
     refine Gs.skip ?_
     refine Gs.blk_n ?_
     refine Gs.then_n ?_
     refine Gs.reg ?_
     refine Lmv rfl rfl ?_
     refine Lpu rfl rfl trivial (by first | exact pu_addI rfl rfl rfl (by omega) (by omega) | exact pu_add rfl rfl) ?_
     refine Las rfl rfl ?_
     refine Lnt ?_
     exact Gs.again1 (i + 1) ⟨by omega, by rw [List.take_add_one, List.take_add_one, ht, hx, hy, hxy]⟩ (by omega) (by repeat constructor) (by repeat constructor)
   ·
    have hge : i = xs.length := by have := of_decide_eq_false hc1; omega
    have heq : xs = ys := by rw [hge, List.take_length, hle, List.take_length] at ht; exact ht
    refine Gs.exit ?_
    refine Gs.then_x ?_
    refine Gs.then_x ?_
    refine Gs.blk_hit ?_
    refine Gs.then_n ?_
    refine Gsr ?_
    refine Las rfl rfl ?_
    refine Lnt ?_
    refine Gs.ret ?_
    exact Gs.fin1 Tryz.results23 rfl _ (⟨by rw [decide_eq_true heq], rfl⟩) (by repeat constructor)
end Go.Proofs.YtklgiidfompdpaaGreatDoor
namespace Go.Proofs.YtklgiidfompdpaaGreatDoor
open Go Go.Sl Go.Gv Go.Po
set_option maxRecDepth 100000
theorem cloneI_spec {S : HProp} {a : Option Addr} {c : Nat} {l : List Int} (hS : Srd S 1 intC a l) (hl : l.length ≤ 100000) :
    Ct Tryz.prog 100 [.slice a l.length c] [S] (fun v hs => ∃ a' c', v = .slice a' l.length c' ∧ hs = [S, sl 3 1 intC a' c' l]) := by
  refine Ct.intro Tryz.func100 rfl (by kernel_rfl) 8 Tryz.ntmps100 (Nat.le_of_ble_eq_true rfl) fun w0 R => ?_
  refine Gs.slAddr (hS.h (by repeat constructor)) fun ab ao ha => ?_
  refine Gsr ?_
  refine Las rfl rfl ?_
  refine Lnt ?_
  refine Gs.seq ?_
  refine Gsr ?_
  refine Lmv rfl rfl ?_
  refine Lpu rfl rfl trivial (pu_eqL Tryz.underlying99 rfl rfl) ?_
  refine Lnt ?_
  refine Gs.cond rfl (fun hc0 => ?_) (fun hc0 => ?_)
  ·
   have hnil : l = [] := Classical.byContradiction fun h => by rw [ha h] at hc0; cases hc0
   refine Gs.slNil 3 1 intC ?_
   refine Gsr ?_
   refine Las rfl rfl ?_
   refine Lnt ?_
   refine Gs.ret ?_
   refine Gs.then_r ?_
   exact Gs.fin1 Tryz.results100 rfl _ (⟨none, 0, by rw [hnil]; rfl, by rw [hnil]⟩) (by repeat constructor)
  ·
   refine Gs.skip ?_
   refine Gs.then_n ?_
   refine Gsr ?_
   refine Lac rfl rfl trivial (ac_lit encC_3 (([] : List Int)) et_99 ek_3 rfl (by repeat constructor) rfl rfl (by decide)) ?_
   rintro _ _ ⟨a5, rfl, rfl⟩
   refine Lmv rfl rfl ?_
   refine Lac rfl rfl trivial (ac_append (xs := ([] : List Int)) (ys := l) et_99 ek_3 rfl rfl (by repeat constructor) (SrcH.sl Tryz.underlying99 ek_3 (hS.h (by repeat constructor))) (by simp; omega) (by simp; omega)) ?_
   rintro _ _ ⟨a7, c7, rfl, rfl⟩
   refine Las rfl rfl ?_
   refine Lnt ?_
   refine Gs.ret ?_
   exact Gs.fin1 Tryz.results100 rfl _ (⟨a7, c7, rfl, rfl⟩) (by repeat constructor)
theorem cloneP_spec {S : HProp} {a : Option Addr} {c : Nat} {l : List PostV} (hS : Srd S 3 postC a l) (hl : l.length ≤ 100000) :
    Ct Tryz.prog 89 [.slice a l.length c] [S] (fun v hs => ∃ a' c', v = .slice a' l.length c' ∧ hs = [S, sl 106 3 postC a' c' l]) := by
  refine Ct.intro Tryz.func89 rfl (by kernel_rfl) 8 Tryz.ntmps89 (Nat.le_of_ble_eq_true rfl) fun w0 R => ?_
  refine Gs.slAddr (hS.h (by repeat constructor)) fun ab ao ha => ?_
  refine Gsr ?_
  refine Las rfl rfl ?_
  refine Lnt ?_
  refine Gs.seq ?_
  refine Gsr ?_
  refine Lmv rfl rfl ?_
  refine Lpu rfl rfl trivial (pu_eqL Tryz.underlying94 rfl rfl) ?_
  refine Lnt ?_
  refine Gs.cond rfl (fun hc0 => ?_) (fun hc0 => ?_)
  ·
   have hnil : l = [] := Classical.byContradiction fun h => by rw [ha h] at hc0; cases hc0
   refine Gs.slNil 106 3 postC ?_
   refine Gsr ?_
   refine Las rfl rfl ?_
   refine Lnt ?_
   refine Gs.ret ?_
   refine Gs.then_r ?_
   exact Gs.fin1 Tryz.results89 rfl _ (⟨none, 0, by rw [hnil]; rfl, by rw [hnil]⟩) (by repeat constructor)
  ·
   refine Gs.skip ?_
   refine Gs.then_n ?_
   refine Gsr ?_
   refine Lac rfl rfl trivial (ac_lit encC_106 (([] : List PostV)) et_94 ek_106 rfl (by repeat constructor) rfl rfl (by decide)) ?_
   rintro _ _ ⟨a5, rfl, rfl⟩
   refine Lmv rfl rfl ?_
   refine Lac rfl rfl trivial (ac_append (xs := ([] : List PostV)) (ys := l) et_94 ek_106 rfl rfl (by repeat constructor) (SrcH.sl Tryz.underlying94 ek_106 (hS.h (by repeat constructor))) (by simp; omega) (by simp; omega)) ?_
   rintro _ _ ⟨a7, c7, rfl, rfl⟩
   refine Las rfl rfl ?_
   refine Lnt ?_
   refine Gs.ret ?_
   exact Gs.fin1 Tryz.results89 rfl _ (⟨a7, c7, rfl, rfl⟩) (by repeat constructor)
end Go.Proofs.YtklgiidfompdpaaGreatDoor
namespace Go.Proofs.YtklgiidfompdpaaGreatDoor
open Go Go.Sl Go.Gv Go.Po
set_option maxRecDepth 100000
/-- A post's places, owned. -/
def atO (p : PostV) : HProp := sl 3 1 intC p.t.a p.t.c p.t.xs
/-- A list of posts, owned, its places too. -/
def plO (a : Option Addr) (c : Nat) (ps : List PostV) : HProp := two (sl 106 3 postC a c ps) (big (ps.map atO))
theorem prd_plO {a : Option Addr} {c : Nat} {ps : List PostV} (h : ∀ p ∈ ps, p.t.xs.length ≤ 1000) : PRd (plO a c ps) a ps :=
  ⟨Srd.two1 Srd.own, fun p hp => ⟨Srd.two2 (Srd.bigs (A := atO p) Srd.own (List.mem_map.2 ⟨p, hp, rfl⟩)), h p hp⟩⟩
theorem own_spec {S : HProp} {a : Option Addr} {c : Nat} {ps : List PostV} (hS : PRd S a ps) (hl : ps.length ≤ 1000) :
    Ct Tryz.prog 87 [.slice a ps.length c] [S] (fun v hs => ∃ a' c' qs, v = .slice a' qs.length c' ∧ plain1 qs = plain1 ps ∧ hs = [S, plO a' c' qs]) := by
  refine Ct.intro Tryz.func87 rfl (by kernel_rfl) 23 Tryz.ntmps87 (Nat.le_of_ble_eq_true rfl) fun w0 R => ?_
  refine Gsr ?_
  refine Las rfl rfl ?_
  refine Lnt ?_
  refine Gsr ?_
  refine Lmv rfl rfl ?_
  refine Lac rfl rfl trivial (as_call (cloneP_spec hS.1 (by omega)) (by repeat constructor) (by repeat constructor)) ?_
  rintro _ _ ⟨_, ⟨na, nc, rfl, rfl⟩, rfl⟩
  refine Las rfl rfl ?_
  refine Lnt ?_
  refine Gs.seq ?_
  refine Gsr ?_
  refine Lmv rfl rfl ?_
  refine Lpu rfl rfl trivial (pu_len Tryz.underlying94 rfl) ?_
  refine Lmv rfl rfl ?_
  refine Lnil ?_
  refine Gs.bigNil ?_
  refine Gs.slAddr (xs := ps) (SlH.own (E := 106) (enc := postC) (by repeat constructor)) fun ab ao ha => ?_
  refine Gs.then_n ?_
  refine Gs.block ?_
  refine Gs.loop1 (fun s : Nat × List PostV => s.1 ≤ ps.length ∧ plain1 s.2 = plain1 ps ∧ s.2.drop s.1 = ps.drop s.1) (fun s => [(0, .slice na ps.length nc), (7, int ps.length), (8, int s.1)]) (fun s => [S, sl 106 3 postC na nc s.2, big ((s.2.take s.1).map atO)] ++ R) (fun s => ps.length - s.1) (0, ps) (⟨Nat.zero_le _, rfl, rfl⟩) (by repeat constructor) (by repeat constructor) (fun s hs => ?_)
  obtain ⟨i, qs⟩ := s
  obtain ⟨hi, hq, hd⟩ := hs
  dsimp only at hi hq hd ⊢
  have hql : qs.length = ps.length := by have := congrArg List.length hq; simpa using this
  refine Gsr ?_
  refine Lpu rfl rfl trivial (pu_lt rfl rfl) ?_
  refine Lnt ?_
  refine Gs.seq ?_
  refine Gs.cond rfl (fun hc0 => ?_) (fun hc0 => ?_)
  ·
   have hlt : i < ps.length := by have := of_decide_eq_true hc0; omega
   obtain ⟨p, hp⟩ : ∃ x, ps[i]? = some x := ⟨ps[i], by simp [hlt]⟩
   obtain rfl := ha (by rintro rfl; simp at hlt)
   have hpq : qs[i]? = some p := by
     have := congrArg (·[0]?) hd
     simpa [List.getElem?_drop, hp] using this
   obtain ⟨hat, hatl⟩ := hS.2 p (List.mem_of_getElem? hp)
   refine Gs.skip ?_
   refine Gs.then_n ?_
   refine Gs.seq ?_
   refine Gs.block ?_
   refine Gsr ?_
   refine Lmv rfl rfl ?_
   refine Las rfl rfl ?_
   refine Lnt ?_
   refine Gs.reg ?_
   refine Lmv rfl rfl ?_
   refine Lmv rfl rfl ?_
   refine Lmv rfl rfl ?_
   refine Lmv rfl rfl ?_
   refine Lpu rfl rfl trivial (pu_ia se_94 rfl rfl (by omega) (by omega)) ?_
   refine Lpu rfl rfl trivial (pu_fa fa_106_1 rfl) ?_
   refine Lrd rfl rfl trivial (rd_ld na_99 rfl (Rdc.elp 1 (SlH.own (xs := qs) (E := 106) (enc := postC) (sz := 3) (by repeat constructor)) hpq rfl rfl)) ?_
   refine Lac rfl rfl trivial (as_call (cloneI_spec hat (by omega)) (by repeat constructor) (by repeat constructor)) ?_
   rintro _ _ ⟨_, ⟨ka, kc, rfl, rfl⟩, rfl⟩
   refine Lpu rfl rfl trivial (pu_ia se_94 rfl rfl (by omega) (by omega)) ?_
   refine Lpu rfl rfl trivial (pu_fa fa_106_1 rfl) ?_
   refine Lac0 rfl trivial (ac_stE (enc := postC) (xs := qs) (i := i) (x0 := p) (y0 := ⟨p.k, ⟨ka, p.t.xs, kc⟩⟩) (vs := [.slice ka p.t.xs.length kc]) (fo := 2) sz_99 ek_106 rfl rfl (by repeat constructor) rfl rfl rfl hpq rfl rfl) ?_
   rintro _ _ rfl
   refine Lnil ?_
   have hset : ((qs.set i ⟨p.k, ⟨ka, p.t.xs, kc⟩⟩).take (i + 1)).map atO = (qs.take i).map atO ++ [atO ⟨p.k, ⟨ka, p.t.xs, kc⟩⟩] := by
     rw [List.take_add_one, List.getElem?_set_self (by omega), List.take_set_of_le (Nat.le_refl _), List.map_append]; rfl
   refine Gs.takes (As := [atO ⟨p.k, ⟨ka, p.t.xs, kc⟩⟩, big ((qs.take i).map atO)]) (by repeat constructor) (Gs.bigBack take_snoc ?_)
   rw [← hset]
   have k1 : plain1 (qs.set i ⟨p.k, ⟨ka, p.t.xs, kc⟩⟩) = plain1 ps := by
     rw [← hq]
     show (qs.set i _).map PostV.p = qs.map PostV.p
     rw [List.map_set]
     refine List.ext_getElem? fun j => ?_
     by_cases hj : i = j
     · subst hj; rw [List.getElem?_set_self (by simp; omega), List.getElem?_map, hpq]; rfl
     · rw [List.getElem?_set_ne hj]
   have k2 : (qs.set i ⟨p.k, ⟨ka, p.t.xs, kc⟩⟩).drop (i + 1) = ps.drop (i + 1) := by rw [List.drop_set_of_lt (by omega), ← List.drop_drop, hd, List.drop_drop]
   refine Gs.blk_n ?_
   refine Gs.then_n ?_
   refine Gs.reg ?_
   refine Lpu rfl rfl trivial (by first | exact pu_addI rfl rfl rfl (by omega) (by omega) | exact pu_add rfl rfl) ?_
   refine Lmv rfl rfl ?_
   refine Lnt ?_
   exact Gs.again1 (i + 1, qs.set i ⟨p.k, ⟨ka, p.t.xs, kc⟩⟩) ⟨hlt, k1, k2⟩ (by show ps.length - (i + 1) < ps.length - i; omega) (by repeat constructor) (by repeat constructor)
  ·
   have hge : i = ps.length := by have := of_decide_eq_false hc0; omega
   rw [List.take_of_length_le (by omega)]
   refine Gs.exit ?_
   refine Gs.then_x ?_
   refine Gs.then_x ?_
   refine Gs.blk_hit ?_
   refine Gs.then_n ?_
   refine Gsr ?_
   refine Lmv rfl rfl ?_
   refine Las rfl rfl ?_
   refine Lnt ?_
   refine Gs.ret ?_
   refine Gs.takes (As := [sl 106 3 postC na nc qs, big (qs.map atO)]) (by repeat constructor) (Gs.toTwo ?_)
   exact Gs.fin1 Tryz.results87 rfl _ (⟨na, nc, qs, by rw [hql], hq, rfl⟩) (by repeat constructor)
end Go.Proofs.YtklgiidfompdpaaGreatDoor
namespace Go.Sl
theorem ins_grown {α : Type} {xs Z : List α} {x : α} {i : Nat} (hi : i < xs.length) (hz : Z.take i = xs.take i) (hl : Z.length = xs.length + 1) :
    (Z.take i ++ [x] ++ Z.drop (i + [x].length)).take (i + 1) ++ xs.drop i ++ (Z.take i ++ [x] ++ Z.drop (i + [x].length)).drop (i + 1 + (xs.drop i).length) = xs.take i ++ [x] ++ xs.drop i := by
  have h1 : (Z.take i ++ [x]).length = i + 1 := by simp; omega
  have h2 : (Z.take i ++ [x] ++ Z.drop (i + [x].length)).length ≤ i + 1 + (xs.drop i).length := by simp; omega
  rw [List.drop_eq_nil_of_le h2, List.append_nil]
  congr 1
  rw [List.take_append_of_le_length (by omega), List.take_of_length_le (by omega), hz]
theorem ins_room {α : Type} {xs : List α} {x : α} {i : Nat} (hi : i < xs.length) :
    (xs.take (i + 1) ++ xs.drop i ++ xs.drop (i + 1 + (xs.drop i).length)).take i ++ [x] ++ (xs.take (i + 1) ++ xs.drop i ++ xs.drop (i + 1 + (xs.drop i).length)).drop (i + [x].length) = xs.take i ++ [x] ++ xs.drop i := by
  have h0 : xs.drop (i + 1 + (xs.drop i).length) = [] := List.drop_eq_nil_of_le (by simp; omega)
  have h1 : (xs.take (i + 1)).length = i + 1 := by simp; omega
  rw [h0, List.append_nil]
  congr 1
  · congr 1
    rw [List.take_append_of_le_length (by omega), List.take_take]; congr 1; omega
  · show (xs.take (i + 1) ++ xs.drop i).drop (i + 1) = _
    rw [List.drop_append_of_le_length (by omega), List.drop_eq_nil_of_le (by omega), List.nil_append]
end Go.Sl
namespace Go.Proofs.YtklgiidfompdpaaGreatDoor
open Go Go.Sl Go.Gv Go.Po
set_option maxRecDepth 100000
theorem insert_spec {a : Option Addr} {c vb i : Nat} {xs : List PostV} {x : PostV} (hi : i ≤ xs.length) (hl : xs.length ≤ 100000) :
    Ct Tryz.prog 103 [.slice a xs.length c, int i, .slice (some ⟨vb, 0, none⟩) 1 1] [sl 106 3 postC a c xs, sl 106 3 postC (some ⟨vb, 0, none⟩) 1 [x]]
      (fun v hs => ∃ a' c', v = .slice a' (xs.take i ++ [x] ++ xs.drop i).length c' ∧ hs = [sl 106 3 postC a' c' (xs.take i ++ [x] ++ xs.drop i)]) := by
  have hlen : (xs.take i ++ [x] ++ xs.drop i).length = xs.length + 1 := by simp; omega
  refine Ct.intro Tryz.func103 rfl (by kernel_rfl) 95 Tryz.ntmps103 (Nat.le_of_ble_eq_true rfl) fun w0 R => ?_
  refine Gs.slAddr (xs := xs) (SlH.own (E := 106) (enc := postC) (by repeat constructor)) fun ab ao ha => Gs.slLen (xs := xs) (by repeat constructor) fun hlc => ?_
  refine Gsr ?_
  refine Las rfl rfl ?_
  refine Lnt ?_
  refine Gsr ?_
  refine Lmv rfl rfl ?_
  refine Lmv rfl rfl ?_
  refine Lpu rfl rfl trivial (pu_sliceL et_94 rfl rfl (by omega) (by omega)) ?_
  refine Lnt ?_
  refine Gsr ?_
  refine Lmv rfl rfl ?_
  refine Lpu rfl rfl trivial (pu_len Tryz.underlying94 rfl) ?_
  refine Las rfl rfl ?_
  refine Lnt ?_
  refine Gs.seq ?_
  refine Gsr ?_
  refine Lmv rfl rfl ?_
  refine Lpu rfl rfl trivial (pu_eq rfl rfl) ?_
  refine Lnt ?_
  refine Gs.cond_ff rfl (by decide) ?_
  refine Gs.skip ?_
  refine Gs.then_n ?_
  refine Gsr ?_
  refine Lmv rfl rfl ?_
  refine Lpu rfl rfl trivial (pu_len Tryz.underlying94 rfl) ?_
  refine Las rfl rfl ?_
  refine Lnt ?_
  refine Gs.seq ?_
  refine Gsr ?_
  refine Lmv rfl rfl ?_
  refine Lmv rfl rfl ?_
  refine Lpu rfl rfl trivial (pu_eq rfl rfl) ?_
  refine Lnt ?_
  refine Gs.cond rfl (fun hc1 => ?_) (fun hc1 => ?_)
  ·
   have hie : i = xs.length := by have := of_decide_eq_true hc1; omega
   refine Gsr ?_
   refine Lmv rfl rfl ?_
   refine Lmv rfl rfl ?_
   refine Lac rfl rfl trivial (ac_append (xs := xs) (ys := [x]) et_94 ek_106 rfl rfl (by repeat constructor) (SrcH.sl (ys := [x]) Tryz.underlying94 ek_106 (SlH.own (xs := [x]) (E := 106) (c := 1) (by repeat constructor))) (by simp; omega) (by simp; omega)) ?_
   rintro _ _ ⟨a25, c25, rfl, rfl⟩
   refine Las rfl rfl ?_
   refine Lnil ?_
   have hfin : xs ++ [x] = xs.take i ++ [x] ++ xs.drop i := by rw [hie]; simp
   rw [hfin]
   refine Gs.then_n ?_
   refine Gs.ret ?_
   refine Gs.then_r ?_
   exact Gs.fin1 Tryz.results103 rfl _ (⟨a25, c25, rfl, rfl⟩) (by repeat constructor)
  ·
   have hil : i < xs.length := by have := of_decide_eq_false hc1; omega
   obtain rfl := ha (by rintro rfl; simp at hil)
   refine Gs.skip ?_
   refine Gs.then_n ?_
   refine Gs.seq ?_
   refine Gsr ?_
   refine Lmv rfl rfl ?_
   refine Lmv rfl rfl ?_
   refine Lpu rfl rfl trivial (pu_addI (z := ((xs.length + 1 : Nat) : Int)) rfl rfl (by omega) (by omega) (by omega)) ?_
   refine Lmv rfl rfl ?_
   refine Lpu rfl rfl trivial (pu_cap Tryz.underlying94 rfl) ?_
   refine Lpu rfl rfl trivial (pu_gt rfl rfl) ?_
   refine Lnt ?_
   refine Gs.cond rfl (fun hc2 => ?_) (fun hc2 => ?_)
   ·
    have hg : c < xs.length + 1 := by have := of_decide_eq_true hc2; omega
    have htl : (xs.take i).length = i := by rw [List.length_take]; omega
    have hsz : (xs.take i ++ List.replicate (xs.length + 1 - i) PostV.zero).length = xs.length + 1 := by simp; omega
    refine Gsr ?_
    refine Lmv rfl rfl ?_
    refine Lmv rfl rfl ?_
    refine Lpu rfl rfl trivial (pu_sliceH et_94 rfl rfl (by omega) (by omega)) ?_
    rw [suba_zero, show (i : Int).toNat = i from rfl]
    refine Lmv rfl rfl ?_
    refine Lmv rfl rfl ?_
    refine Lpu rfl rfl trivial (pu_addI (z := ((xs.length + 1 : Nat) : Int)) rfl rfl (by omega) (by omega) (by omega)) ?_
    refine Lmv rfl rfl ?_
    refine Lpu rfl rfl trivial (pu_subI (z := ((xs.length + 1 - i : Nat) : Int)) rfl rfl (by omega) (by omega) (by omega)) ?_
    refine Lac rfl rfl trivial (ac_appendZ (xs := xs.take i) (z0 := PostV.zero) (k := xs.length + 1 - i) (enc := postC) et_94 (.inl zv_106) Tryz.underlying3 ek_106 rfl htl.symm rfl (SlH.pre (ys := xs.drop i) (by rw [List.take_append_drop]; exact SlH.own (by repeat constructor))) (by omega) (by decide) (by omega) (by omega) (by omega)) ?_
    rintro _ _ ⟨nb, nc, rfl, hnc, rfl⟩
    refine Las rfl rfl ?_
    refine Lnt ?_
    refine Gsr ?_
    refine Lmv rfl rfl ?_
    refine Lmv rfl rfl ?_
    refine Lpu rfl rfl trivial (pu_sliceL et_94 rfl rfl (by omega) (by omega)) ?_
    rw [show (i : Int).toNat = i from rfl, suba_some (by omega)]
    refine Lmv rfl rfl ?_
    refine Lac rfl rfl trivial (ac_cp (xs := xs.take i ++ List.replicate (xs.length + 1 - i) PostV.zero) (ys := [x]) (p := i) (enc := postC) Tryz.underlying94 sz_106 ek_106 rfl rfl rfl (by show 1 = min 1 _; omega) (by repeat constructor) (SlH.own (by repeat constructor)) (by omega) (by show i + 1 ≤ nc; omega)) ?_
    rintro _ _ ⟨rfl, rfl⟩
    refine Lnt ?_
    refine Gs.seq ?_
    refine Gs.regD mixed (by kernel_rfl) ?_
    refine Rg.pu 0 rfl rfl (by kernel_rfl) trivial (pu_move rfl) ?_
    refine Rg.pu 1 rfl rfl (by kernel_rfl) trivial (pu_move rfl) ?_
    refine Rg.pu 2 rfl rfl (by kernel_rfl) trivial (pu_move rfl) ?_
    refine Rg.pu 3 rfl rfl (by kernel_rfl) trivial (pu_addI (z := ((i + 1 : Nat) : Int)) rfl rfl (by omega) (by omega) (by omega)) ?_
    refine Rg.pu 4 rfl rfl (by kernel_rfl) trivial (pu_sliceL et_94 rfl rfl (by omega) (by omega)) ?_
    rw [show ((i + 1 : Nat) : Int).toNat = i + 1 from rfl, suba_some (by omega)]
    refine Rg.pu 5 rfl rfl (by kernel_rfl) trivial (pu_move rfl) ?_
    refine Rg.pu 6 rfl rfl (by kernel_rfl) trivial (pu_move rfl) ?_
    refine Rg.pu 7 rfl rfl (by kernel_rfl) trivial (pu_sliceL et_94 rfl rfl (by omega) (by omega)) ?_
    rw [show (i : Int).toNat = i from rfl, suba_some (by omega)]
    refine Rg.one (by kernel_rfl) (Stp.ac 8 rfl rfl (by kernel_rfl) trivial (ac_cp (xs := (xs.take i ++ List.replicate (xs.length + 1 - i) PostV.zero).take i ++ [x] ++ (xs.take i ++ List.replicate (xs.length + 1 - i) PostV.zero).drop (i + [x].length)) (ys := xs.drop i) (p := i + 1) (enc := postC) Tryz.underlying94 sz_106 ek_106 rfl rfl rfl (by rw [List.length_drop]; show _ = min _ _; omega) (by repeat constructor) (SlH.cutS (SlH.own (xs := xs) (E := 106) (c := c) (by repeat constructor)) i c (by omega) (by omega)) (by simp; omega) (by rw [List.length_drop]; omega))  ?_)
    rintro _ _ ⟨rfl, rfl⟩
    refine Rg.end (by kernel_rfl) ?_
    refine Gs.then_n ?_
    refine Gs.seq ?_
    rw [ins_grown hil (by rw [List.take_append_of_le_length (by omega), List.take_take, Nat.min_self]) hsz]
    refine Gs.reg ?_
    refine Lmv rfl rfl ?_
    refine Las rfl rfl ?_
    refine Lnt ?_
    refine Gs.ret ?_
    refine Gs.then_r ?_
    exact Gs.fin1 Tryz.results103 rfl _ (⟨some ⟨nb, 0, none⟩, nc, by rw [hlen]; congr 1; omega, rfl⟩) (by repeat constructor)
   ·
    have hg : xs.length + 1 ≤ c := by have := of_decide_eq_false hc2; omega
    refine Gs.skip ?_
    refine Gs.then_n ?_
    refine Gsr ?_
    refine Lmv rfl rfl ?_
    refine Lmv rfl rfl ?_
    refine Lmv rfl rfl ?_
    refine Lpu rfl rfl trivial (pu_addI (z := ((xs.length + 1 : Nat) : Int)) rfl rfl (by omega) (by omega) (by omega)) ?_
    refine Lpu rfl rfl trivial (pu_sliceH et_94 rfl rfl (by omega) (by omega)) ?_
    rw [suba_zero, show ((xs.length + 1 : Nat) : Int).toNat = xs.length + 1 from rfl]
    refine Las rfl rfl ?_
    refine Lnt ?_
    refine Gs.seq ?_
    refine Gsr ?_
    refine Lmv rfl rfl ?_
    refine Lmv rfl rfl ?_
    refine Lmv rfl rfl ?_
    refine Lmv rfl rfl ?_
    refine Lpu rfl rfl trivial (pu_addI (z := ((i + 1 : Nat) : Int)) rfl rfl (by omega) (by omega) (by omega)) ?_
    refine Lpu rfl rfl trivial (pu_sliceL et_94 rfl rfl (by omega) (by omega)) ?_
    rw [show ((i + 1 : Nat) : Int).toNat = i + 1 from rfl, suba_some (by omega)]
    refine Lrd rfl rfl trivial (rd_overlaps (R := 4) (xs := [x]) (ys := xs) Tryz.func147 (by kernel_rfl) (by kernel_rfl) (by kernel_rfl) (by kernel_rfl) Tryz.underlying94 sz_106 rfl rfl (by repeat constructor) (by repeat constructor) (by omega)) ?_
    refine Lpu rfl rfl trivial (pu_not rfl) ?_
    refine Lnt ?_
    refine Gs.cond_tt rfl rfl ?_
    refine Gs.seq ?_
    refine Gs.regD mixed (by kernel_rfl) ?_
    refine Rg.pu 0 rfl rfl (by kernel_rfl) trivial (pu_move rfl) ?_
    refine Rg.pu 1 rfl rfl (by kernel_rfl) trivial (pu_move rfl) ?_
    refine Rg.pu 2 rfl rfl (by kernel_rfl) trivial (pu_move rfl) ?_
    refine Rg.pu 3 rfl rfl (by kernel_rfl) trivial (pu_addI (z := ((i + 1 : Nat) : Int)) rfl rfl (by omega) (by omega) (by omega)) ?_
    refine Rg.pu 4 rfl rfl (by kernel_rfl) trivial (pu_sliceL et_94 rfl rfl (by omega) (by omega)) ?_
    rw [show ((i + 1 : Nat) : Int).toNat = i + 1 from rfl, suba_some (by omega)]
    refine Rg.pu 5 rfl rfl (by kernel_rfl) trivial (pu_move rfl) ?_
    refine Rg.pu 6 rfl rfl (by kernel_rfl) trivial (pu_move rfl) ?_
    refine Rg.pu 7 rfl rfl (by kernel_rfl) trivial (pu_sliceL et_94 rfl rfl (by omega) (by omega)) ?_
    rw [show (i : Int).toNat = i from rfl, suba_some (by omega)]
    refine Rg.one (by kernel_rfl) (Stp.ac 8 rfl rfl (by kernel_rfl) trivial (ac_cp (xs := xs) (ys := xs.drop i) (p := i + 1) (enc := postC) Tryz.underlying94 sz_106 ek_106 rfl rfl rfl (by rw [List.length_drop]; show _ = min _ _; omega) (by repeat constructor) (SlH.cutS (SlH.own (xs := xs) (E := 106) (c := c) (by repeat constructor)) i c (by omega) (by omega)) (by omega) (by rw [List.length_drop]; omega))  ?_)
    rintro _ _ ⟨rfl, rfl⟩
    refine Rg.end (by kernel_rfl) ?_
    refine Gs.then_n ?_
    refine Gsr ?_
    refine Lmv rfl rfl ?_
    refine Lmv rfl rfl ?_
    refine Lpu rfl rfl trivial (pu_sliceL et_94 rfl rfl (by omega) (by omega)) ?_
    rw [show (i : Int).toNat = i from rfl, suba_some (by omega)]
    refine Lmv rfl rfl ?_
    refine Lac rfl rfl trivial (ac_cp (xs := xs.take (i + 1) ++ xs.drop i ++ xs.drop (i + 1 + (xs.drop i).length)) (ys := [x]) (p := i) (enc := postC) Tryz.underlying94 sz_106 ek_106 rfl rfl rfl (by show 1 = min 1 _; omega) (by repeat constructor) (SlH.own (by repeat constructor)) (by simp; omega) (by show i + 1 ≤ c; omega)) ?_
    rintro _ _ ⟨rfl, rfl⟩
    refine Lnt ?_
    refine Gs.seq ?_
    rw [ins_room hil]
    refine Gs.reg ?_
    refine Lmv rfl rfl ?_
    refine Las rfl rfl ?_
    refine Lnt ?_
    refine Gs.ret ?_
    refine Gs.then_r ?_
    exact Gs.fin1 Tryz.results103 rfl _ (⟨some ⟨ab, ao, none⟩, c, by rw [hlen], rfl⟩) (by repeat constructor)
end Go.Proofs.YtklgiidfompdpaaGreatDoor
namespace Go.Po
open Go Go.Sl Go.Gv
/-- A list with one more, or one instead of another one. -/
def putP (L : List PostP) (x : PostP) : List PostP :=
  if mayB L then (if risesB x.2 then L.filter (fun y => before y.1 x.1) ++ [x] ++ L.filter (fun y => before x.1 y.1) else L) else []
def dropP (L : List PostP) (k : Key) : List PostP := if mayB L then L.filter (fun y => decide (y.1 ≠ k)) else []
theorem filter_cut {L : List PostP} {f : PostP → Bool} {i : Nat} (h1 : ∀ x ∈ L.take i, f x = true) (h2 : ∀ x ∈ L.drop i, f x = false) : L.filter f = L.take i := by
  have e : L.filter f = (L.take i).filter f ++ (L.drop i).filter f := by rw [← List.filter_append, List.take_append_drop]
  rw [e, List.filter_eq_self.2 h1, List.filter_eq_nil_iff.2 (fun x hx => by rw [h2 x hx]; decide), List.append_nil]
theorem filter_cut2 {L : List PostP} {f : PostP → Bool} {i : Nat} (h1 : ∀ x ∈ L.take i, f x = false) (h2 : ∀ x ∈ L.drop i, f x = true) : L.filter f = L.drop i := by
  have e : L.filter f = (L.take i).filter f ++ (L.drop i).filter f := by rw [← List.filter_append, List.take_append_drop]
  rw [e, List.filter_eq_self.2 h2, List.filter_eq_nil_iff.2 (fun x hx => by rw [h1 x hx]; decide), List.nil_append]
theorem mem_take_at {α : Type} {L : List α} {i : Nat} {x : α} (h : x ∈ L.take i) : ∃ m, m < i ∧ L[m]? = some x := by
  obtain ⟨m, hm⟩ := List.mem_iff_getElem?.1 h
  rw [List.getElem?_take] at hm
  split at hm
  · exact ⟨m, by assumption, hm⟩
  · cases hm
theorem mem_drop_at {α : Type} {L : List α} {i : Nat} {x : α} (h : x ∈ L.drop i) : ∃ m, i ≤ m ∧ L[m]? = some x := by
  obtain ⟨m, hm⟩ := List.mem_iff_getElem?.1 h
  rw [List.getElem?_drop] at hm
  exact ⟨i + m, by omega, hm⟩
end Go.Po
namespace Go.Proofs.YtklgiidfompdpaaGreatDoor
open Go Go.Sl Go.Gv Go.Po
set_option maxRecDepth 100000
theorem put_new {qs : List PostV} {k : Key} {i : Nat} (h : cutI qs k i) (hno : ∀ x, qs[i]? = some x → x.k ≠ k) (ha : ((qs.map PostV.p).map Prod.fst).Pairwise (fun a b => before a b = true)) (hm : mayB (plain1 qs) = true) {x : PostV} (hx : x.k = k) (hr : risesB x.t.xs = true) :
    plain1 (qs.take i ++ [x] ++ qs.drop i) = putP (plain1 qs) x.p := by
  obtain ⟨hi, hlo, hhi⟩ := h
  have e1 : (plain1 qs).filter (fun y => before y.1 x.k) = (plain1 qs).take i := filter_cut
    (fun y hy => by
      obtain ⟨m, hm, hy⟩ := mem_take_at hy
      rw [List.getElem?_map] at hy
      obtain ⟨z, hz, rfl⟩ := Option.map_eq_some_iff.1 hy
      have := hlo m z hm hz; rw [hx]; exact this)
    (fun y hy => by
      obtain ⟨m, hm, hy⟩ := mem_drop_at hy
      rw [List.getElem?_map] at hy
      obtain ⟨z, hz, rfl⟩ := Option.map_eq_some_iff.1 hy
      have := hhi m z hm hz; rw [hx]; exact this)
  have e2 : (plain1 qs).filter (fun y => before x.k y.1) = (plain1 qs).drop i := filter_cut2
    (fun y hy => by
      obtain ⟨m, hm, hy⟩ := mem_take_at hy
      rw [List.getElem?_map] at hy
      obtain ⟨z, hz, rfl⟩ := Option.map_eq_some_iff.1 hy
      have := hlo m z hm hz; rw [hx]; exact before_asymm this)
    (fun y hy => by
      obtain ⟨m, hm, hy⟩ := mem_drop_at hy
      rw [List.getElem?_map] at hy
      obtain ⟨z, hz, rfl⟩ := Option.map_eq_some_iff.1 hy
      have h1 := hhi m z hm hz
      have hne : z.k ≠ k := by
        rcases Nat.lt_or_eq_of_le hm with hlt | heq
        · intro e
          obtain ⟨u, hu⟩ : ∃ u, qs[i]? = some u := ⟨qs[i]'(by have := (List.getElem?_eq_some_iff.1 hz).1; omega), by simp⟩
          have h2 := asc_lt ha hlt hu hz
          have h3 := hhi i u (Nat.le_refl _) hu
          have h4 : before u.k z.k = true := h2
          rw [e] at h4; rw [h4] at h3; cases h3
        · exact hno z (heq ▸ hz)
      rw [hx]
      show before k z.k = true
      rcases before_total hne with h | h
      · have h5 : before z.k k = true := h
        rw [h5] at h1; cases h1
      · exact h)
  unfold putP
  rw [if_pos hm, if_pos (show risesB x.p.2 = true from hr)]
  show _ = (plain1 qs).filter (fun y => before y.1 x.k) ++ [x.p] ++ (plain1 qs).filter (fun y => before x.k y.1)
  rw [e1, e2]; simp [plain1, List.map_take, List.map_drop]
theorem put_old {qs : List PostV} {k : Key} {i : Nat} (h : cutI qs k i) {y : PostV} (hy : qs[i]? = some y) (hyk : y.k = k) (ha : ((qs.map PostV.p).map Prod.fst).Pairwise (fun a b => before a b = true)) (hm : mayB (plain1 qs) = true) {x : PostV} (hx : x.k = k) (hr : risesB x.t.xs = true) :
    plain1 (qs.set i x) = putP (plain1 qs) x.p := by
  obtain ⟨hi, hlo, hhi⟩ := h
  have hlt := (List.getElem?_eq_some_iff.1 hy).1
  have e1 : (plain1 qs).filter (fun y => before y.1 x.k) = (plain1 qs).take i := filter_cut
    (fun y hy => by
      obtain ⟨m, hm, hy⟩ := mem_take_at hy
      rw [List.getElem?_map] at hy
      obtain ⟨z, hz, rfl⟩ := Option.map_eq_some_iff.1 hy
      have := hlo m z hm hz; rw [hx]; exact this)
    (fun y hy => by
      obtain ⟨m, hm, hy⟩ := mem_drop_at hy
      rw [List.getElem?_map] at hy
      obtain ⟨z, hz, rfl⟩ := Option.map_eq_some_iff.1 hy
      have := hhi m z hm hz; rw [hx]; exact this)
  have e2 : (plain1 qs).filter (fun y => before x.k y.1) = (plain1 qs).drop (i + 1) := filter_cut2
    (fun u hu => by
      obtain ⟨m, hm, hu⟩ := mem_take_at hu
      rw [List.getElem?_map] at hu
      obtain ⟨z, hz, rfl⟩ := Option.map_eq_some_iff.1 hu
      rw [hx]
      show before k z.k = false
      rcases Nat.lt_or_eq_of_le (Nat.lt_succ_iff.1 hm) with h | h
      · exact before_asymm (hlo m z h hz)
      · subst h; rw [hy] at hz; cases hz; rw [hyk]; exact before_irr)
    (fun u hu => by
      obtain ⟨m, hm, hu⟩ := mem_drop_at hu
      rw [List.getElem?_map] at hu
      obtain ⟨z, hz, rfl⟩ := Option.map_eq_some_iff.1 hu
      have h2 := asc_lt ha (show i < m by omega) hy hz
      rw [hx]
      have h3 : before y.k z.k = true := h2
      rw [hyk] at h3; exact h3)
  unfold putP
  rw [if_pos hm, if_pos (show risesB x.p.2 = true from hr)]
  show _ = (plain1 qs).filter (fun y => before y.1 x.k) ++ [x.p] ++ (plain1 qs).filter (fun y => before x.k y.1)
  rw [e1, e2, List.set_eq_take_append_cons_drop, if_pos hlt]
  simp [plain1, List.map_take, List.map_drop]
theorem pput_spec {S : HProp} {a : Option Addr} {c : Nat} {ps : List PostV} {p : PostV} (hS : PRd S a ps) (hl : ps.length ≤ 1000) (hU : Srd S 1 intC p.t.a p.t.xs) (hul : p.t.xs.length ≤ 1000) :
    Ct Tryz.prog 52 [.slice a ps.length c, postV p] [S] (fun v hs => ∃ a' c' qs, v = .slice a' qs.length c' ∧ plain1 qs = putP (plain1 ps) p.p ∧ hs = [S, plO a' c' qs]) := by
  refine Ct.intro Tryz.func52 rfl (by kernel_rfl) 40 Tryz.ntmps52 (Nat.le_of_ble_eq_true rfl) fun w0 R => ?_
  refine Gsr ?_
  refine Lac rfl rfl trivial (ac_box rfl rfl) ?_
  rintro _ _ ⟨b3, rfl, rfl⟩
  refine Las rfl rfl ?_
  refine Lnt ?_
  refine Gs.seq ?_
  refine Gsr ?_
  refine Lmv rfl rfl ?_
  refine Lac rfl rfl trivial (as_call (may_spec hS hl) (by repeat constructor) (by repeat constructor)) ?_
  rintro _ _ ⟨_, ⟨rfl, rfl⟩, rfl⟩
  refine Lpu rfl rfl trivial (pu_not rfl) ?_
  refine Lnt ?_
  refine Gs.cond rfl (fun hc0 => ?_) (fun hc0 => ?_)
  ·
   have hno := not_t hc0
   refine Gsr ?_
   refine Las rfl rfl ?_
   refine Lnt ?_
   refine Gs.ret ?_
   refine Gs.then_r ?_
   refine Gs.bigNil (Gs.slNil 106 3 postC (Gs.toTwo ?_))
   exact Gs.fin1 Tryz.results52 rfl _ (⟨none, 0, [], rfl, by rw [putP, hno]; rfl, rfl⟩) (by repeat constructor)
  ·
   have hmay := not_f hc0
   refine Gs.skip ?_
   refine Gs.then_n ?_
   refine Gsr ?_
   refine Lmv rfl rfl ?_
   refine Lac rfl rfl trivial (as_call (own_spec hS hl) (by repeat constructor) (by repeat constructor)) ?_
   rintro _ _ ⟨_, ⟨na, nc, qs, rfl, hqs, rfl⟩, rfl⟩
   refine Las rfl rfl ?_
   refine Lnil ?_
   have hql : qs.length = ps.length := by have := congrArg List.length hqs; simpa using this
   have hmq : mayB (plain1 qs) = true := by rw [hqs]; exact hmay
   have hasc := may_asc hmq
   refine Gs.then_n ?_
   refine Gs.seq ?_
   refine Gsr ?_
   refine Lpu rfl rfl trivial (pu_fa fa_106_1 rfl) ?_
   refine Lrd rfl rfl trivial (rd_ld na_99 rfl (Rdc.cl1 (by repeat constructor) rfl)) ?_
   refine Lac rfl rfl trivial (as_call (rises_spec hU hul) (by repeat constructor) (by repeat constructor)) ?_
   rintro _ _ ⟨_, ⟨rfl, rfl⟩, rfl⟩
   refine Lpu rfl rfl trivial (pu_not rfl) ?_
   refine Lnt ?_
   refine Gs.cond rfl (fun hc1 => ?_) (fun hc1 => ?_)
   ·
    have hnr : risesB p.p.2 = false := not_t hc1
    refine Gsr ?_
    refine Lmv rfl rfl ?_
    refine Las rfl rfl ?_
    refine Lnt ?_
    refine Gs.ret ?_
    refine Gs.then_r ?_
    exact Gs.fin1 Tryz.results52 rfl _ (⟨na, nc, qs, rfl, by rw [putP, hmay, hnr, hqs]; rfl, rfl⟩) (by repeat constructor)
   ·
    have hri : risesB p.t.xs = true := not_f hc1
    refine Gs.skip ?_
    refine Gs.then_n ?_
    refine Gsr ?_
    refine Lpu rfl rfl trivial (pu_fa fa_106_1 rfl) ?_
    refine Lrd rfl rfl trivial (rd_ld na_99 rfl (Rdc.cl1 (by repeat constructor) rfl)) ?_
    refine Lac rfl rfl trivial (as_call (cloneI_spec hU (by omega)) (by repeat constructor) (by repeat constructor)) ?_
    rintro _ _ ⟨_, ⟨ka, kc, rfl, rfl⟩, rfl⟩
    refine Lpu rfl rfl trivial (pu_fa fa_106_1 rfl) ?_
    refine Lac0 rfl trivial (ac_st sz_99 rfl rfl (by repeat constructor) rfl rfl rfl rfl) ?_
    rintro _ _ rfl
    refine Lnt ?_
    refine Gsr ?_
    refine Lmv rfl rfl ?_
    refine Lpu rfl rfl trivial (pu_fa fa_106_0 rfl) ?_
    refine Lrd rfl rfl trivial (rd_lda ag_28 rfl (Rdc.cl 2 (by repeat constructor) rfl) rfl) ?_
    refine Lac rfl rfl trivial (as_call (bsf_spec (S := plO na nc qs) (Srd.two1 Srd.own) (by omega) hasc p.k) (by repeat constructor) (by repeat constructor)) ?_
    rintro _ _ ⟨_, ⟨⟨i, rfl, hcut⟩, rfl⟩, rfl⟩
    refine Lmv rfl rfl ?_
    refine Lpu rfl rfl trivial (pu_extract rfl rfl) ?_
    refine Lpu rfl rfl trivial (pu_extract rfl rfl) ?_
    refine Las rfl rfl ?_
    refine Las rfl rfl ?_
    refine Lnt ?_
    refine Gs.seq ?_
    refine Gsr ?_
    refine Lmv rfl rfl ?_
    refine Lnt ?_
    refine Gs.cond rfl (fun hc2 => ?_) (fun hc2 => ?_)
    ·
     obtain ⟨y, hy, hyk⟩ := Option.map_eq_some_iff.1 (of_decide_eq_true hc2)
     have hlt := (List.getElem?_eq_some_iff.1 hy).1
     have hpl := put_old hcut hy hyk hasc hmq (x := ⟨p.k, ⟨ka, p.t.xs, kc⟩⟩) rfl hri
     refine Gs.take (A := plO na nc qs) (by repeat constructor) (Gs.two ?_)
     refine Gs.slAddr (xs := qs) (SlH.own (E := 106) (enc := postC) (by repeat constructor)) fun ab ao ha => ?_
     obtain rfl := ha (by rintro rfl; simp at hy)
     refine Gsr ?_
     refine Lmv rfl rfl ?_
     refine Lmv rfl rfl ?_
     refine Lrd rfl rfl trivial (rd_lda ag_106 rfl (Rdc.cl 3 (by repeat constructor) rfl) rfl) ?_
     refine Lpu rfl rfl trivial (pu_ia se_94 rfl rfl (by omega) (by omega)) ?_
     refine Lac0 rfl trivial (ac_stE (enc := postC) (xs := qs) (i := i) (x0 := y) (y0 := ⟨p.k, ⟨ka, p.t.xs, kc⟩⟩) (vs := postC ⟨p.k, ⟨ka, p.t.xs, kc⟩⟩) (fo := 0) sz_106 ek_106 rfl rfl (by repeat constructor) rfl rfl rfl hy rfl rfl) ?_
     rintro _ _ rfl
     refine Lnil ?_
     refine Gs.takes (As := [big (qs.map atO)]) (by repeat constructor) (Gs.bigTake (take_at (A := atO y) (i := i) (by simp [hy])) (Gs.drop ?_))
     refine Gs.takes (As := [atO ⟨p.k, ⟨ka, p.t.xs, kc⟩⟩, big ((qs.map atO).eraseIdx i)]) (by repeat constructor) (Gs.bigBack (take_set (by simpa using hlt)) ?_)
     rw [← List.map_set]
     refine Gs.then_n ?_
     refine Gsr ?_
     refine Lmv rfl rfl ?_
     refine Las rfl rfl ?_
     refine Lnt ?_
     refine Gs.ret ?_
     refine Gs.then_r ?_
     refine Gs.takes (As := [sl 106 3 postC (some ⟨ab, ao, none⟩) nc (qs.set i ⟨p.k, ⟨ka, p.t.xs, kc⟩⟩), big ((qs.set i ⟨p.k, ⟨ka, p.t.xs, kc⟩⟩).map atO)]) (by repeat constructor) (Gs.toTwo ?_)
     exact Gs.fin1 Tryz.results52 rfl _ (⟨some ⟨ab, ao, none⟩, nc, qs.set i ⟨p.k, ⟨ka, p.t.xs, kc⟩⟩, by rw [List.length_set], by rw [hpl, hqs]; rfl, rfl⟩) (by repeat constructor)
    ·
     have hpl := put_new hcut (fun x hx e => (of_decide_eq_false hc2) (by rw [hx]; exact congrArg some e)) hasc hmq (x := ⟨p.k, ⟨ka, p.t.xs, kc⟩⟩) rfl hri
     refine Gs.take (A := plO na nc qs) (by repeat constructor) (Gs.two ?_)
     refine Gs.skip ?_
     refine Gs.then_n ?_
     refine Gsr ?_
     refine Lmv rfl rfl ?_
     refine Lmv rfl rfl ?_
     refine Lrd rfl rfl trivial (rd_lda ag_106 rfl (Rdc.cl 3 (by repeat constructor) rfl) rfl) ?_
     refine Lac rfl rfl trivial (ac_lit encC_106 ([(⟨p.k, ⟨ka, p.t.xs, kc⟩⟩ : PostV)]) et_94 ek_106 rfl (by repeat constructor) rfl rfl (by decide)) ?_
     rintro _ _ ⟨a38, rfl, rfl⟩
     refine Lac rfl rfl trivial (as_call (insert_spec (xs := qs) (x := ⟨p.k, ⟨ka, p.t.xs, kc⟩⟩) hcut.1 (by omega)) (by repeat constructor) (by repeat constructor)) ?_
     rintro _ _ ⟨_, ⟨ia, ic, rfl, rfl⟩, rfl⟩
     refine Las rfl rfl ?_
     refine Lnil ?_
     have hm2 : (qs.take i ++ [(⟨p.k, ⟨ka, p.t.xs, kc⟩⟩ : PostV)] ++ qs.drop i).map atO = (qs.take i).map atO ++ atO ⟨p.k, ⟨ka, p.t.xs, kc⟩⟩ :: (qs.drop i).map atO := by simp
     have hm3 : qs.map atO = (qs.take i).map atO ++ (qs.drop i).map atO := by rw [← List.map_append, List.take_append_drop]
     refine Gs.takes (As := [atO ⟨p.k, ⟨ka, p.t.xs, kc⟩⟩, big (qs.map atO)]) (by repeat constructor) ?_
     rw [hm3]
     refine Gs.bigBack take_mid ?_
     rw [← hm2]
     refine Gs.then_n ?_
     refine Gs.ret ?_
     refine Gs.takes (As := [sl 106 3 postC ia ic (qs.take i ++ [(⟨p.k, ⟨ka, p.t.xs, kc⟩⟩ : PostV)] ++ qs.drop i), big ((qs.take i ++ [(⟨p.k, ⟨ka, p.t.xs, kc⟩⟩ : PostV)] ++ qs.drop i).map atO)]) (by repeat constructor) (Gs.toTwo ?_)
     exact Gs.fin1 Tryz.results52 rfl _ (⟨ia, ic, _, rfl, by rw [hpl, hqs]; rfl, rfl⟩) (by repeat constructor)
end Go.Proofs.YtklgiidfompdpaaGreatDoor
namespace Go.Proofs.YtklgiidfompdpaaGreatDoor
open Go Go.Sl Go.Gv Go.Po
set_option maxRecDepth 100000
theorem indexP_spec {F : HProp} {g : FuncId} {c1 : Value} {q : PostV → Bool} {a : Option Addr} {c : Nat} {xs : List PostV} (hg : ∀ p, Ct Tryz.prog g ([] ++ [postV p] ++ [c1]) [F] (fun v hs => v = .bool (q p) ∧ hs = [F])) (hl : xs.length ≤ 100000) :
    Ct Tryz.prog 139 [.slice a xs.length c, .func (.func g) #[] #[c1]] [sl 106 3 postC a c xs, F] (fun v hs => (∃ z : Int, v = int z ∧ ((z = -1 ∧ ∀ x ∈ xs, q x = false) ∨ (∃ i : Nat, z = i ∧ (∃ x, xs[i]? = some x ∧ q x = true) ∧ ∀ x ∈ xs.take i, q x = false))) ∧ hs = [sl 106 3 postC a c xs, F]) := by
  refine Ct.intro Tryz.func139 rfl (by kernel_rfl) 19 Tryz.ntmps139 (Nat.le_of_ble_eq_true rfl) fun w0 R => ?_
  refine Gs.slAddr (SlH.own (by repeat constructor)) fun ab ao ha => ?_
  refine Gsr ?_
  refine Las rfl rfl ?_
  refine Lnt ?_
  refine Gs.seq ?_
  refine Gsr ?_
  refine Lmv rfl rfl ?_
  refine Lpu rfl rfl trivial (pu_len Tryz.underlying94 rfl) ?_
  refine Lmv rfl rfl ?_
  refine Lnt ?_
  refine Gs.block ?_
  refine Gs.loop1 (fun i : Nat => i ≤ xs.length ∧ ∀ x ∈ xs.take i, q x = false) (fun i => [(0, .slice a xs.length c), (1, .func (.func g) #[] #[c1]), (7, int xs.length), (8, int i)]) (fun i => [sl 106 3 postC a c xs, F] ++ R) (fun i => xs.length - i) 0 (⟨Nat.zero_le _, fun x hx => by simp at hx⟩) (by repeat constructor) (by repeat constructor) (fun i ⟨hi, hq⟩ => ?_)
  refine Gsr ?_
  refine Lpu rfl rfl trivial (pu_lt rfl rfl) ?_
  refine Lnt ?_
  refine Gs.seq ?_
  refine Gs.cond rfl (fun hc0 => ?_) (fun hc0 => ?_)
  ·
   have hlt : i < xs.length := by have := of_decide_eq_true hc0; omega
   obtain ⟨x, hx⟩ : ∃ x, xs[i]? = some x := ⟨xs[i], by simp [hlt]⟩
   obtain rfl := ha (by rintro rfl; simp at hlt)
   refine Gs.skip ?_
   refine Gs.then_n ?_
   refine Gs.seq ?_
   refine Gs.block ?_
   refine Gsr ?_
   refine Lmv rfl rfl ?_
   refine Las rfl rfl ?_
   refine Lnt ?_
   refine Gsr ?_
   refine Lmv rfl rfl ?_
   refine Lmv rfl rfl ?_
   refine Lmv rfl rfl ?_
   refine Lpu rfl rfl trivial (pu_ia se_94 rfl rfl (by omega) (by omega)) ?_
   refine Lrd rfl rfl trivial (rd_lda ag_106 rfl (Rdc.el0 (SlH.own (by repeat constructor)) hx rfl rfl) rfl) ?_
   refine Lac rfl rfl trivial (as_callV rfl (hg x) (by repeat constructor) (by repeat constructor)) ?_
   rintro _ _ ⟨_, ⟨rfl, rfl⟩, rfl⟩
   refine Lnt ?_
   refine Gs.cond rfl (fun hc1 => ?_) (fun hc1 => ?_)
   ·
    refine Gsr ?_
    refine Lmv rfl rfl ?_
    refine Las rfl rfl ?_
    refine Lnt ?_
    refine Gs.ret ?_
    refine Gs.blk_r ?_
    refine Gs.then_r ?_
    refine Gs.then_r ?_
    refine Gs.blk_r ?_
    refine Gs.then_r ?_
    exact Gs.fin1 Tryz.results139 rfl _ (⟨⟨_, rfl, .inr ⟨i, rfl, ⟨x, hx, hc1⟩, hq⟩⟩, rfl⟩) (by repeat constructor)
   ·
    refine Gs.skip ?_
    refine Gs.blk_n ?_
    refine Gs.then_n ?_
    refine Gs.reg ?_
    refine Lpu rfl rfl trivial (by first | exact pu_addI rfl rfl rfl (by omega) (by omega) | exact pu_add rfl rfl) ?_
    refine Lmv rfl rfl ?_
    refine Lnt ?_
    exact Gs.again1 (i + 1) ⟨hlt, fun y hy => by rw [List.take_add_one, hx] at hy; rcases List.mem_append.1 hy with hy | hy; exact hq y hy; simp at hy; subst hy; exact hc1⟩ (by show xs.length - (i + 1) < xs.length - i; omega) (by repeat constructor) (by repeat constructor)
  ·
   have hge : i = xs.length := by have := of_decide_eq_false hc0; omega
   rw [hge, List.take_length] at hq
   refine Gs.exit ?_
   refine Gs.then_x ?_
   refine Gs.then_x ?_
   refine Gs.blk_hit ?_
   refine Gs.then_n ?_
   refine Gsr ?_
   refine Las rfl rfl ?_
   refine Lnt ?_
   refine Gs.ret ?_
   exact Gs.fin1 Tryz.results139 rfl _ (⟨⟨_, rfl, .inl ⟨rfl, hq⟩⟩, rfl⟩) (by repeat constructor)
theorem del_keep {α : Type} {ys : List α} {m : Nat} {x : α} (h : m < ys.length) : (ys.set m x).take (m + 1) = ys.take m ++ [x] := by
  rw [List.take_add_one, List.getElem?_set_self h, List.take_set_of_le (Nat.le_refl _)]; rfl
theorem deleteP_spec {F : HProp} {g : FuncId} {c1 : Value} {q : PostV → Bool} {a : Option Addr} {c : Nat} {xs : List PostV} (hg : ∀ p, Ct Tryz.prog g ([] ++ [postV p] ++ [c1]) [F] (fun v hs => v = .bool (q p) ∧ hs = [F])) (hl : xs.length ≤ 100000) :
    Ct Tryz.prog 88 [.slice a xs.length c, .func (.func g) #[] #[c1]] [sl 106 3 postC a c xs, F]
      (fun v hs => v = .slice a (xs.filter fun x => !q x).length c ∧ hs = [sl 106 3 postC a c (xs.filter fun x => !q x), F]) := by
  refine Ct.intro Tryz.func88 rfl (by kernel_rfl) 42 Tryz.ntmps88 (Nat.le_of_ble_eq_true rfl) fun w0 R => ?_
  refine Gs.slAddr (SlH.own (by repeat constructor)) fun ab ao ha => Gs.slLen (by repeat constructor) fun hlc => ?_
  refine Gsr ?_
  refine Las rfl rfl ?_
  refine Lnt ?_
  refine Gsr ?_
  refine Lmv rfl rfl ?_
  refine Lmv rfl rfl ?_
  refine Lac rfl rfl trivial (as_call (indexP_spec (q := q) hg hl) (by repeat constructor) (by repeat constructor)) ?_
  rintro _ _ ⟨_, ⟨⟨z, rfl, hz⟩, rfl⟩, rfl⟩
  refine Las rfl rfl ?_
  refine Lnt ?_
  refine Gs.seq ?_
  refine Gsr ?_
  refine Lmv rfl rfl ?_
  refine Lpu rfl rfl trivial (pu_eq rfl rfl) ?_
  refine Lnt ?_
  refine Gs.cond rfl (fun hc0 => ?_) (fun hc0 => ?_)
  ·
   have hall : xs.filter (fun x => !q x) = xs := List.filter_eq_self.2 fun x hx => by rcases hz with ⟨-, h⟩ | ⟨i, rfl, -⟩ <;> first | (rw [h x hx]; rfl) | (have := of_decide_eq_true hc0; omega)
   refine Gsr ?_
   refine Lmv rfl rfl ?_
   refine Las rfl rfl ?_
   refine Lnt ?_
   refine Gs.ret ?_
   refine Gs.then_r ?_
   exact Gs.fin1 Tryz.results88 rfl _ (⟨by rw [hall], by rw [hall]⟩) (by repeat constructor)
  ·
   obtain ⟨i0, rfl, ⟨x0, hx0, hq0⟩, hz2⟩ : ∃ i : Nat, z = i ∧ (∃ x, xs[i]? = some x ∧ q x = true) ∧ ∀ x ∈ xs.take i, q x = false := by rcases hz with ⟨h, -⟩ | h <;> first | exact h | (exact absurd h (of_decide_eq_false hc0))
   have hi0 : i0 < xs.length := (List.getElem?_eq_some_iff.1 hx0).1
   obtain rfl := ha (by rintro rfl; simp at hi0)
   have hst : xs.take i0 = (xs.take (i0 + 1)).filter (fun x => !q x) := by rw [List.take_add_one, hx0, List.filter_append, List.filter_eq_self.2 (fun x hx => by rw [hz2 x hx]; rfl)]; simp [hq0]
   refine Gs.skip ?_
   refine Gs.then_n ?_
   refine Gs.seq ?_
   refine Gsr ?_
   refine Lmv rfl rfl ?_
   refine Lpu rfl rfl trivial (by first | exact pu_addI rfl rfl rfl (by omega) (by omega) | exact pu_add rfl rfl) ?_
   refine Las rfl rfl ?_
   refine Lnt ?_
   refine Gs.block ?_
   refine Gs.loop1 (fun s : Nat × Nat × List PostV => s.1 ≤ xs.length ∧ s.2.1 ≤ s.1 ∧ s.2.2.length = xs.length ∧ s.2.2.take s.2.1 = (xs.take s.1).filter (fun x => !q x) ∧ s.2.2.drop s.1 = xs.drop s.1) (fun s => [(0, .slice (some ⟨ab, ao, none⟩) xs.length c), (1, .func (.func g) #[] #[c1]), (5, int s.2.1), (6, int s.1)]) (fun s => [sl 106 3 postC (some ⟨ab, ao, none⟩) c s.2.2, F] ++ R) (fun s => xs.length - s.1) (i0 + 1, i0, xs) (⟨hi0, Nat.le_succ _, rfl, hst, rfl⟩) (by repeat constructor) (by repeat constructor) (fun s hs => ?_)
   obtain ⟨j, m, ys⟩ := s
   obtain ⟨hj, hm, hyl, hyt, hyd⟩ := hs
   dsimp only at hj hm hyl hyt hyd ⊢
   refine Gs.seq ?_
   refine Gsr ?_
   refine Lmv rfl rfl ?_
   refine Lmv rfl rfl ?_
   refine Lpu rfl rfl trivial (pu_len Tryz.underlying94 rfl) ?_
   refine Lpu rfl rfl trivial (pu_lt rfl rfl) ?_
   refine Lnt ?_
   refine Gs.cond rfl (fun hc1 => ?_) (fun hc1 => ?_)
   ·
    have hlt : j < xs.length := by have := of_decide_eq_true hc1; omega
    obtain ⟨x, hx⟩ : ∃ x, xs[j]? = some x := ⟨xs[j], by simp [hlt]⟩
    have hxy : ys[j]? = some x := by have := congrArg (·[0]?) hyd; simp only [List.getElem?_drop, Nat.add_zero] at this; rw [this]; exact hx
    refine Gs.skip ?_
    refine Gs.then_n ?_
    refine Gs.seq ?_
    refine Gs.block ?_
    refine Gsr ?_
    refine Lmv rfl rfl ?_
    refine Lmv rfl rfl ?_
    refine Lpu rfl rfl trivial (pu_ia se_94 rfl rfl (by omega) (by omega)) ?_
    refine Lrd rfl rfl trivial (rd_lda ag_106 rfl (Rdc.el0 (SlH.own (by repeat constructor)) hxy rfl rfl) rfl) ?_
    refine Lac rfl rfl trivial (ac_alloc zv_106 rfl) ?_
    rintro _ _ ⟨xb, rfl, rfl⟩
    refine Lac0 rfl trivial (ac_st sz_106 rfl rfl (by repeat constructor) rfl rfl rfl rfl) ?_
    rintro _ _ rfl
    refine Lnt ?_
    refine Gsr ?_
    refine Lmv rfl rfl ?_
    refine Lrd rfl rfl trivial (rd_lda ag_106 rfl (Rdc.cl 3 (by repeat constructor) rfl) rfl) ?_
    refine Lac rfl rfl trivial (as_callV rfl (hg x) (by repeat constructor) (by repeat constructor)) ?_
    rintro _ _ ⟨_, ⟨rfl, rfl⟩, rfl⟩
    refine Lpu rfl rfl trivial (pu_not rfl) ?_
    refine Lnt ?_
    refine Gs.cond rfl (fun hc2 => ?_) (fun hc2 => ?_)
    ·
     have hX : q x = false := by simpa using hc2
     have k1 : (ys.set m x).length = xs.length := by rw [List.length_set]; exact hyl
     have k2 : (ys.set m x).take (m + 1) = (xs.take (j + 1)).filter (fun x => !q x) := by rw [del_keep (by omega), hyt, List.take_add_one, hx, List.filter_append]; simp [hX]
     have k3 : (ys.set m x).drop (j + 1) = xs.drop (j + 1) := by rw [List.drop_set_of_lt (by omega), ← List.drop_drop, hyd, List.drop_drop]
     refine Gsr ?_
     refine Lmv rfl rfl ?_
     refine Lmv rfl rfl ?_
     refine Lrd rfl rfl trivial (rd_lda ag_106 rfl (Rdc.cl 3 (by repeat constructor) rfl) rfl) ?_
     refine Lpu rfl rfl trivial (pu_ia se_94 rfl rfl (by omega) (by omega)) ?_
     refine Lac0 rfl trivial (ac_stE (enc := postC) (xs := ys) (i := m) (x0 := ys[m]'(by omega)) (y0 := x) (vs := postC x) (fo := 0) sz_106 ek_106 rfl rfl (by repeat constructor) rfl rfl rfl (by simp) rfl rfl) ?_
     rintro _ _ rfl
     refine Lnt ?_
     refine Gs.reg ?_
     refine Lmv rfl rfl ?_
     refine Lpu rfl rfl trivial (by first | exact pu_addI rfl rfl rfl (by omega) (by omega) | exact pu_add rfl rfl) ?_
     refine Las rfl rfl ?_
     refine Lnil ?_
     refine Gs.blk_n ?_
     refine Gs.then_n ?_
     refine Gs.reg ?_
     refine Lmv rfl rfl ?_
     refine Lpu rfl rfl trivial (by first | exact pu_addI rfl rfl rfl (by omega) (by omega) | exact pu_add rfl rfl) ?_
     refine Las rfl rfl ?_
     refine Lnt ?_
     first | exact Gs.again1 (j + 1, m + 1, ys.set m x) ⟨by show j + 1 ≤ xs.length; omega, by show m + 1 ≤ j + 1; omega, k1, k2, k3⟩ (by show xs.length - (j + 1) < xs.length - j; omega) (by repeat constructor) (by repeat constructor) | exact Gs.again1 (j + 1, m, ys) ⟨by show j + 1 ≤ xs.length; omega, by show m ≤ j + 1; omega, hyl, k2, k3⟩ (by show xs.length - (j + 1) < xs.length - j; omega) (by repeat constructor) (by repeat constructor)
    ·
     have hX : q x = true := by simpa using hc2
     have k2 : ys.take m = (xs.take (j + 1)).filter (fun x => !q x) := by rw [hyt, List.take_add_one, hx, List.filter_append]; simp [hX]
     have k3 : ys.drop (j + 1) = xs.drop (j + 1) := by rw [← List.drop_drop, hyd, List.drop_drop]
     refine Gs.skip ?_
     refine Gs.blk_n ?_
     refine Gs.then_n ?_
     refine Gs.reg ?_
     refine Lmv rfl rfl ?_
     refine Lpu rfl rfl trivial (by first | exact pu_addI rfl rfl rfl (by omega) (by omega) | exact pu_add rfl rfl) ?_
     refine Las rfl rfl ?_
     refine Lnt ?_
     first | exact Gs.again1 (j + 1, m + 1, ys.set m x) ⟨by show j + 1 ≤ xs.length; omega, by show m + 1 ≤ j + 1; omega, k1, k2, k3⟩ (by show xs.length - (j + 1) < xs.length - j; omega) (by repeat constructor) (by repeat constructor) | exact Gs.again1 (j + 1, m, ys) ⟨by show j + 1 ≤ xs.length; omega, by show m ≤ j + 1; omega, hyl, k2, k3⟩ (by show xs.length - (j + 1) < xs.length - j; omega) (by repeat constructor) (by repeat constructor)
   ·
    have hge : j = xs.length := by have := of_decide_eq_false hc1; omega
    rw [hge, List.take_length] at hyt
    have hml : (ys.take m).length = m := by rw [List.length_take]; omega
    have hdl : (ys.drop m).length = xs.length - m := by rw [List.length_drop]; omega
    refine Gs.exit ?_
    refine Gs.then_x ?_
    refine Gs.then_x ?_
    refine Gs.blk_hit ?_
    refine Gs.then_n ?_
    refine Gsr ?_
    refine Lmv rfl rfl ?_
    refine Lmv rfl rfl ?_
    refine Lpu rfl rfl trivial (pu_sliceL et_94 rfl rfl (by omega) (by omega)) ?_
    refine Lac0 rfl trivial (ac_clear (enc := postC) (xs := ys.take m) (zs := ys.drop m) Tryz.underlying94 zv_106 rfl rfl rfl (by decide) (by rw [hml]; rfl) hdl.symm ek_106 (by rw [List.take_append_drop]; repeat constructor)) ?_
    rintro _ _ rfl
    refine Lnt ?_
    refine Gsr ?_
    refine Lmv rfl rfl ?_
    refine Lmv rfl rfl ?_
    refine Lpu rfl rfl trivial (pu_sliceH et_94 rfl rfl (by omega) (by omega)) ?_
    refine Las rfl rfl ?_
    refine Lnil ?_
    rw [show suba (some ⟨ab, ao, none⟩) 0 c 3 = some ⟨ab, ao, none⟩ from suba_0, hyt]
    refine Gs.then_n ?_
    refine Gs.ret ?_
    exact Gs.fin1 Tryz.results88 rfl _ (⟨by rw [← hyt, hml]; rfl, rfl⟩) (by repeat constructor)
theorem drop1_spec (k : Key) (kb : Nat) (p : PostV) : Ct Tryz.prog 90 ([] ++ [postV p] ++ [ptr kb]) [cl kb 28 (keyC k)] (fun v hs => v = .bool (decide (p.k = k)) ∧ hs = [cl kb 28 (keyC k)]) := by
  refine Ct.intro Tryz.func90 rfl (by kernel_rfl) 8 Tryz.ntmps90 (Nat.le_of_ble_eq_true rfl) fun w0 R => ?_
  refine Gsr ?_
  refine Lac rfl rfl trivial (ac_box rfl rfl) ?_
  rintro _ _ ⟨pb, rfl, rfl⟩
  refine Las rfl rfl ?_
  refine Lnt ?_
  refine Gsr ?_
  refine Lpu rfl rfl trivial (pu_fa fa_106_0 rfl) ?_
  refine Lrd rfl rfl trivial (rd_lda ag_28 rfl (Rdc.cl 2 (by repeat constructor) rfl) rfl) ?_
  refine Lrd rfl rfl trivial (rd_lda ag_28 rfl (Rdc.cl 2 (by repeat constructor) rfl) rfl) ?_
  refine Lpu rfl rfl trivial (pu_eqT (a := p.k) (b := k) cmp_28 (by decide) Tryz.eqGuardType28 rfl rfl) ?_
  refine Las rfl rfl ?_
  refine Lnt ?_
  refine Gs.ret ?_
  exact Gs.fin1 Tryz.results90 rfl _ (⟨rfl, rfl⟩) (by repeat constructor)
theorem pdrop_spec {S : HProp} {a : Option Addr} {c : Nat} {ps : List PostV} (hS : PRd S a ps) (hl : ps.length ≤ 1000) (k : Key) :
    Ct Tryz.prog 47 [.slice a ps.length c, keyV k] [S] (fun v hs => ∃ a' c' qs, v = .slice a' qs.length c' ∧ plain1 qs = dropP (plain1 ps) k ∧ hs = [S, plO a' c' qs]) := by
  refine Ct.intro Tryz.func47 rfl (by kernel_rfl) 13 Tryz.ntmps47 (Nat.le_of_ble_eq_true rfl) fun w0 R => ?_
  refine Gsr ?_
  refine Lac rfl rfl trivial (ac_box rfl rfl) ?_
  rintro _ _ ⟨kb, rfl, rfl⟩
  refine Las rfl rfl ?_
  refine Lnt ?_
  refine Gs.seq ?_
  refine Gsr ?_
  refine Lmv rfl rfl ?_
  refine Lac rfl rfl trivial (as_call (may_spec hS hl) (by repeat constructor) (by repeat constructor)) ?_
  rintro _ _ ⟨_, ⟨rfl, rfl⟩, rfl⟩
  refine Lpu rfl rfl trivial (pu_not rfl) ?_
  refine Lnt ?_
  refine Gs.cond rfl (fun hc0 => ?_) (fun hc0 => ?_)
  ·
   have hno := not_t hc0
   refine Gsr ?_
   refine Las rfl rfl ?_
   refine Lnt ?_
   refine Gs.ret ?_
   refine Gs.then_r ?_
   refine Gs.bigNil (Gs.slNil 106 3 postC (Gs.toTwo ?_))
   exact Gs.fin1 Tryz.results47 rfl _ (⟨none, 0, [], rfl, by rw [dropP, hno]; rfl, rfl⟩) (by repeat constructor)
  ·
   have hmay := not_f hc0
   refine Gs.skip ?_
   refine Gs.then_n ?_
   refine Gsr ?_
   refine Lmv rfl rfl ?_
   refine Lac rfl rfl trivial (as_call (cloneP_spec hS.1 (by omega)) (by repeat constructor) (by repeat constructor)) ?_
   rintro _ _ ⟨_, ⟨na, nc, rfl, rfl⟩, rfl⟩
   refine Lpu rfl rfl trivial (pu_func (by repeat constructor) (by repeat constructor)) ?_
   refine Lac rfl rfl trivial (as_call (deleteP_spec (F := cl kb 28 (keyC k)) (q := fun p => decide (p.k = k)) (xs := ps) (fun p => drop1_spec k kb p) (by omega)) (by repeat constructor) (by repeat constructor)) ?_
   rintro _ _ ⟨_, ⟨rfl, rfl⟩, rfl⟩
   refine Lac rfl rfl trivial (as_call (Ct.two (own_spec (S := two (sl 106 3 postC na nc (ps.filter fun p => !decide (p.k = k))) S) ⟨Srd.two1 Srd.own, fun p hp => ⟨Srd.two2 (hS.2 p ((List.mem_filter.1 hp).1)).1, (hS.2 p ((List.mem_filter.1 hp).1)).2⟩⟩ (Nat.le_trans (List.length_filter_le ..) hl)) (by rintro _ _ ⟨_, _, _, _, _, rfl⟩; exact ⟨_, rfl⟩)) (by repeat constructor) (by repeat constructor)) ?_
   rintro _ _ ⟨_, ⟨_, ⟨oa, oc, qs, rfl, hqs, ⟨⟩⟩, rfl⟩, rfl⟩
   refine Las rfl rfl ?_
   refine Lnt ?_
   refine Gs.ret ?_
   exact Gs.fin1 Tryz.results47 rfl _ (⟨oa, oc, qs, rfl, by rw [hqs, dropP, if_pos hmay]; simp only [plain1, List.filter_map, Function.comp_def]; congr 2; funext x; by_cases h : x.k = k <;> simp [PostV.p, h], rfl⟩) (by repeat constructor)
end Go.Proofs.YtklgiidfompdpaaGreatDoor
namespace Go.Proofs.YtklgiidfompdpaaGreatDoor
open Go Go.Sl Go.Gv Go.Po
set_option maxRecDepth 100000
end Go.Proofs.YtklgiidfompdpaaGreatDoor
namespace Go.Proofs.YtklgiidfompdpaaGreatDoor
open Go Go.Sl Go.Gv Go.Po
set_option maxRecDepth 100000
end Go.Proofs.YtklgiidfompdpaaGreatDoor
namespace Go.Proofs.YtklgiidfompdpaaGreatDoor
open Go Go.Sl Go.Gv Go.Po
abbrev AscP (L : List PostP) : Prop := L.Pairwise fun a b => before a.1 b.1 = true
theorem ascP_of {L : List PostP} (h : mayB L = true) : AscP L := by
  have := may_asc h
  rwa [List.pairwise_map] at this
theorem mayFrom_of : ∀ {q : Option Key} {L : List PostP}, AscP L → (∀ p ∈ L, risesB p.2 = true) → (∀ k, q = some k → ∀ p ∈ L, before k p.1 = true) → mayFrom q L = true
  | _, [], _, _, _ => rfl
  | q, p :: L, ha, hr, hq => by
    have ha' := List.pairwise_cons.1 ha
    unfold mayFrom
    rw [hr p (by simp), Bool.true_and, Bool.and_eq_true]
    refine ⟨?_, mayFrom_of ha'.2 (fun x hx => hr x (by simp [hx])) fun k hk x hx => ?_⟩
    · cases q with
      | none => rfl
      | some k => exact hq k rfl p (by simp)
    · cases hk; exact ha'.1 x hx
theorem may_of {L : List PostP} (ha : AscP L) (hr : ∀ p ∈ L, risesB p.2 = true) : mayB L = true := mayFrom_of ha hr fun _ h => by cases h
theorem drop_may {L : List PostP} (hm : mayB L = true) (k : Key) : mayB (dropP L k) = true := by
  rw [dropP, if_pos hm]
  exact may_of (List.Pairwise.filter _ (ascP_of hm)) fun p hp => may_rises hm p (List.mem_filter.1 hp).1
section
variable {L : List PostP} {x : PostP} (hm : mayB L = true) (hx : risesB x.2 = true)
include hm hx
theorem put_is : putP L x = L.filter (fun y => before y.1 x.1) ++ [x] ++ L.filter (fun y => before x.1 y.1) := by rw [putP, if_pos hm, if_pos hx]
theorem put_may : mayB (putP L x) = true := by
  rw [put_is hm hx]
  have ha := ascP_of hm
  have h1 : AscP (L.filter fun y => before y.1 x.1) := List.Pairwise.filter _ ha
  have h2 : AscP (L.filter fun y => before x.1 y.1) := List.Pairwise.filter _ ha
  refine may_of (List.pairwise_append.2 ⟨List.pairwise_append.2 ⟨h1, List.pairwise_singleton .., fun u hu v hv => ?_⟩, h2, fun u hu v hv => ?_⟩) fun p hp => ?_
  · simp at hv; subst hv; exact (List.mem_filter.1 hu).2
  · have hv' := (List.mem_filter.1 hv).2
    rcases List.mem_append.1 hu with hu | hu
    · exact before_trans (List.mem_filter.1 hu).2 hv'
    · simp at hu; subst hu; exact hv'
  · rcases List.mem_append.1 hp with hp | hp
    · rcases List.mem_append.1 hp with hp | hp
      · exact may_rises hm p (List.mem_filter.1 hp).1
      · simp at hp; subst hp; exact hx
    · exact may_rises hm p (List.mem_filter.1 hp).1
end
end Go.Proofs.YtklgiidfompdpaaGreatDoor
namespace Go.Ix
open Go Go.Sl Go.Gv Go.Po
abbrev strV (s : ByteArray) : Value := .string s
abbrev strC (s : ByteArray) : List Value := [.string s]
abbrev slV {α : Type} (s : SlV α) : Value := .slice s.a s.xs.length s.c
abbrev slZ {α : Type} : SlV α := ⟨none, [], 0⟩
abbrev WordP : Type := ByteArray × Int
abbrev wordC (p : WordP) : List Value := [.string p.1, int p.2]
abbrev wordV (p : WordP) : Value := .agg (wordC p).toArray
end Go.Ix
namespace Go.Proofs.YtklgiidfompdpaaGreatDoor
open Go Go.Sl Go.Gv Go.Kv Go.Po Go.Ix
set_option maxRecDepth 100000
theorem kt_9 : KeyT Tryz.prog 9 strV := KeyT.str Tryz.underlying9
abbrev enck_9 : ByteArray → Value := strV
abbrev encv_94 : SlV PostV → Value := slV
abbrev encv_23 : SlV ByteArray → Value := slV
abbrev encv_99 : SlV Int → Value := slV
theorem zvk_94 : ZV Tryz.prog 94 (slV (slZ : SlV PostV)) := zv_94
theorem zvk_23 : ZV Tryz.prog 23 (slV (slZ : SlV ByteArray)) := zv_23
theorem zvk_99 : ZV Tryz.prog 99 (slV (slZ : SlV Int)) := zv_99
abbrev encC_9 : ByteArray → List Value := strC
abbrev encC_98 : WordP → List Value := wordC
theorem ek_9 : EncOk 1 strC := ⟨fun _ => rfl, fun x v hv => by
  simp only [strC, List.mem_cons, List.not_mem_nil, or_false] at hv
  rcases hv with rfl; rfl⟩
theorem ek_98 : EncOk 2 wordC := ⟨fun _ => rfl, fun x v hv => by
  simp only [wordC, List.mem_cons, List.not_mem_nil, or_false] at hv
  rcases hv with rfl | rfl <;> rfl⟩
/-- All lists read in S. -/
def RdL (S : HProp) (L : List (ByteArray × SlV PostV)) : Prop := ∀ p ∈ L, PRd S p.2.a p.2.xs ∧ p.2.xs.length ≤ 1000
def RdW (S : HProp) (W : List (Key × SlV ByteArray)) : Prop := ∀ p ∈ W, Srd S 1 strC p.2.a p.2.xs ∧ p.2.xs.length ≤ 1000
theorem PRd.l {S U : HProp} {a : Option Addr} {ps : List PostV} (h : PRd S a ps) : PRd (two S U) a ps := ⟨Srd.two1 h.1, fun p hp => ⟨Srd.two1 (h.2 p hp).1, (h.2 p hp).2⟩⟩
theorem PRd.r {S U : HProp} {a : Option Addr} {ps : List PostV} (h : PRd U a ps) : PRd (two S U) a ps := ⟨Srd.two2 h.1, fun p hp => ⟨Srd.two2 (h.2 p hp).1, (h.2 p hp).2⟩⟩
theorem RdL.l {S U : HProp} {L : List (ByteArray × SlV PostV)} (h : RdL S L) : RdL (two S U) L := fun p hp => ⟨(h p hp).1.l, (h p hp).2⟩
theorem RdW.l {S U : HProp} {W : List (Key × SlV ByteArray)} (h : RdW S W) : RdW (two S U) W := fun p hp => ⟨Srd.two1 (h p hp).1, (h p hp).2⟩
/-- An index: its two maps, and all that lies in them. -/
def ixA (x : Nat) (L : List (ByteArray × SlV PostV)) (W : List (Key × SlV ByteArray)) : HProp := fun h => ∃ q : Nat × Nat × HProp, (RdL q.2.2 L ∧ RdW q.2.2 W) ∧
  two (cl x 92 [.map (some q.1), .map (some q.2.1)]) (two (mp strV slV q.1 L) (two (mp keyV slV q.2.1 W) q.2.2)) h
section
variable {w0 : World} {n : Nat} {env : Env} {H : List HProp} {X : Act → World → Prop} {x : Nat} {L : List (ByteArray × SlV PostV)} {W : List (Key × SlV ByteArray)}
theorem Gs.ix (g : ∀ ml mw S, RdL S L → RdW S W → Gs w0 n env (cl x 92 [.map (some ml), .map (some mw)] :: mp strV slV ml L :: mp keyV slV mw W :: S :: H) X) : Gs w0 n env (ixA x L W :: H) X :=
  Gs.ex (A := fun q : Nat × Nat × HProp => fun h => (RdL q.2.2 L ∧ RdW q.2.2 W) ∧ two (cl x 92 [.map (some q.1), .map (some q.2.1)]) (two (mp strV slV q.1 L) (two (mp keyV slV q.2.1 W) q.2.2)) h)
    fun q => Gs.pure fun hq => Gs.two (fun a w e s => g q.1 q.2.1 q.2.2 hq.1 hq.2 a w e (by
      have s1 := s.take (.tl .hd)
      have s2 := Sat.two.1 s1
      have s3 := s2.take (.tl .hd)
      have s4 := Sat.two.1 s3
      exact Ent.sat (by repeat constructor) s4))
theorem Sat.ixc {w : World} {ml mw : Nat} {S : HProp} (h1 : RdL S L) (h2 : RdW S W) (s : Sat w0 w (cl x 92 [.map (some ml), .map (some mw)] :: mp strV slV ml L :: mp keyV slV mw W :: S :: H)) : Sat w0 w (ixA x L W :: H) := by
  have s1 : Sat w0 w (mp keyV slV mw W :: S :: mp strV slV ml L :: cl x 92 [.map (some ml), .map (some mw)] :: H) := Ent.sat (by repeat constructor) s
  have s2 := (Sat.two.2 s1).take (.tl .hd)
  have s3 := (Sat.two.2 s2).take (.tl .hd)
  exact (Sat.two.2 s3).ent fun h hh => ⟨(ml, mw, S), ⟨h1, h2⟩, hh⟩
theorem Gs.ixc {ml mw : Nat} {S : HProp} (h1 : RdL S L) (h2 : RdW S W) (g : Gs w0 n env (ixA x L W :: H) X) : Gs w0 n env (cl x 92 [.map (some ml), .map (some mw)] :: mp strV slV ml L :: mp keyV slV mw W :: S :: H) X :=
  fun a w e s => g a w e (Sat.ixc h1 h2 s)
end
theorem new_spec : Ct Tryz.prog 31 [] [] (fun v hs => ∃ x, v = ptr x ∧ hs = [ixA x [] []]) := by
  refine Ct.intro Tryz.func31 rfl (by kernel_rfl) 5 Tryz.ntmps31 (Nat.le_of_ble_eq_true rfl) fun w0 R => ?_
  refine Gsr ?_
  refine Las rfl rfl ?_
  refine Lnt ?_
  refine Gsr ?_
  refine Lac rfl rfl trivial (ac_mkmap enck_9 encv_94) ?_
  rintro _ _ ⟨m1, rfl, rfl⟩
  refine Lac rfl rfl trivial (ac_mkmap enck_28 encv_23) ?_
  rintro _ _ ⟨m2, rfl, rfl⟩
  refine Lpu rfl rfl trivial (pu_build bd_92 (by repeat constructor) rfl) ?_
  refine Lac rfl rfl trivial (ac_box rfl rfl) ?_
  rintro _ _ ⟨b3, rfl, rfl⟩
  refine Las rfl rfl ?_
  refine Lnt ?_
  refine Gs.ret ?_
  refine Gs.bigNil (Gs.takes (As := [cl b3 92 [.map (some m1), .map (some m2)], mp strV slV m1 ([] : List (ByteArray × SlV PostV)), mp keyV slV m2 ([] : List (Key × SlV ByteArray)), big []]) (by repeat constructor) (Gs.ixc (L := []) (W := []) (fun _ h => by cases h) (fun _ h => by cases h) ?_))
  exact Gs.fin1 Tryz.results31 rfl _ (⟨b3, rfl, rfl⟩) (by repeat constructor)
theorem ownI_spec {S : HProp} {a : Option Addr} {c : Nat} {ps : List PostV} (hS : PRd S a ps) (hl : ps.length ≤ 1000) :
    Ct Tryz.prog 168 [.slice a ps.length c] [S] (fun v hs => ∃ a' c' qs, v = .slice a' qs.length c' ∧ plain1 qs = plain1 ps ∧ hs = [S, plO a' c' qs]) := by
  refine Ct.intro Tryz.func168 rfl (by kernel_rfl) 23 Tryz.ntmps168 (Nat.le_of_ble_eq_true rfl) fun w0 R => ?_
  refine Gsr ?_
  refine Las rfl rfl ?_
  refine Lnt ?_
  refine Gsr ?_
  refine Lmv rfl rfl ?_
  refine Lac rfl rfl trivial (as_call (cloneP_spec hS.1 (by omega)) (by repeat constructor) (by repeat constructor)) ?_
  rintro _ _ ⟨_, ⟨na, nc, rfl, rfl⟩, rfl⟩
  refine Las rfl rfl ?_
  refine Lnt ?_
  refine Gs.seq ?_
  refine Gsr ?_
  refine Lmv rfl rfl ?_
  refine Lpu rfl rfl trivial (pu_len Tryz.underlying94 rfl) ?_
  refine Lmv rfl rfl ?_
  refine Lnil ?_
  refine Gs.bigNil ?_
  refine Gs.slAddr (xs := ps) (SlH.own (E := 106) (enc := postC) (by repeat constructor)) fun ab ao ha => ?_
  refine Gs.then_n ?_
  refine Gs.block ?_
  refine Gs.loop1 (fun s : Nat × List PostV => s.1 ≤ ps.length ∧ plain1 s.2 = plain1 ps ∧ s.2.drop s.1 = ps.drop s.1) (fun s => [(0, .slice na ps.length nc), (7, int ps.length), (8, int s.1)]) (fun s => [S, sl 106 3 postC na nc s.2, big ((s.2.take s.1).map atO)] ++ R) (fun s => ps.length - s.1) (0, ps) (⟨Nat.zero_le _, rfl, rfl⟩) (by repeat constructor) (by repeat constructor) (fun s hs => ?_)
  obtain ⟨i, qs⟩ := s
  obtain ⟨hi, hq, hd⟩ := hs
  dsimp only at hi hq hd ⊢
  have hql : qs.length = ps.length := by have := congrArg List.length hq; simpa using this
  refine Gsr ?_
  refine Lpu rfl rfl trivial (pu_lt rfl rfl) ?_
  refine Lnt ?_
  refine Gs.seq ?_
  refine Gs.cond rfl (fun hc0 => ?_) (fun hc0 => ?_)
  ·
   have hlt : i < ps.length := by have := of_decide_eq_true hc0; omega
   obtain ⟨p, hp⟩ : ∃ x, ps[i]? = some x := ⟨ps[i], by simp [hlt]⟩
   obtain rfl := ha (by rintro rfl; simp at hlt)
   have hpq : qs[i]? = some p := by
     have := congrArg (·[0]?) hd
     simpa [List.getElem?_drop, hp] using this
   obtain ⟨hat, hatl⟩ := hS.2 p (List.mem_of_getElem? hp)
   refine Gs.skip ?_
   refine Gs.then_n ?_
   refine Gs.seq ?_
   refine Gs.block ?_
   refine Gsr ?_
   refine Lmv rfl rfl ?_
   refine Las rfl rfl ?_
   refine Lnt ?_
   refine Gs.reg ?_
   refine Lmv rfl rfl ?_
   refine Lmv rfl rfl ?_
   refine Lmv rfl rfl ?_
   refine Lmv rfl rfl ?_
   refine Lpu rfl rfl trivial (pu_ia se_94 rfl rfl (by omega) (by omega)) ?_
   refine Lpu rfl rfl trivial (pu_fa fa_106_1 rfl) ?_
   refine Lrd rfl rfl trivial (rd_ld na_99 rfl (Rdc.elp 1 (SlH.own (xs := qs) (E := 106) (enc := postC) (sz := 3) (by repeat constructor)) hpq rfl rfl)) ?_
   refine Lac rfl rfl trivial (as_call (cloneI_spec hat (by omega)) (by repeat constructor) (by repeat constructor)) ?_
   rintro _ _ ⟨_, ⟨ka, kc, rfl, rfl⟩, rfl⟩
   refine Lpu rfl rfl trivial (pu_ia se_94 rfl rfl (by omega) (by omega)) ?_
   refine Lpu rfl rfl trivial (pu_fa fa_106_1 rfl) ?_
   refine Lac0 rfl trivial (ac_stE (enc := postC) (xs := qs) (i := i) (x0 := p) (y0 := ⟨p.k, ⟨ka, p.t.xs, kc⟩⟩) (vs := [.slice ka p.t.xs.length kc]) (fo := 2) sz_99 ek_106 rfl rfl (by repeat constructor) rfl rfl rfl hpq rfl rfl) ?_
   rintro _ _ rfl
   refine Lnil ?_
   have hset : ((qs.set i ⟨p.k, ⟨ka, p.t.xs, kc⟩⟩).take (i + 1)).map atO = (qs.take i).map atO ++ [atO ⟨p.k, ⟨ka, p.t.xs, kc⟩⟩] := by
     rw [List.take_add_one, List.getElem?_set_self (by omega), List.take_set_of_le (Nat.le_refl _), List.map_append]; rfl
   refine Gs.takes (As := [atO ⟨p.k, ⟨ka, p.t.xs, kc⟩⟩, big ((qs.take i).map atO)]) (by repeat constructor) (Gs.bigBack take_snoc ?_)
   rw [← hset]
   have k1 : plain1 (qs.set i ⟨p.k, ⟨ka, p.t.xs, kc⟩⟩) = plain1 ps := by
     rw [← hq]
     show (qs.set i _).map PostV.p = qs.map PostV.p
     rw [List.map_set]
     refine List.ext_getElem? fun j => ?_
     by_cases hj : i = j
     · subst hj; rw [List.getElem?_set_self (by simp; omega), List.getElem?_map, hpq]; rfl
     · rw [List.getElem?_set_ne hj]
   have k2 : (qs.set i ⟨p.k, ⟨ka, p.t.xs, kc⟩⟩).drop (i + 1) = ps.drop (i + 1) := by rw [List.drop_set_of_lt (by omega), ← List.drop_drop, hd, List.drop_drop]
   refine Gs.blk_n ?_
   refine Gs.then_n ?_
   refine Gs.reg ?_
   refine Lpu rfl rfl trivial (by first | exact pu_addI rfl rfl rfl (by omega) (by omega) | exact pu_add rfl rfl) ?_
   refine Lmv rfl rfl ?_
   refine Lnt ?_
   exact Gs.again1 (i + 1, qs.set i ⟨p.k, ⟨ka, p.t.xs, kc⟩⟩) ⟨hlt, k1, k2⟩ (by show ps.length - (i + 1) < ps.length - i; omega) (by repeat constructor) (by repeat constructor)
  ·
   have hge : i = ps.length := by have := of_decide_eq_false hc0; omega
   rw [List.take_of_length_le (by omega)]
   refine Gs.exit ?_
   refine Gs.then_x ?_
   refine Gs.then_x ?_
   refine Gs.blk_hit ?_
   refine Gs.then_n ?_
   refine Gsr ?_
   refine Lmv rfl rfl ?_
   refine Las rfl rfl ?_
   refine Lnt ?_
   refine Gs.ret ?_
   refine Gs.takes (As := [sl 106 3 postC na nc qs, big (qs.map atO)]) (by repeat constructor) (Gs.toTwo ?_)
   exact Gs.fin1 Tryz.results168 rfl _ (⟨na, nc, qs, by rw [hql], hq, rfl⟩) (by repeat constructor)
/-- The list of a word. -/
def lisT (L : List (ByteArray × SlV PostV)) (w : ByteArray) : SlV PostV := (mget L w).getD slZ
theorem lisT_rd {S : HProp} {L : List (ByteArray × SlV PostV)} (h : RdL S L) (w : ByteArray) : PRd S (lisT L w).a (lisT L w).xs ∧ (lisT L w).xs.length ≤ 1000 := by
  unfold lisT
  cases hm : mget L w with
  | none => exact ⟨⟨fun _ _ _ _ _ _ hne => (hne rfl).elim, fun _ hp => by cases hp⟩, Nat.zero_le _⟩
  | some s => exact h (w, s) (mget_mem hm)
theorem word_spec (x : Nat) (L : List (ByteArray × SlV PostV)) (W : List (Key × SlV ByteArray)) (w : ByteArray) :
    Ct Tryz.prog 123 [ptr x, .string w] [ixA x L W] (fun v hs => ∃ a' c' qs, v = .slice a' qs.length c' ∧ plain1 qs = plain1 (lisT L w).xs ∧ hs = [ixA x L W, plO a' c' qs]) := by
  refine Ct.intro Tryz.func123 rfl (by kernel_rfl) 14 Tryz.ntmps123 (Nat.le_of_ble_eq_true rfl) fun w0 R => ?_
  refine Gs.ix fun ml mw S hL hW => ?_
  refine Gsr ?_
  refine Las rfl rfl ?_
  refine Lnt ?_
  refine Gs.seq ?_
  refine Gsr ?_
  refine Lmv rfl rfl ?_
  refine Lpu rfl rfl trivial (pu_eqN Tryz.underlying72 rfl rfl) ?_
  refine Lnt ?_
  refine Gs.cond_ff rfl rfl ?_
  refine Gs.skip ?_
  refine Gs.then_n ?_
  refine Gsr ?_
  refine Lmv rfl rfl ?_
  refine Lpu rfl rfl trivial (by first | exact pu_nil rfl | exact pu_nilF rfl) ?_
  refine Lpu rfl rfl trivial (pu_fa fa_92_0 rfl) ?_
  refine Lrd rfl rfl trivial (rd_ld na_89 rfl (Rdc.cl1 (by repeat constructor) rfl)) ?_
  refine Lmv rfl rfl ?_
  refine Lrd rfl rfl trivial (rd_look1 Tryz.underlying89 kt_9 zvk_94 rfl rfl (by repeat constructor)) ?_
  refine Lac rfl rfl trivial (as_call (ownI_spec (lisT_rd hL w).1 (lisT_rd hL w).2) (by repeat constructor) (by repeat constructor)) ?_
  rintro _ _ ⟨_, ⟨na, nc, qs, rfl, hq, rfl⟩, rfl⟩
  refine Las rfl rfl ?_
  refine Lnt ?_
  refine Gs.ret ?_
  refine Gs.takes (As := [cl x 92 [.map (some ml), .map (some mw)], mp strV slV ml L, mp keyV slV mw W, S]) (by repeat constructor) (Gs.ixc hL hW ?_)
  exact Gs.fin1 Tryz.results123 rfl _ (⟨na, nc, qs, rfl, hq, rfl⟩) (by repeat constructor)
end Go.Proofs.YtklgiidfompdpaaGreatDoor
