/- Texts that stand in one. -/
import Derived.Test.YtjaafkakeccniaaGreatDoorTy
import Derived.Test.YtjaafkakeccniaaGreatDoorMK
import Derived.Test.YtjaafkakeccniaaGreatDoorKey
import Derived.Test.YtjaafkakeccniaaGreatDoorSlc
import Derived.Test.YtjaafkakeccniaaGreatDoorMore
import Derived.Test.YtjaafkakeccniaaGreatDoorLgy
/- Walk: grapevinelaw0.SameInts. -/
namespace Go.Proofs.YtjaafkakeccniaaGreatDoor
open Go Go.Sl Go.Gv
set_option maxRecDepth 100000
theorem sameInts_spec {S : HProp} {a b : Option Addr} {c d : Nat} {xs ys : List Int} (hS : Srd S 1 intC a xs) (hU : Srd S 1 intC b ys) (hl : xs.length ≤ 1000000) :
    Ct Tryz.prog 28 [.slice a xs.length c, .slice b ys.length d] [S] (fun v hs => v = .bool (decide (xs = ys)) ∧ hs = [S]) := by
  refine Ct.intro Tryz.func28 rfl (by kernel_rfl) 26 Tryz.ntmps28 (Nat.le_of_ble_eq_true rfl) fun w0 R => ?_
  refine Gs.slAddr (hS.h (by repeat constructor)) fun ab ao ha => ?_
  refine Gs.slAddr (hU.h (by repeat constructor)) fun ub uo hu => ?_
  refine Gs.seq ?_
  refine Gs.reg ?_
  refine Go.Sl.L.pu rfl rfl trivial (pu_assign rfl) ?_
  refine Go.Sl.L.nil ?_
  refine Gs.then_n ?_
  refine Gs.seq ?_
  refine Gs.seq ?_
  refine Gs.reg ?_
  refine Go.Sl.L.pu rfl rfl trivial (pu_move rfl) ?_
  refine Go.Sl.L.pu rfl rfl trivial (pu_len Tryz.underlying23 rfl) ?_
  refine Go.Sl.L.pu rfl rfl trivial (pu_move rfl) ?_
  refine Go.Sl.L.pu rfl rfl trivial (pu_len Tryz.underlying23 rfl) ?_
  refine Go.Sl.L.pu rfl rfl trivial (pu_ne rfl rfl) ?_
  refine Go.Sl.L.nil ?_
  refine Gs.then_n ?_
  refine Gs.cond rfl (fun hc0 => ?_) (fun hc0 => ?_)
  · skip
    have hne : ¬ xs = ys := fun e => by have := of_decide_eq_true hc0; rw [e] at this; exact this rfl
    refine Gs.seq ?_
    refine Gs.reg ?_
    refine Go.Sl.L.pu rfl rfl trivial (pu_assign rfl) ?_
    refine Go.Sl.L.nil ?_
    refine Gs.then_n ?_
    refine Gs.ret ?_
    refine Gs.then_r ?_
    exact Gs.fin1 Tryz.results28 rfl _ (⟨by rw [decide_eq_false hne], rfl⟩) (by repeat constructor)
  · skip
    have hle : xs.length = ys.length := by have := of_decide_eq_false hc0; omega
    refine Gs.skip ?_
    refine Gs.then_n ?_
    refine Gs.seq ?_
    refine Gs.seq ?_
    refine Gs.reg ?_
    refine Go.Sl.L.pu rfl rfl trivial (pu_assign rfl) ?_
    refine Go.Sl.L.nil ?_
    refine Gs.then_n ?_
    refine Gs.block ?_
    refine Gs.loop1 (fun i : Nat => i ≤ xs.length ∧ xs.take i = ys.take i) (fun i => [(0, .slice a xs.length c), (1, .slice b ys.length d), (5, int i)]) (fun i => [S] ++ R) (fun i => xs.length - i) 0 (⟨Nat.zero_le _, rfl⟩) (by repeat constructor) (by repeat constructor) (fun i ⟨hi, ht⟩ => ?_)
    refine Gs.seq ?_
    refine Gs.seq ?_
    refine Gs.reg ?_
    refine Go.Sl.L.pu rfl rfl trivial (pu_move rfl) ?_
    refine Go.Sl.L.pu rfl rfl trivial (pu_move rfl) ?_
    refine Go.Sl.L.pu rfl rfl trivial (pu_len Tryz.underlying23 rfl) ?_
    refine Go.Sl.L.pu rfl rfl trivial (pu_lt rfl rfl) ?_
    refine Go.Sl.L.nil ?_
    refine Gs.then_n ?_
    refine Gs.cond rfl (fun hc1 => ?_) (fun hc1 => ?_)
    · skip
      have hlt : i < xs.length := by have := of_decide_eq_true hc1; omega
      obtain ⟨x, hx⟩ : ∃ x, xs[i]? = some x := ⟨xs[i], by simp [hlt]⟩
      obtain ⟨y, hy⟩ : ∃ x, ys[i]? = some x := ⟨ys[i]'(by omega), by simp [← hle, hlt]⟩
      obtain rfl := ha (by rintro rfl; simp at hlt)
      obtain rfl := hu (by rintro rfl; simp at hy)
      refine Gs.skip ?_
      refine Gs.then_n ?_
      refine Gs.seq ?_
      refine Gs.block ?_
      refine Gs.seq ?_
      refine Gs.regD mixed (by kernel_rfl) ?_
      refine Rg.pu 0 rfl rfl (by kernel_rfl) trivial (pu_move rfl) ?_
      refine Rg.pu 1 rfl rfl (by kernel_rfl) trivial (pu_move rfl) ?_
      refine Rg.pu 2 rfl rfl (by kernel_rfl) trivial (pu_ia se_23 rfl rfl (by omega) (by omega)) ?_
      refine Rg.rd 3 rfl rfl (by kernel_rfl) trivial (rd_ld na_3 rfl (Rdc.el0 (hS.h (by repeat constructor)) hx rfl rfl)) ?_
      refine Rg.pu 4 rfl rfl (by kernel_rfl) trivial (pu_move rfl) ?_
      refine Rg.pu 5 rfl rfl (by kernel_rfl) trivial (pu_move rfl) ?_
      refine Rg.pu 6 rfl rfl (by kernel_rfl) trivial (pu_ia se_23 rfl rfl (by omega) (by omega)) ?_
      refine Rg.rd 7 rfl rfl (by kernel_rfl) trivial (rd_ld na_3 rfl (Rdc.el0 (hU.h (by repeat constructor)) hy rfl rfl)) ?_
      refine Rg.pu 8 rfl rfl (by kernel_rfl) trivial (pu_ne rfl rfl) ?_
      refine Rg.end (by kernel_rfl) ?_
      refine Gs.then_n ?_
      refine Gs.cond rfl (fun hc2 => ?_) (fun hc2 => ?_)
      · skip
        have hne : ¬ xs = ys := fun e => by have := of_decide_eq_true hc2; rw [e, hy] at hx; exact this (Option.some.inj hx).symm
        refine Gs.seq ?_
        refine Gs.reg ?_
        refine Go.Sl.L.pu rfl rfl trivial (pu_assign rfl) ?_
        refine Go.Sl.L.nil ?_
        refine Gs.then_n ?_
        refine Gs.ret ?_
        refine Gs.blk_r ?_
        refine Gs.then_r ?_
        refine Gs.then_r ?_
        refine Gs.blk_r ?_
        refine Gs.then_r ?_
        exact Gs.fin1 Tryz.results28 rfl _ (⟨by rw [decide_eq_false hne], rfl⟩) (by repeat constructor)
      · skip
        have hxy : x = y := by have := of_decide_eq_false hc2; omega
        refine Gs.skip ?_
        refine Gs.blk_n ?_
        refine Gs.then_n ?_
        refine Gs.reg ?_
        refine Go.Sl.L.pu rfl rfl trivial (pu_move rfl) ?_
        refine Go.Sl.L.pu rfl rfl trivial (by first | exact pu_addI rfl rfl rfl (by omega) (by omega) | exact pu_add rfl rfl) ?_
        refine Go.Sl.L.pu rfl rfl trivial (pu_assign rfl) ?_
        refine Go.Sl.L.nil ?_
        refine Gs.then_n ?_
        exact Gs.again1 (i + 1) ⟨by omega, by rw [List.take_add_one, List.take_add_one, ht, hx, hy, hxy]⟩ (by omega) (by repeat constructor) (by repeat constructor)
    · skip
      have hge : i = xs.length := by have := of_decide_eq_false hc1; omega
      have heq : xs = ys := by rw [hge, List.take_length, hle, List.take_length] at ht; exact ht
      refine Gs.exit ?_
      refine Gs.then_x ?_
      refine Gs.then_x ?_
      refine Gs.blk_hit ?_
      refine Gs.then_n ?_
      refine Gs.seq ?_
      refine Gs.reg ?_
      refine Go.Sl.L.pu rfl rfl trivial (pu_assign rfl) ?_
      refine Go.Sl.L.nil ?_
      refine Gs.then_n ?_
      refine Gs.ret ?_
      exact Gs.fin1 Tryz.results28 rfl _ (⟨by rw [decide_eq_true heq], rfl⟩) (by repeat constructor)
end Go.Proofs.YtjaafkakeccniaaGreatDoor

/- Walk: grapevinelaw0.OverInts. -/
namespace Go.Proofs.YtjaafkakeccniaaGreatDoor
open Go Go.Sl Go.Gv
set_option maxRecDepth 100000
theorem overInts_spec {a : Option Addr} {c : Nat} {xs : List Int} (hl : xs.length ≤ 100000) :
    Ct Tryz.prog 46 [.slice a xs.length c] [sl 3 1 intC a c xs] (fun v hs => v = .tuple #[] ∧ hs = []) := by
  refine Ct.intro Tryz.func46 rfl (by kernel_rfl) 15 Tryz.ntmps46 (Nat.le_of_ble_eq_true rfl) fun w0 R => ?_
  refine Gs.slAddr (xs := xs) (SlH.own (E := 3) (enc := intC) (by repeat constructor)) fun ab ao ha => ?_
  refine Gs.seq ?_
  refine Gs.seq ?_
  refine Gs.reg ?_
  refine Go.Sl.L.pu rfl rfl trivial (pu_assign rfl) ?_
  refine Go.Sl.L.nil ?_
  refine Gs.then_n ?_
  refine Gs.block ?_
  refine Gs.loop1 (fun s : Nat × List Int => s.1 ≤ xs.length ∧ s.2.length = xs.length) (fun s => [(0, .slice a xs.length c), (2, int s.1)]) (fun s => [sl 3 1 intC a c s.2] ++ R) (fun s => xs.length - s.1) (0, xs) (⟨Nat.zero_le _, rfl⟩) (by repeat constructor) (by repeat constructor) (fun s hs => ?_)
  obtain ⟨i, ys⟩ := s
  obtain ⟨hi, hy⟩ := hs
  dsimp only at hi hy ⊢
  refine Gs.seq ?_
  refine Gs.seq ?_
  refine Gs.reg ?_
  refine Go.Sl.L.pu rfl rfl trivial (pu_move rfl) ?_
  refine Go.Sl.L.pu rfl rfl trivial (pu_move rfl) ?_
  refine Go.Sl.L.pu rfl rfl trivial (pu_len Tryz.underlying23 rfl) ?_
  refine Go.Sl.L.pu rfl rfl trivial (pu_lt rfl rfl) ?_
  refine Go.Sl.L.nil ?_
  refine Gs.then_n ?_
  refine Gs.cond rfl (fun hc0 => ?_) (fun hc0 => ?_)
  · skip
    have hlt : i < xs.length := by have := of_decide_eq_true hc0; omega
    obtain rfl := ha (by rintro rfl; simp at hlt)
    have hset : (ys.set i (-999)).length = xs.length := by rw [List.length_set]; exact hy
    refine Gs.skip ?_
    refine Gs.then_n ?_
    refine Gs.seq ?_
    refine Gs.block ?_
    refine Gs.reg ?_
    refine Go.Sl.L.pu rfl rfl trivial (pu_move rfl) ?_
    refine Go.Sl.L.pu rfl rfl trivial (pu_move rfl) ?_
    refine Go.Sl.L.pu rfl rfl trivial (pu_ia se_23 rfl rfl (by omega) (by omega)) ?_
    refine Go.Sl.L.ac0 rfl trivial (ac_stE (enc := intC) (xs := ys) (i := i) (x0 := ys[i]'(by omega)) (y0 := -999) (vs := intC (-999)) (fo := 0) sz_3 ek_3 rfl rfl (by repeat constructor) rfl rfl rfl (by simp) rfl rfl) ?_
    rintro _ _ rfl
    refine Go.Sl.L.nil ?_
    refine Gs.blk_n ?_
    refine Gs.then_n ?_
    refine Gs.reg ?_
    refine Go.Sl.L.pu rfl rfl trivial (pu_move rfl) ?_
    refine Go.Sl.L.pu rfl rfl trivial (by first | exact pu_addI rfl rfl rfl (by omega) (by omega) | exact pu_add rfl rfl) ?_
    refine Go.Sl.L.pu rfl rfl trivial (pu_assign rfl) ?_
    refine Go.Sl.L.nil ?_
    refine Gs.then_n ?_
    exact Gs.again1 (i + 1, ys.set i (-999)) ⟨hlt, hset⟩ (by show xs.length - (i + 1) < xs.length - i; omega) (by repeat constructor) (by repeat constructor)
  · skip
    refine Gs.exit ?_
    refine Gs.then_x ?_
    refine Gs.then_x ?_
    refine Gs.blk_hit ?_
    refine Gs.then_n ?_
    rw [← hy]
    refine Gs.reg ?_
    refine Go.Sl.L.pu rfl rfl trivial (pu_move rfl) ?_
    refine Go.Sl.L.ac rfl rfl trivial (ac_lit encC_3 ([(-999 : Int)]) et_23 ek_3 rfl (by repeat constructor) rfl rfl (by decide)) ?_
    rintro _ _ ⟨a13, rfl, rfl⟩
    refine Go.Sl.L.ac rfl rfl trivial (ac_append (xs := ys) (ys := [(-999 : Int)]) et_23 ek_3 rfl rfl (by repeat constructor) (SrcH.sl Tryz.underlying23 ek_3 (SlH.own (by repeat constructor))) (by first | omega | (simp; omega)) (by first | omega | (simp; omega))) ?_
    rintro _ _ ⟨a14, c14, rfl, rfl⟩
    refine Go.Sl.L.nil ?_
    refine Gs.fin_n ?_
    exact Gs.fin0 Tryz.results46 _ (⟨rfl, rfl⟩) (by repeat constructor)
end Go.Proofs.YtjaafkakeccniaaGreatDoor

/- Walks: grapevinelaw0.Low. -/
namespace Go.Proofs.YtjaafkakeccniaaGreatDoor
open Go Go.Sl Go.Gv
set_option maxRecDepth 100000
def lowZ (a b : Int) : Int := IntKind.i64.wrap ((IntKind.u64.wrap a).tmod (IntKind.u64.wrap b))
theorem lowZ_in {a b : Int} (hb : 0 < b) (hb2 : b ≤ 100000000) : 0 ≤ lowZ a b ∧ lowZ a b < b := by
  have h1 : IntKind.u64.wrap b = b := by simp [IntKind.wrap, IntKind.bits, IntKind.signed]; omega
  have h2 : 0 ≤ IntKind.u64.wrap a := by simp [IntKind.wrap, IntKind.bits, IntKind.signed]; omega
  unfold lowZ
  rw [h1]
  have h3 := Int.tmod_nonneg b h2
  have h4 := Int.tmod_lt_of_pos (IntKind.u64.wrap a) hb
  rw [wrap_in (by omega) (by omega)]
  exact ⟨h3, h4⟩
theorem low_spec (a b : Int) (hb : 0 < b) (hb2 : b ≤ 100000000) : Ct Tryz.prog 24 [int a, int b] [] (fun v hs => v = int (lowZ a b) ∧ hs = []) := by
  have h1 : IntKind.u64.wrap b = b := by simp [IntKind.wrap, IntKind.bits, IntKind.signed]; omega
  refine Ct.intro Tryz.func24 rfl (by kernel_rfl) 11 Tryz.ntmps24 (Nat.le_of_ble_eq_true rfl) fun w0 R => ?_
  refine Gs.seq ?_
  refine Gs.reg ?_
  refine Go.Sl.L.pu rfl rfl trivial (pu_assign rfl) ?_
  refine Go.Sl.L.nil ?_
  refine Gs.then_n ?_
  refine Gs.seq ?_
  refine Gs.reg ?_
  refine Go.Sl.L.pu rfl rfl trivial (pu_move rfl) ?_
  refine Go.Sl.L.pu rfl rfl trivial (pu_conv Tryz.underlying3 Tryz.underlying89 rfl) ?_
  refine Go.Sl.L.pu rfl rfl trivial (pu_move rfl) ?_
  refine Go.Sl.L.pu rfl rfl trivial (pu_conv Tryz.underlying3 Tryz.underlying89 rfl) ?_
  refine Go.Sl.L.pu rfl rfl trivial (pu_rem rfl rfl (by rw [h1]; omega)) ?_
  refine Go.Sl.L.pu rfl rfl trivial (pu_conv Tryz.underlying89 Tryz.underlying3 rfl) ?_
  refine Go.Sl.L.pu rfl rfl trivial (pu_assign rfl) ?_
  refine Go.Sl.L.nil ?_
  refine Gs.then_n ?_
  refine Gs.ret ?_
  exact Gs.fin1 Tryz.results24 rfl _ (⟨rfl, rfl⟩) (by repeat constructor)
end Go.Proofs.YtjaafkakeccniaaGreatDoor

/- Walks: grapevinelaw9.great, plain; SameEntries, OverEntries (grapevinelaw0). -/
namespace Go.Proofs.YtjaafkakeccniaaGreatDoor
open Go Go.Sl Go.Gv
set_option maxRecDepth 100000
def filterV (es : List EntV) : List EntV := es.filter fun e => decide (e.kind ≠ 1)
theorem filterV_plain (es : List EntV) : plainV (filterV es) = plainE (plainV es) := by
  unfold plainV filterV plainE
  rw [List.filter_map]; rfl
theorem filterV_take {es : List EntV} {i : Nat} {e : EntV} (h : es[i]? = some e) : filterV (es.take (i + 1)) = filterV (es.take i) ++ if decide (e.kind ≠ 1) = true then [e] else [] := by
  unfold filterV; rw [List.take_add_one, h, List.filter_append]
  simp only [Option.toList_some, List.filter_cons, List.filter_nil]
theorem filterV_len (es : List EntV) : (filterV es).length ≤ es.length := List.length_filter_le ..
theorem plain_spec {S : HProp} {a : Option Addr} {c : Nat} {es : List EntV} (hS : Srd S 8 entC a es) (hl : es.length ≤ 1000000) :
    Ct Tryz.prog 22 [.slice a es.length c] [S] (fun v hs => ∃ a' c', v = .slice a' (filterV es).length c' ∧ hs = [S, sl 43 8 entC a' c' (filterV es)]) := by
  refine Ct.intro Tryz.func22 rfl (by kernel_rfl) 25 Tryz.ntmps22 (Nat.le_of_ble_eq_true rfl) fun w0 R => ?_
  refine Gs.slAddr (hS.h (by repeat constructor)) fun ab ao ha => ?_
  refine Gs.seq ?_
  refine Gs.reg ?_
  refine Go.Sl.L.pu rfl rfl trivial (pu_assign rfl) ?_
  refine Go.Sl.L.nil ?_
  refine Gs.then_n ?_
  refine Gs.seq ?_
  refine Gs.reg ?_
  refine Go.Sl.L.pu rfl rfl trivial (pu_assign rfl) ?_
  refine Go.Sl.L.nil ?_
  refine Gs.then_n ?_
  refine Gs.seq ?_
  refine Gs.seq ?_
  refine Gs.reg ?_
  refine Go.Sl.L.pu rfl rfl trivial (pu_assign rfl) ?_
  refine Go.Sl.L.nil ?_
  refine Gs.slNil 43 8 entC ?_
  refine Gs.then_n ?_
  refine Gs.block ?_
  refine Gs.loop1 (fun s : Nat × Option Addr × Nat × List EntV => s.1 ≤ es.length ∧ s.2.2.2 = filterV (es.take s.1)) (fun s => [(0, .slice a es.length c), (3, .slice s.2.1 s.2.2.2.length s.2.2.1), (4, int s.1)]) (fun s => [S, sl 43 8 entC s.2.1 s.2.2.1 s.2.2.2] ++ R) (fun s => es.length - s.1) (0, none, 0, []) (⟨Nat.zero_le _, rfl⟩) (by repeat constructor) (by repeat constructor) (fun s hs => ?_)
  obtain ⟨i, ca, cc, l⟩ := s
  obtain ⟨hi, hl1⟩ := hs
  dsimp only at hi hl1 ⊢
  have hll : l.length ≤ 1000000 := by rw [hl1]; have := filterV_len (es.take i); rw [List.length_take] at this; omega
  refine Gs.seq ?_
  refine Gs.seq ?_
  refine Gs.reg ?_
  refine Go.Sl.L.pu rfl rfl trivial (pu_move rfl) ?_
  refine Go.Sl.L.pu rfl rfl trivial (pu_move rfl) ?_
  refine Go.Sl.L.pu rfl rfl trivial (pu_len Tryz.underlying22 rfl) ?_
  refine Go.Sl.L.pu rfl rfl trivial (pu_lt rfl rfl) ?_
  refine Go.Sl.L.nil ?_
  refine Gs.then_n ?_
  refine Gs.cond rfl (fun hc0 => ?_) (fun hc0 => ?_)
  · skip
    have hlt : i < es.length := by have := of_decide_eq_true hc0; omega
    obtain ⟨e, he⟩ : ∃ x, es[i]? = some x := ⟨es[i], by simp [hlt]⟩
    obtain rfl := ha (by rintro rfl; simp at hlt)
    have hst := filterV_take he
    refine Gs.skip ?_
    refine Gs.then_n ?_
    refine Gs.seq ?_
    refine Gs.block ?_
    refine Gs.seq ?_
    refine Gs.reg ?_
    refine Go.Sl.L.pu rfl rfl trivial (pu_move rfl) ?_
    refine Go.Sl.L.pu rfl rfl trivial (pu_move rfl) ?_
    refine Go.Sl.L.pu rfl rfl trivial (pu_ia se_22 rfl rfl (by omega) (by omega)) ?_
    refine Go.Sl.L.pu rfl rfl trivial (pu_fa fa_43_0 rfl) ?_
    refine Go.Sl.L.rd rfl rfl trivial (rd_ld na_3 rfl (Rdc.elp 1 (hS.h (by repeat constructor)) he rfl rfl)) ?_
    refine Go.Sl.L.pu rfl rfl trivial (pu_ne rfl rfl) ?_
    refine Go.Sl.L.nil ?_
    refine Gs.then_n ?_
    refine Gs.cond rfl (fun hc1 => ?_) (fun hc1 => ?_)
    · skip
      have hst2 : l ++ [e] = filterV (es.take (i + 1)) := by rw [hst, if_pos hc1, hl1]
      refine Gs.reg ?_
      refine Go.Sl.L.pu rfl rfl trivial (pu_move rfl) ?_
      refine Go.Sl.L.pu rfl rfl trivial (pu_move rfl) ?_
      refine Go.Sl.L.pu rfl rfl trivial (pu_move rfl) ?_
      refine Go.Sl.L.pu rfl rfl trivial (pu_ia se_22 rfl rfl (by omega) (by omega)) ?_
      refine Go.Sl.L.rd rfl rfl trivial (rd_lda ag_43 rfl (Rdc.el0 (hS.h (by repeat constructor)) he rfl rfl) rfl) ?_
      refine Go.Sl.L.ac rfl rfl trivial (ac_lit encC_43 ([e]) et_22 ek_43 rfl (by repeat constructor) rfl rfl (by decide)) ?_
      rintro _ _ ⟨a22, rfl, rfl⟩
      refine Go.Sl.L.ac rfl rfl trivial (ac_append (xs := l) (ys := [e]) et_22 ek_43 rfl rfl (by repeat constructor) (SrcH.sl Tryz.underlying22 ek_43 (SlH.own (by repeat constructor))) (by first | omega | (simp; omega)) (by first | omega | (simp; omega))) ?_
      rintro _ _ ⟨a23, c23, rfl, rfl⟩
      refine Go.Sl.L.pu rfl rfl trivial (pu_assign rfl) ?_
      refine Go.Sl.L.nil ?_
      refine Gs.blk_n ?_
      refine Gs.then_n ?_
      refine Gs.reg ?_
      refine Go.Sl.L.pu rfl rfl trivial (pu_move rfl) ?_
      refine Go.Sl.L.pu rfl rfl trivial (by first | exact pu_addI rfl rfl rfl (by omega) (by omega) | exact pu_add rfl rfl) ?_
      refine Go.Sl.L.pu rfl rfl trivial (pu_assign rfl) ?_
      refine Go.Sl.L.nil ?_
      refine Gs.then_n ?_
      first | exact Gs.again1 (i + 1, a23, c23, l ++ [e]) ⟨hlt, hst2⟩ (by show es.length - (i + 1) < es.length - i; omega) (by repeat constructor) (by repeat constructor) | exact Gs.again1 (i + 1, ca, cc, l) ⟨hlt, hst2⟩ (by show es.length - (i + 1) < es.length - i; omega) (by repeat constructor) (by repeat constructor)
    · skip
      have hst2 : l = filterV (es.take (i + 1)) := by rw [hst, if_neg (by rw [hc1]; decide), hl1, List.append_nil]
      refine Gs.skip ?_
      refine Gs.blk_n ?_
      refine Gs.then_n ?_
      refine Gs.reg ?_
      refine Go.Sl.L.pu rfl rfl trivial (pu_move rfl) ?_
      refine Go.Sl.L.pu rfl rfl trivial (by first | exact pu_addI rfl rfl rfl (by omega) (by omega) | exact pu_add rfl rfl) ?_
      refine Go.Sl.L.pu rfl rfl trivial (pu_assign rfl) ?_
      refine Go.Sl.L.nil ?_
      refine Gs.then_n ?_
      first | exact Gs.again1 (i + 1, a23, c23, l ++ [e]) ⟨hlt, hst2⟩ (by show es.length - (i + 1) < es.length - i; omega) (by repeat constructor) (by repeat constructor) | exact Gs.again1 (i + 1, ca, cc, l) ⟨hlt, hst2⟩ (by show es.length - (i + 1) < es.length - i; omega) (by repeat constructor) (by repeat constructor)
  · skip
    have hge : i = es.length := by have := of_decide_eq_false hc0; omega
    have hfin : l = filterV es := by rw [hl1, hge, List.take_length]
    rw [hfin]
    refine Gs.exit ?_
    refine Gs.then_x ?_
    refine Gs.then_x ?_
    refine Gs.blk_hit ?_
    refine Gs.then_n ?_
    refine Gs.seq ?_
    refine Gs.reg ?_
    refine Go.Sl.L.pu rfl rfl trivial (pu_move rfl) ?_
    refine Go.Sl.L.pu rfl rfl trivial (pu_assign rfl) ?_
    refine Go.Sl.L.nil ?_
    refine Gs.then_n ?_
    refine Gs.ret ?_
    exact Gs.fin1 Tryz.results22 rfl _ (⟨ca, cc, rfl, rfl⟩) (by repeat constructor)
theorem sameEntries_spec {U : HProp} {a b : Option Addr} {c d : Nat} {xs ys : List EntV} (hX : ERd U a xs) (hY : ERd U b ys) (hl : xs.length ≤ 1000000) (hv : ∀ e ∈ xs, e.v.xs.length ≤ 1000000 ∧ e.w.xs.length ≤ 1000000) :
    Ct Tryz.prog 21 [.slice a xs.length c, .slice b ys.length d] [U] (fun v hs => v = .bool (decide (plainV xs = plainV ys)) ∧ hs = [U]) := by
  refine Ct.intro Tryz.func21 rfl (by kernel_rfl) 69 Tryz.ntmps21 (Nat.le_of_ble_eq_true rfl) fun w0 R => ?_
  refine Gs.slAddr (hX.1.h (by repeat constructor)) fun ab ao ha => ?_
  refine Gs.slAddr (hY.1.h (by repeat constructor)) fun ub uo hu => ?_
  refine Gs.seq ?_
  refine Gs.reg ?_
  refine Go.Sl.L.pu rfl rfl trivial (pu_assign rfl) ?_
  refine Go.Sl.L.nil ?_
  refine Gs.then_n ?_
  refine Gs.seq ?_
  refine Gs.seq ?_
  refine Gs.reg ?_
  refine Go.Sl.L.pu rfl rfl trivial (pu_move rfl) ?_
  refine Go.Sl.L.pu rfl rfl trivial (pu_len Tryz.underlying22 rfl) ?_
  refine Go.Sl.L.pu rfl rfl trivial (pu_move rfl) ?_
  refine Go.Sl.L.pu rfl rfl trivial (pu_len Tryz.underlying22 rfl) ?_
  refine Go.Sl.L.pu rfl rfl trivial (pu_ne rfl rfl) ?_
  refine Go.Sl.L.nil ?_
  refine Gs.then_n ?_
  refine Gs.cond rfl (fun hc0 => ?_) (fun hc0 => ?_)
  · skip
    have hne : ¬ plainV xs = plainV ys := fun e => by have := of_decide_eq_true hc0; have e2 := congrArg List.length e; simp at e2; rw [e2] at this; exact this rfl
    refine Gs.seq ?_
    refine Gs.reg ?_
    refine Go.Sl.L.pu rfl rfl trivial (pu_assign rfl) ?_
    refine Go.Sl.L.nil ?_
    refine Gs.then_n ?_
    refine Gs.ret ?_
    refine Gs.then_r ?_
    exact Gs.fin1 Tryz.results21 rfl _ (⟨by rw [decide_eq_false hne], rfl⟩) (by repeat constructor)
  · skip
    have hle : xs.length = ys.length := by have := of_decide_eq_false hc0; omega
    refine Gs.skip ?_
    refine Gs.then_n ?_
    refine Gs.seq ?_
    refine Gs.seq ?_
    refine Gs.reg ?_
    refine Go.Sl.L.pu rfl rfl trivial (pu_assign rfl) ?_
    refine Go.Sl.L.nil ?_
    refine Gs.then_n ?_
    refine Gs.block ?_
    refine Gs.loop1 (fun i : Nat => i ≤ xs.length ∧ (plainV xs).take i = (plainV ys).take i) (fun i => [(0, .slice a xs.length c), (1, .slice b ys.length d), (5, int i)]) (fun i => [U] ++ R) (fun i => xs.length - i) 0 (⟨Nat.zero_le _, rfl⟩) (by repeat constructor) (by repeat constructor) (fun i ⟨hi, ht⟩ => ?_)
    refine Gs.seq ?_
    refine Gs.seq ?_
    refine Gs.reg ?_
    refine Go.Sl.L.pu rfl rfl trivial (pu_move rfl) ?_
    refine Go.Sl.L.pu rfl rfl trivial (pu_move rfl) ?_
    refine Go.Sl.L.pu rfl rfl trivial (pu_len Tryz.underlying22 rfl) ?_
    refine Go.Sl.L.pu rfl rfl trivial (pu_lt rfl rfl) ?_
    refine Go.Sl.L.nil ?_
    refine Gs.then_n ?_
    refine Gs.cond rfl (fun hc1 => ?_) (fun hc1 => ?_)
    · skip
      have hlt : i < xs.length := by have := of_decide_eq_true hc1; omega
      obtain ⟨x, hx⟩ : ∃ x, xs[i]? = some x := ⟨xs[i], by simp [hlt]⟩
      obtain ⟨y, hy⟩ : ∃ x, ys[i]? = some x := ⟨ys[i]'(by omega), by simp [← hle, hlt]⟩
      obtain rfl := ha (by rintro rfl; simp at hlt)
      obtain rfl := hu (by rintro rfl; simp at hy)
      have hxm := List.mem_of_getElem? hx
      have hxv := hX.2 x hxm
      have hyv := hY.2 y (List.mem_of_getElem? hy)
      have hxl := hv x hxm
      have hpx : (plainV xs)[i]? = some x.p := by simp [hx]
      have hpy : (plainV ys)[i]? = some y.p := by simp [hy]
      have hdiff : x.p ≠ y.p → ¬ plainV xs = plainV ys := fun h e => by rw [e, hpy] at hpx; exact h (Option.some.inj hpx).symm
      refine Gs.skip ?_
      refine Gs.then_n ?_
      refine Gs.seq ?_
      refine Gs.block ?_
      refine Gs.seq ?_
      refine Gs.regD mixed (by kernel_rfl) ?_
      refine Rg.pu 0 rfl rfl (by kernel_rfl) trivial (pu_move rfl) ?_
      refine Rg.pu 1 rfl rfl (by kernel_rfl) trivial (pu_move rfl) ?_
      refine Rg.pu 2 rfl rfl (by kernel_rfl) trivial (pu_ia se_22 rfl rfl (by omega) (by omega)) ?_
      refine Rg.pu 3 rfl rfl (by kernel_rfl) trivial (pu_fa fa_43_0 rfl) ?_
      refine Rg.rd 4 rfl rfl (by kernel_rfl) trivial (rd_ld na_3 rfl (Rdc.elp 1 (hX.1.h (by repeat constructor)) hx rfl rfl)) ?_
      refine Rg.pu 5 rfl rfl (by kernel_rfl) trivial (pu_move rfl) ?_
      refine Rg.pu 6 rfl rfl (by kernel_rfl) trivial (pu_move rfl) ?_
      refine Rg.pu 7 rfl rfl (by kernel_rfl) trivial (pu_ia se_22 rfl rfl (by omega) (by omega)) ?_
      refine Rg.pu 8 rfl rfl (by kernel_rfl) trivial (pu_fa fa_43_0 rfl) ?_
      refine Rg.rd 9 rfl rfl (by kernel_rfl) trivial (rd_ld na_3 rfl (Rdc.elp 1 (hY.1.h (by repeat constructor)) hy rfl rfl)) ?_
      refine Rg.pu 10 rfl rfl (by kernel_rfl) trivial (pu_ne rfl rfl) ?_
      refine Rg.puB 11 rfl rfl (by kernel_rfl) trivial (pu_move rfl) (fun hg11 => ?_) (fun hg11 => ?_)
      · skip
        have hne := hdiff fun e => of_decide_eq_true hg11 (congrArg EntP.kind e)
        refine Rg.off 12 rfl rfl (by kernel_rfl) rfl rfl rfl rfl ?_
        refine Rg.off 13 rfl rfl (by kernel_rfl) rfl rfl rfl rfl ?_
        refine Rg.off 14 rfl rfl (by kernel_rfl) rfl rfl rfl rfl ?_
        refine Rg.off 15 rfl rfl (by kernel_rfl) rfl rfl rfl rfl ?_
        refine Rg.off 16 rfl rfl (by kernel_rfl) rfl rfl rfl rfl ?_
        refine Rg.off 17 rfl rfl (by kernel_rfl) rfl rfl rfl rfl ?_
        refine Rg.off 18 rfl rfl (by kernel_rfl) rfl rfl rfl rfl ?_
        refine Rg.off 19 rfl rfl (by kernel_rfl) rfl rfl rfl rfl ?_
        refine Rg.off 20 rfl rfl (by kernel_rfl) rfl rfl rfl rfl ?_
        refine Rg.off 21 rfl rfl (by kernel_rfl) rfl rfl rfl rfl ?_
        refine Rg.off 22 rfl rfl (by kernel_rfl) rfl rfl rfl rfl ?_
        refine Rg.pu 23 rfl rfl (by kernel_rfl) trivial (by first | exact pu_pick_t rfl rfl | exact pu_pick_f rfl rfl) ?_
        refine Rg.pu 24 rfl rfl (by kernel_rfl) trivial (pu_move rfl) ?_
        refine Rg.off 25 rfl rfl (by kernel_rfl) rfl rfl rfl rfl ?_
        refine Rg.off 26 rfl rfl (by kernel_rfl) rfl rfl rfl rfl ?_
        refine Rg.off 27 rfl rfl (by kernel_rfl) rfl rfl rfl rfl ?_
        refine Rg.off 28 rfl rfl (by kernel_rfl) rfl rfl rfl rfl ?_
        refine Rg.off 29 rfl rfl (by kernel_rfl) rfl rfl rfl rfl ?_
        refine Rg.off 30 rfl rfl (by kernel_rfl) rfl rfl rfl rfl ?_
        refine Rg.off 31 rfl rfl (by kernel_rfl) rfl rfl rfl rfl ?_
        refine Rg.off 32 rfl rfl (by kernel_rfl) rfl rfl rfl rfl ?_
        refine Rg.off 33 rfl rfl (by kernel_rfl) rfl rfl rfl rfl ?_
        refine Rg.off 34 rfl rfl (by kernel_rfl) rfl rfl rfl rfl ?_
        refine Rg.off 35 rfl rfl (by kernel_rfl) rfl rfl rfl rfl ?_
        refine Rg.off 36 rfl rfl (by kernel_rfl) rfl rfl rfl rfl ?_
        refine Rg.pu 37 rfl rfl (by kernel_rfl) trivial (by first | exact pu_pick_t rfl rfl | exact pu_pick_f rfl rfl) ?_
        refine Rg.pu 38 rfl rfl (by kernel_rfl) trivial (pu_move rfl) ?_
        refine Rg.off 39 rfl rfl (by kernel_rfl) rfl rfl rfl rfl ?_
        refine Rg.off 40 rfl rfl (by kernel_rfl) rfl rfl rfl rfl ?_
        refine Rg.off 41 rfl rfl (by kernel_rfl) rfl rfl rfl rfl ?_
        refine Rg.off 42 rfl rfl (by kernel_rfl) rfl rfl rfl rfl ?_
        refine Rg.off 43 rfl rfl (by kernel_rfl) rfl rfl rfl rfl ?_
        refine Rg.off 44 rfl rfl (by kernel_rfl) rfl rfl rfl rfl ?_
        refine Rg.off 45 rfl rfl (by kernel_rfl) rfl rfl rfl rfl ?_
        refine Rg.off 46 rfl rfl (by kernel_rfl) rfl rfl rfl rfl ?_
        refine Rg.off 47 rfl rfl (by kernel_rfl) rfl rfl rfl rfl ?_
        refine Rg.off 48 rfl rfl (by kernel_rfl) rfl rfl rfl rfl ?_
        refine Rg.off 49 rfl rfl (by kernel_rfl) rfl rfl rfl rfl ?_
        refine Rg.off 50 rfl rfl (by kernel_rfl) rfl rfl rfl rfl ?_
        refine Rg.pu 51 rfl rfl (by kernel_rfl) trivial (by first | exact pu_pick_t rfl rfl | exact pu_pick_f rfl rfl) ?_
        refine Rg.end (by kernel_rfl) ?_
        refine Gs.then_n ?_
        refine Gs.cond_t rfl ?_
        refine Gs.seq ?_
        refine Gs.reg ?_
        refine Go.Sl.L.pu rfl rfl trivial (pu_assign rfl) ?_
        refine Go.Sl.L.nil ?_
        refine Gs.then_n ?_
        refine Gs.ret ?_
        refine Gs.blk_r ?_
        refine Gs.then_r ?_
        refine Gs.then_r ?_
        refine Gs.blk_r ?_
        refine Gs.then_r ?_
        exact Gs.fin1 Tryz.results21 rfl _ (⟨by rw [decide_eq_false hne], rfl⟩) (by repeat constructor)
      · skip
        have q1 : x.kind = y.kind := Decidable.not_not.1 (of_decide_eq_false hg11)
        refine Rg.pu 12 rfl rfl (by kernel_rfl) ⟨_, rfl, rfl⟩ (pu_move rfl) ?_
        refine Rg.pu 13 rfl rfl (by kernel_rfl) ⟨_, rfl, rfl⟩ (pu_move rfl) ?_
        refine Rg.pu 14 rfl rfl (by kernel_rfl) ⟨_, rfl, rfl⟩ (pu_ia se_22 rfl rfl (by omega) (by omega)) ?_
        refine Rg.pu 15 rfl rfl (by kernel_rfl) ⟨_, rfl, rfl⟩ (pu_fa fa_43_3 rfl) ?_
        refine Rg.rd 16 rfl rfl (by kernel_rfl) ⟨_, rfl, rfl⟩ (rd_lda ag_41 rfl (Rdc.elp 5 (hX.1.h (by repeat constructor)) hx rfl rfl) rfl) ?_
        refine Rg.pu 17 rfl rfl (by kernel_rfl) ⟨_, rfl, rfl⟩ (pu_move rfl) ?_
        refine Rg.pu 18 rfl rfl (by kernel_rfl) ⟨_, rfl, rfl⟩ (pu_move rfl) ?_
        refine Rg.pu 19 rfl rfl (by kernel_rfl) ⟨_, rfl, rfl⟩ (pu_ia se_22 rfl rfl (by omega) (by omega)) ?_
        refine Rg.pu 20 rfl rfl (by kernel_rfl) ⟨_, rfl, rfl⟩ (pu_fa fa_43_3 rfl) ?_
        refine Rg.rd 21 rfl rfl (by kernel_rfl) ⟨_, rfl, rfl⟩ (rd_lda ag_41 rfl (Rdc.elp 5 (hY.1.h (by repeat constructor)) hy rfl rfl) rfl) ?_
        refine Rg.pu 22 rfl rfl (by kernel_rfl) ⟨_, rfl, rfl⟩ (pu_neT (a := x.r) (b := y.r) cmp_41 (by decide) Tryz.eqGuardType41 rfl rfl) ?_
        refine Rg.pu 23 rfl rfl (by kernel_rfl) trivial (by first | exact pu_pick_t rfl rfl | exact pu_pick_f rfl rfl) ?_
        refine Rg.puB 24 rfl rfl (by kernel_rfl) trivial (pu_move rfl) (fun hg24 => ?_) (fun hg24 => ?_)
        · skip
          have hne := hdiff fun e => of_decide_eq_true hg24 (congrArg EntP.r e)
          refine Rg.off 25 rfl rfl (by kernel_rfl) rfl rfl rfl rfl ?_
          refine Rg.off 26 rfl rfl (by kernel_rfl) rfl rfl rfl rfl ?_
          refine Rg.off 27 rfl rfl (by kernel_rfl) rfl rfl rfl rfl ?_
          refine Rg.off 28 rfl rfl (by kernel_rfl) rfl rfl rfl rfl ?_
          refine Rg.off 29 rfl rfl (by kernel_rfl) rfl rfl rfl rfl ?_
          refine Rg.off 30 rfl rfl (by kernel_rfl) rfl rfl rfl rfl ?_
          refine Rg.off 31 rfl rfl (by kernel_rfl) rfl rfl rfl rfl ?_
          refine Rg.off 32 rfl rfl (by kernel_rfl) rfl rfl rfl rfl ?_
          refine Rg.off 33 rfl rfl (by kernel_rfl) rfl rfl rfl rfl ?_
          refine Rg.off 34 rfl rfl (by kernel_rfl) rfl rfl rfl rfl ?_
          refine Rg.off 35 rfl rfl (by kernel_rfl) rfl rfl rfl rfl ?_
          refine Rg.off 36 rfl rfl (by kernel_rfl) rfl rfl rfl rfl ?_
          refine Rg.pu 37 rfl rfl (by kernel_rfl) trivial (by first | exact pu_pick_t rfl rfl | exact pu_pick_f rfl rfl) ?_
          refine Rg.pu 38 rfl rfl (by kernel_rfl) trivial (pu_move rfl) ?_
          refine Rg.off 39 rfl rfl (by kernel_rfl) rfl rfl rfl rfl ?_
          refine Rg.off 40 rfl rfl (by kernel_rfl) rfl rfl rfl rfl ?_
          refine Rg.off 41 rfl rfl (by kernel_rfl) rfl rfl rfl rfl ?_
          refine Rg.off 42 rfl rfl (by kernel_rfl) rfl rfl rfl rfl ?_
          refine Rg.off 43 rfl rfl (by kernel_rfl) rfl rfl rfl rfl ?_
          refine Rg.off 44 rfl rfl (by kernel_rfl) rfl rfl rfl rfl ?_
          refine Rg.off 45 rfl rfl (by kernel_rfl) rfl rfl rfl rfl ?_
          refine Rg.off 46 rfl rfl (by kernel_rfl) rfl rfl rfl rfl ?_
          refine Rg.off 47 rfl rfl (by kernel_rfl) rfl rfl rfl rfl ?_
          refine Rg.off 48 rfl rfl (by kernel_rfl) rfl rfl rfl rfl ?_
          refine Rg.off 49 rfl rfl (by kernel_rfl) rfl rfl rfl rfl ?_
          refine Rg.off 50 rfl rfl (by kernel_rfl) rfl rfl rfl rfl ?_
          refine Rg.pu 51 rfl rfl (by kernel_rfl) trivial (by first | exact pu_pick_t rfl rfl | exact pu_pick_f rfl rfl) ?_
          refine Rg.end (by kernel_rfl) ?_
          refine Gs.then_n ?_
          refine Gs.cond_t rfl ?_
          refine Gs.seq ?_
          refine Gs.reg ?_
          refine Go.Sl.L.pu rfl rfl trivial (pu_assign rfl) ?_
          refine Go.Sl.L.nil ?_
          refine Gs.then_n ?_
          refine Gs.ret ?_
          refine Gs.blk_r ?_
          refine Gs.then_r ?_
          refine Gs.then_r ?_
          refine Gs.blk_r ?_
          refine Gs.then_r ?_
          exact Gs.fin1 Tryz.results21 rfl _ (⟨by rw [decide_eq_false hne], rfl⟩) (by repeat constructor)
        · skip
          have q2 : x.r = y.r := Decidable.not_not.1 (of_decide_eq_false hg24)
          refine Rg.pu 25 rfl rfl (by kernel_rfl) ⟨_, rfl, rfl⟩ (pu_move rfl) ?_
          refine Rg.pu 26 rfl rfl (by kernel_rfl) ⟨_, rfl, rfl⟩ (pu_move rfl) ?_
          refine Rg.pu 27 rfl rfl (by kernel_rfl) ⟨_, rfl, rfl⟩ (pu_ia se_22 rfl rfl (by omega) (by omega)) ?_
          refine Rg.pu 28 rfl rfl (by kernel_rfl) ⟨_, rfl, rfl⟩ (pu_fa fa_43_1 rfl) ?_
          refine Rg.rd 29 rfl rfl (by kernel_rfl) ⟨_, rfl, rfl⟩ (rd_ld na_23 rfl (Rdc.elp 1 (hX.1.h (by repeat constructor)) hx rfl rfl)) ?_
          refine Rg.pu 30 rfl rfl (by kernel_rfl) ⟨_, rfl, rfl⟩ (pu_move rfl) ?_
          refine Rg.pu 31 rfl rfl (by kernel_rfl) ⟨_, rfl, rfl⟩ (pu_move rfl) ?_
          refine Rg.pu 32 rfl rfl (by kernel_rfl) ⟨_, rfl, rfl⟩ (pu_ia se_22 rfl rfl (by omega) (by omega)) ?_
          refine Rg.pu 33 rfl rfl (by kernel_rfl) ⟨_, rfl, rfl⟩ (pu_fa fa_43_1 rfl) ?_
          refine Rg.rd 34 rfl rfl (by kernel_rfl) ⟨_, rfl, rfl⟩ (rd_ld na_23 rfl (Rdc.elp 1 (hY.1.h (by repeat constructor)) hy rfl rfl)) ?_
          refine Rg.one (by kernel_rfl) (Stp.ac 35 rfl rfl (by kernel_rfl) ⟨_, rfl, rfl⟩ (as_call (sameInts_spec hxv.1 hyv.1 hxl.1) (by repeat constructor) (by repeat constructor))  ?_)
          rintro _ _ ⟨_, ⟨rfl, rfl⟩, rfl⟩
          refine Rg.pu 36 rfl rfl (by kernel_rfl) ⟨_, rfl, rfl⟩ (pu_not rfl) ?_
          refine Rg.pu 37 rfl rfl (by kernel_rfl) trivial (by first | exact pu_pick_t rfl rfl | exact pu_pick_f rfl rfl) ?_
          refine Rg.puB 38 rfl rfl (by kernel_rfl) trivial (pu_move rfl) (fun hg38 => ?_) (fun hg38 => ?_)
          · skip
            have hne := hdiff fun e => by have h1 : x.v.xs = y.v.xs := congrArg EntP.v e; rw [h1] at hg38; simp at hg38
            refine Rg.off 39 rfl rfl (by kernel_rfl) rfl rfl rfl rfl ?_
            refine Rg.off 40 rfl rfl (by kernel_rfl) rfl rfl rfl rfl ?_
            refine Rg.off 41 rfl rfl (by kernel_rfl) rfl rfl rfl rfl ?_
            refine Rg.off 42 rfl rfl (by kernel_rfl) rfl rfl rfl rfl ?_
            refine Rg.off 43 rfl rfl (by kernel_rfl) rfl rfl rfl rfl ?_
            refine Rg.off 44 rfl rfl (by kernel_rfl) rfl rfl rfl rfl ?_
            refine Rg.off 45 rfl rfl (by kernel_rfl) rfl rfl rfl rfl ?_
            refine Rg.off 46 rfl rfl (by kernel_rfl) rfl rfl rfl rfl ?_
            refine Rg.off 47 rfl rfl (by kernel_rfl) rfl rfl rfl rfl ?_
            refine Rg.off 48 rfl rfl (by kernel_rfl) rfl rfl rfl rfl ?_
            refine Rg.off 49 rfl rfl (by kernel_rfl) rfl rfl rfl rfl ?_
            refine Rg.off 50 rfl rfl (by kernel_rfl) rfl rfl rfl rfl ?_
            refine Rg.pu 51 rfl rfl (by kernel_rfl) trivial (by first | exact pu_pick_t rfl rfl | exact pu_pick_f rfl rfl) ?_
            refine Rg.end (by kernel_rfl) ?_
            refine Gs.then_n ?_
            refine Gs.cond_t rfl ?_
            refine Gs.seq ?_
            refine Gs.reg ?_
            refine Go.Sl.L.pu rfl rfl trivial (pu_assign rfl) ?_
            refine Go.Sl.L.nil ?_
            refine Gs.then_n ?_
            refine Gs.ret ?_
            refine Gs.blk_r ?_
            refine Gs.then_r ?_
            refine Gs.then_r ?_
            refine Gs.blk_r ?_
            refine Gs.then_r ?_
            exact Gs.fin1 Tryz.results21 rfl _ (⟨by rw [decide_eq_false hne], rfl⟩) (by repeat constructor)
          · skip
            have q3 : x.v.xs = y.v.xs := by simpa using hg38
            refine Rg.pu 39 rfl rfl (by kernel_rfl) ⟨_, rfl, rfl⟩ (pu_move rfl) ?_
            refine Rg.pu 40 rfl rfl (by kernel_rfl) ⟨_, rfl, rfl⟩ (pu_move rfl) ?_
            refine Rg.pu 41 rfl rfl (by kernel_rfl) ⟨_, rfl, rfl⟩ (pu_ia se_22 rfl rfl (by omega) (by omega)) ?_
            refine Rg.pu 42 rfl rfl (by kernel_rfl) ⟨_, rfl, rfl⟩ (pu_fa fa_43_2 rfl) ?_
            refine Rg.rd 43 rfl rfl (by kernel_rfl) ⟨_, rfl, rfl⟩ (rd_ld na_23 rfl (Rdc.elp 1 (hX.1.h (by repeat constructor)) hx rfl rfl)) ?_
            refine Rg.pu 44 rfl rfl (by kernel_rfl) ⟨_, rfl, rfl⟩ (pu_move rfl) ?_
            refine Rg.pu 45 rfl rfl (by kernel_rfl) ⟨_, rfl, rfl⟩ (pu_move rfl) ?_
            refine Rg.pu 46 rfl rfl (by kernel_rfl) ⟨_, rfl, rfl⟩ (pu_ia se_22 rfl rfl (by omega) (by omega)) ?_
            refine Rg.pu 47 rfl rfl (by kernel_rfl) ⟨_, rfl, rfl⟩ (pu_fa fa_43_2 rfl) ?_
            refine Rg.rd 48 rfl rfl (by kernel_rfl) ⟨_, rfl, rfl⟩ (rd_ld na_23 rfl (Rdc.elp 1 (hY.1.h (by repeat constructor)) hy rfl rfl)) ?_
            refine Rg.one (by kernel_rfl) (Stp.ac 49 rfl rfl (by kernel_rfl) ⟨_, rfl, rfl⟩ (as_call (sameInts_spec hxv.2 hyv.2 hxl.2) (by repeat constructor) (by repeat constructor))  ?_)
            rintro _ _ ⟨_, ⟨rfl, rfl⟩, rfl⟩
            refine Rg.pu 50 rfl rfl (by kernel_rfl) ⟨_, rfl, rfl⟩ (pu_not rfl) ?_
            refine Rg.pu 51 rfl rfl (by kernel_rfl) trivial (by first | exact pu_pick_t rfl rfl | exact pu_pick_f rfl rfl) ?_
            refine Rg.end (by kernel_rfl) ?_
            refine Gs.then_n ?_
            refine Gs.cond rfl (fun hc2 => ?_) (fun hc2 => ?_)
            · skip
              have hne := hdiff fun e => by have h1 : x.w.xs = y.w.xs := congrArg EntP.w e; rw [h1] at hc2; simp at hc2
              refine Gs.seq ?_
              refine Gs.reg ?_
              refine Go.Sl.L.pu rfl rfl trivial (pu_assign rfl) ?_
              refine Go.Sl.L.nil ?_
              refine Gs.then_n ?_
              refine Gs.ret ?_
              refine Gs.blk_r ?_
              refine Gs.then_r ?_
              refine Gs.then_r ?_
              refine Gs.blk_r ?_
              refine Gs.then_r ?_
              exact Gs.fin1 Tryz.results21 rfl _ (⟨by rw [decide_eq_false hne], rfl⟩) (by repeat constructor)
            · skip
              have q4 : x.w.xs = y.w.xs := by simpa using hc2
              have hxy : x.p = y.p := by unfold EntV.p; rw [q1, q2, q3, q4]
              refine Gs.skip ?_
              refine Gs.blk_n ?_
              refine Gs.then_n ?_
              refine Gs.reg ?_
              refine Go.Sl.L.pu rfl rfl trivial (pu_move rfl) ?_
              refine Go.Sl.L.pu rfl rfl trivial (by first | exact pu_addI rfl rfl rfl (by omega) (by omega) | exact pu_add rfl rfl) ?_
              refine Go.Sl.L.pu rfl rfl trivial (pu_assign rfl) ?_
              refine Go.Sl.L.nil ?_
              refine Gs.then_n ?_
              exact Gs.again1 (i + 1) ⟨by omega, by rw [List.take_add_one, List.take_add_one, ht, hpx, hpy, hxy]⟩ (by omega) (by repeat constructor) (by repeat constructor)
    · skip
      have hge : i = xs.length := by have := of_decide_eq_false hc1; omega
      have heq : plainV xs = plainV ys := by rw [List.take_of_length_le (by simp; omega), List.take_of_length_le (by simp; omega)] at ht; exact ht
      refine Gs.exit ?_
      refine Gs.then_x ?_
      refine Gs.then_x ?_
      refine Gs.blk_hit ?_
      refine Gs.then_n ?_
      refine Gs.seq ?_
      refine Gs.reg ?_
      refine Go.Sl.L.pu rfl rfl trivial (pu_assign rfl) ?_
      refine Go.Sl.L.nil ?_
      refine Gs.then_n ?_
      refine Gs.ret ?_
      exact Gs.fin1 Tryz.results21 rfl _ (⟨by rw [decide_eq_true heq], rfl⟩) (by repeat constructor)
theorem overEntries_spec {a : Option Addr} {c : Nat} {es : List EntV} (hl : es.length ≤ 100000) (hv : ∀ e ∈ es, e.v.xs.length ≤ 100000 ∧ e.w.xs.length ≤ 100000) :
    Ct Tryz.prog 23 [.slice a es.length c] [elO a c es] (fun v hs => v = .tuple #[] ∧ hs = []) := by
  refine Ct.intro Tryz.func23 rfl (by kernel_rfl) 25 Tryz.ntmps23 (Nat.le_of_ble_eq_true rfl) fun w0 R => ?_
  refine Gs.elOpen (a := a) (c := c) (es := es) (by repeat constructor) ?_
  refine Gs.slAddr (xs := es) (SlH.own (E := 43) (enc := entC) (by repeat constructor)) fun ab ao ha => ?_
  refine Gs.seq ?_
  refine Gs.reg ?_
  refine Go.Sl.L.pu rfl rfl trivial (pu_assign rfl) ?_
  refine Go.Sl.L.nil ?_
  refine Gs.then_n ?_
  refine Gs.block ?_
  refine Gs.loop1 (fun s : Nat × List EntV => s.1 ≤ es.length ∧ s.2.length = es.length ∧ s.2.drop s.1 = es.drop s.1) (fun s => [(0, .slice a es.length c), (2, int s.1)]) (fun s => [sl 43 8 entC a c s.2, big ((es.drop s.1).map entO)] ++ R) (fun s => es.length - s.1) (0, es) (⟨Nat.zero_le _, rfl, rfl⟩) (by repeat constructor) (by repeat constructor) (fun s hs => ?_)
  obtain ⟨i, qs⟩ := s
  obtain ⟨hi, hy, hd⟩ := hs
  dsimp only at hi hy hd ⊢
  refine Gs.seq ?_
  refine Gs.seq ?_
  refine Gs.reg ?_
  refine Go.Sl.L.pu rfl rfl trivial (pu_move rfl) ?_
  refine Go.Sl.L.pu rfl rfl trivial (pu_move rfl) ?_
  refine Go.Sl.L.pu rfl rfl trivial (pu_len Tryz.underlying22 rfl) ?_
  refine Go.Sl.L.pu rfl rfl trivial (pu_lt rfl rfl) ?_
  refine Go.Sl.L.nil ?_
  refine Gs.then_n ?_
  refine Gs.cond rfl (fun hc0 => ?_) (fun hc0 => ?_)
  · skip
    have hlt : i < es.length := by have := of_decide_eq_true hc0; omega
    obtain ⟨p, hp⟩ : ∃ x, es[i]? = some x := ⟨es[i], by simp [hlt]⟩
    obtain rfl := ha (by rintro rfl; simp at hlt)
    have hpq : qs[i]? = some p := by
      have := congrArg (·[0]?) hd
      simpa [List.getElem?_drop, hp] using this
    have hdr : es.drop i = p :: es.drop (i + 1) := by
      obtain ⟨h1, rfl⟩ := List.getElem?_eq_some_iff.1 hp
      exact List.drop_eq_getElem_cons h1
    have hpl := hv p (List.mem_of_getElem? hp)
    have k1 : (qs.set i ⟨-9, noI, noI, Rec.zero⟩).length = es.length := by rw [List.length_set]; exact hy
    have k2 : (qs.set i ⟨-9, noI, noI, Rec.zero⟩).drop (i + 1) = es.drop (i + 1) := by rw [List.drop_set_of_lt (by omega), ← List.drop_drop, hd, List.drop_drop]
    rw [hdr]
    refine Gs.takes (As := [big ((p :: es.drop (i + 1)).map entO)]) (by repeat constructor) (Gs.bigTake (A := entO p) .hd ?_)
    refine Gs.twoOpen (A := sl 3 1 intC p.v.a p.v.c p.v.xs) (B := sl 3 1 intC p.w.a p.w.c p.w.xs) .hd ?_
    refine Gs.skip ?_
    refine Gs.then_n ?_
    refine Gs.seq ?_
    refine Gs.block ?_
    refine Gs.seq ?_
    refine Gs.reg ?_
    refine Go.Sl.L.pu rfl rfl trivial (pu_move rfl) ?_
    refine Go.Sl.L.pu rfl rfl trivial (pu_move rfl) ?_
    refine Go.Sl.L.pu rfl rfl trivial (pu_ia se_22 rfl rfl (by omega) (by omega)) ?_
    refine Go.Sl.L.pu rfl rfl trivial (pu_fa fa_43_1 rfl) ?_
    refine Go.Sl.L.rd rfl rfl trivial (rd_ld na_23 rfl (Rdc.elp 1 (SlH.own (xs := qs) (E := 43) (c := c) (enc := entC) (sz := 8) (by repeat constructor)) hpq rfl rfl)) ?_
    refine Go.Sl.L.ac rfl rfl trivial (as_call (overInts_spec hpl.1) (by repeat constructor) (by repeat constructor)) ?_
    rintro _ _ ⟨_, ⟨rfl, rfl⟩, rfl⟩
    refine Go.Sl.L.nil ?_
    refine Gs.then_n ?_
    refine Gs.seq ?_
    refine Gs.reg ?_
    refine Go.Sl.L.pu rfl rfl trivial (pu_move rfl) ?_
    refine Go.Sl.L.pu rfl rfl trivial (pu_move rfl) ?_
    refine Go.Sl.L.pu rfl rfl trivial (pu_ia se_22 rfl rfl (by omega) (by omega)) ?_
    refine Go.Sl.L.pu rfl rfl trivial (pu_fa fa_43_2 rfl) ?_
    refine Go.Sl.L.rd rfl rfl trivial (rd_ld na_23 rfl (Rdc.elp 1 (SlH.own (xs := qs) (E := 43) (c := c) (enc := entC) (sz := 8) (by repeat constructor)) hpq rfl rfl)) ?_
    refine Go.Sl.L.ac rfl rfl trivial (as_call (overInts_spec hpl.2) (by repeat constructor) (by repeat constructor)) ?_
    rintro _ _ ⟨_, ⟨rfl, rfl⟩, rfl⟩
    refine Go.Sl.L.nil ?_
    refine Gs.then_n ?_
    refine Gs.reg ?_
    refine Go.Sl.L.pu rfl rfl trivial (pu_move rfl) ?_
    refine Go.Sl.L.pu rfl rfl trivial (pu_move rfl) ?_
    refine Go.Sl.L.pu rfl rfl trivial (pu_build bd_43 (by repeat constructor) rfl) ?_
    refine Go.Sl.L.pu rfl rfl trivial (pu_ia se_22 rfl rfl (by omega) (by omega)) ?_
    refine Go.Sl.L.ac0 rfl trivial (ac_stE (enc := entC) (xs := qs) (i := i) (x0 := p) (y0 := ⟨-9, noI, noI, Rec.zero⟩) (vs := entC ⟨-9, noI, noI, Rec.zero⟩) (fo := 0) sz_43 ek_43 rfl rfl (by repeat constructor) rfl rfl rfl hpq rfl rfl) ?_
    rintro _ _ rfl
    refine Go.Sl.L.nil ?_
    refine Gs.blk_n ?_
    refine Gs.then_n ?_
    refine Gs.reg ?_
    refine Go.Sl.L.pu rfl rfl trivial (pu_move rfl) ?_
    refine Go.Sl.L.pu rfl rfl trivial (by first | exact pu_addI rfl rfl rfl (by omega) (by omega) | exact pu_add rfl rfl) ?_
    refine Go.Sl.L.pu rfl rfl trivial (pu_assign rfl) ?_
    refine Go.Sl.L.nil ?_
    refine Gs.then_n ?_
    exact Gs.again1 (i + 1, qs.set i ⟨-9, noI, noI, Rec.zero⟩) ⟨hlt, k1, k2⟩ (by show es.length - (i + 1) < es.length - i; omega) (by repeat constructor) (by repeat constructor)
  · skip
    refine Gs.exit ?_
    refine Gs.then_x ?_
    refine Gs.then_x ?_
    refine Gs.blk_hit ?_
    refine Gs.fin_n ?_
    exact Gs.fin0 Tryz.results23 _ (⟨rfl, rfl⟩) (by repeat constructor)
/-- Entries of which there are not too many. -/
def FewE (es : List EntV) (most : Int) : Prop := (es.length : Int) ≤ most ∧ ∀ e ∈ es, e.v.xs.length ≤ 20 ∧ e.w.xs.length ≤ 20
theorem great_spec {S : HProp} {a : Option Addr} {c : Nat} {es : List EntV} (hS : Srd S 8 entC a es) (hl : es.length ≤ maxLen) (k : Int) (hk : k ≤ 1000000) :
    Ct Tryz.prog 9 [.slice a es.length c, int k] [S] (fun v hs => (∃ g : Bool, v = .bool g ∧ (g = false → FewE es k)) ∧ hs = [S]) := by
  have hmx : maxLen = 9223372036854775807 := by decide
  refine Ct.intro Tryz.func9 rfl (by kernel_rfl) 48 Tryz.ntmps9 (Nat.le_of_ble_eq_true rfl) fun w0 R => ?_
  refine Gs.slAddr (hS.h (by repeat constructor)) fun ab ao ha => ?_
  refine Gs.seq ?_
  refine Gs.reg ?_
  refine Go.Sl.L.pu rfl rfl trivial (pu_assign rfl) ?_
  refine Go.Sl.L.nil ?_
  refine Gs.then_n ?_
  refine Gs.seq ?_
  refine Gs.seq ?_
  refine Gs.reg ?_
  refine Go.Sl.L.pu rfl rfl trivial (pu_assign rfl) ?_
  refine Go.Sl.L.nil ?_
  refine Gs.then_n ?_
  refine Gs.block ?_
  refine Gs.loop1 (fun i : Nat => i ≤ es.length ∧ ∀ e ∈ es.take i, e.v.xs.length ≤ 20 ∧ e.w.xs.length ≤ 20) (fun i => [(0, .slice a es.length c), (1, int k), (5, int i)]) (fun i => [S] ++ R) (fun i => es.length - i) 0 (⟨Nat.zero_le _, fun e he => by cases he⟩) (by repeat constructor) (by repeat constructor) (fun i ⟨hi, hall⟩ => ?_)
  refine Gs.seq ?_
  refine Gs.seq ?_
  refine Gs.reg ?_
  refine Go.Sl.L.pu rfl rfl trivial (pu_move rfl) ?_
  refine Go.Sl.L.pu rfl rfl trivial (pu_move rfl) ?_
  refine Go.Sl.L.pu rfl rfl trivial (pu_len Tryz.underlying22 rfl) ?_
  refine Go.Sl.L.pu rfl rfl trivial (pu_lt rfl rfl) ?_
  refine Go.Sl.L.puB rfl rfl trivial (pu_move rfl) (fun hg4 => ?_) (fun hg4 => ?_)
  · skip
    have hlt : i < es.length := by have := of_decide_eq_true hg4; omega
    obtain ⟨x, hx⟩ : ∃ x, es[i]? = some x := ⟨es[i], by simp [hlt]⟩
    obtain rfl := ha (by rintro rfl; simp at hlt)
    refine Go.Sl.L.pu rfl rfl ⟨_, rfl, rfl⟩ (pu_move rfl) ?_
    refine Go.Sl.L.pu rfl rfl ⟨_, rfl, rfl⟩ (pu_len Tryz.underlying22 rfl) ?_
    refine Go.Sl.L.pu rfl rfl ⟨_, rfl, rfl⟩ (pu_move rfl) ?_
    refine Go.Sl.L.pu rfl rfl ⟨_, rfl, rfl⟩ (pu_le rfl rfl) ?_
    refine Go.Sl.L.pu rfl rfl trivial (by first | exact pu_pick_t rfl rfl | exact pu_pick_f rfl rfl) ?_
    refine Go.Sl.L.nil ?_
    refine Gs.then_n ?_
    refine Gs.cond rfl (fun hc0 => ?_) (fun hc0 => ?_)
    · skip
      have hlk := of_decide_eq_true hc0
      refine Gs.skip ?_
      refine Gs.then_n ?_
      refine Gs.seq ?_
      refine Gs.block ?_
      refine Gs.seq ?_
      refine Gs.reg ?_
      refine Go.Sl.L.pu rfl rfl trivial (pu_move rfl) ?_
      refine Go.Sl.L.pu rfl rfl trivial (pu_move rfl) ?_
      refine Go.Sl.L.pu rfl rfl trivial (pu_ia se_22 rfl rfl (by omega) (by omega)) ?_
      refine Go.Sl.L.pu rfl rfl trivial (pu_fa fa_43_3 rfl) ?_
      refine Go.Sl.L.pu rfl rfl trivial (pu_fa fa_41_2 rfl) ?_
      refine Go.Sl.L.rd rfl rfl trivial (rd_ld na_9 rfl (Rdc.elp (f := 7) 1 (hS.h (by repeat constructor)) hx rfl rfl)) ?_
      refine Go.Sl.L.pu rfl rfl trivial (pu_lenS Tryz.underlying9 rfl) ?_
      refine Go.Sl.L.pu rfl rfl trivial (pu_gt rfl rfl) ?_
      refine Go.Sl.L.puB rfl rfl trivial (pu_move rfl) (fun hg8 => ?_) (fun hg8 => ?_)
      · skip
        refine Go.Sl.L.off rfl rfl rfl rfl rfl rfl ?_
        refine Go.Sl.L.off rfl rfl rfl rfl rfl rfl ?_
        refine Go.Sl.L.off rfl rfl rfl rfl rfl rfl ?_
        refine Go.Sl.L.off rfl rfl rfl rfl rfl rfl ?_
        refine Go.Sl.L.off rfl rfl rfl rfl rfl rfl ?_
        refine Go.Sl.L.off rfl rfl rfl rfl rfl rfl ?_
        refine Go.Sl.L.off rfl rfl rfl rfl rfl rfl ?_
        refine Go.Sl.L.pu rfl rfl trivial (by first | exact pu_pick_t rfl rfl | exact pu_pick_f rfl rfl) ?_
        refine Go.Sl.L.pu rfl rfl trivial (pu_move rfl) ?_
        refine Go.Sl.L.off rfl rfl rfl rfl rfl rfl ?_
        refine Go.Sl.L.off rfl rfl rfl rfl rfl rfl ?_
        refine Go.Sl.L.off rfl rfl rfl rfl rfl rfl ?_
        refine Go.Sl.L.off rfl rfl rfl rfl rfl rfl ?_
        refine Go.Sl.L.off rfl rfl rfl rfl rfl rfl ?_
        refine Go.Sl.L.off rfl rfl rfl rfl rfl rfl ?_
        refine Go.Sl.L.off rfl rfl rfl rfl rfl rfl ?_
        refine Go.Sl.L.pu rfl rfl trivial (by first | exact pu_pick_t rfl rfl | exact pu_pick_f rfl rfl) ?_
        refine Go.Sl.L.nil ?_
        refine Gs.then_n ?_
        refine Gs.cond_t rfl ?_
        refine Gs.seq ?_
        refine Gs.reg ?_
        refine Go.Sl.L.pu rfl rfl trivial (pu_assign rfl) ?_
        refine Go.Sl.L.nil ?_
        refine Gs.then_n ?_
        refine Gs.ret ?_
        refine Gs.blk_r ?_
        refine Gs.then_r ?_
        refine Gs.then_r ?_
        refine Gs.blk_r ?_
        refine Gs.then_r ?_
        exact Gs.fin1 Tryz.results9 rfl _ (⟨⟨true, rfl, fun h => by cases h⟩, rfl⟩) (by repeat constructor)
      · skip
        refine Go.Sl.L.pu rfl rfl ⟨_, rfl, rfl⟩ (pu_move rfl) ?_
        refine Go.Sl.L.pu rfl rfl ⟨_, rfl, rfl⟩ (pu_move rfl) ?_
        refine Go.Sl.L.pu rfl rfl ⟨_, rfl, rfl⟩ (pu_ia se_22 rfl rfl (by omega) (by omega)) ?_
        refine Go.Sl.L.pu rfl rfl ⟨_, rfl, rfl⟩ (pu_fa fa_43_1 rfl) ?_
        refine Go.Sl.L.rd rfl rfl ⟨_, rfl, rfl⟩ (rd_ld na_23 rfl (Rdc.elp 1 (hS.h (by repeat constructor)) hx rfl rfl)) ?_
        refine Go.Sl.L.pu rfl rfl ⟨_, rfl, rfl⟩ (pu_len Tryz.underlying23 rfl) ?_
        refine Go.Sl.L.pu rfl rfl ⟨_, rfl, rfl⟩ (pu_gt rfl rfl) ?_
        refine Go.Sl.L.pu rfl rfl trivial (by first | exact pu_pick_t rfl rfl | exact pu_pick_f rfl rfl) ?_
        refine Go.Sl.L.puB rfl rfl trivial (pu_move rfl) (fun hg17 => ?_) (fun hg17 => ?_)
        · skip
          refine Go.Sl.L.off rfl rfl rfl rfl rfl rfl ?_
          refine Go.Sl.L.off rfl rfl rfl rfl rfl rfl ?_
          refine Go.Sl.L.off rfl rfl rfl rfl rfl rfl ?_
          refine Go.Sl.L.off rfl rfl rfl rfl rfl rfl ?_
          refine Go.Sl.L.off rfl rfl rfl rfl rfl rfl ?_
          refine Go.Sl.L.off rfl rfl rfl rfl rfl rfl ?_
          refine Go.Sl.L.off rfl rfl rfl rfl rfl rfl ?_
          refine Go.Sl.L.pu rfl rfl trivial (by first | exact pu_pick_t rfl rfl | exact pu_pick_f rfl rfl) ?_
          refine Go.Sl.L.nil ?_
          refine Gs.then_n ?_
          refine Gs.cond_t rfl ?_
          refine Gs.seq ?_
          refine Gs.reg ?_
          refine Go.Sl.L.pu rfl rfl trivial (pu_assign rfl) ?_
          refine Go.Sl.L.nil ?_
          refine Gs.then_n ?_
          refine Gs.ret ?_
          refine Gs.blk_r ?_
          refine Gs.then_r ?_
          refine Gs.then_r ?_
          refine Gs.blk_r ?_
          refine Gs.then_r ?_
          exact Gs.fin1 Tryz.results9 rfl _ (⟨⟨true, rfl, fun h => by cases h⟩, rfl⟩) (by repeat constructor)
        · skip
          have q1 : x.v.xs.length ≤ 20 := by have := of_decide_eq_false hg17; omega
          refine Go.Sl.L.pu rfl rfl ⟨_, rfl, rfl⟩ (pu_move rfl) ?_
          refine Go.Sl.L.pu rfl rfl ⟨_, rfl, rfl⟩ (pu_move rfl) ?_
          refine Go.Sl.L.pu rfl rfl ⟨_, rfl, rfl⟩ (pu_ia se_22 rfl rfl (by omega) (by omega)) ?_
          refine Go.Sl.L.pu rfl rfl ⟨_, rfl, rfl⟩ (pu_fa fa_43_2 rfl) ?_
          refine Go.Sl.L.rd rfl rfl ⟨_, rfl, rfl⟩ (rd_ld na_23 rfl (Rdc.elp 1 (hS.h (by repeat constructor)) hx rfl rfl)) ?_
          refine Go.Sl.L.pu rfl rfl ⟨_, rfl, rfl⟩ (pu_len Tryz.underlying23 rfl) ?_
          refine Go.Sl.L.pu rfl rfl ⟨_, rfl, rfl⟩ (pu_gt rfl rfl) ?_
          refine Go.Sl.L.pu rfl rfl trivial (by first | exact pu_pick_t rfl rfl | exact pu_pick_f rfl rfl) ?_
          refine Go.Sl.L.nil ?_
          refine Gs.then_n ?_
          refine Gs.cond rfl (fun hc1 => ?_) (fun hc1 => ?_)
          · skip
            refine Gs.seq ?_
            refine Gs.reg ?_
            refine Go.Sl.L.pu rfl rfl trivial (pu_assign rfl) ?_
            refine Go.Sl.L.nil ?_
            refine Gs.then_n ?_
            refine Gs.ret ?_
            refine Gs.blk_r ?_
            refine Gs.then_r ?_
            refine Gs.then_r ?_
            refine Gs.blk_r ?_
            refine Gs.then_r ?_
            exact Gs.fin1 Tryz.results9 rfl _ (⟨⟨true, rfl, fun h => by cases h⟩, rfl⟩) (by repeat constructor)
          · skip
            have q2 : x.w.xs.length ≤ 20 := by have := of_decide_eq_false hc1; omega
            refine Gs.skip ?_
            refine Gs.blk_n ?_
            refine Gs.then_n ?_
            refine Gs.reg ?_
            refine Go.Sl.L.pu rfl rfl trivial (pu_move rfl) ?_
            refine Go.Sl.L.pu rfl rfl trivial (by first | exact pu_addI rfl rfl rfl (by omega) (by omega) | exact pu_add rfl rfl) ?_
            refine Go.Sl.L.pu rfl rfl trivial (pu_assign rfl) ?_
            refine Go.Sl.L.nil ?_
            refine Gs.then_n ?_
            exact Gs.again1 (i + 1) ⟨by omega, fun e he => by rw [List.take_add_one, hx] at he; rcases List.mem_append.1 he with he | he; exact hall e he; simp at he; subst he; exact ⟨q1, q2⟩⟩ (by omega) (by repeat constructor) (by repeat constructor)
    · skip
      have hlk := of_decide_eq_false hc0
      have hend : decide (k < (es.length : Int)) = false → FewE es k := fun h => absurd (of_decide_eq_false h) (by omega)
      refine Gs.exit ?_
      refine Gs.then_x ?_
      refine Gs.then_x ?_
      refine Gs.blk_hit ?_
      refine Gs.then_n ?_
      refine Gs.seq ?_
      refine Gs.reg ?_
      refine Go.Sl.L.pu rfl rfl trivial (pu_move rfl) ?_
      refine Go.Sl.L.pu rfl rfl trivial (pu_len Tryz.underlying22 rfl) ?_
      refine Go.Sl.L.pu rfl rfl trivial (pu_move rfl) ?_
      refine Go.Sl.L.pu rfl rfl trivial (pu_gt rfl rfl) ?_
      refine Go.Sl.L.pu rfl rfl trivial (pu_assign rfl) ?_
      refine Go.Sl.L.nil ?_
      refine Gs.then_n ?_
      refine Gs.ret ?_
      exact Gs.fin1 Tryz.results9 rfl _ (⟨⟨_, rfl, hend⟩, rfl⟩) (by repeat constructor)
  · skip
    have hge : i = es.length := by have := of_decide_eq_false hg4; omega
    have hend : decide (k < (es.length : Int)) = false → FewE es k := fun h => ⟨by have := of_decide_eq_false h; omega, by rw [hge, List.take_length] at hall; exact hall⟩
    refine Go.Sl.L.off rfl rfl rfl rfl rfl rfl ?_
    refine Go.Sl.L.off rfl rfl rfl rfl rfl rfl ?_
    refine Go.Sl.L.off rfl rfl rfl rfl rfl rfl ?_
    refine Go.Sl.L.off rfl rfl rfl rfl rfl rfl ?_
    refine Go.Sl.L.pu rfl rfl trivial (by first | exact pu_pick_t rfl rfl | exact pu_pick_f rfl rfl) ?_
    refine Go.Sl.L.nil ?_
    refine Gs.then_n ?_
    refine Gs.cond_f rfl ?_
    refine Gs.exit ?_
    refine Gs.then_x ?_
    refine Gs.then_x ?_
    refine Gs.blk_hit ?_
    refine Gs.then_n ?_
    refine Gs.seq ?_
    refine Gs.reg ?_
    refine Go.Sl.L.pu rfl rfl trivial (pu_move rfl) ?_
    refine Go.Sl.L.pu rfl rfl trivial (pu_len Tryz.underlying22 rfl) ?_
    refine Go.Sl.L.pu rfl rfl trivial (pu_move rfl) ?_
    refine Go.Sl.L.pu rfl rfl trivial (pu_gt rfl rfl) ?_
    refine Go.Sl.L.pu rfl rfl trivial (pu_assign rfl) ?_
    refine Go.Sl.L.nil ?_
    refine Gs.then_n ?_
    refine Gs.ret ?_
    exact Gs.fin1 Tryz.results9 rfl _ (⟨⟨_, rfl, hend⟩, rfl⟩) (by repeat constructor)
end Go.Proofs.YtjaafkakeccniaaGreatDoor

/- The ledger's calls, told by segments; awake (grapevinelaw9). -/
namespace Go.Sl
open Go
theorem big_behind {P L M : List HProp} (i : ∀ h, big L h → big M h) {h : Hp} (x : big (P ++ L) h) : big (P ++ M) h := by
  obtain ⟨h1, h2, d, rfl, p, l⟩ := big_append.1 x
  exact big_append.2 ⟨h1, h2, d, rfl, p, i _ l⟩
/-- What is called with many parts as one. -/
theorem Ct.bigLast {P : Program} {f : FuncId} {args : List Value} {pre L : List HProp} {post : Value → List HProp → Prop} (c : Ct P f args (pre ++ [big L]) (fun v hs => ∃ r, post v r ∧ hs = r ++ [big L])) : Ct P f args (pre ++ L) (fun v hs => ∃ r, post v r ∧ hs = r ++ L) :=
  ⟨c.enters, fun w0 w R s => by
    have s1 : Sat w0 w ((pre ++ [big L]) ++ R) := s.imp fun h x => by
      rw [List.append_assoc] at x ⊢
      exact big_behind (L := L ++ R) (M := Sl.big L :: R) (fun h' y => (big_append (L := L) (M := R)).1 y) x
    exact (c.calls w0 w R s1).mono fun _ _ ⟨v, hs, he, ⟨r, hp, e2⟩, hsat⟩ => by
      subst e2
      refine ⟨v, _, he, ⟨r, hp, rfl⟩, hsat.imp fun h x => ?_⟩
      rw [List.append_assoc] at x ⊢
      exact big_behind (L := Sl.big L :: R) (M := L ++ R) (fun h' y => (big_append (L := L) (M := R)).2 y) x⟩
theorem Srd.nil {α : Type} {A : HProp} {sz : Nat} {enc : α → List Value} {a : Option Addr} : Srd A sz enc a ([] : List α) := fun _ _ _ _ _ _ h => (h rfl).elim
end Go.Sl
namespace Go.Proofs.YtjaafkakeccniaaGreatDoor
open Go Go.Sl Go.Gv Go.Dv Go.Bst
set_option maxRecDepth 100000
/-- What an opening leaves of files. -/
def OpRel (n : Int) (xs : List Cs) (made : Nat) (ys : List Seg) : Prop :=
  (xs.filterMap after ≠ [] ∧ ys = xs.filterMap after ∧ made = topK (xs.map Cs.k)) ∨ (xs.filterMap after = [] ∧ ys = [newSeg n (topK (xs.map Cs.k) + 1)] ∧ made = topK (xs.map Cs.k) + 1)
theorem openCs_spec {d : Nat} {n most : Int} {xs : List Cs} {Tx : HProp} (hT : RMs Tx) (h1 : 1 ≤ n) (h8 : n ≤ 8) (h : CsOk n xs) (hl : xs.length ≤ 900) (hk : ∀ x ∈ xs, x.k < 98) (hr : xs.filterMap after = [] → 46 ≤ most) :
    Ct Tryz.prog 12 [ptr d, int n] [drv d most (xs.map csF), Tx]
      (fun v hs => ∃ b a c es made ys, v = .tuple #[ptr b, .slice a es.length c, int 0] ∧ (St n made ys ∧ OpRel n xs made ys ∧ plainV es = flatS ys) ∧ hs = [lgr b d n ⟨made, ys.map (segP n)⟩, drv d most (ys.map segF), Tx, elO a c es]) := by
  have hsort : sortB (names (xs.map csF)) = (xs.map Cs.k).map nameK := sort_names (k := Cs.k) (fun _ => rfl) h.asc fun x hx => by have := hk x hx; omega
  have htop : topK (xs.map Cs.k) ≤ 97 := h.top fun x hx => by have := hk x hx; omega
  refine (open_spec (most := most) hT h1 h8 (by rw [List.length_map]; omega) hsort (fun k hkk => by
    obtain ⟨x, hx, rfl⟩ := List.mem_map.1 hkk
    exact hk x hx)).mono fun v hs hh => ?_
  have hz := zeroB_len h1 h8
  by_cases hne : xs.filterMap after = []
  · have hr := hr hne
    have hA := openA_none (most := most) h hne
    have hE := app_new (most := most) (n := n) (k := topK (xs.map Cs.k) + 1) (by omega)
    rw [if_neg (by omega)] at hE
    rw [if_pos hE, app_newL (by omega) (by omega), ← (new_maps n (topK (xs.map Cs.k) + 1)).2] at hA
    rw [hA] at hh
    rcases hh with ⟨-, b, a, c, es, e1, e2, e3⟩ | ⟨e, -⟩
    · exact ⟨b, a, c, es, _, _, e1, ⟨newSeg_st h1 h8 (Nat.succ_pos _), .inr ⟨hne, rfl, rfl⟩, by rw [e2]; rfl⟩, e3⟩
    · exact absurd rfl e
  · have hA := openA_cs (most := most) h hne
    rw [hA] at hh
    rcases hh with ⟨-, b, a, c, es, e1, e2, e3⟩ | ⟨e, -⟩
    · exact ⟨b, a, c, es, _, _, e1, ⟨⟨h.inv, hne⟩, .inl ⟨hne, rfl, rfl⟩, e2⟩, e3⟩
    · exact absurd rfl e
/-- A drive whose segments are whole. -/
theorem openSt_spec {d : Nat} {n most : Int} {made : Nat} {xs : List Seg} {Tx : HProp} (hT : RMs Tx) (h1 : 1 ≤ n) (h8 : n ≤ 8) (h : St n made xs) (hm : made < 98) (hl : xs.length ≤ 900) :
    Ct Tryz.prog 12 [ptr d, int n] [drv d most (xs.map segF), Tx]
      (fun v hs => ∃ b a c es made', v = .tuple #[ptr b, .slice a es.length c, int 0] ∧ (St n made' xs ∧ made' ≤ made ∧ plainV es = flatS xs) ∧ hs = [lgr b d n ⟨made', xs.map (segP n)⟩, drv d most (xs.map segF), Tx, elO a c es]) := by
  have hcs := h.inv.cs (by omega)
  have hf : (xs.map ofSeg).filterMap after = xs := of_afters h.inv.good
  have hm2 : (xs.map ofSeg).map csF = xs.map segF := by rw [List.map_map]; exact List.map_congr_left fun x _ => of_csF x
  have hc := openCs_spec (d := d) (most := most) hT h1 h8 hcs (by rw [List.length_map]; exact hl) (fun x hx => by
    obtain ⟨y, hy, rfl⟩ := List.mem_map.1 hx
    have := h.inv.num y hy; show y.k < 98; omega) (fun e => by rw [hf] at e; exact absurd e h.ne)
  rw [hm2] at hc
  refine hc.mono fun v hs hh => ?_
  obtain ⟨b, a, c, es, made', ys, e1, ⟨e2, e3, e4⟩, e5⟩ := hh
  rcases e3 with ⟨-, e6, e7⟩ | ⟨e6, -⟩
  · rw [hf] at e6
    subst e6
    refine ⟨b, a, c, es, made', e1, ⟨e2, ?_, e4⟩, e5⟩
    rw [e7]
    exact hcs.top fun x hx => by
      obtain ⟨y, hy, rfl⟩ := List.mem_map.1 hx
      exact (h.inv.num y hy).2
  · rw [hf] at e6; exact absurd e6 h.ne
/-- A new drive. -/
theorem openNew_spec {d : Nat} {n most : Int} {Tx : HProp} (hT : RMs Tx) (h1 : 1 ≤ n) (h8 : n ≤ 8) (hr : 46 ≤ most) :
    Ct Tryz.prog 12 [ptr d, int n] [drv d most [], Tx]
      (fun v hs => ∃ b a c es, v = .tuple #[ptr b, .slice a es.length c, int 0] ∧ plainV es = [zeroB n] ∧ hs = [lgr b d n ⟨1, [newSeg n 1].map (segP n)⟩, drv d most ([newSeg n 1].map segF), Tx, elO a c es]) := by
  have hcs : CsOk n [] := ⟨List.Pairwise.nil, (fun x hx => by cases hx), (fun x hx => by cases hx), fun x hx => by cases hx⟩
  refine (openCs_spec (d := d) (most := most) hT h1 h8 hcs (by decide) (fun x hx => by cases hx) (fun _ => hr)).mono fun v hs hh => ?_
  obtain ⟨b, a, c, es, made', ys, e1, ⟨e2, e3, e4⟩, e5⟩ := hh
  rcases e3 with ⟨e6, -⟩ | ⟨-, e6, e7⟩
  · exact absurd rfl e6
  · subst e6; subst e7; exact ⟨b, a, c, es, e1, e4, e5⟩
theorem writeSt_spec {b d : Nat} {n most : Int} {made : Nat} {xs : List Seg} {Ux : HProp} {e : EntV} {va wa : Option Addr} {vc wc : Nat} {v w : List Int} (hE : EVd Ux e) (hV : Srd Ux 1 intC va v) (hW : Srd Ux 1 intC wa w) (hR : RMs Ux) (h1 : 1 ≤ n) (h8 : n ≤ 8)
    (h : St n made xs) (hm : made < 98) (hl : xs.length ≤ 900) (hu : usedS xs ≤ 1048576) :
    Ct Tryz.prog 17 [ptr b, entV e, .slice va v.length vc, .slice wa w.length wc] [lgr b d n ⟨made, xs.map (segP n)⟩, drv d most (xs.map segF), Ux]
      (fun r hs => r = int (wS most n made xs e.p v w).e ∧ hs = [lgr b d n ⟨(wS most n made xs e.p v w).made, (wS most n made xs e.p v w).xs.map (segP n)⟩, drv d most ((wS most n made xs e.p v w).xs.map segF), Ux]) := by
  obtain ⟨X, x, rfl⟩ := last_of h.ne
  have hk := h.inv.num x (by simp)
  have hno := name_ok (k := x.k) (by omega)
  have hu2 := used_snoc X x
  have hsy : syncE ((X ++ [x]).map segF) [nameK x.k] = 0 := by
    have hD : (X ++ [x]).map segF = X.map segF ++ [⟨nameK x.k, layS x.es, x.s⟩] := by simp [segF]
    rw [hD]
    unfold syncE
    rw [if_pos (last_sync (s := x.s) (b := layS x.es) (lookF_none.2 (look_init h.inv (by omega)))).1]
  have hw := write_spec (b := b) (d := d) (n := n) (most := most) (made := made) (U := X.map (segP n)) (p := segP n x) (D := (X ++ [x]).map segF) (vc := vc) (wc := wc) hE hV hW hR h1 h8 (by omega) (by rw [List.length_map]; rw [List.length_append] at hl; omega) (tops_len n x.es)
    (by show (layS x.es).length ≤ 1048576; omega) (by rw [List.length_map]; exact hl) hno.1 (by show (nameK x.k).size ≤ 100; rw [name_size]; decide) hsy
  rw [wS_write h.inv (by omega)] at hw
  rw [show (X ++ [x]).map (segP n) = X.map (segP n) ++ [segP n x] by simp]
  exact hw
theorem writeG_spec {b d : Nat} {n most : Int} {made : Nat} {xs : List Seg} {L : List HProp} {e : EntV} {va wa : Option Addr} {vc wc : Nat} {v w : List Int} (hE : EVd (big L) e) (hV : Srd (big L) 1 intC va v) (hW : Srd (big L) 1 intC wa w) (hR : RMs (big L)) (h1 : 1 ≤ n) (h8 : n ≤ 8)
    (h : St n made xs) (hm : made < 98) (hl : xs.length ≤ 900) (hu : usedS xs ≤ 1048576) :
    Ct Tryz.prog 17 [ptr b, entV e, .slice va v.length vc, .slice wa w.length wc] ([lgr b d n ⟨made, xs.map (segP n)⟩, drv d most (xs.map segF)] ++ L)
      (fun r hs => r = int (wS most n made xs e.p v w).e ∧ hs = [lgr b d n ⟨(wS most n made xs e.p v w).made, (wS most n made xs e.p v w).xs.map (segP n)⟩, drv d most ((wS most n made xs e.p v w).xs.map segF)] ++ L) := by
  have hc := writeSt_spec (b := b) (d := d) (most := most) (vc := vc) (wc := wc) hE hV hW hR h1 h8 h hm hl hu
  have hc2 := Ct.bigLast (pre := [lgr b d n ⟨made, xs.map (segP n)⟩, drv d most (xs.map segF)]) (L := L) (post := fun r hs => r = int (wS most n made xs e.p v w).e ∧ hs = [lgr b d n ⟨(wS most n made xs e.p v w).made, (wS most n made xs e.p v w).xs.map (segP n)⟩, drv d most ((wS most n made xs e.p v w).xs.map segF)])
    (hc.mono fun r hs ⟨e1, e2⟩ => ⟨_, ⟨e1, rfl⟩, e2⟩)
  exact hc2.mono fun r hs ⟨q, ⟨e1, e2⟩, e3⟩ => ⟨e1, by rw [e3, e2]⟩
theorem syncSt_spec {b d : Nat} {n most : Int} {made : Nat} {xs : List Seg} (hl : xs.length ≤ 900) :
    Ct Tryz.prog 19 [ptr b] [lgr b d n ⟨made, xs.map (segP n)⟩, drv d most (xs.map segF)]
      (fun v hs => v = int 0 ∧ hs = [lgr b d n ⟨made, xs.map (segP n)⟩, drv d most ((xs.map syn).map segF)]) := by
  have hs := lgSync_spec (b := b) (d := d) (n := n) (most := most) (made := made) (ps := xs.map (segP n)) (D := xs.map segF) (by rw [List.length_map]; omega)
  obtain ⟨h1, h2⟩ := sync_all xs
  rw [names_seg, h1, if_pos rfl, h2] at hs
  exact hs
theorem looseSt_spec {d : Nat} {most : Int} {xs : List Seg} (hl : xs.length ≤ 900) : Ct Tryz.prog 20 [ptr d] [drv d most (xs.map segF)] (fun v hs => v = int (looseS xs : Nat) ∧ hs = [drv d most (xs.map segF)]) := by
  have h := looseAll_spec (d := d) (most := most) (D := xs.map segF) (by rw [List.length_map]; exact hl)
  rwa [loose_seg] at h
theorem segsSt_spec {b d : Nat} {n : Int} {made : Nat} {xs : List Seg} : Ct Tryz.prog 18 [ptr b] [lgr b d n ⟨made, xs.map (segP n)⟩] (fun v hs => v = int (xs.length : Nat) ∧ hs = [lgr b d n ⟨made, xs.map (segP n)⟩]) := by
  have h := segments_spec (b := b) (d := d) (n := n) (made := made) (ps := xs.map (segP n))
  rwa [List.length_map] at h
/-! ### The first entry behind a new beginning -/
def markE : EntP := ⟨3, [], [0, 0], Rec.zero⟩
abbrev markV (a : Nat) : EntV := ⟨3, noI, ⟨some ⟨a, 0, none⟩, [0, 0], 2⟩, Rec.zero⟩
theorem mark_may : mayW 2 markE [0, 0] [0, 0] = true := by decide
theorem wS_first {most n : Int} {e : EntP} {v w : List Int} (h1 : 1 ≤ n) (h8 : n ≤ 8) (hw : mayW n e v w = true) (hr : 190 ≤ most) : wS most n 1 [newSeg n 1] e v w = ⟨0, 1, [⟨1, [zeroB n, e], 0⟩]⟩ := by
  have hz := zeroB_len h1 h8
  have he := layE_len (mayW_iff hw).2.1
  have hl : layS [zeroB n] = layE (zeroB n) := by simp [layS]
  rw [show [newSeg n 1] = [] ++ [newSeg n 1] from rfl, wS_yes hw]
  unfold wrS
  rw [if_pos (by show (layS [zeroB n]).length < 400; rw [hl]; omega), if_neg (by
    have : usedS ([] ++ [newSeg n 1]) = (layE (zeroB n)).length := by simp [usedS, newSeg, hl]
    rw [this]; omega)]
  rfl
section
variable {w0 : World} {nn : Nat} {env : Env} {H : List HProp} {X : Act → World → Prop}
/-- A first element of what an opening told. -/
theorem kind_at {es : List EntV} {ps : List EntP} {i : Nat} {p : EntP} (h : plainV es = ps) (hp : ps[i]? = some p) : ∃ e, es[i]? = some e ∧ e.p = p := by
  rw [← h, List.getElem?_map] at hp
  exact Option.map_eq_some_iff.1 hp
end
theorem awake9_spec {Tx : HProp} (hT : RMs Tx) : Ct Tryz.prog 10 [] [Tx] (fun v hs => v = .bool true ∧ hs = [Tx]) := by
  have hwf := wS_first (most := 2000) (n := 2) (e := markE) (v := [0, 0]) (w := [0, 0]) (by decide) (by decide) mark_may (by decide)
  have hst0 : St 2 1 [newSeg 2 1] := newSeg_st (by decide) (by decide) (by decide)
  have hst1 : St 2 1 [⟨1, [zeroB 2, markE], 0⟩] := by
    have := wS_st (most := 2000) (e := markE) (v := [0, 0]) (w := [0, 0]) hst0
    rw [hwf] at this; exact this
  have hzl := zeroB_len (n := 2) (by decide) (by decide)
  have hu0 : usedS [newSeg 2 1] ≤ 46 := by
    have e : layS [zeroB 2] = layE (zeroB 2) := by simp [layS]
    show (layS [zeroB 2]).length + 0 ≤ 46
    rw [e]; omega
  refine Ct.intro Tryz.func10 rfl (by kernel_rfl) 83 Tryz.ntmps10 (Nat.le_of_ble_eq_true rfl) fun w0 R => ?_
  refine Gs.seq ?_
  refine Gs.reg ?_
  refine Go.Sl.L.pu rfl rfl trivial (pu_assign rfl) ?_
  refine Go.Sl.L.nil ?_
  refine Gs.then_n ?_
  refine Gs.seq ?_
  refine Gs.reg ?_
  refine Go.Sl.L.ac rfl rfl trivial (as_call (drvNew_ok 2000 (by decide) (by decide)) (by repeat constructor) (by repeat constructor)) ?_
  rintro _ _ ⟨_, ⟨d, rfl, rfl⟩, rfl⟩
  refine Go.Sl.L.pu rfl rfl trivial (pu_assign rfl) ?_
  refine Go.Sl.L.nil ?_
  refine Gs.then_n ?_
  refine Gs.seq ?_
  refine Gs.reg ?_
  refine Go.Sl.L.pu rfl rfl trivial (pu_move rfl) ?_
  refine Go.Sl.L.ac rfl rfl trivial (as_call (openNew_spec (d := d) (n := 2) (most := 2000) hT (by decide) (by decide) (by decide)) (by repeat constructor) (by repeat constructor)) ?_
  rintro _ _ ⟨_, ⟨g, ea, ec, es, rfl, hes, rfl⟩, rfl⟩
  refine Go.Sl.L.pu rfl rfl trivial (pu_move rfl) ?_
  refine Go.Sl.L.pu rfl rfl trivial (pu_extract rfl rfl) ?_
  refine Go.Sl.L.pu rfl rfl trivial (pu_extract rfl rfl) ?_
  refine Go.Sl.L.pu rfl rfl trivial (pu_extract rfl rfl) ?_
  refine Go.Sl.L.pu rfl rfl trivial (pu_assign rfl) ?_
  refine Go.Sl.L.pu rfl rfl trivial (pu_assign rfl) ?_
  refine Go.Sl.L.pu rfl rfl trivial (pu_assign rfl) ?_
  refine Go.Sl.L.nil ?_
  have hel : es.length = 1 := by have := congrArg List.length hes; simpa using this
  obtain ⟨e0, he0, hp0⟩ := kind_at (i := 0) (p := zeroB 2) hes rfl
  have hk0 : e0.kind = 1 := congrArg EntP.kind hp0
  refine Gs.slAddr (xs := es) ((erd_elO ea ec es).1.h (by repeat constructor)) fun eb eo hea => ?_
  obtain rfl := hea (by rintro rfl; simp at hel)
  refine Gs.then_n ?_
  refine Gs.seq ?_
  refine Gs.seq ?_
  refine Gs.reg ?_
  refine Go.Sl.L.pu rfl rfl trivial (pu_move rfl) ?_
  refine Go.Sl.L.pu rfl rfl trivial (pu_ne rfl rfl) ?_
  refine Go.Sl.L.puBf rfl rfl trivial (pu_move rfl) rfl ?_
  refine Go.Sl.L.pu rfl rfl ⟨_, rfl, rfl⟩ (pu_move rfl) ?_
  refine Go.Sl.L.pu rfl rfl ⟨_, rfl, rfl⟩ (pu_eqN Tryz.underlying28 rfl rfl) ?_
  refine Go.Sl.L.pu rfl rfl trivial (by first | exact pu_pick_t rfl rfl | exact pu_pick_f rfl rfl) ?_
  refine Go.Sl.L.puBf rfl rfl trivial (pu_move rfl) rfl ?_
  refine Go.Sl.L.pu rfl rfl ⟨_, rfl, rfl⟩ (pu_move rfl) ?_
  refine Go.Sl.L.pu rfl rfl ⟨_, rfl, rfl⟩ (pu_len Tryz.underlying22 rfl) ?_
  refine Go.Sl.L.pu rfl rfl ⟨_, rfl, rfl⟩ (pu_ne rfl rfl) ?_
  refine Go.Sl.L.pu rfl rfl trivial (by first | exact pu_pick_t rfl rfl | exact pu_pick_f rfl rfl) ?_
  refine Go.Sl.L.puBf rfl rfl trivial (pu_move rfl) (decide_eq_false (by rw [hel]; decide)) ?_
  refine Go.Sl.L.pu rfl rfl ⟨_, rfl, rfl⟩ (pu_move rfl) ?_
  refine Go.Sl.L.pu rfl rfl ⟨_, rfl, rfl⟩ (pu_ia se_22 rfl rfl (by omega) (by omega)) ?_
  refine Go.Sl.L.pu rfl rfl ⟨_, rfl, rfl⟩ (pu_fa fa_43_0 rfl) ?_
  refine Go.Sl.L.rd rfl rfl ⟨_, rfl, rfl⟩ (rd_ld na_3 rfl (Rdc.elp 1 ((erd_elO _ ec es).1.h (by repeat constructor)) he0 rfl rfl)) ?_
  refine Go.Sl.L.pu rfl rfl ⟨_, rfl, rfl⟩ (pu_ne rfl rfl) ?_
  refine Go.Sl.L.pu rfl rfl trivial (by first | exact pu_pick_t rfl rfl | exact pu_pick_f rfl rfl) ?_
  refine Go.Sl.L.nil ?_
  refine Gs.then_n ?_
  refine Gs.cond_ff rfl (decide_eq_false (by rw [hk0]; decide)) ?_
  refine Gs.skip ?_
  refine Gs.then_n ?_
  refine Gs.seq ?_
  refine Gs.reg ?_
  refine Go.Sl.L.ac rfl rfl trivial (ac_lit encC_3 ([(0 : Int), 0]) et_23 ek_3 rfl (by repeat constructor) rfl rfl (by decide)) ?_
  rintro _ _ ⟨a36, rfl, rfl⟩
  refine Go.Sl.L.pu rfl rfl trivial (pu_build bd_43 (by repeat constructor) rfl) ?_
  refine Go.Sl.L.ac rfl rfl trivial (ac_alloc zv_43 rfl) ?_
  rintro _ _ ⟨vb, rfl, rfl⟩
  refine Go.Sl.L.ac0 rfl trivial (ac_st sz_43 rfl rfl (by repeat constructor) rfl rfl rfl rfl) ?_
  rintro _ _ rfl
  refine Go.Sl.L.nil ?_
  refine Gs.then_n ?_
  refine Gs.seq ?_
  refine Gs.reg ?_
  refine Go.Sl.L.pu rfl rfl trivial (pu_move rfl) ?_
  refine Go.Sl.L.rd rfl rfl trivial (rd_lda ag_43 rfl (Rdc.cl 8 (by repeat constructor) rfl) rfl) ?_
  refine Go.Sl.L.ac rfl rfl trivial (ac_lit encC_3 ([(0 : Int), 0]) et_23 ek_3 rfl (by repeat constructor) rfl rfl (by decide)) ?_
  rintro _ _ ⟨a40, rfl, rfl⟩
  refine Go.Sl.L.ac rfl rfl trivial (ac_lit encC_3 ([(0 : Int), 0]) et_23 ek_3 rfl (by repeat constructor) rfl rfl (by decide)) ?_
  rintro _ _ ⟨a41, rfl, rfl⟩
  refine Go.Sl.L.ac rfl rfl trivial (as_call (writeG_spec (b := g) (d := d) (n := 2) (most := 2000) (made := 1) (xs := [newSeg 2 1]) (L := [sl 3 1 intC (some ⟨a36, 0, none⟩) 2 [0, 0], sl 3 1 intC (some ⟨a40, 0, none⟩) 2 [0, 0], sl 3 1 intC (some ⟨a41, 0, none⟩) 2 [0, 0], Tx]) (e := markV a36) (v := [0, 0]) (w := [0, 0]) ⟨Srd.nil, Srd.bigs (A := sl 3 1 intC (some ⟨a36, 0, none⟩) 2 [0, 0]) Srd.own (by simp)⟩ (Srd.bigs (A := sl 3 1 intC (some ⟨a40, 0, none⟩) 2 [0, 0]) Srd.own (by simp)) (Srd.bigs (A := sl 3 1 intC (some ⟨a41, 0, none⟩) 2 [0, 0]) Srd.own (by simp)) (hT.inn (Inn.mem (by simp))) (by decide) (by decide) hst0 (by decide) (by decide) (by omega)) (by repeat constructor) (by repeat constructor)) ?_
  rintro _ _ ⟨_, ⟨rfl, rfl⟩, rfl⟩
  rw [show (markV a36).p = markE from rfl, hwf]
  refine Go.Sl.L.pu rfl rfl trivial (pu_move rfl) ?_
  refine Go.Sl.L.ac rfl rfl trivial (as_call (syncSt_spec (b := g) (d := d) (n := 2) (most := 2000) (made := 1) (xs := [⟨1, [zeroB 2, markE], 0⟩]) (by decide)) (by repeat constructor) (by repeat constructor)) ?_
  rintro _ _ ⟨_, ⟨rfl, rfl⟩, rfl⟩
  refine Go.Sl.L.pu rfl rfl trivial (pu_assign rfl) ?_
  refine Go.Sl.L.pu rfl rfl trivial (pu_assign rfl) ?_
  refine Go.Sl.L.nil ?_
  refine Gs.then_n ?_
  refine Gs.seq ?_
  refine Gs.reg ?_
  refine Go.Sl.L.pu rfl rfl trivial (pu_move rfl) ?_
  refine Go.Sl.L.ac rfl rfl trivial (as_call (openSt_spec (d := d) (n := 2) (most := 2000) (made := 1) hT (by decide) (by decide) (syn_st hst1) (by decide) (by decide)) (by repeat constructor) (by repeat constructor)) ?_
  rintro _ _ ⟨_, ⟨g2, fa, fc, fs, made2, rfl, ⟨hst2, hm2, hfs⟩, rfl⟩, rfl⟩
  refine Go.Sl.L.pu rfl rfl trivial (pu_move rfl) ?_
  refine Go.Sl.L.pu rfl rfl trivial (pu_extract rfl rfl) ?_
  refine Go.Sl.L.pu rfl rfl trivial (pu_extract rfl rfl) ?_
  refine Go.Sl.L.pu rfl rfl trivial (pu_extract rfl rfl) ?_
  refine Go.Sl.L.pu rfl rfl trivial (pu_assign rfl) ?_
  refine Go.Sl.L.pu rfl rfl trivial (pu_assign rfl) ?_
  refine Go.Sl.L.pu rfl rfl trivial (pu_assign rfl) ?_
  refine Go.Sl.L.nil ?_
  have hfs' : plainV fs = [zeroB 2, markE] := hfs
  have hfl : fs.length = 2 := by have := congrArg List.length hfs'; simpa using this
  obtain ⟨e1, he1, hp1⟩ := kind_at (i := 1) (p := markE) hfs' rfl
  have hk1 : e1.kind = 3 := congrArg EntP.kind hp1
  refine Gs.slAddr (xs := fs) ((erd_elO fa fc fs).1.h (by repeat constructor)) fun fb fo hfa => ?_
  obtain rfl := hfa (by rintro rfl; simp at hfl)
  refine Gs.then_n ?_
  refine Gs.seq ?_
  refine Gs.reg ?_
  refine Go.Sl.L.pu rfl rfl trivial (pu_move rfl) ?_
  refine Go.Sl.L.pu rfl rfl trivial (pu_eq rfl rfl) ?_
  refine Go.Sl.L.puBt rfl rfl trivial (pu_move rfl) rfl ?_
  refine Go.Sl.L.pu rfl rfl ⟨_, rfl, rfl⟩ (pu_move rfl) ?_
  refine Go.Sl.L.pu rfl rfl ⟨_, rfl, rfl⟩ (pu_eq rfl rfl) ?_
  refine Go.Sl.L.pu rfl rfl trivial (by first | exact pu_pick_t rfl rfl | exact pu_pick_f rfl rfl) ?_
  refine Go.Sl.L.puBt rfl rfl trivial (pu_move rfl) rfl ?_
  refine Go.Sl.L.pu rfl rfl ⟨_, rfl, rfl⟩ (pu_move rfl) ?_
  refine Go.Sl.L.pu rfl rfl ⟨_, rfl, rfl⟩ (pu_eq rfl rfl) ?_
  refine Go.Sl.L.pu rfl rfl trivial (by first | exact pu_pick_t rfl rfl | exact pu_pick_f rfl rfl) ?_
  refine Go.Sl.L.puBt rfl rfl trivial (pu_move rfl) rfl ?_
  refine Go.Sl.L.pu rfl rfl ⟨_, rfl, rfl⟩ (pu_move rfl) ?_
  refine Go.Sl.L.pu rfl rfl ⟨_, rfl, rfl⟩ (pu_len Tryz.underlying22 rfl) ?_
  refine Go.Sl.L.pu rfl rfl ⟨_, rfl, rfl⟩ (pu_eq rfl rfl) ?_
  refine Go.Sl.L.pu rfl rfl trivial (by first | exact pu_pick_t rfl rfl | exact pu_pick_f rfl rfl) ?_
  refine Go.Sl.L.puBt rfl rfl trivial (pu_move rfl) (decide_eq_true (by rw [hfl]; decide)) ?_
  refine Go.Sl.L.pu rfl rfl ⟨_, rfl, rfl⟩ (pu_move rfl) ?_
  refine Go.Sl.L.pu rfl rfl ⟨_, rfl, rfl⟩ (pu_ia se_22 rfl rfl (by omega) (by omega)) ?_
  refine Go.Sl.L.pu rfl rfl ⟨_, rfl, rfl⟩ (pu_fa fa_43_0 rfl) ?_
  refine Go.Sl.L.rd rfl rfl ⟨_, rfl, rfl⟩ (rd_ld na_3 rfl (Rdc.elp 1 ((erd_elO _ fc fs).1.h (by repeat constructor)) he1 rfl rfl)) ?_
  refine Go.Sl.L.pu rfl rfl ⟨_, rfl, rfl⟩ (pu_eq rfl rfl) ?_
  refine Go.Sl.L.pu rfl rfl trivial (by first | exact pu_pick_t rfl rfl | exact pu_pick_f rfl rfl) ?_
  refine Go.Sl.L.puBt rfl rfl trivial (pu_move rfl) (decide_eq_true (by rw [hk1])) ?_
  refine Go.Sl.L.pu rfl rfl ⟨_, rfl, rfl⟩ (pu_move rfl) ?_
  refine Go.Sl.L.ac rfl rfl ⟨_, rfl, rfl⟩ (as_call (segsSt_spec (b := g) (d := d) (n := 2) (made := 1) (xs := [⟨1, [zeroB 2, markE], 0⟩])) (by repeat constructor) (by repeat constructor)) ?_
  rintro _ _ ⟨_, ⟨rfl, rfl⟩, rfl⟩
  refine Go.Sl.L.pu rfl rfl ⟨_, rfl, rfl⟩ (pu_eq rfl rfl) ?_
  refine Go.Sl.L.pu rfl rfl trivial (by first | exact pu_pick_t rfl rfl | exact pu_pick_f rfl rfl) ?_
  refine Go.Sl.L.puBt rfl rfl trivial (pu_move rfl) rfl ?_
  refine Go.Sl.L.pu rfl rfl ⟨_, rfl, rfl⟩ (pu_move rfl) ?_
  refine Go.Sl.L.ac rfl rfl ⟨_, rfl, rfl⟩ (as_call (looseSt_spec (d := d) (most := 2000) (xs := [⟨1, [zeroB 2, markE], 0⟩].map syn) (by decide)) (by repeat constructor) (by repeat constructor)) ?_
  rintro _ _ ⟨_, ⟨rfl, rfl⟩, rfl⟩
  rw [loose_syn]
  refine Go.Sl.L.pu rfl rfl ⟨_, rfl, rfl⟩ (pu_eq rfl rfl) ?_
  refine Go.Sl.L.pu rfl rfl trivial (by first | exact pu_pick_t rfl rfl | exact pu_pick_f rfl rfl) ?_
  refine Go.Sl.L.pu rfl rfl trivial (pu_assign rfl) ?_
  refine Go.Sl.L.nil ?_
  refine Gs.then_n ?_
  refine Gs.ret ?_
  exact Gs.fin1 Tryz.results10 rfl _ (⟨rfl, rfl⟩) (by repeat constructor)
end Go.Proofs.YtjaafkakeccniaaGreatDoor

/- What the laws of ch. 9 share. -/
namespace Go.Proofs.YtjaafkakeccniaaGreatDoor
open Go Go.Sl Go.Gv Go.Dv Go.Bst
set_option maxRecDepth 100000
theorem used_ok {most : Int} {xs : List Seg} (h : Ok most (xs.map segF)) : (usedS xs : Int) ≤ most := by have := h.room; rwa [used_seg] at this
theorem Ct.frame0 {P : Program} {f : FuncId} {args : List Value} {L : List HProp} {v0 : Value} (c : Ct P f args [] (fun v hs => v = v0 ∧ hs = [])) : Ct P f args L (fun v hs => v = v0 ∧ hs = L) :=
  ⟨c.enters, fun w0 w R s => (c.calls w0 w (L ++ R) s).mono fun e w' ⟨v, hs, he, ⟨hv, hhs⟩, hsat⟩ => ⟨v, L, he, ⟨hv, rfl⟩, by subst hhs; exact hsat⟩⟩
/-- An opening of a new drive, for whatever number of origins. -/
theorem openN_spec {d : Nat} {n most : Int} {Tx : HProp} (hT : RMs Tx) (hr : 46 ≤ most) :
    Ct Tryz.prog 12 [ptr d, int n] [drv d most [], Tx]
      (fun v hs => (manyB n = true ∧ ∃ b a c es, v = .tuple #[ptr b, .slice a es.length c, int 0] ∧ plainV es = [zeroB n] ∧ hs = [lgr b d n ⟨1, [newSeg n 1].map (segP n)⟩, drv d most ([newSeg n 1].map segF), Tx, elO a c es]) ∨
        (manyB n = false ∧ v = .tuple #[.pointer none, .slice none 0 0, int 2] ∧ hs = [drv d most [], Tx])) := by
  cases hm : manyB n with
  | true =>
    have h := hm
    simp only [manyB, Bool.and_eq_true, decide_eq_true_eq] at h
    exact (openNew_spec hT h.1 h.2 hr).mono fun v hs hh => .inl ⟨rfl, hh⟩
  | false =>
    have h : ¬ (1 ≤ n ∧ n ≤ 8) := fun h => by
      unfold manyB at hm
      rw [decide_eq_true h.1, decide_eq_true h.2] at hm; cases hm
    exact (Ct.frame0 (openBad_spec d h)).mono fun v hs hh => .inr ⟨rfl, hh⟩
/-- Are two lists of entries the same, that lie apart? -/
theorem sameL_spec {VX VY : HProp} {a b : Option Addr} {ca cb c d : Nat} {xs ys : List EntV} (hX : ∀ e ∈ xs, EVd VX e) (hY : ∀ e ∈ ys, EVd VY e) (hl : xs.length ≤ 1000000) (hv : ∀ e ∈ xs, e.v.xs.length ≤ 1000000 ∧ e.w.xs.length ≤ 1000000) :
    Ct Tryz.prog 21 [.slice a xs.length c, .slice b ys.length d] [sl 43 8 entC a ca xs, VX, sl 43 8 entC b cb ys, VY]
      (fun v hs => v = .bool (decide (plainV xs = plainV ys)) ∧ hs = [sl 43 8 entC a ca xs, VX, sl 43 8 entC b cb ys, VY]) := by
  have h := sameEntries_spec (U := big [sl 43 8 entC a ca xs, VX, sl 43 8 entC b cb ys, VY]) (a := a) (b := b) (c := c) (d := d) (xs := xs) (ys := ys)
    ⟨Srd.bigs (A := sl 43 8 entC a ca xs) Srd.own (by simp), fun e he => (hX e he).bigs (by simp)⟩ ⟨Srd.bigs (A := sl 43 8 entC b cb ys) Srd.own (by simp), fun e he => (hY e he).bigs (by simp)⟩ hl hv
  exact (Ct.bigs h fun v hs hh => ⟨[], hh.2⟩).mono fun v hs ⟨r, ⟨e1, e2⟩, e3⟩ => ⟨e1, by cases e2; exact e3⟩
theorem may_vecs {e : EntP} {n : Int} (h : mayE e n = true) : e.v.length ≤ 8 ∧ e.w.length ≤ 8 := by
  rcases may_kind h with k | k | k
  · rw [may_base k] at h; simp only [Bool.and_eq_true] at h; exact ⟨vec_len h.1.1.2, vec_len h.1.2⟩
  · rw [may_rec k] at h; simp only [Bool.and_eq_true, decide_eq_true_eq] at h
    rw [h.1.1.1.1.1, h.1.1.1.1.2]; exact ⟨by simp, by simp⟩
  · rw [may_mark k] at h; simp only [Bool.and_eq_true, decide_eq_true_eq] at h
    rw [h.1.2]; exact ⟨by simp, vec_len h.2⟩
/-- The entries of good segments have small vectors. -/
theorem seg_vecs {n : Int} {xs : List Seg} (h : ∀ x ∈ xs, GoodS n x.es) {es : List EntV} (he : plainV es = flatS xs) : ∀ e ∈ es, e.v.xs.length ≤ 8 ∧ e.w.xs.length ≤ 8 := fun e hm => by
  have h1 : e.p ∈ flatS xs := by rw [← he]; exact List.mem_map_of_mem hm
  obtain ⟨x, hx, hex⟩ := List.mem_flatMap.1 h1
  exact may_vecs (n := n) ((h x hx).may _ hex)
theorem seg_lens {n : Int} {xs : List Seg} (h : ∀ x ∈ xs, GoodS n x.es) {es : List EntV} (he : plainV es = flatS xs) : es.length = (plainE (flatS xs)).length + xs.length := by
  have h1 := congrArg List.length he
  rw [List.length_map] at h1
  rw [h1, count_all h]
theorem filterV_mem {es : List EntV} {e : EntV} (h : e ∈ filterV es) : e ∈ es := (List.mem_filter.1 h).1
end Go.Proofs.YtjaafkakeccniaaGreatDoor

