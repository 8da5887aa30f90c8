/- Walks: segment's reading (body.vector). -/
import Derived.Test.YtjaafkakeccniaaGreatDoorSegw
namespace Go.Proofs.YtjaafkakeccniaaGreatDoor
open Go Go.Sl Go.Gv
set_option maxRecDepth 100000
abbrev bodyC (a : Option Addr) (l c : Nat) (bad : Bool) : List Value := [.slice a l c, .bool bad]
/-- The i-th number of a vector's bytes. -/
def numAt (bs : List UInt8) (i : Nat) : Int := (((bs.getD (1 + 2 * i) 0).toNat * 256 + (bs.getD (2 + 2 * i) 0).toNat : Nat) : Int)
theorem readV_none {bs : List UInt8} (h : readV bs = none) : bs = [] ∨ (bs.length - 1) / 2 < (bs.getD 0 0).toNat := by
  unfold readV at h
  split at h
  · assumption
  · cases h
theorem readV_some {bs rest : List UInt8} {v : List Int} (h : readV bs = some (v, rest)) : 0 < bs.length ∧ (bs.getD 0 0).toNat ≤ (bs.length - 1) / 2 ∧ v = (List.range (bs.getD 0 0).toNat).map (numAt bs) ∧ rest = bs.drop (1 + 2 * (bs.getD 0 0).toNat) := by
  unfold readV at h
  split at h
  · cases h
  · rename_i h0
    cases h
    refine ⟨?_, ?_, rfl, rfl⟩
    · exact List.length_pos_iff.2 fun e => h0 (.inl e)
    · exact Nat.le_of_not_lt fun e => h0 (.inr e)
theorem vecB_none {p : Nat} {S : HProp} {a : Option Addr} {c : Nat} {bs : List UInt8} (hS : Srd S 1 byteC a bs) (hl : bs.length ≤ 1048576) (h : readV bs = none) :
    Ct Tryz.prog 106 [ptr p] [cl p 131 (bodyC a bs.length c false), S] (fun v hs => v = .slice none 0 0 ∧ hs = [cl p 131 (bodyC a bs.length c true), S]) := by
  have hno := readV_none h
  refine Ct.intro Tryz.func106 rfl (by kernel_rfl) 81 Tryz.ntmps106 (Nat.le_of_ble_eq_true rfl) fun w0 R => ?_
  refine Gs.slAddr (hS.h (by repeat constructor)) fun xb xo hxa => ?_
  refine Gs.seq ?_
  refine Gs.reg ?_
  refine Go.Sl.L.pu rfl rfl trivial (pu_assign rfl) ?_
  refine Go.Sl.L.nil ?_
  refine Gs.then_n ?_
  refine Gs.seq ?_
  refine Gs.seq ?_
  refine Gs.regD mixed (by kernel_rfl) ?_
  refine Rg.pu 0 rfl rfl (by kernel_rfl) trivial (pu_move rfl) ?_
  refine Rg.pu 1 rfl rfl (by kernel_rfl) trivial (by first | exact pu_nil rfl | exact pu_nilF rfl) ?_
  refine Rg.pu 2 rfl rfl (by kernel_rfl) trivial (pu_fa fa_131_0 rfl) ?_
  refine Rg.rd 3 rfl rfl (by kernel_rfl) trivial (rd_ld na_75 rfl (Rdc.cl1 (by repeat constructor) rfl)) ?_
  refine Rg.pu 4 rfl rfl (by kernel_rfl) trivial (pu_len Tryz.underlying75 rfl) ?_
  refine Rg.pu 5 rfl rfl (by kernel_rfl) trivial (pu_eq rfl rfl) ?_
  refine Rg.puB 6 rfl rfl (by kernel_rfl) trivial (pu_move rfl) (fun hg6 => ?_) (fun hg6 => ?_)
  · skip
    refine Rg.off 7 rfl rfl (by kernel_rfl) rfl rfl rfl rfl ?_
    refine Rg.off 8 rfl rfl (by kernel_rfl) rfl rfl rfl rfl ?_
    refine Rg.off 9 rfl rfl (by kernel_rfl) rfl rfl rfl rfl ?_
    refine Rg.off 10 rfl rfl (by kernel_rfl) rfl rfl rfl rfl ?_
    refine Rg.off 11 rfl rfl (by kernel_rfl) rfl rfl rfl rfl ?_
    refine Rg.off 12 rfl rfl (by kernel_rfl) rfl rfl rfl rfl ?_
    refine Rg.off 13 rfl rfl (by kernel_rfl) rfl rfl rfl rfl ?_
    refine Rg.off 14 rfl rfl (by kernel_rfl) rfl rfl rfl rfl ?_
    refine Rg.off 15 rfl rfl (by kernel_rfl) rfl rfl rfl rfl ?_
    refine Rg.off 16 rfl rfl (by kernel_rfl) rfl rfl rfl rfl ?_
    refine Rg.off 17 rfl rfl (by kernel_rfl) rfl rfl rfl rfl ?_
    refine Rg.off 18 rfl rfl (by kernel_rfl) rfl rfl rfl rfl ?_
    refine Rg.off 19 rfl rfl (by kernel_rfl) rfl rfl rfl rfl ?_
    refine Rg.off 20 rfl rfl (by kernel_rfl) rfl rfl rfl rfl ?_
    refine Rg.off 21 rfl rfl (by kernel_rfl) rfl rfl rfl rfl ?_
    refine Rg.pu 22 rfl rfl (by kernel_rfl) trivial (by first | exact pu_pick_t rfl rfl | exact pu_pick_f rfl rfl) ?_
    refine Rg.end (by kernel_rfl) ?_
    refine Gs.then_n ?_
    refine Gs.cond_t rfl ?_
    refine Gs.seq ?_
    refine Gs.reg ?_
    refine Go.Sl.L.pu rfl rfl trivial (pu_move rfl) ?_
    refine Go.Sl.L.pu rfl rfl trivial (by first | exact pu_nil rfl | exact pu_nilF rfl) ?_
    refine Go.Sl.L.pu rfl rfl trivial (pu_fa fa_131_1 rfl) ?_
    refine Go.Sl.L.ac0 rfl trivial (ac_st sz_4 rfl rfl (by repeat constructor) rfl rfl rfl rfl) ?_
    rintro _ _ rfl
    refine Go.Sl.L.nil ?_
    refine Gs.then_n ?_
    refine Gs.seq ?_
    refine Gs.reg ?_
    refine Go.Sl.L.pu rfl rfl trivial (pu_assign rfl) ?_
    refine Go.Sl.L.nil ?_
    refine Gs.then_n ?_
    refine Gs.ret ?_
    refine Gs.then_r ?_
    exact Gs.fin1 Tryz.results106 rfl _ (⟨rfl, rfl⟩) (by repeat constructor)
  · skip
    have hne : 0 < bs.length := by have := of_decide_eq_false hg6; omega
    obtain rfl := hxa (by rintro rfl; simp at hne)
    have hlt : (bs.length - 1) / 2 < (bs.getD 0 0).toNat := hno.resolve_left (by rintro rfl; simp at hne)
    have hb8 := (bs.getD 0 0).toNat_lt
    have hat : bs[0]? = some (bs.getD 0 0) := by simp [List.getD, hne]
    refine Rg.pu 7 rfl rfl (by kernel_rfl) ⟨_, rfl, rfl⟩ (pu_move rfl) ?_
    refine Rg.pu 8 rfl rfl (by kernel_rfl) ⟨_, rfl, rfl⟩ (by first | exact pu_nil rfl | exact pu_nilF rfl) ?_
    refine Rg.pu 9 rfl rfl (by kernel_rfl) ⟨_, rfl, rfl⟩ (pu_fa fa_131_0 rfl) ?_
    refine Rg.rd 10 rfl rfl (by kernel_rfl) ⟨_, rfl, rfl⟩ (rd_ld na_75 rfl (Rdc.cl1 (by repeat constructor) rfl)) ?_
    refine Rg.pu 11 rfl rfl (by kernel_rfl) ⟨_, rfl, rfl⟩ (pu_len Tryz.underlying75 rfl) ?_
    refine Rg.pu 12 rfl rfl (by kernel_rfl) ⟨_, rfl, rfl⟩ (pu_subI (z := ((bs.length - 1 : Nat) : Int)) rfl rfl (by omega) (by omega) (by omega)) ?_
    refine Rg.pu 13 rfl rfl (by kernel_rfl) ⟨_, rfl, rfl⟩ (pu_quo rfl rfl (by omega)) ?_
    rw [show IntKind.i64.wrap (((bs.length - 1 : Nat) : Int).tdiv 2) = (((bs.length - 1) / 2 : Nat) : Int) from wrap_in (z := (((bs.length - 1) / 2 : Nat) : Int)) (by omega) (by omega)]
    refine Rg.pu 14 rfl rfl (by kernel_rfl) ⟨_, rfl, rfl⟩ (pu_move rfl) ?_
    refine Rg.pu 15 rfl rfl (by kernel_rfl) ⟨_, rfl, rfl⟩ (by first | exact pu_nil rfl | exact pu_nilF rfl) ?_
    refine Rg.pu 16 rfl rfl (by kernel_rfl) ⟨_, rfl, rfl⟩ (pu_fa fa_131_0 rfl) ?_
    refine Rg.rd 17 rfl rfl (by kernel_rfl) ⟨_, rfl, rfl⟩ (rd_ld na_75 rfl (Rdc.cl1 (by repeat constructor) rfl)) ?_
    refine Rg.pu 18 rfl rfl (by kernel_rfl) ⟨_, rfl, rfl⟩ (pu_ia se_75 rfl rfl (by omega) (by omega)) ?_
    refine Rg.rd 19 rfl rfl (by kernel_rfl) ⟨_, rfl, rfl⟩ (rd_ld na_5 rfl (Rdc.el0 (hS.h (by repeat constructor)) hat rfl rfl)) ?_
    refine Rg.pu 20 rfl rfl (by kernel_rfl) ⟨_, rfl, rfl⟩ (pu_conv Tryz.underlying5 Tryz.underlying3 rfl) ?_
    rw [wrap_in (z := ((bs.getD 0 0).toNat : Int)) (by omega) (by omega)]
    refine Rg.pu 21 rfl rfl (by kernel_rfl) ⟨_, rfl, rfl⟩ (pu_lt rfl rfl) ?_
    refine Rg.pu 22 rfl rfl (by kernel_rfl) trivial (by first | exact pu_pick_t rfl rfl | exact pu_pick_f rfl rfl) ?_
    refine Rg.end (by kernel_rfl) ?_
    refine Gs.then_n ?_
    refine Gs.cond_tt rfl (decide_eq_true (by omega)) ?_
    refine Gs.seq ?_
    refine Gs.reg ?_
    refine Go.Sl.L.pu rfl rfl trivial (pu_move rfl) ?_
    refine Go.Sl.L.pu rfl rfl trivial (by first | exact pu_nil rfl | exact pu_nilF rfl) ?_
    refine Go.Sl.L.pu rfl rfl trivial (pu_fa fa_131_1 rfl) ?_
    refine Go.Sl.L.ac0 rfl trivial (ac_st sz_4 rfl rfl (by repeat constructor) rfl rfl rfl rfl) ?_
    rintro _ _ rfl
    refine Go.Sl.L.nil ?_
    refine Gs.then_n ?_
    refine Gs.seq ?_
    refine Gs.reg ?_
    refine Go.Sl.L.pu rfl rfl trivial (pu_assign rfl) ?_
    refine Go.Sl.L.nil ?_
    refine Gs.then_n ?_
    refine Gs.ret ?_
    refine Gs.then_r ?_
    exact Gs.fin1 Tryz.results106 rfl _ (⟨rfl, rfl⟩) (by repeat constructor)
theorem vecB_some {p : Nat} {S : HProp} {a : Option Addr} {c : Nat} {bs rest : List UInt8} {v : List Int} (hS : Srd S 1 byteC a bs) (hl : bs.length ≤ 1048576) (hc : bs.length ≤ c) (h : readV bs = some (v, rest)) :
    Ct Tryz.prog 106 [ptr p] [cl p 131 (bodyC a bs.length c false), S] (fun r hs => ∃ a' c' ra rc, r = .slice a' v.length c' ∧ (Srd S 1 byteC ra rest ∧ rest.length ≤ rc) ∧ hs = [cl p 131 (bodyC ra rest.length rc false), S, sl 3 1 intC a' c' v]) := by
  obtain ⟨hne, hcn, hv, hr⟩ := readV_some h
  obtain ⟨n, hn⟩ : ∃ n, n = (bs.getD 0 0).toNat := ⟨_, rfl⟩
  rw [← hn] at hcn hv hr
  have hn8 : n < 256 := by rw [hn]; exact (bs.getD 0 0).toNat_lt
  have hat : ∀ i, i < bs.length → bs[i]? = some (bs.getD i 0) := fun i hi => by simp [List.getD, hi]
  have hvl : v.length = n := by rw [hv]; simp
  have hrl : rest.length = bs.length - (1 + 2 * n) := by rw [hr, List.length_drop]
  refine Ct.intro Tryz.func106 rfl (by kernel_rfl) 81 Tryz.ntmps106 (Nat.le_of_ble_eq_true rfl) fun w0 R => ?_
  refine Gs.slAddr (hS.h (by repeat constructor)) fun xb xo hxa => ?_
  obtain rfl := hxa (by rintro rfl; simp at hne)
  refine Gs.seq ?_
  refine Gs.reg ?_
  refine Go.Sl.L.pu rfl rfl trivial (pu_assign rfl) ?_
  refine Go.Sl.L.nil ?_
  refine Gs.then_n ?_
  refine Gs.seq ?_
  refine Gs.seq ?_
  refine Gs.regD mixed (by kernel_rfl) ?_
  refine Rg.pu 0 rfl rfl (by kernel_rfl) trivial (pu_move rfl) ?_
  refine Rg.pu 1 rfl rfl (by kernel_rfl) trivial (by first | exact pu_nil rfl | exact pu_nilF rfl) ?_
  refine Rg.pu 2 rfl rfl (by kernel_rfl) trivial (pu_fa fa_131_0 rfl) ?_
  refine Rg.rd 3 rfl rfl (by kernel_rfl) trivial (rd_ld na_75 rfl (Rdc.cl1 (by repeat constructor) rfl)) ?_
  refine Rg.pu 4 rfl rfl (by kernel_rfl) trivial (pu_len Tryz.underlying75 rfl) ?_
  refine Rg.pu 5 rfl rfl (by kernel_rfl) trivial (pu_eq rfl rfl) ?_
  refine Rg.puBf 6 rfl rfl (by kernel_rfl) trivial (pu_move rfl) (decide_eq_false (by omega)) ?_
  refine Rg.pu 7 rfl rfl (by kernel_rfl) ⟨_, rfl, rfl⟩ (pu_move rfl) ?_
  refine Rg.pu 8 rfl rfl (by kernel_rfl) ⟨_, rfl, rfl⟩ (by first | exact pu_nil rfl | exact pu_nilF rfl) ?_
  refine Rg.pu 9 rfl rfl (by kernel_rfl) ⟨_, rfl, rfl⟩ (pu_fa fa_131_0 rfl) ?_
  refine Rg.rd 10 rfl rfl (by kernel_rfl) ⟨_, rfl, rfl⟩ (rd_ld na_75 rfl (Rdc.cl1 (by repeat constructor) rfl)) ?_
  refine Rg.pu 11 rfl rfl (by kernel_rfl) ⟨_, rfl, rfl⟩ (pu_len Tryz.underlying75 rfl) ?_
  refine Rg.pu 12 rfl rfl (by kernel_rfl) ⟨_, rfl, rfl⟩ (pu_subI (z := ((bs.length - 1 : Nat) : Int)) rfl rfl (by omega) (by omega) (by omega)) ?_
  refine Rg.pu 13 rfl rfl (by kernel_rfl) ⟨_, rfl, rfl⟩ (pu_quo rfl rfl (by omega)) ?_
  rw [show IntKind.i64.wrap (((bs.length - 1 : Nat) : Int).tdiv 2) = (((bs.length - 1) / 2 : Nat) : Int) from wrap_in (z := (((bs.length - 1) / 2 : Nat) : Int)) (by omega) (by omega)]
  refine Rg.pu 14 rfl rfl (by kernel_rfl) ⟨_, rfl, rfl⟩ (pu_move rfl) ?_
  refine Rg.pu 15 rfl rfl (by kernel_rfl) ⟨_, rfl, rfl⟩ (by first | exact pu_nil rfl | exact pu_nilF rfl) ?_
  refine Rg.pu 16 rfl rfl (by kernel_rfl) ⟨_, rfl, rfl⟩ (pu_fa fa_131_0 rfl) ?_
  refine Rg.rd 17 rfl rfl (by kernel_rfl) ⟨_, rfl, rfl⟩ (rd_ld na_75 rfl (Rdc.cl1 (by repeat constructor) rfl)) ?_
  refine Rg.pu 18 rfl rfl (by kernel_rfl) ⟨_, rfl, rfl⟩ (pu_ia se_75 rfl rfl (by omega) (by omega)) ?_
  refine Rg.rd 19 rfl rfl (by kernel_rfl) ⟨_, rfl, rfl⟩ (rd_ld na_5 rfl (Rdc.el0 (hS.h (by repeat constructor)) (hat 0 hne) rfl rfl)) ?_
  refine Rg.pu 20 rfl rfl (by kernel_rfl) ⟨_, rfl, rfl⟩ (pu_conv Tryz.underlying5 Tryz.underlying3 rfl) ?_
  rw [wrap_in (z := ((bs.getD 0 0).toNat : Int)) (by omega) (by omega), ← hn]
  refine Rg.pu 21 rfl rfl (by kernel_rfl) ⟨_, rfl, rfl⟩ (pu_lt rfl rfl) ?_
  refine Rg.pu 22 rfl rfl (by kernel_rfl) trivial (by first | exact pu_pick_t rfl rfl | exact pu_pick_f rfl rfl) ?_
  refine Rg.end (by kernel_rfl) ?_
  refine Gs.then_n ?_
  refine Gs.cond_ff rfl (decide_eq_false (by omega)) ?_
  refine Gs.skip ?_
  refine Gs.then_n ?_
  refine Gs.seq ?_
  refine Gs.reg ?_
  refine Go.Sl.L.pu rfl rfl trivial (pu_move rfl) ?_
  refine Go.Sl.L.pu rfl rfl trivial (by first | exact pu_nil rfl | exact pu_nilF rfl) ?_
  refine Go.Sl.L.pu rfl rfl trivial (pu_fa fa_131_0 rfl) ?_
  refine Go.Sl.L.rd rfl rfl trivial (rd_ld na_75 rfl (Rdc.cl1 (by repeat constructor) rfl)) ?_
  refine Go.Sl.L.pu rfl rfl trivial (pu_ia se_75 rfl rfl (by omega) (by omega)) ?_
  refine Go.Sl.L.rd rfl rfl trivial (rd_ld na_5 rfl (Rdc.el0 (hS.h (by repeat constructor)) (hat 0 hne) rfl rfl)) ?_
  refine Go.Sl.L.pu rfl rfl trivial (pu_conv Tryz.underlying5 Tryz.underlying3 rfl) ?_
  rw [wrap_in (z := ((bs.getD 0 0).toNat : Int)) (by omega) (by omega), ← hn]
  refine Go.Sl.L.pu rfl rfl trivial (pu_assign rfl) ?_
  refine Go.Sl.L.nil ?_
  refine Gs.then_n ?_
  refine Gs.seq ?_
  refine Gs.reg ?_
  refine Go.Sl.L.pu rfl rfl trivial (pu_assign rfl) ?_
  refine Go.Sl.L.nil ?_
  refine Gs.slNil 3 1 intC ?_
  refine Gs.then_n ?_
  refine Gs.seq ?_
  refine Gs.seq ?_
  refine Gs.reg ?_
  refine Go.Sl.L.pu rfl rfl trivial (pu_move rfl) ?_
  refine Go.Sl.L.pu rfl rfl trivial (pu_move rfl) ?_
  refine Go.Sl.L.nil ?_
  refine Gs.then_n ?_
  refine Gs.block ?_
  refine Gs.loop1 (fun s : Nat × Option Addr × Nat × List Int => s.1 ≤ n ∧ s.2.2.2 = (List.range s.1).map (numAt bs)) (fun s => [(0, ptr p), (3, int n), (4, .slice s.2.1 s.2.2.2.length s.2.2.1), (39, int n), (40, int s.1)]) (fun s => [cl p 131 (bodyC (some ⟨xb, xo, none⟩) bs.length c false), S, sl 3 1 intC s.2.1 s.2.2.1 s.2.2.2] ++ R) (fun s => n - s.1) (0, none, 0, []) (⟨Nat.zero_le _, rfl⟩) (by repeat constructor) (by repeat constructor) (fun s hs => ?_)
  obtain ⟨i, ca, cc, l⟩ := s
  obtain ⟨hi, hl1⟩ := hs
  dsimp only at hi hl1 ⊢
  have hll : l.length = i := by rw [hl1]; simp
  refine Gs.seq ?_
  refine Gs.reg ?_
  refine Go.Sl.L.pu rfl rfl trivial (pu_lt rfl rfl) ?_
  refine Go.Sl.L.nil ?_
  refine Gs.then_n ?_
  refine Gs.seq ?_
  refine Gs.cond rfl (fun hc1 => ?_) (fun hc1 => ?_)
  · skip
    have hlt : i < n := by have := of_decide_eq_true hc1; omega
    have b1 := (bs.getD (1 + 2 * i) 0).toNat_lt
    have b2 := (bs.getD (2 + 2 * i) 0).toNat_lt
    have hst : l ++ [numAt bs i] = (List.range (i + 1)).map (numAt bs) := by rw [hl1, List.range_succ, List.map_append]; rfl
    refine Gs.skip ?_
    refine Gs.then_n ?_
    refine Gs.seq ?_
    refine Gs.block ?_
    refine Gs.seq ?_
    refine Gs.reg ?_
    refine Go.Sl.L.pu rfl rfl trivial (pu_move rfl) ?_
    refine Go.Sl.L.pu rfl rfl trivial (pu_assign rfl) ?_
    refine Go.Sl.L.nil ?_
    refine Gs.then_n ?_
    refine Gs.regD mixed (by kernel_rfl) ?_
    refine Rg.pu 0 rfl rfl (by kernel_rfl) trivial (pu_move rfl) ?_
    refine Rg.pu 1 rfl rfl (by kernel_rfl) trivial (pu_move rfl) ?_
    refine Rg.pu 2 rfl rfl (by kernel_rfl) trivial (by first | exact pu_nil rfl | exact pu_nilF rfl) ?_
    refine Rg.pu 3 rfl rfl (by kernel_rfl) trivial (pu_fa fa_131_0 rfl) ?_
    refine Rg.rd 4 rfl rfl (by kernel_rfl) trivial (rd_ld na_75 rfl (Rdc.cl1 (by repeat constructor) rfl)) ?_
    refine Rg.pu 5 rfl rfl (by kernel_rfl) trivial (pu_move rfl) ?_
    refine Rg.pu 6 rfl rfl (by kernel_rfl) trivial (by first | exact pu_mulI rfl rfl rfl (by omega) (by omega) | exact pu_mul rfl rfl) ?_
    refine Rg.pu 7 rfl rfl (by kernel_rfl) trivial (pu_addI (z := ((1 + 2 * i : Nat) : Int)) rfl rfl (by omega) (by omega) (by omega)) ?_
    refine Rg.pu 8 rfl rfl (by kernel_rfl) trivial (pu_ia se_75 rfl rfl (by omega) (by omega)) ?_
    refine Rg.rd 9 rfl rfl (by kernel_rfl) trivial (rd_ld na_5 rfl (Rdc.el0 (hS.h (by repeat constructor)) (hat (1 + 2 * i) (by omega)) rfl rfl)) ?_
    refine Rg.pu 10 rfl rfl (by kernel_rfl) trivial (pu_conv Tryz.underlying5 Tryz.underlying3 rfl) ?_
    rw [wrap_in (z := ((bs.getD (1 + 2 * i) 0).toNat : Int)) (by omega) (by omega)]
    refine Rg.pu 11 rfl rfl (by kernel_rfl) trivial (pu_shl rfl rfl (by decide)) ?_
    rw [show IntKind.i64.wrap (((bs.getD (1 + 2 * i) 0).toNat : Int) * 2 ^ (min (8 : Int).toNat IntKind.i64.bits)) = (((bs.getD (1 + 2 * i) 0).toNat * 256 : Nat) : Int) by
      rw [show (2 : Int) ^ (min (8 : Int).toNat IntKind.i64.bits) = 256 from rfl, wrap_in (by omega) (by omega)]; omega]
    refine Rg.pu 12 rfl rfl (by kernel_rfl) trivial (pu_move rfl) ?_
    refine Rg.pu 13 rfl rfl (by kernel_rfl) trivial (by first | exact pu_nil rfl | exact pu_nilF rfl) ?_
    refine Rg.pu 14 rfl rfl (by kernel_rfl) trivial (pu_fa fa_131_0 rfl) ?_
    refine Rg.rd 15 rfl rfl (by kernel_rfl) trivial (rd_ld na_75 rfl (Rdc.cl1 (by repeat constructor) rfl)) ?_
    refine Rg.pu 16 rfl rfl (by kernel_rfl) trivial (pu_move rfl) ?_
    refine Rg.pu 17 rfl rfl (by kernel_rfl) trivial (by first | exact pu_mulI rfl rfl rfl (by omega) (by omega) | exact pu_mul rfl rfl) ?_
    refine Rg.pu 18 rfl rfl (by kernel_rfl) trivial (pu_addI (z := ((2 + 2 * i : Nat) : Int)) rfl rfl (by omega) (by omega) (by omega)) ?_
    refine Rg.pu 19 rfl rfl (by kernel_rfl) trivial (pu_ia se_75 rfl rfl (by omega) (by omega)) ?_
    refine Rg.rd 20 rfl rfl (by kernel_rfl) trivial (rd_ld na_5 rfl (Rdc.el0 (hS.h (by repeat constructor)) (hat (2 + 2 * i) (by omega)) rfl rfl)) ?_
    refine Rg.pu 21 rfl rfl (by kernel_rfl) trivial (pu_conv Tryz.underlying5 Tryz.underlying3 rfl) ?_
    rw [wrap_in (z := ((bs.getD (2 + 2 * i) 0).toNat : Int)) (by omega) (by omega)]
    refine Rg.pu 22 rfl rfl (by kernel_rfl) trivial (pu_or rfl rfl) ?_
    rw [orK_small b1 b2, show ((((bs.getD (1 + 2 * i) 0).toNat * 256 + (bs.getD (2 + 2 * i) 0).toNat : Nat)) : Int) = numAt bs i from rfl]
    refine Rg.one (by kernel_rfl) (Stp.ac 23 rfl rfl (by kernel_rfl) trivial (ac_lit encC_3 ([numAt bs i]) et_23 ek_3 rfl (by repeat constructor) rfl rfl (by decide))  ?_)
    rintro _ _ ⟨a66, rfl, rfl⟩
    refine Rg.one (by kernel_rfl) (Stp.ac 24 rfl rfl (by kernel_rfl) trivial (ac_append (xs := l) (ys := [numAt bs i]) et_23 ek_3 rfl rfl (by repeat constructor) (SrcH.sl Tryz.underlying23 ek_3 (SlH.own (by repeat constructor))) (by first | omega | (simp; omega)) (by first | omega | (simp; omega)))  ?_)
    rintro _ _ ⟨a67, c67, rfl, rfl⟩
    refine Rg.pu 25 rfl rfl (by kernel_rfl) trivial (pu_assign rfl) ?_
    refine Rg.end (by kernel_rfl) ?_
    refine Gs.blk_n ?_
    refine Gs.then_n ?_
    refine Gs.reg ?_
    refine Go.Sl.L.pu rfl rfl trivial (by first | exact pu_addI rfl rfl rfl (by omega) (by omega) | exact pu_add rfl rfl) ?_
    refine Go.Sl.L.pu rfl rfl trivial (pu_move rfl) ?_
    refine Go.Sl.L.nil ?_
    refine Gs.then_n ?_
    exact Gs.again1 (i + 1, a67, c67, l ++ [numAt bs i]) ⟨hlt, hst⟩ (by show n - (i + 1) < n - i; omega) (by repeat constructor) (by repeat constructor)
  · skip
    have hge : i = n := by have := of_decide_eq_false hc1; omega
    have hfin : l = v := by rw [hl1, hge, hv]
    rw [hfin]
    refine Gs.exit ?_
    refine Gs.then_x ?_
    refine Gs.then_x ?_
    refine Gs.blk_hit ?_
    refine Gs.then_n ?_
    refine Gs.seq ?_
    refine Gs.reg ?_
    refine Go.Sl.L.pu rfl rfl trivial (pu_move rfl) ?_
    refine Go.Sl.L.pu rfl rfl trivial (pu_move rfl) ?_
    refine Go.Sl.L.pu rfl rfl trivial (by first | exact pu_nil rfl | exact pu_nilF rfl) ?_
    refine Go.Sl.L.pu rfl rfl trivial (pu_fa fa_131_0 rfl) ?_
    refine Go.Sl.L.rd rfl rfl trivial (rd_ld na_75 rfl (Rdc.cl1 (by repeat constructor) rfl)) ?_
    refine Go.Sl.L.pu rfl rfl trivial (pu_move rfl) ?_
    refine Go.Sl.L.pu rfl rfl trivial (by first | exact pu_mulI rfl rfl rfl (by omega) (by omega) | exact pu_mul rfl rfl) ?_
    refine Go.Sl.L.pu rfl rfl trivial (pu_addI (z := ((1 + 2 * n : Nat) : Int)) rfl rfl (by omega) (by omega) (by omega)) ?_
    refine Go.Sl.L.pu rfl rfl trivial (pu_sliceL et_75 rfl rfl (by omega) (by omega)) ?_
    refine Go.Sl.L.pu rfl rfl trivial (by first | exact pu_nil rfl | exact pu_nilF rfl) ?_
    refine Go.Sl.L.pu rfl rfl trivial (pu_fa fa_131_0 rfl) ?_
    refine Go.Sl.L.ac0 rfl trivial (ac_st sz_75 rfl rfl (by repeat constructor) rfl rfl rfl rfl) ?_
    rintro _ _ rfl
    refine Go.Sl.L.nil ?_
    refine Gs.then_n ?_
    refine Gs.seq ?_
    refine Gs.reg ?_
    refine Go.Sl.L.pu rfl rfl trivial (pu_move rfl) ?_
    refine Go.Sl.L.pu rfl rfl trivial (pu_assign rfl) ?_
    refine Go.Sl.L.nil ?_
    refine Gs.then_n ?_
    refine Gs.ret ?_
    exact Gs.fin1 Tryz.results106 rfl _ (⟨ca, cc, suba (some ⟨xb, xo, none⟩) (1 + 2 * n) c 1, c - (1 + 2 * n), rfl, ⟨by rw [hr]; exact hS.cutL _ _ hc, by omega⟩, by rw [hrl]⟩) (by repeat constructor)
end Go.Proofs.YtjaafkakeccniaaGreatDoor
