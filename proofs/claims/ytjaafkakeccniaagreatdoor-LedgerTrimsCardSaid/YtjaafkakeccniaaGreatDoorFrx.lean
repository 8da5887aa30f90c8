/- Walk: frame.Next. -/
import Derived.Test.YtjaafkakeccniaaGreatDoorFrw
import Derived.Test.YtjaafkakeccniaaGreatDoorMW
import Derived.Test.YtjaafkakeccniaaGreatDoorMD
namespace Go.Proofs.YtjaafkakeccniaaGreatDoor
open Go Go.Sl Go.Gv
set_option maxRecDepth 100000
/-- What Next answers. -/
def nextV (m : Nat) : Option (Nat × List UInt8 × Nat) → Option Addr → Nat → Value
  | none, _, _ => .tuple #[int 0, .slice none 0 0, int 0, .bool false]
  | some (k, b, n), a, c => .tuple #[int k, .slice a b.length c, int ((m + n : Nat) : Int), .bool true]
def nextH : Option (Nat × List UInt8 × Nat) → Option Addr → Nat → List HProp
  | none, _, _ => []
  | some (_, b, _), a, c => [sl 5 1 byteC a c b]
theorem next_spec {S : HProp} {a : Option Addr} {c : Nat} {bs : List UInt8} (hS : Srd S 1 byteC a bs) (hl : bs.length ≤ 1048576) (hc : bs.length ≤ c) (m : Nat) (hm : m ≤ bs.length) :
    Ct Tryz.prog 81 [.slice a bs.length c, int m] [S] (fun v hs => ∃ a' c', v = nextV m (nextB (bs.drop m)) a' c' ∧ hs = S :: nextH (nextB (bs.drop m)) a' c') := by
  obtain ⟨xs, hxs⟩ : ∃ xs, xs = bs.drop m := ⟨_, rfl⟩
  have hxl : xs.length = bs.length - m := by rw [hxs, List.length_drop]
  have hX : Srd S 1 byteC (suba a m c 1) xs := by rw [hxs]; exact hS.cutL m c hc
  rw [← hxs]
  refine Ct.intro Tryz.func81 rfl (by kernel_rfl) 96 Tryz.ntmps81 (Nat.le_of_ble_eq_true rfl) fun w0 R => ?_
  refine Gs.slAddr (hX.h (by repeat constructor)) fun xb xo hxa => ?_
  refine Gs.seq ?_
  refine Gs.reg ?_
  refine Go.Sl.L.pu rfl rfl trivial (pu_assign rfl) ?_
  refine Go.Sl.L.pu rfl rfl trivial (pu_assign rfl) ?_
  refine Go.Sl.L.pu rfl rfl trivial (pu_assign rfl) ?_
  refine Go.Sl.L.pu rfl rfl trivial (pu_assign rfl) ?_
  refine Go.Sl.L.nil ?_
  refine Gs.then_n ?_
  refine Gs.seq ?_
  refine Gs.seq ?_
  refine Gs.reg ?_
  refine Go.Sl.L.pu rfl rfl trivial (pu_move rfl) ?_
  refine Go.Sl.L.pu rfl rfl trivial (pu_lt rfl rfl) ?_
  refine Go.Sl.L.puBf rfl rfl trivial (pu_move rfl) (decide_eq_false (by omega)) ?_
  refine Go.Sl.L.pu rfl rfl ⟨_, rfl, rfl⟩ (pu_move rfl) ?_
  refine Go.Sl.L.pu rfl rfl ⟨_, rfl, rfl⟩ (pu_move rfl) ?_
  refine Go.Sl.L.pu rfl rfl ⟨_, rfl, rfl⟩ (pu_len Tryz.underlying75 rfl) ?_
  refine Go.Sl.L.pu rfl rfl ⟨_, rfl, rfl⟩ (pu_gt rfl rfl) ?_
  refine Go.Sl.L.pu rfl rfl trivial (by first | exact pu_pick_t rfl rfl | exact pu_pick_f rfl rfl) ?_
  refine Go.Sl.L.puBf rfl rfl trivial (pu_move rfl) (decide_eq_false (by omega)) ?_
  refine Go.Sl.L.pu rfl rfl ⟨_, rfl, rfl⟩ (pu_move rfl) ?_
  refine Go.Sl.L.pu rfl rfl ⟨_, rfl, rfl⟩ (pu_len Tryz.underlying75 rfl) ?_
  refine Go.Sl.L.pu rfl rfl ⟨_, rfl, rfl⟩ (pu_move rfl) ?_
  refine Go.Sl.L.pu rfl rfl ⟨_, rfl, rfl⟩ (by first | exact pu_subI rfl rfl rfl (by omega) (by omega) | exact pu_sub rfl rfl) ?_
  refine Go.Sl.L.pu rfl rfl ⟨_, rfl, rfl⟩ (pu_lt rfl rfl) ?_
  refine Go.Sl.L.pu rfl rfl trivial (by first | exact pu_pick_t rfl rfl | exact pu_pick_f rfl rfl) ?_
  refine Go.Sl.L.nil ?_
  refine Gs.then_n ?_
  refine Gs.cond rfl (fun hc0 => ?_) (fun hc0 => ?_)
  · skip
    have hno : nextB xs = none := by
      unfold nextB; rw [if_pos (by have := of_decide_eq_true hc0; omega)]
    refine Gs.seq ?_
    refine Gs.reg ?_
    refine Go.Sl.L.pu rfl rfl trivial (pu_assign rfl) ?_
    refine Go.Sl.L.pu rfl rfl trivial (pu_assign rfl) ?_
    refine Go.Sl.L.pu rfl rfl trivial (pu_assign rfl) ?_
    refine Go.Sl.L.pu rfl rfl trivial (pu_assign rfl) ?_
    refine Go.Sl.L.nil ?_
    refine Gs.then_n ?_
    refine Gs.ret ?_
    refine Gs.then_r ?_
    exact Gs.fin4 Tryz.results81 rfl rfl rfl rfl  _ (⟨none, 0, by rw [hno]; rfl, by rw [hno]⟩) (by repeat constructor)
  · skip
    have h12 : 12 ≤ xs.length := by have := of_decide_eq_false hc0; omega
    refine Gs.skip ?_
    refine Gs.then_n ?_
    refine Gs.seq ?_
    refine Gs.reg ?_
    refine Go.Sl.L.pu rfl rfl trivial (pu_move rfl) ?_
    refine Go.Sl.L.pu rfl rfl trivial (pu_move rfl) ?_
    refine Go.Sl.L.pu rfl rfl trivial (pu_sliceL et_75 rfl rfl (by omega) (by omega)) ?_
    refine Go.Sl.L.pu rfl rfl trivial (pu_assign rfl) ?_
    refine Go.Sl.L.nil ?_
    have hae := hxa (by rintro e; rw [e] at h12; simp at h12)
    rw [show (.slice (suba a (m : Int).toNat c 1) (bs.length - (m : Int).toNat) (c - (m : Int).toNat) : Value) = .slice (some ⟨xb, xo, none⟩) xs.length (c - m) by rw [Int.toNat_natCast, hae, hxl]]
    rw [hae] at hX
    have hat : ∀ i, i < 12 → xs[i]? = some (xs.getD i 0) := fun i hi => by simp [List.getD, show i < xs.length by omega]
    refine Gs.then_n ?_
    refine Gs.seq ?_
    refine Gs.regD mixed (by kernel_rfl) ?_
    refine Rg.pu 0 rfl rfl (by kernel_rfl) trivial (pu_move rfl) ?_
    refine Rg.pu 1 rfl rfl (by kernel_rfl) trivial (pu_ia se_75 rfl rfl (by omega) (by omega)) ?_
    refine Rg.rd 2 rfl rfl (by kernel_rfl) trivial (rd_ld na_5 rfl (Rdc.el0 (hX.h (by repeat constructor)) (hat 2 (by decide)) rfl rfl)) ?_
    refine Rg.pu 3 rfl rfl (by kernel_rfl) trivial (pu_conv Tryz.underlying5 Tryz.underlying3 rfl) ?_
    rw [wrap_in (z := ((xs.getD 2 0).toNat : Int)) (by omega) (by have := (xs.getD 2 0).toNat_lt; omega)]
    refine Rg.pu 4 rfl rfl (by kernel_rfl) trivial (pu_shl rfl rfl (by decide)) ?_
    rw [show IntKind.i64.wrap (((xs.getD 2 0).toNat : Int) * 2 ^ (min (8 : Int).toNat IntKind.i64.bits)) = (((xs.getD 2 0).toNat * 256 : Nat) : Int) by
      have := (xs.getD 2 0).toNat_lt
      rw [show (2 : Int) ^ (min (8 : Int).toNat IntKind.i64.bits) = 256 from rfl, wrap_in (by omega) (by omega)]; omega]
    refine Rg.pu 5 rfl rfl (by kernel_rfl) trivial (pu_addI (z := ((4 + (xs.getD 2 0).toNat * 256 : Nat) : Int)) rfl rfl (by omega) (by omega) (by have := (xs.getD 2 0).toNat_lt; omega)) ?_
    refine Rg.pu 6 rfl rfl (by kernel_rfl) trivial (pu_move rfl) ?_
    refine Rg.pu 7 rfl rfl (by kernel_rfl) trivial (pu_ia se_75 rfl rfl (by omega) (by omega)) ?_
    refine Rg.rd 8 rfl rfl (by kernel_rfl) trivial (rd_ld na_5 rfl (Rdc.el0 (hX.h (by repeat constructor)) (hat 3 (by decide)) rfl rfl)) ?_
    refine Rg.pu 9 rfl rfl (by kernel_rfl) trivial (pu_conv Tryz.underlying5 Tryz.underlying3 rfl) ?_
    rw [wrap_in (z := ((xs.getD 3 0).toNat : Int)) (by omega) (by have := (xs.getD 3 0).toNat_lt; omega)]
    refine Rg.pu 10 rfl rfl (by kernel_rfl) trivial (pu_addI (z := ((endB xs : Nat) : Int)) rfl rfl (by unfold endB; omega) (by omega) (by have := (xs.getD 2 0).toNat_lt; have := (xs.getD 3 0).toNat_lt; omega)) ?_
    refine Rg.pu 11 rfl rfl (by kernel_rfl) trivial (pu_assign rfl) ?_
    refine Rg.end (by kernel_rfl) ?_
    refine Gs.then_n ?_
    refine Gs.seq ?_
    refine Gs.seq ?_
    refine Gs.reg ?_
    refine Go.Sl.L.pu rfl rfl trivial (pu_move rfl) ?_
    refine Go.Sl.L.pu rfl rfl trivial (pu_ia se_75 rfl rfl (by omega) (by omega)) ?_
    refine Go.Sl.L.rd rfl rfl trivial (rd_ld na_5 rfl (Rdc.el0 (hX.h (by repeat constructor)) (hat 0 (by decide)) rfl rfl)) ?_
    refine Go.Sl.L.pu rfl rfl trivial (pu_ne rfl rfl) ?_
    refine Go.Sl.L.puB rfl rfl trivial (pu_move rfl) (fun hg4 => ?_) (fun hg4 => ?_)
    · skip
      have hno : nextB xs = none := by
        unfold nextB
        rw [if_neg (by omega), if_pos (.inl fun e => by have := of_decide_eq_true hg4; rw [e] at this; exact this rfl)]
      refine Go.Sl.L.off rfl rfl rfl rfl rfl rfl ?_
      refine Go.Sl.L.off rfl rfl rfl rfl rfl rfl ?_
      refine Go.Sl.L.off rfl rfl rfl rfl rfl rfl ?_
      refine Go.Sl.L.off rfl rfl rfl rfl rfl rfl ?_
      refine Go.Sl.L.pu rfl rfl trivial (by first | exact pu_pick_t rfl rfl | exact pu_pick_f rfl rfl) ?_
      refine Go.Sl.L.pu rfl rfl trivial (pu_move rfl) ?_
      refine Go.Sl.L.off rfl rfl rfl rfl rfl rfl ?_
      refine Go.Sl.L.off rfl rfl rfl rfl rfl rfl ?_
      refine Go.Sl.L.off rfl rfl rfl rfl rfl rfl ?_
      refine Go.Sl.L.off rfl rfl rfl rfl rfl rfl ?_
      refine Go.Sl.L.off rfl rfl rfl rfl rfl rfl ?_
      refine Go.Sl.L.pu rfl rfl trivial (by first | exact pu_pick_t rfl rfl | exact pu_pick_f rfl rfl) ?_
      refine Go.Sl.L.nil ?_
      refine Gs.then_n ?_
      refine Gs.cond_t rfl ?_
      refine Gs.seq ?_
      refine Gs.reg ?_
      refine Go.Sl.L.pu rfl rfl trivial (pu_assign rfl) ?_
      refine Go.Sl.L.pu rfl rfl trivial (pu_assign rfl) ?_
      refine Go.Sl.L.pu rfl rfl trivial (pu_assign rfl) ?_
      refine Go.Sl.L.pu rfl rfl trivial (pu_assign rfl) ?_
      refine Go.Sl.L.nil ?_
      refine Gs.then_n ?_
      refine Gs.ret ?_
      refine Gs.then_r ?_
      exact Gs.fin4 Tryz.results81 rfl rfl rfl rfl  _ (⟨none, 0, by rw [hno]; rfl, by rw [hno]⟩) (by repeat constructor)
    · skip
      have hx0 : xs.getD 0 0 = 71 := by
        have h := of_decide_eq_false hg4
        apply UInt8.toNat_inj.1
        show (xs.getD 0 0).toNat = 71
        omega
      refine Go.Sl.L.pu rfl rfl ⟨_, rfl, rfl⟩ (pu_move rfl) ?_
      refine Go.Sl.L.pu rfl rfl ⟨_, rfl, rfl⟩ (pu_ia se_75 rfl rfl (by omega) (by omega)) ?_
      refine Go.Sl.L.rd rfl rfl ⟨_, rfl, rfl⟩ (rd_ld na_5 rfl (Rdc.el0 (hX.h (by repeat constructor)) (hat 1 (by decide)) rfl rfl)) ?_
      refine Go.Sl.L.pu rfl rfl ⟨_, rfl, rfl⟩ (pu_eq rfl rfl) ?_
      refine Go.Sl.L.pu rfl rfl trivial (by first | exact pu_pick_t rfl rfl | exact pu_pick_f rfl rfl) ?_
      refine Go.Sl.L.puB rfl rfl trivial (pu_move rfl) (fun hg10 => ?_) (fun hg10 => ?_)
      · skip
        have hno : nextB xs = none := by
          have h := of_decide_eq_true hg10
          unfold nextB
          rw [if_neg (by omega), if_pos (.inr (.inl (UInt8.toNat_inj.1 (by show (xs.getD 1 0).toNat = 0; omega))))]
        refine Go.Sl.L.off rfl rfl rfl rfl rfl rfl ?_
        refine Go.Sl.L.off rfl rfl rfl rfl rfl rfl ?_
        refine Go.Sl.L.off rfl rfl rfl rfl rfl rfl ?_
        refine Go.Sl.L.off rfl rfl rfl rfl rfl rfl ?_
        refine Go.Sl.L.off rfl rfl rfl rfl rfl rfl ?_
        refine Go.Sl.L.pu rfl rfl trivial (by first | exact pu_pick_t rfl rfl | exact pu_pick_f rfl rfl) ?_
        refine Go.Sl.L.nil ?_
        refine Gs.then_n ?_
        refine Gs.cond_t rfl ?_
        refine Gs.seq ?_
        refine Gs.reg ?_
        refine Go.Sl.L.pu rfl rfl trivial (pu_assign rfl) ?_
        refine Go.Sl.L.pu rfl rfl trivial (pu_assign rfl) ?_
        refine Go.Sl.L.pu rfl rfl trivial (pu_assign rfl) ?_
        refine Go.Sl.L.pu rfl rfl trivial (pu_assign rfl) ?_
        refine Go.Sl.L.nil ?_
        refine Gs.then_n ?_
        refine Gs.ret ?_
        refine Gs.then_r ?_
        exact Gs.fin4 Tryz.results81 rfl rfl rfl rfl  _ (⟨none, 0, by rw [hno]; rfl, by rw [hno]⟩) (by repeat constructor)
      · skip
        have hx1 : xs.getD 1 0 ≠ 0 := fun e => by have h := of_decide_eq_false hg10; rw [e] at h; exact h rfl
        refine Go.Sl.L.pu rfl rfl ⟨_, rfl, rfl⟩ (pu_move rfl) ?_
        refine Go.Sl.L.pu rfl rfl ⟨_, rfl, rfl⟩ (pu_len Tryz.underlying75 rfl) ?_
        refine Go.Sl.L.pu rfl rfl ⟨_, rfl, rfl⟩ (by first | exact pu_subI rfl rfl rfl (by omega) (by omega) | exact pu_sub rfl rfl) ?_
        refine Go.Sl.L.pu rfl rfl ⟨_, rfl, rfl⟩ (pu_move rfl) ?_
        refine Go.Sl.L.pu rfl rfl ⟨_, rfl, rfl⟩ (pu_lt rfl rfl) ?_
        refine Go.Sl.L.pu rfl rfl trivial (by first | exact pu_pick_t rfl rfl | exact pu_pick_f rfl rfl) ?_
        refine Go.Sl.L.nil ?_
        refine Gs.then_n ?_
        refine Gs.cond rfl (fun hc1 => ?_) (fun hc1 => ?_)
        · skip
          have hno : nextB xs = none := by
            unfold nextB
            rw [if_neg (by omega), if_pos (.inr (.inr (by have := of_decide_eq_true hc1; omega)))]
          refine Gs.seq ?_
          refine Gs.reg ?_
          refine Go.Sl.L.pu rfl rfl trivial (pu_assign rfl) ?_
          refine Go.Sl.L.pu rfl rfl trivial (pu_assign rfl) ?_
          refine Go.Sl.L.pu rfl rfl trivial (pu_assign rfl) ?_
          refine Go.Sl.L.pu rfl rfl trivial (pu_assign rfl) ?_
          refine Go.Sl.L.nil ?_
          refine Gs.then_n ?_
          refine Gs.ret ?_
          refine Gs.then_r ?_
          exact Gs.fin4 Tryz.results81 rfl rfl rfl rfl  _ (⟨none, 0, by rw [hno]; rfl, by rw [hno]⟩) (by repeat constructor)
        · skip
          have hend : endB xs + 8 ≤ xs.length := by have := of_decide_eq_false hc1; omega
          have h4 : 4 ≤ endB xs := by unfold endB; omega
          obtain ⟨ys, hys⟩ : ∃ ys, ys = xs.take (endB xs) := ⟨_, rfl⟩
          have hyl : ys.length = endB xs := by rw [hys, List.length_take]; omega
          have hY : Srd S 1 byteC (some ⟨xb, xo, none⟩) ys := by
            have := hX.cutH (endB xs) (c - m) (by omega)
            rwa [suba_zero, ← hys] at this
          obtain ⟨zs, hzs⟩ : ∃ zs, zs = (xs.drop (endB xs)).take 8 := ⟨_, rfl⟩
          have hzl : zs.length = 8 := by rw [hzs, List.length_take, List.length_drop]; omega
          have hZ : Srd S 1 byteC (some ⟨xb, xo + endB xs * 1, none⟩) zs := by
            have := (hX.cutL (endB xs) (c - m) (by omega)).cutH 8 (c - m - endB xs) (by rw [List.length_drop]; omega)
            rwa [suba_zero, suba_some (by omega), ← hzs] at this
          have hB : Srd S 1 byteC (some ⟨xb, xo + 4 * 1, none⟩) (ys.drop 4) := by
            have := hY.cutL 4 (c - m) (by omega)
            rwa [suba_some (by omega)] at this
          have hbl : (ys.drop 4).length = endB xs - 4 := by rw [List.length_drop, hyl]
          have hsum : zs = bytes8 (hashB ys) 8 → nextB xs = some ((xs.getD 1 0).toNat, ys.drop 4, endB xs + 8) := fun h => by
            unfold nextB
            rw [if_neg (by omega), if_neg (by
              rintro (e | e | e)
              · exact e hx0
              · exact hx1 e
              · omega), ← hzs, ← hys, if_pos h]
          have hno : zs ≠ bytes8 (hashB ys) 8 → nextB xs = none := fun h => by
            unfold nextB
            rw [if_neg (by omega), if_neg (by
              rintro (e | e | e)
              · exact e hx0
              · exact hx1 e
              · omega), ← hzs, ← hys, if_neg h]
          refine Gs.skip ?_
          refine Gs.then_n ?_
          refine Gs.seq ?_
          refine Gs.reg ?_
          refine Go.Sl.L.pu rfl rfl trivial (pu_move rfl) ?_
          refine Go.Sl.L.pu rfl rfl trivial (pu_move rfl) ?_
          refine Go.Sl.L.pu rfl rfl trivial (pu_sliceH et_75 rfl rfl (by omega) (by omega)) ?_
          rw [show (.slice (suba (some ⟨xb, xo, none⟩) 0 (c - m) 1) ((endB xs : Nat) : Int).toNat (c - m) : Value) = .slice (some ⟨xb, xo, none⟩) ys.length (c - m) by rw [suba_zero, Int.toNat_natCast, hyl]]
          refine Go.Sl.L.ac rfl rfl trivial (ac_lit encC_75 ([⟨some ⟨xb, xo, none⟩, ys, c - m⟩]) et_115 ek_75 rfl (by repeat constructor) rfl rfl (by decide)) ?_
          rintro _ _ ⟨a62, rfl, rfl⟩
          refine Go.Sl.L.ac rfl rfl trivial (as_call (of_spec (U := sl 75 1 slC (some ⟨a62, 0, none⟩) 1 [⟨some ⟨xb, xo, none⟩, ys, c - m⟩]) (S := S) Srd.own (by simp; exact ⟨hY, by omega⟩) (by simp)) (by repeat constructor) (by repeat constructor)) ?_
          rintro _ _ ⟨_, ⟨rfl, rfl⟩, rfl⟩
          rw [show flat [⟨some ⟨xb, xo, none⟩, ys, c - m⟩] = ys by simp [flat]]
          refine Go.Sl.L.pu rfl rfl trivial (pu_assign rfl) ?_
          refine Go.Sl.L.nil ?_
          refine Gs.then_n ?_
          refine Gs.seq ?_
          refine Gs.seq ?_
          refine Gs.reg ?_
          refine Go.Sl.L.pu rfl rfl trivial (pu_move rfl) ?_
          refine Go.Sl.L.pu rfl rfl trivial (pu_move rfl) ?_
          refine Go.Sl.L.pu rfl rfl trivial (pu_move rfl) ?_
          refine Go.Sl.L.pu rfl rfl trivial (by first | exact pu_addI rfl rfl rfl (by omega) (by omega) | exact pu_add rfl rfl) ?_
          refine Go.Sl.L.pu rfl rfl trivial (pu_slice et_75 rfl rfl rfl (by omega) (by omega) (by omega)) ?_
          rw [show (.slice (suba (some ⟨xb, xo, none⟩) ((endB xs : Nat) : Int).toNat (c - m) 1) ((((endB xs : Nat) : Int) + 8).toNat - ((endB xs : Nat) : Int).toNat) (c - m - ((endB xs : Nat) : Int).toNat) : Value) = .slice (some ⟨xb, xo + endB xs * 1, none⟩) 8 (c - m - endB xs) by
            rw [Int.toNat_natCast, suba_some (by omega), show (((endB xs : Nat) : Int) + 8).toNat = endB xs + 8 by omega, Nat.add_sub_cancel_left]]
          refine Go.Sl.L.pu rfl rfl trivial (pu_len Tryz.underlying75 rfl) ?_
          refine Go.Sl.L.pu rfl rfl trivial (pu_move rfl) ?_
          refine Go.Sl.L.nil ?_
          refine Gs.then_n ?_
          refine Gs.block ?_
          refine Gs.loop1 (fun i : Nat => i ≤ 8 ∧ zs.take i = (bytes8 (hashB ys) 8).take i) (fun i => [(1, int m), (8, .slice (some ⟨xb, xo, none⟩) xs.length (c - m)), (9, int (endB xs : Nat)), (10, .int .u64 (hashB ys)), (68, .slice (some ⟨xb, xo + endB xs * 1, none⟩) 8 (c - m - endB xs)), (69, int (8 : Nat)), (70, int i)]) (fun i => [S] ++ R) (fun i => 8 - i) 0 (⟨Nat.zero_le _, rfl⟩) (by repeat constructor) (by repeat constructor) (fun i ⟨hi, ht⟩ => ?_)
          refine Gs.seq ?_
          refine Gs.reg ?_
          refine Go.Sl.L.pu rfl rfl trivial (pu_lt rfl rfl) ?_
          refine Go.Sl.L.nil ?_
          refine Gs.then_n ?_
          refine Gs.seq ?_
          refine Gs.cond rfl (fun hc2 => ?_) (fun hc2 => ?_)
          · skip
            have hlt : i < 8 := by have := of_decide_eq_true hc2; omega
            obtain ⟨y, hy⟩ : ∃ y, zs[i]? = some y := ⟨zs[i]'(by omega), by simp [hzl, hlt]⟩
            have hby : (bytes8 (hashB ys) 8)[i]? = some (byteU (hashB ys) (56 - 8 * i)) := by unfold bytes8; rw [List.getElem?_map, List.getElem?_range hlt]; rfl
            refine Gs.skip ?_
            refine Gs.then_n ?_
            refine Gs.seq ?_
            refine Gs.block ?_
            refine Gs.seq ?_
            refine Gs.reg ?_
            refine Go.Sl.L.pu rfl rfl trivial (pu_move rfl) ?_
            refine Go.Sl.L.pu rfl rfl trivial (pu_ia se_75 rfl rfl (by omega) (by omega)) ?_
            refine Go.Sl.L.rd rfl rfl trivial (rd_ld na_5 rfl (Rdc.el0 (hZ.h (by repeat constructor)) hy rfl rfl)) ?_
            refine Go.Sl.L.pu rfl rfl trivial (pu_assign rfl) ?_
            refine Go.Sl.L.pu rfl rfl trivial (pu_assign rfl) ?_
            refine Go.Sl.L.nil ?_
            refine Gs.then_n ?_
            refine Gs.seq ?_
            refine Gs.reg ?_
            refine Go.Sl.L.pu rfl rfl trivial (pu_move rfl) ?_
            refine Go.Sl.L.pu rfl rfl trivial (pu_move rfl) ?_
            refine Go.Sl.L.pu rfl rfl trivial (pu_move rfl) ?_
            refine Go.Sl.L.pu rfl rfl trivial (by first | exact pu_mulI rfl rfl rfl (by omega) (by omega) | exact pu_mul rfl rfl) ?_
            refine Go.Sl.L.pu rfl rfl trivial (pu_subI (z := ((56 - 8 * i : Nat) : Int)) rfl rfl (by omega) (by omega) (by omega)) ?_
            refine Go.Sl.L.pu rfl rfl trivial (pu_shr rfl rfl (by omega)) ?_
            refine Go.Sl.L.pu rfl rfl trivial (pu_conv Tryz.underlying146 Tryz.underlying5 rfl) ?_
            rw [cutB_eq]
            refine Go.Sl.L.pu rfl rfl trivial (pu_ne rfl rfl) ?_
            refine Go.Sl.L.nil ?_
            refine Gs.then_n ?_
            refine Gs.cond rfl (fun hc3 => ?_) (fun hc3 => ?_)
            · skip
              have hnone := hno (fun e => by
                rw [e, hby] at hy
                have h := of_decide_eq_true hc3
                exact h (by rw [← Option.some.inj hy]; rfl))
              refine Gs.seq ?_
              refine Gs.reg ?_
              refine Go.Sl.L.pu rfl rfl trivial (pu_assign rfl) ?_
              refine Go.Sl.L.pu rfl rfl trivial (pu_assign rfl) ?_
              refine Go.Sl.L.pu rfl rfl trivial (pu_assign rfl) ?_
              refine Go.Sl.L.pu rfl rfl trivial (pu_assign rfl) ?_
              refine Go.Sl.L.nil ?_
              refine Gs.then_n ?_
              refine Gs.ret ?_
              refine Gs.blk_r ?_
              refine Gs.then_r ?_
              refine Gs.then_r ?_
              refine Gs.blk_r ?_
              refine Gs.then_r ?_
              exact Gs.fin4 Tryz.results81 rfl rfl rfl rfl  _ (⟨none, 0, by rw [hnone]; rfl, by rw [hnone]⟩) (by repeat constructor)
            · skip
              have hyb : y = byteU (hashB ys) (56 - 8 * i) := UInt8.toNat_inj.1 (by have h := of_decide_eq_false hc3; exact Int.ofNat.inj (Decidable.not_not.1 h))
              refine Gs.skip ?_
              refine Gs.blk_n ?_
              refine Gs.then_n ?_
              refine Gs.reg ?_
              refine Go.Sl.L.pu rfl rfl trivial (by first | exact pu_addI rfl rfl rfl (by omega) (by omega) | exact pu_add rfl rfl) ?_
              refine Go.Sl.L.pu rfl rfl trivial (pu_move rfl) ?_
              refine Go.Sl.L.nil ?_
              refine Gs.then_n ?_
              exact Gs.again1 (i + 1) ⟨by omega, by rw [List.take_add_one, List.take_add_one, ht, hy, hby, hyb]⟩ (by omega) (by repeat constructor) (by repeat constructor)
          · skip
            have hge : i = 8 := by have := of_decide_eq_false hc2; omega
            have hyes := hsum (by
              rw [hge, List.take_of_length_le (by omega), List.take_of_length_le (by rw [bytes8_length]; exact Nat.le_refl _)] at ht
              exact ht)
            have hm2 : endB xs - 4 = (ys.drop 4).length := hbl.symm
            refine Gs.exit ?_
            refine Gs.then_x ?_
            refine Gs.then_x ?_
            refine Gs.blk_hit ?_
            refine Gs.then_n ?_
            refine Gs.seq ?_
            refine Gs.regD mixed (by kernel_rfl) ?_
            refine Rg.pu 0 rfl rfl (by kernel_rfl) trivial (pu_move rfl) ?_
            refine Rg.pu 1 rfl rfl (by kernel_rfl) trivial (pu_ia se_75 rfl rfl (by omega) (by omega)) ?_
            refine Rg.rd 2 rfl rfl (by kernel_rfl) trivial (rd_ld na_5 rfl (Rdc.el0 (hX.h (by repeat constructor)) (hat 1 (by decide)) rfl rfl)) ?_
            refine Rg.pu 3 rfl rfl (by kernel_rfl) trivial (pu_conv Tryz.underlying5 Tryz.underlying3 rfl) ?_
            rw [wrap_in (z := ((xs.getD 1 0).toNat : Int)) (by omega) (by have := (xs.getD 1 0).toNat_lt; omega)]
            refine Rg.pu 4 rfl rfl (by kernel_rfl) trivial (pu_move rfl) ?_
            refine Rg.pu 5 rfl rfl (by kernel_rfl) trivial (pu_move rfl) ?_
            refine Rg.pu 6 rfl rfl (by kernel_rfl) trivial (pu_slice et_75 rfl rfl rfl (by omega) (by omega) (by omega)) ?_
            rw [show (.slice (suba (some ⟨xb, xo, none⟩) (4 : Int).toNat (c - m) 1) (((endB xs : Nat) : Int).toNat - (4 : Int).toNat) (c - m - (4 : Int).toNat) : Value) = .slice (some ⟨xb, xo + 4 * 1, none⟩) (ys.drop 4).length (c - m - 4) by
              rw [Int.toNat_natCast, show (4 : Int).toNat = 4 from rfl, suba_some (by omega), hm2]]
            refine Rg.pu 8 rfl rfl (by kernel_rfl) trivial (pu_move rfl) ?_
            refine Rg.pu 9 rfl rfl (by kernel_rfl) trivial (pu_move rfl) ?_
            refine Rg.pu 10 rfl rfl (by kernel_rfl) trivial (by first | exact pu_addI rfl rfl rfl (by omega) (by omega) | exact pu_add rfl rfl) ?_
            refine Rg.pu 11 rfl rfl (by kernel_rfl) trivial (pu_addI (z := ((m + (endB xs + 8) : Nat) : Int)) rfl rfl (by omega) (by omega) (by omega)) ?_
            refine Rg.one (by kernel_rfl) (Stp.acR 7 [2] rfl rfl (by kernel_rfl) trivial (as_call (cloneB_spec hB (by omega)) (by repeat constructor) (by repeat constructor)) (by rintro _ _ ⟨_, ⟨ba, bc, rfl, rfl⟩, rfl⟩; exact (Reads.cons rfl rfl rfl trivial rfl (rd_ld na_5 rfl (Rdc.el0 (hX.h (by repeat constructor)) (hat 1 (by decide)) rfl rfl)) Reads.nil)) ?_)
            rintro _ _ ⟨_, ⟨ba, bc, rfl, rfl⟩, rfl⟩
            refine Rg.pu 12 rfl rfl (by kernel_rfl) trivial (pu_assign rfl) ?_
            refine Rg.pu 13 rfl rfl (by kernel_rfl) trivial (pu_assign rfl) ?_
            refine Rg.pu 14 rfl rfl (by kernel_rfl) trivial (pu_assign rfl) ?_
            refine Rg.pu 15 rfl rfl (by kernel_rfl) trivial (pu_assign rfl) ?_
            refine Rg.end (by kernel_rfl) ?_
            refine Gs.then_n ?_
            refine Gs.ret ?_
            exact Gs.fin4 Tryz.results81 rfl rfl rfl rfl  _ (⟨ba, bc, by rw [hyes]; rfl, by rw [hyes]⟩) (by repeat constructor)
end Go.Proofs.YtjaafkakeccniaaGreatDoor
