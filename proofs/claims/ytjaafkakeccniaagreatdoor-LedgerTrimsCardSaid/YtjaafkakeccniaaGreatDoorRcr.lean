/- Walks: record.number, Read. -/
import Derived.Test.YtjaafkakeccniaaGreatDoorMG
import Derived.Test.YtjaafkakeccniaaGreatDoorInn
import Derived.Test.YtjaafkakeccniaaGreatDoorMD
namespace Go.Proofs.YtjaafkakeccniaaGreatDoor
open Go Go.Sl Go.Gv
set_option maxRecDepth 100000
theorem valF_snoc (a : Int) (l : List UInt8) (x : UInt8) : valF a (l ++ [x]) = 256 * valF a l + x.toNat := by simp [valF]
theorem valF_in : ∀ (l : List UInt8) (a : Nat), 0 ≤ valF (a : Int) l ∧ valF (a : Int) l < ((a + 1) * 256 ^ l.length : Nat)
  | [], a => by
    show 0 ≤ (a : Int) ∧ (a : Int) < (((a + 1) * 256 ^ 0 : Nat) : Int)
    rw [Nat.pow_zero]; omega
  | x :: l, a => by
    have h := valF_in l (256 * a + x.toNat)
    have e : valF (a : Int) (x :: l) = valF ((256 * a + x.toNat : Nat) : Int) l := by
      show valF (256 * (a : Int) + x.toNat) l = _
      refine congrArg (fun z => valF z l) ?_
      rw [Int.natCast_add, Int.natCast_mul]; rfl
    rw [e]
    refine ⟨h.1, Int.lt_of_lt_of_le h.2 ?_⟩
    have hx := x.toNat_lt
    have h1 : (256 * a + x.toNat + 1) * 256 ^ l.length ≤ (256 * (a + 1)) * 256 ^ l.length := Nat.mul_le_mul_right _ (by omega)
    have h2 : (256 * (a + 1)) * 256 ^ l.length = (a + 1) * 256 ^ (x :: l).length := by
      rw [List.length_cons, Nat.pow_succ, Nat.mul_comm 256 (a + 1), Nat.mul_assoc, Nat.mul_comm 256]
    omega
theorem valB_in {l : List UInt8} (h : l.length ≤ 6) : 0 ≤ valB l ∧ valB l < 281474976710656 := by
  have h1 := valF_in l 0
  refine ⟨h1.1, Int.lt_of_lt_of_le h1.2 ?_⟩
  have : 256 ^ l.length ≤ 256 ^ 6 := Nat.pow_le_pow_right (by decide) h
  have e : (256 : Nat) ^ 6 = 281474976710656 := by decide
  omega
theorem number_spec {S : HProp} {a : Option Addr} {c k : Nat} {l : List UInt8} (hS : Srd S 1 byteC a l) (hk : k = l.length) (hl : l.length ≤ 6) :
    Ct Tryz.prog 130 [.slice a k c] [S] (fun v hs => v = int (valB l) ∧ hs = [S]) := by
  subst hk
  refine Ct.intro Tryz.func130 rfl (by kernel_rfl) 19 Tryz.ntmps130 (Nat.le_of_ble_eq_true rfl) fun w0 R => ?_
  refine Gs.slAddr (hS.h (by repeat constructor)) fun ab ao ha => ?_
  refine Gs.seq ?_
  refine Gs.reg ?_
  refine Go.Sl.L.pu rfl rfl trivial (pu_assign rfl) ?_
  refine Go.Sl.L.nil ?_
  refine Gs.then_n ?_
  refine Gs.seq ?_
  refine Gs.reg ?_
  refine Go.Sl.L.pu rfl rfl trivial (pu_assign rfl) ?_
  refine Go.Sl.L.nil ?_
  refine Gs.then_n ?_
  refine Gs.seq ?_
  refine Gs.seq ?_
  refine Gs.reg ?_
  refine Go.Sl.L.pu rfl rfl trivial (pu_move rfl) ?_
  refine Go.Sl.L.pu rfl rfl trivial (pu_len Tryz.underlying75 rfl) ?_
  refine Go.Sl.L.pu rfl rfl trivial (pu_move rfl) ?_
  refine Go.Sl.L.nil ?_
  refine Gs.then_n ?_
  refine Gs.block ?_
  refine Gs.loop1 (fun i : Nat => i ≤ l.length) (fun i => [(3, int (valB (l.take i))), (6, .slice a l.length c), (7, int l.length), (8, int i)]) (fun i => [S] ++ R) (fun i => l.length - i) 0 (Nat.zero_le _) (by repeat constructor) (by repeat constructor) (fun i hi => ?_)
  refine Gs.seq ?_
  refine Gs.reg ?_
  refine Go.Sl.L.pu rfl rfl trivial (pu_lt rfl rfl) ?_
  refine Go.Sl.L.nil ?_
  refine Gs.then_n ?_
  refine Gs.seq ?_
  refine Gs.cond rfl (fun hc0 => ?_) (fun hc0 => ?_)
  · skip
    have hlt : i < l.length := by have := of_decide_eq_true hc0; omega
    obtain ⟨x, hx⟩ : ∃ x, l[i]? = some x := ⟨l[i], by simp [hlt]⟩
    obtain rfl := ha (by rintro rfl; simp at hlt)
    have hst : valB (l.take (i + 1)) = 256 * valB (l.take i) + x.toNat := by rw [List.take_add_one, hx]; exact valF_snoc ..
    have hb := valB_in (l := l.take i) (by rw [List.length_take]; omega)
    have hx8 := x.toNat_lt
    refine Gs.skip ?_
    refine Gs.then_n ?_
    refine Gs.seq ?_
    refine Gs.block ?_
    refine Gs.seq ?_
    refine Gs.reg ?_
    refine Go.Sl.L.pu rfl rfl trivial (pu_ia se_75 rfl rfl (by omega) (by omega)) ?_
    refine Go.Sl.L.rd rfl rfl trivial (rd_ld na_5 rfl (Rdc.el0 (hS.h (by repeat constructor)) hx rfl rfl)) ?_
    refine Go.Sl.L.pu rfl rfl trivial (pu_assign rfl) ?_
    refine Go.Sl.L.nil ?_
    refine Gs.then_n ?_
    refine Gs.reg ?_
    refine Go.Sl.L.pu rfl rfl trivial (pu_move rfl) ?_
    refine Go.Sl.L.pu rfl rfl trivial (by first | exact pu_mulI rfl rfl rfl (by omega) (by omega) | exact pu_mul rfl rfl) ?_
    refine Go.Sl.L.pu rfl rfl trivial (pu_move rfl) ?_
    refine Go.Sl.L.pu rfl rfl trivial (pu_conv Tryz.underlying5 Tryz.underlying3 rfl) ?_
    rw [wrap_in (z := (x.toNat : Int)) (by omega) (by omega)]
    refine Go.Sl.L.pu rfl rfl trivial (pu_addI (z := valB (l.take (i + 1))) rfl rfl (by rw [hst]) (by omega) (by omega)) ?_
    refine Go.Sl.L.pu rfl rfl trivial (pu_assign rfl) ?_
    refine Go.Sl.L.nil ?_
    refine Gs.blk_n ?_
    refine Gs.then_n ?_
    refine Gs.reg ?_
    refine Go.Sl.L.pu rfl rfl trivial (by first | exact pu_addI rfl rfl rfl (by omega) (by omega) | exact pu_add rfl rfl) ?_
    refine Go.Sl.L.pu rfl rfl trivial (pu_move rfl) ?_
    refine Go.Sl.L.nil ?_
    refine Gs.then_n ?_
    exact Gs.again1 (i + 1) (by omega) (by omega) (by repeat constructor) (by repeat constructor)
  · skip
    have hge : i = l.length := by have := of_decide_eq_false hc0; omega
    rw [hge, List.take_length]
    refine Gs.exit ?_
    refine Gs.then_x ?_
    refine Gs.then_x ?_
    refine Gs.blk_hit ?_
    refine Gs.then_n ?_
    refine Gs.seq ?_
    refine Gs.reg ?_
    refine Go.Sl.L.pu rfl rfl trivial (pu_move rfl) ?_
    refine Go.Sl.L.pu rfl rfl trivial (pu_assign rfl) ?_
    refine Go.Sl.L.nil ?_
    refine Gs.then_n ?_
    refine Gs.ret ?_
    exact Gs.fin1 Tryz.results130 rfl _ (⟨rfl, rfl⟩) (by repeat constructor)
/-- What records may be, told with this part. -/
structure RMs (U : HProp) : Prop where
  may : ∀ r, Ct Tryz.prog 67 [recV r] [U] (fun v hs => v = .bool (recB r) ∧ hs = [U])
  may4 : ∀ r, Ct Tryz.prog 38 [recV r] [U] (fun v hs => v = .bool (recB r) ∧ hs = [U])
  lay : ∀ r, recB r = true → Ct Tryz.prog 59 [recV r] [U] (fun v hs => ∃ a c, v = .tuple #[.slice a (layB r).length c, int 0] ∧ hs = [U, sl 5 1 byteC a c (layB r)])
theorem rms_ro {h0 : Hp} (T : Tabs h0) : RMs (ro h0) := ⟨recMay_spec T, recMay4_spec T, layR_ok T⟩
theorem RMs.inn {B U : HProp} (h : RMs B) (i : Inn B U) : RMs U :=
  ⟨fun r => (h.may r).inn0 i, fun r => (h.may4 r).inn0 i, fun r hr => ((h.lay r hr).inn i fun _ _ ⟨a, c, _, e⟩ => ⟨_, e⟩).mono fun v hs ⟨r', ⟨a, c, e1, e2⟩, e3⟩ => ⟨a, c, e1, by cases e2; exact e3⟩⟩
/-- What Read of a record answers. -/
def readRV (m : Nat) : Option (Rec × Nat) → Value
  | none => .tuple #[recV Rec.zero, int 0, .bool false]
  | some (r, n) => .tuple #[recV r, int ((m + n : Nat) : Int), .bool true]
theorem recRead_spec {S : HProp} {a : Option Addr} {c : Nat} {bs : List UInt8} (hS : Srd S 1 byteC a bs) (hR : RMs S) (hl : bs.length ≤ 1048576) (hc : bs.length ≤ c) (m : Nat) (hm : m ≤ bs.length) :
    Ct Tryz.prog 107 [.slice a bs.length c, int m] [S] (fun v hs => v = readRV m (readR (bs.drop m)) ∧ hs = [S]) := by
  obtain ⟨xs, hxs⟩ : ∃ xs, xs = bs.drop m := ⟨_, rfl⟩
  have hxl : xs.length = bs.length - m := by rw [hxs, List.length_drop]
  have hX : Srd S 1 byteC (suba a m c 1) xs := by rw [hxs]; exact hS.cutL m c hc
  rw [← hxs]
  refine Ct.intro Tryz.func107 rfl (by kernel_rfl) 75 Tryz.ntmps107 (Nat.le_of_ble_eq_true rfl) fun w0 R => ?_
  refine Gs.slAddr (hX.h (by repeat constructor)) fun xb xo hxa => ?_
  refine Gs.seq ?_
  refine Gs.reg ?_
  refine Go.Sl.L.ac rfl rfl trivial (ac_alloc zv_41 rfl) ?_
  rintro _ _ ⟨b4, rfl, rfl⟩
  refine Go.Sl.L.pu rfl rfl trivial (pu_assign rfl) ?_
  refine Go.Sl.L.pu rfl rfl trivial (pu_assign rfl) ?_
  refine Go.Sl.L.nil ?_
  refine Gs.then_n ?_
  refine Gs.seq ?_
  refine Gs.seq ?_
  refine Gs.reg ?_
  refine Go.Sl.L.pu rfl rfl trivial (pu_move rfl) ?_
  refine Go.Sl.L.pu rfl rfl trivial (pu_lt rfl rfl) ?_
  refine Go.Sl.L.puBf rfl rfl trivial (pu_move rfl) (decide_eq_false (by omega)) ?_
  refine Go.Sl.L.pu rfl rfl ⟨_, rfl, rfl⟩ (pu_move rfl) ?_
  refine Go.Sl.L.pu rfl rfl ⟨_, rfl, rfl⟩ (pu_move rfl) ?_
  refine Go.Sl.L.pu rfl rfl ⟨_, rfl, rfl⟩ (pu_len Tryz.underlying75 rfl) ?_
  refine Go.Sl.L.pu rfl rfl ⟨_, rfl, rfl⟩ (pu_gt rfl rfl) ?_
  refine Go.Sl.L.pu rfl rfl trivial (by first | exact pu_pick_t rfl rfl | exact pu_pick_f rfl rfl) ?_
  refine Go.Sl.L.puBf rfl rfl trivial (pu_move rfl) (decide_eq_false (by omega)) ?_
  refine Go.Sl.L.pu rfl rfl ⟨_, rfl, rfl⟩ (pu_move rfl) ?_
  refine Go.Sl.L.pu rfl rfl ⟨_, rfl, rfl⟩ (pu_len Tryz.underlying75 rfl) ?_
  refine Go.Sl.L.pu rfl rfl ⟨_, rfl, rfl⟩ (pu_move rfl) ?_
  refine Go.Sl.L.pu rfl rfl ⟨_, rfl, rfl⟩ (by first | exact pu_subI rfl rfl rfl (by omega) (by omega) | exact pu_sub rfl rfl) ?_
  refine Go.Sl.L.pu rfl rfl ⟨_, rfl, rfl⟩ (pu_lt rfl rfl) ?_
  refine Go.Sl.L.pu rfl rfl trivial (by first | exact pu_pick_t rfl rfl | exact pu_pick_f rfl rfl) ?_
  refine Go.Sl.L.nil ?_
  refine Gs.then_n ?_
  refine Gs.cond rfl (fun hc0 => ?_) (fun hc0 => ?_)
  · skip
    have hno : readR xs = none := by
      unfold readR; rw [if_pos (by have := of_decide_eq_true hc0; omega)]
    refine Gs.seq ?_
    refine Gs.reg ?_
    refine Go.Sl.L.pu rfl rfl trivial (pu_build bd_41 (by repeat constructor) rfl) ?_
    refine Go.Sl.L.ac0 rfl trivial (ac_st sz_41 rfl rfl (by repeat constructor) rfl rfl rfl rfl) ?_
    rintro _ _ rfl
    refine Go.Sl.L.pu rfl rfl trivial (pu_assign rfl) ?_
    refine Go.Sl.L.pu rfl rfl trivial (pu_assign rfl) ?_
    refine Go.Sl.L.nil ?_
    refine Gs.then_n ?_
    refine Gs.ret ?_
    refine Gs.then_r ?_
    exact Gs.finc3 Tryz.results107 ag_41 rfl (Rdc.cl 5 (by repeat constructor) rfl) rfl rfl rfl _ (⟨by rw [hno]; rfl, rfl⟩) (by repeat constructor)
  · skip
    have h12 : 12 ≤ xs.length := by have := of_decide_eq_false hc0; omega
    refine Gs.skip ?_
    refine Gs.then_n ?_
    refine Gs.seq ?_
    refine Gs.reg ?_
    refine Go.Sl.L.pu rfl rfl trivial (pu_move rfl) ?_
    refine Go.Sl.L.pu rfl rfl trivial (pu_move rfl) ?_
    refine Go.Sl.L.pu rfl rfl trivial (pu_sliceL et_75 rfl rfl (by omega) (by omega)) ?_
    refine Go.Sl.L.pu rfl rfl trivial (pu_assign rfl) ?_
    refine Go.Sl.L.nil ?_
    have hae := hxa (by rintro e; rw [e] at h12; simp at h12)
    rw [show (.slice (suba a (m : Int).toNat c 1) (bs.length - (m : Int).toNat) (c - (m : Int).toNat) : Value) = .slice (some ⟨xb, xo, none⟩) xs.length (c - m) by rw [Int.toNat_natCast, hae, hxl]]
    rw [hae] at hX
    have hat : ∀ i, i < 12 → xs[i]? = some (xs.getD i 0) := fun i hi => by simp [List.getD, show i < xs.length by omega]
    have hcut : ∀ i j, Srd S 1 byteC (suba (some ⟨xb, xo, none⟩) i (c - m) 1) ((xs.take j).drop i) := fun i j => by
      have := (hX.cutH j (c - m) (by omega))
      rw [suba_zero] at this
      exact this.cutL i (c - m) (by rw [List.length_take]; omega)
    have hcl : ∀ i j, j ≤ xs.length → ((xs.take j).drop i).length = j - i := fun i j hj => by rw [List.length_drop, List.length_take]; omega
    refine Gs.then_n ?_
    refine Gs.seq ?_
    refine Gs.reg ?_
    refine Go.Sl.L.pu rfl rfl trivial (pu_move rfl) ?_
    refine Go.Sl.L.pu rfl rfl trivial (pu_ia se_75 rfl rfl (by omega) (by omega)) ?_
    refine Go.Sl.L.rd rfl rfl trivial (rd_ld na_5 rfl (Rdc.el0 (hX.h (by repeat constructor)) (hat 11 (by decide)) rfl rfl)) ?_
    refine Go.Sl.L.pu rfl rfl trivial (pu_conv Tryz.underlying5 Tryz.underlying3 rfl) ?_
    rw [wrap_in (z := ((xs.getD 11 0).toNat : Int)) (by omega) (by have := (xs.getD 11 0).toNat_lt; omega)]
    refine Go.Sl.L.pu rfl rfl trivial (pu_assign rfl) ?_
    refine Go.Sl.L.nil ?_
    refine Gs.then_n ?_
    refine Gs.seq ?_
    refine Gs.seq ?_
    refine Gs.reg ?_
    refine Go.Sl.L.pu rfl rfl trivial (pu_move rfl) ?_
    refine Go.Sl.L.pu rfl rfl trivial (pu_len Tryz.underlying75 rfl) ?_
    refine Go.Sl.L.pu rfl rfl trivial (by first | exact pu_subI rfl rfl rfl (by omega) (by omega) | exact pu_sub rfl rfl) ?_
    refine Go.Sl.L.pu rfl rfl trivial (pu_move rfl) ?_
    refine Go.Sl.L.pu rfl rfl trivial (pu_lt rfl rfl) ?_
    refine Go.Sl.L.nil ?_
    refine Gs.then_n ?_
    refine Gs.cond rfl (fun hc1 => ?_) (fun hc1 => ?_)
    · skip
      have hno : readR xs = none := by
        unfold readR; rw [if_neg (by omega), if_pos (by have := of_decide_eq_true hc1; omega)]
      refine Gs.seq ?_
      refine Gs.reg ?_
      refine Go.Sl.L.pu rfl rfl trivial (pu_build bd_41 (by repeat constructor) rfl) ?_
      refine Go.Sl.L.ac0 rfl trivial (ac_st sz_41 rfl rfl (by repeat constructor) rfl rfl rfl rfl) ?_
      rintro _ _ rfl
      refine Go.Sl.L.pu rfl rfl trivial (pu_assign rfl) ?_
      refine Go.Sl.L.pu rfl rfl trivial (pu_assign rfl) ?_
      refine Go.Sl.L.nil ?_
      refine Gs.then_n ?_
      refine Gs.ret ?_
      refine Gs.then_r ?_
      exact Gs.finc3 Tryz.results107 ag_41 rfl (Rdc.cl 5 (by repeat constructor) rfl) rfl rfl rfl _ (⟨by rw [hno]; rfl, rfl⟩) (by repeat constructor)
    · skip
      have hlong : 12 + (xs.getD 11 0).toNat ≤ xs.length := by have := of_decide_eq_false hc1; omega
      have hl8 := (xs.getD 11 0).toNat_lt
      obtain ⟨long, hlg⟩ : ∃ z, z = (xs.getD 11 0).toNat := ⟨_, rfl⟩
      rw [← hlg] at hlong hl8 ⊢
      obtain ⟨r, hr⟩ : ∃ r : Rec, r = ⟨(xs.getD 0 0).toNat, valB ((xs.take 3).drop 1), valB ((xs.take 9).drop 3), valB ((xs.take 11).drop 9), ⟨((xs.take (12 + long)).drop 12).toArray⟩⟩ := ⟨_, rfl⟩
      have hrd : readR xs = if recB r then some (r, 12 + long) else none := by
        unfold readR; rw [if_neg (by omega), if_neg (by omega), ← hlg, hr]
      refine Gs.skip ?_
      refine Gs.then_n ?_
      refine Gs.seq ?_
      refine Gs.reg ?_
      refine Go.Sl.L.ac rfl rfl trivial (ac_alloc zv_41 rfl) ?_
      rintro _ _ ⟨rb, rfl, rfl⟩
      refine Go.Sl.L.nil ?_
      refine Gs.then_n ?_
      refine Gs.seq ?_
      refine Gs.regD mixed (by kernel_rfl) ?_
      refine Rg.pu 0 rfl rfl (by kernel_rfl) trivial (pu_move rfl) ?_
      refine Rg.pu 1 rfl rfl (by kernel_rfl) trivial (pu_ia se_75 rfl rfl (by omega) (by omega)) ?_
      refine Rg.rd 2 rfl rfl (by kernel_rfl) trivial (rd_ld na_5 rfl (Rdc.el0 (hX.h (by repeat constructor)) (hat 0 (by decide)) rfl rfl)) ?_
      refine Rg.pu 3 rfl rfl (by kernel_rfl) trivial (pu_conv Tryz.underlying5 Tryz.underlying3 rfl) ?_
      rw [wrap_in (z := ((xs.getD 0 0).toNat : Int)) (by omega) (by have := (xs.getD 0 0).toNat_lt; omega)]
      refine Rg.pu 4 rfl rfl (by kernel_rfl) trivial (pu_move rfl) ?_
      refine Rg.pu 5 rfl rfl (by kernel_rfl) trivial (pu_slice et_75 rfl rfl rfl (by omega) (by omega) (by omega)) ?_
      refine Rg.pu 7 rfl rfl (by kernel_rfl) trivial (pu_move rfl) ?_
      refine Rg.pu 8 rfl rfl (by kernel_rfl) trivial (pu_slice et_75 rfl rfl rfl (by omega) (by omega) (by omega)) ?_
      refine Rg.pu 10 rfl rfl (by kernel_rfl) trivial (pu_move rfl) ?_
      refine Rg.pu 11 rfl rfl (by kernel_rfl) trivial (pu_slice et_75 rfl rfl rfl (by omega) (by omega) (by omega)) ?_
      refine Rg.pu 13 rfl rfl (by kernel_rfl) trivial (pu_fa fa_41_0 rfl) ?_
      refine Rg.pu 14 rfl rfl (by kernel_rfl) trivial (pu_fa fa_37_0 rfl) ?_
      refine Rg.one (by kernel_rfl) (Stp.acR 6 [2] rfl rfl (by kernel_rfl) trivial (as_call (number_spec (k := 2) (c := c - m - 1) (hcut 1 3) (by rw [hcl _ _ (by omega)]) (by rw [hcl _ _ (by omega)]; decide)) (by repeat constructor) (by repeat constructor)) (by rintro _ _ ⟨_, ⟨rfl, rfl⟩, rfl⟩; exact (Reads.cons rfl rfl rfl trivial rfl (rd_ld na_5 rfl (Rdc.el0 (hX.h (by repeat constructor)) (hat 0 (by decide)) rfl rfl)) Reads.nil)) ?_)
      rintro _ _ ⟨_, ⟨rfl, rfl⟩, rfl⟩
      refine Rg.one (by kernel_rfl) (Stp.acR 9 [2] rfl rfl (by kernel_rfl) trivial (as_call (number_spec (k := 6) (c := c - m - 3) (hcut 3 9) (by rw [hcl _ _ (by omega)]) (by rw [hcl _ _ (by omega)]; decide)) (by repeat constructor) (by repeat constructor)) (by rintro _ _ ⟨_, ⟨rfl, rfl⟩, rfl⟩; exact (Reads.cons rfl rfl rfl trivial rfl (rd_ld na_5 rfl (Rdc.el0 (hX.h (by repeat constructor)) (hat 0 (by decide)) rfl rfl)) Reads.nil)) ?_)
      rintro _ _ ⟨_, ⟨rfl, rfl⟩, rfl⟩
      refine Rg.one (by kernel_rfl) (Stp.acR 12 [2] rfl rfl (by kernel_rfl) trivial (as_call (number_spec (k := 2) (c := c - m - 9) (hcut 9 11) (by rw [hcl _ _ (by omega)]) (by rw [hcl _ _ (by omega)]; decide)) (by repeat constructor) (by repeat constructor)) (by rintro _ _ ⟨_, ⟨rfl, rfl⟩, rfl⟩; exact (Reads.cons rfl rfl rfl trivial rfl (rd_ld na_5 rfl (Rdc.el0 (hX.h (by repeat constructor)) (hat 0 (by decide)) rfl rfl)) Reads.nil)) ?_)
      rintro _ _ ⟨_, ⟨rfl, rfl⟩, rfl⟩
      refine Rg.one (by kernel_rfl) (Stp.ac0 15 rfl rfl (by kernel_rfl) trivial (ac_st sz_3 rfl rfl (by repeat constructor) rfl rfl rfl rfl)  ?_)
      rintro _ _ rfl
      refine Rg.pu 16 rfl rfl (by kernel_rfl) trivial (pu_fa fa_41_0 rfl) ?_
      refine Rg.pu 17 rfl rfl (by kernel_rfl) trivial (pu_fa fa_37_1 rfl) ?_
      refine Rg.one (by kernel_rfl) (Stp.ac0 18 rfl rfl (by kernel_rfl) trivial (ac_st sz_3 rfl rfl (by repeat constructor) rfl rfl rfl rfl)  ?_)
      rintro _ _ rfl
      refine Rg.pu 19 rfl rfl (by kernel_rfl) trivial (pu_fa fa_41_1 rfl) ?_
      refine Rg.pu 20 rfl rfl (by kernel_rfl) trivial (pu_fa fa_39_0 rfl) ?_
      refine Rg.one (by kernel_rfl) (Stp.ac0 21 rfl rfl (by kernel_rfl) trivial (ac_st sz_3 rfl rfl (by repeat constructor) rfl rfl rfl rfl)  ?_)
      rintro _ _ rfl
      refine Rg.pu 22 rfl rfl (by kernel_rfl) trivial (pu_fa fa_41_1 rfl) ?_
      refine Rg.pu 23 rfl rfl (by kernel_rfl) trivial (pu_fa fa_39_1 rfl) ?_
      refine Rg.one (by kernel_rfl) (Stp.ac0 24 rfl rfl (by kernel_rfl) trivial (ac_st sz_3 rfl rfl (by repeat constructor) rfl rfl rfl rfl)  ?_)
      rintro _ _ rfl
      refine Rg.end (by kernel_rfl) ?_
      refine Gs.then_n ?_
      refine Gs.seq ?_
      refine Gs.reg ?_
      refine Go.Sl.L.pu rfl rfl trivial (pu_move rfl) ?_
      refine Go.Sl.L.pu rfl rfl trivial (pu_move rfl) ?_
      refine Go.Sl.L.pu rfl rfl trivial (by first | exact pu_addI rfl rfl rfl (by omega) (by omega) | exact pu_add rfl rfl) ?_
      refine Go.Sl.L.pu rfl rfl trivial (pu_slice et_75 rfl rfl rfl (by omega) (by omega) (by omega)) ?_
      refine Go.Sl.L.rd rfl rfl trivial (rd_b2s Tryz.underlying75 Tryz.underlying5 Tryz.underlying9 rfl (by rw [hcl 12 (12 + long) (by omega)]; omega) ((hcut 12 (12 + long)).h (by repeat constructor))) ?_
      refine Go.Sl.L.pu rfl rfl trivial (pu_fa fa_41_2 rfl) ?_
      refine Go.Sl.L.ac0 rfl trivial (ac_st sz_9 rfl rfl (by repeat constructor) rfl rfl rfl rfl) ?_
      rintro _ _ rfl
      refine Go.Sl.L.nil ?_
      refine Gs.then_n ?_
      refine Gs.seq ?_
      refine Gs.seq ?_
      refine Gs.reg ?_
      refine Go.Sl.L.rd rfl rfl trivial (rd_lda ag_41 rfl (Rdc.cl 5 (by repeat constructor) rfl) rfl) ?_
      rw [show (.agg #[int ((xs.getD 0 0).toNat : Int), int (valB ((xs.take 3).drop 1)), int (valB ((xs.take 9).drop 3)), int (valB ((xs.take 11).drop 9)), .string ⟨((xs.take (12 + long)).drop 12).toArray⟩] : Value) = recV r by rw [hr]]
      refine Go.Sl.L.ac rfl rfl trivial (as_call (hR.may r) (by repeat constructor) (by repeat constructor)) ?_
      rintro _ _ ⟨_, ⟨rfl, rfl⟩, rfl⟩
      refine Go.Sl.L.pu rfl rfl trivial (pu_not rfl) ?_
      refine Go.Sl.L.nil ?_
      refine Gs.then_n ?_
      refine Gs.cond rfl (fun hc2 => ?_) (fun hc2 => ?_)
      · skip
        have hb : recB r = false := by simpa using hc2
        have hno : readR xs = none := by rw [hrd, hb]; rfl
        refine Gs.seq ?_
        refine Gs.reg ?_
        refine Go.Sl.L.pu rfl rfl trivial (pu_build bd_41 (by repeat constructor) rfl) ?_
        refine Go.Sl.L.ac0 rfl trivial (ac_st sz_41 rfl rfl (by repeat constructor) rfl rfl rfl rfl) ?_
        rintro _ _ rfl
        refine Go.Sl.L.pu rfl rfl trivial (pu_assign rfl) ?_
        refine Go.Sl.L.pu rfl rfl trivial (pu_assign rfl) ?_
        refine Go.Sl.L.nil ?_
        refine Gs.then_n ?_
        refine Gs.ret ?_
        refine Gs.then_r ?_
        exact Gs.finc3 Tryz.results107 ag_41 rfl (Rdc.cl 5 (by repeat constructor) rfl) rfl rfl rfl _ (⟨by rw [hno]; rfl, rfl⟩) (by repeat constructor)
      · skip
        have hb : recB r = true := by simpa using hc2
        refine Gs.skip ?_
        refine Gs.then_n ?_
        refine Gs.seq ?_
        refine Gs.reg ?_
        refine Go.Sl.L.rd rfl rfl trivial (rd_lda ag_41 rfl (Rdc.cl 5 (by repeat constructor) rfl) rfl) ?_
        refine Go.Sl.L.pu rfl rfl trivial (pu_move rfl) ?_
        refine Go.Sl.L.pu rfl rfl trivial (by first | exact pu_addI rfl rfl rfl (by omega) (by omega) | exact pu_add rfl rfl) ?_
        refine Go.Sl.L.pu rfl rfl trivial (pu_move rfl) ?_
        refine Go.Sl.L.pu rfl rfl trivial (pu_addI (z := ((m + (12 + long) : Nat) : Int)) rfl rfl (by omega) (by omega) (by omega)) ?_
        refine Go.Sl.L.ac0 rfl trivial (ac_st sz_41 rfl rfl (by repeat constructor) rfl rfl rfl rfl) ?_
        rintro _ _ rfl
        refine Go.Sl.L.pu rfl rfl trivial (pu_assign rfl) ?_
        refine Go.Sl.L.pu rfl rfl trivial (pu_assign rfl) ?_
        refine Go.Sl.L.nil ?_
        refine Gs.then_n ?_
        refine Gs.ret ?_
        exact Gs.finc3 Tryz.results107 ag_41 rfl (Rdc.cl 5 (by repeat constructor) rfl) rfl rfl rfl _ (⟨by rw [hrd, hb, hr]; rfl, rfl⟩) (by repeat constructor)
end Go.Proofs.YtjaafkakeccniaaGreatDoor
