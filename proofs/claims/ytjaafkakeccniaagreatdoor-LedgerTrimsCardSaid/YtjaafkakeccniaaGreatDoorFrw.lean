/- Walks: frame (seal, Lay, Next). -/
import Derived.Test.YtjaafkakeccniaaGreatDoorMF
import Derived.Test.YtjaafkakeccniaaGreatDoorMD
namespace Go.Sl
open Go
section
variable {P : Program} {env : Env} {d : Option Tmp} {x y : Operand} {T T' ty : TypeId} {pos : String} {af : Array Edge} {g : Option (Nat × Bool)}
theorem pu_shl {k k' : IntKind} {i j : Int} (h : ev env x = some (.int k i)) (h' : ev env y = some (.int k' j)) (hj : 0 ≤ j) : Pu P ⟨d, .binOp .shl T x y T', ty, pos, af, g⟩ env (.int k (k.wrap (i * 2 ^ (min j.toNat k.bits)))) := fun ρ w e => by
  refine run_v (s := do eqGuard .shl T x y (ρ x) (ρ y); binOp .shl T (ρ x) (ρ y)) ?_
  rw [e.eval h, e.eval h']
  have hg : (eqGuard .shl T x y (.int k i) (.int k' j)).run P w = .ok () w := by rfl
  have hn : ¬ j < 0 := by omega
  simp only [Sem.run_bind, hg, Result.andThen_ok]
  simp [binOp, Op.shift, hn]
end
end Go.Sl
namespace Go.Proofs.YtjaafkakeccniaaGreatDoor
open Go Go.Sl Go.Gv
set_option maxRecDepth 100000
theorem seal_spec {a : Option Addr} {c : Nat} {xs : List UInt8} (hl : xs.length ≤ 100000) :
    Ct Tryz.prog 84 [.slice a xs.length c] [sl 5 1 byteC a c xs] (fun v hs => ∃ a' c', v = .slice a' (xs ++ bytes8 (hashB xs) 8).length c' ∧ hs = [sl 5 1 byteC a' c' (xs ++ bytes8 (hashB xs) 8)]) := by
  refine Ct.intro Tryz.func84 rfl (by kernel_rfl) 20 Tryz.ntmps84 (Nat.le_of_ble_eq_true rfl) fun w0 R => ?_
  refine Gs.seq ?_
  refine Gs.reg ?_
  refine Go.Sl.L.pu rfl rfl trivial (pu_assign rfl) ?_
  refine Go.Sl.L.nil ?_
  refine Gs.then_n ?_
  refine Gs.seq ?_
  refine Gs.reg ?_
  refine Go.Sl.L.pu rfl rfl trivial (pu_move rfl) ?_
  refine Go.Sl.L.ac rfl rfl trivial (ac_lit encC_75 ([⟨a, xs, c⟩]) et_115 ek_75 rfl (by repeat constructor) rfl rfl (by decide)) ?_
  rintro _ _ ⟨a6, rfl, rfl⟩
  refine Go.Sl.L.ac rfl rfl trivial (as_call (of_spec (U := sl 75 1 slC (some ⟨a6, 0, none⟩) 1 [⟨a, xs, c⟩]) (S := sl 5 1 byteC a c xs) Srd.own (by simp; exact ⟨Srd.own, by omega⟩) (by simp)) (by repeat constructor) (by repeat constructor)) ?_
  rintro _ _ ⟨_, ⟨rfl, rfl⟩, rfl⟩
  rw [show flat [⟨a, xs, c⟩] = xs by simp [flat]]
  refine Go.Sl.L.pu rfl rfl trivial (pu_assign rfl) ?_
  refine Go.Sl.L.nil ?_
  refine Gs.then_n ?_
  refine Gs.seq ?_
  refine Gs.seq ?_
  refine Gs.reg ?_
  refine Go.Sl.L.pu rfl rfl trivial (pu_assign rfl) ?_
  refine Go.Sl.L.nil ?_
  refine Gs.then_n ?_
  refine Gs.block ?_
  refine Gs.loop1 (fun s : Nat × Option Addr × Nat × List UInt8 => s.1 ≤ 8 ∧ s.2.2.2 = xs ++ bytes8 (hashB xs) s.1) (fun s => [(0, .slice s.2.1 s.2.2.2.length s.2.2.1), (3, .int .u64 (hashB xs)), (4, int (56 - 8 * (s.1 : Int)))]) (fun s => [sl 5 1 byteC s.2.1 s.2.2.1 s.2.2.2] ++ R) (fun s => 8 - s.1) (0, a, c, xs) (⟨Nat.zero_le _, by simp [bytes8]⟩) (by repeat constructor) (by repeat constructor) (fun s hs => ?_)
  obtain ⟨j, ca, cc, l⟩ := s
  obtain ⟨hj, hl1⟩ := hs
  dsimp only at hj hl1 ⊢
  have hll : l.length ≤ 100008 := by rw [hl1, List.length_append, bytes8_length]; omega
  refine Gs.seq ?_
  refine Gs.seq ?_
  refine Gs.reg ?_
  refine Go.Sl.L.pu rfl rfl trivial (pu_move rfl) ?_
  refine Go.Sl.L.pu rfl rfl trivial (pu_ge rfl rfl) ?_
  refine Go.Sl.L.nil ?_
  refine Gs.then_n ?_
  refine Gs.cond rfl (fun hc0 => ?_) (fun hc0 => ?_)
  · skip
    have hlt : j < 8 := by have := of_decide_eq_true hc0; omega
    have hsh : (56 - 8 * (j : Int)) = ((56 - 8 * j : Nat) : Int) := by omega
    rw [hsh]
    have hl2 : l ++ [byteU (hashB xs) (56 - 8 * j)] = xs ++ bytes8 (hashB xs) (j + 1) := by rw [hl1, bytes8_succ, List.append_assoc]
    refine Gs.skip ?_
    refine Gs.then_n ?_
    refine Gs.seq ?_
    refine Gs.block ?_
    refine Gs.reg ?_
    refine Go.Sl.L.pu rfl rfl trivial (pu_move rfl) ?_
    refine Go.Sl.L.pu rfl rfl trivial (pu_move rfl) ?_
    refine Go.Sl.L.pu rfl rfl trivial (pu_move rfl) ?_
    refine Go.Sl.L.pu rfl rfl trivial (pu_shr rfl rfl (by omega)) ?_
    refine Go.Sl.L.pu rfl rfl trivial (pu_conv Tryz.underlying146 Tryz.underlying5 rfl) ?_
    rw [cutB_eq]
    refine Go.Sl.L.ac rfl rfl trivial (ac_lit encC_5 ([byteU (hashB xs) (56 - 8 * j)]) et_75 ek_5 rfl (by repeat constructor) rfl rfl (by decide)) ?_
    rintro _ _ ⟨a17, rfl, rfl⟩
    refine Go.Sl.L.ac rfl rfl trivial (ac_append (xs := l) (ys := [byteU (hashB xs) (56 - 8 * j)]) et_75 ek_5 rfl rfl (by repeat constructor) (SrcH.sl Tryz.underlying75 ek_5 (SlH.own (by repeat constructor))) (by first | omega | (simp; omega)) (by first | omega | (simp; omega))) ?_
    rintro _ _ ⟨a18, c18, rfl, rfl⟩
    refine Go.Sl.L.pu rfl rfl trivial (pu_assign rfl) ?_
    refine Go.Sl.L.nil ?_
    refine Gs.blk_n ?_
    refine Gs.then_n ?_
    refine Gs.reg ?_
    refine Go.Sl.L.pu rfl rfl trivial (pu_move rfl) ?_
    refine Go.Sl.L.pu rfl rfl trivial (pu_subI (z := 56 - 8 * ((j + 1 : Nat) : Int)) rfl rfl (by omega) (by omega) (by omega)) ?_
    refine Go.Sl.L.pu rfl rfl trivial (pu_assign rfl) ?_
    refine Go.Sl.L.nil ?_
    refine Gs.then_n ?_
    exact Gs.again1 (j + 1, a18, c18, l ++ [byteU (hashB xs) (56 - 8 * j)]) ⟨by show j + 1 ≤ 8; omega, hl2⟩ (by show 8 - (j + 1) < 8 - j; omega) (by repeat constructor) (by repeat constructor)
  · skip
    have hge : j = 8 := by have := of_decide_eq_false hc0; omega
    have hl3 : l = xs ++ bytes8 (hashB xs) 8 := by rw [hl1, hge]
    rw [hl3]
    refine Gs.exit ?_
    refine Gs.then_x ?_
    refine Gs.then_x ?_
    refine Gs.blk_hit ?_
    refine Gs.then_n ?_
    refine Gs.seq ?_
    refine Gs.reg ?_
    refine Go.Sl.L.pu rfl rfl trivial (pu_move rfl) ?_
    refine Go.Sl.L.pu rfl rfl trivial (pu_assign rfl) ?_
    refine Go.Sl.L.nil ?_
    refine Gs.then_n ?_
    refine Gs.ret ?_
    exact Gs.fin1 Tryz.results84 rfl _ (⟨ca, cc, rfl, rfl⟩) (by repeat constructor)
theorem cut_nat (n : Nat) : cutB (n : Int) = UInt8.ofNat n := by
  apply UInt8.toNat_inj.1
  have := cutB_eq (n : Int)
  have h : IntKind.u8.wrap (n : Int) = ((n % 256 : Nat) : Int) := by simp [IntKind.wrap, IntKind.bits, IntKind.signed]
  rw [h] at this
  rw [UInt8.toNat_ofNat']
  exact (Int.ofNat.inj this).symm
/-- A frame of a kind that may be, of a body that is not too great. -/
theorem frLay_spec {k : Nat} (hk : 1 ≤ k) (hk2 : k ≤ 255) {S : HProp} {a : Option Addr} {c : Nat} {xs : List UInt8} (hS : Srd S 1 byteC a xs) (hl : xs.length ≤ 65535) :
    Ct Tryz.prog 60 [int k, .slice a xs.length c] [S] (fun v hs => ∃ a' c', v = .tuple #[.slice a' (frB k xs).length c', int 0] ∧ hs = [S, sl 5 1 byteC a' c' (frB k xs)]) := by
  refine Ct.intro Tryz.func60 rfl (by kernel_rfl) 32 Tryz.ntmps60 (Nat.le_of_ble_eq_true rfl) fun w0 R => ?_
  refine Gs.seq ?_
  refine Gs.reg ?_
  refine Go.Sl.L.pu rfl rfl trivial (pu_assign rfl) ?_
  refine Go.Sl.L.pu rfl rfl trivial (pu_assign rfl) ?_
  refine Go.Sl.L.nil ?_
  refine Gs.then_n ?_
  refine Gs.seq ?_
  refine Gs.seq ?_
  refine Gs.reg ?_
  refine Go.Sl.L.pu rfl rfl trivial (pu_move rfl) ?_
  refine Go.Sl.L.pu rfl rfl trivial (pu_lt rfl rfl) ?_
  refine Go.Sl.L.puBf rfl rfl trivial (pu_move rfl) (decide_eq_false (by omega)) ?_
  refine Go.Sl.L.pu rfl rfl ⟨_, rfl, rfl⟩ (pu_move rfl) ?_
  refine Go.Sl.L.pu rfl rfl ⟨_, rfl, rfl⟩ (pu_gt rfl rfl) ?_
  refine Go.Sl.L.pu rfl rfl trivial (by first | exact pu_pick_t rfl rfl | exact pu_pick_f rfl rfl) ?_
  refine Go.Sl.L.puBf rfl rfl trivial (pu_move rfl) (decide_eq_false (by omega)) ?_
  refine Go.Sl.L.pu rfl rfl ⟨_, rfl, rfl⟩ (pu_move rfl) ?_
  refine Go.Sl.L.pu rfl rfl ⟨_, rfl, rfl⟩ (pu_len Tryz.underlying75 rfl) ?_
  refine Go.Sl.L.pu rfl rfl ⟨_, rfl, rfl⟩ (pu_gt rfl rfl) ?_
  refine Go.Sl.L.pu rfl rfl trivial (by first | exact pu_pick_t rfl rfl | exact pu_pick_f rfl rfl) ?_
  refine Go.Sl.L.nil ?_
  refine Gs.then_n ?_
  refine Gs.cond_ff rfl (decide_eq_false (by omega)) ?_
  refine Gs.skip ?_
  refine Gs.then_n ?_
  refine Gs.seq ?_
  have hhl : (hdB k xs).length = 4 := rfl
  refine Gs.reg ?_
  refine Go.Sl.L.pu rfl rfl trivial (pu_move rfl) ?_
  refine Go.Sl.L.pu rfl rfl trivial (pu_conv Tryz.underlying3 Tryz.underlying5 rfl) ?_
  rw [cutB_eq, cut_nat]
  refine Go.Sl.L.pu rfl rfl trivial (pu_move rfl) ?_
  refine Go.Sl.L.pu rfl rfl trivial (pu_len Tryz.underlying75 rfl) ?_
  refine Go.Sl.L.pu rfl rfl trivial (pu_shr rfl rfl (by omega)) ?_
  refine Go.Sl.L.pu rfl rfl trivial (pu_conv Tryz.underlying3 Tryz.underlying5 rfl) ?_
  rw [cutB_eq, show shrK .i64 (xs.length : Int) 8 = ((xs.length / 256 : Nat) : Int) by unfold shrK; rw [Int.fdiv_eq_ediv_of_nonneg _ (by simp [IntKind.bits])]; simp [IntKind.bits], cut_nat]
  refine Go.Sl.L.pu rfl rfl trivial (pu_move rfl) ?_
  refine Go.Sl.L.pu rfl rfl trivial (pu_len Tryz.underlying75 rfl) ?_
  refine Go.Sl.L.pu rfl rfl trivial (pu_conv Tryz.underlying3 Tryz.underlying5 rfl) ?_
  rw [cutB_eq, cut_nat]
  refine Go.Sl.L.ac rfl rfl trivial (ac_lit encC_5 ((hdB k xs)) et_75 ek_5 rfl (by repeat constructor) rfl rfl (by decide)) ?_
  rintro _ _ ⟨a27, rfl, rfl⟩
  refine Go.Sl.L.pu rfl rfl trivial (pu_move rfl) ?_
  refine Go.Sl.L.ac rfl rfl trivial (ac_append et_75 ek_5 rfl rfl (by repeat constructor) (SrcH.sl Tryz.underlying75 ek_5 (hS.h (by repeat constructor))) (by first | omega | (simp; omega)) (by first | omega | (simp; omega))) ?_
  rintro _ _ ⟨a29, c29, rfl, rfl⟩
  refine Go.Sl.L.pu rfl rfl trivial (pu_assign rfl) ?_
  refine Go.Sl.L.nil ?_
  refine Gs.then_n ?_
  refine Gs.seq ?_
  refine Gs.reg ?_
  refine Go.Sl.L.pu rfl rfl trivial (pu_move rfl) ?_
  refine Go.Sl.L.ac rfl rfl trivial (as_call (seal_spec (xs := hdB k xs ++ xs) (by rw [List.length_append, hdB_len]; omega)) (by repeat constructor) (by repeat constructor)) ?_
  rintro _ _ ⟨_, ⟨fa, fc, rfl, rfl⟩, rfl⟩
  refine Go.Sl.L.pu rfl rfl trivial (pu_assign rfl) ?_
  refine Go.Sl.L.pu rfl rfl trivial (pu_assign rfl) ?_
  refine Go.Sl.L.nil ?_
  refine Gs.then_n ?_
  refine Gs.ret ?_
  exact Gs.fin2 Tryz.results60 rfl rfl _ (⟨fa, fc, rfl, rfl⟩) (by repeat constructor)
end Go.Proofs.YtjaafkakeccniaaGreatDoor
