/- Walks: digest, and its second copy. -/
import Derived.Test.YthlnjkfahmebjaaDoorKey
import Derived.Test.YthlnjkfahmebjaaDoorBit
import Derived.Test.YthlnjkfahmebjaaDoorOpn
namespace Go.Proofs.YthlnjkfahmebjaaDoor
open Go Go.Sl Go.Gv
set_option maxRecDepth 100000
abbrev byteC (c : UInt8) : List Value := [.int .u8 c.toNat]
abbrev u64C (x : Int) : List Value := [.int .u64 x]
abbrev encC_5 : UInt8 → List Value := byteC
abbrev encC_51 : Int → List Value := u64C
abbrev encC_82 : SlV UInt8 → List Value := slC
theorem ek_5 : EncOk 1 byteC := ⟨fun _ => rfl, fun x v hv => by
  simp only [byteC, List.mem_cons, List.not_mem_nil, or_false] at hv
  rcases hv with rfl; rfl⟩
theorem ek_51 : EncOk 1 u64C := ⟨fun _ => rfl, fun x v hv => by
  simp only [u64C, List.mem_cons, List.not_mem_nil, or_false] at hv
  rcases hv with rfl; rfl⟩
theorem ek_82 : EncOk 1 (slC : SlV UInt8 → List Value) := ⟨fun _ => rfl, fun x v hv => by
  simp only [slC, List.mem_cons, List.not_mem_nil, or_false] at hv
  rcases hv with rfl; rfl⟩
def hs (h : Int) (c : UInt8) : Int := IntKind.u64.wrap (xorK .u64 h (IntKind.u64.wrap c.toNat) * 1099511628211)
def fnv (h : Int) (bs : List UInt8) : Int := bs.foldl hs h
def hashB (bs : List UInt8) : Int := fnv 14695981039346656037 bs
theorem fnv_snoc (h : Int) (bs : List UInt8) (c : UInt8) : fnv h (bs ++ [c]) = hs (fnv h bs) c := by simp [fnv]
theorem fnv_app (h : Int) (bs cs : List UInt8) : fnv h (bs ++ cs) = fnv (fnv h bs) cs := by simp [fnv]
theorem fnv_take {h : Int} {bs : List UInt8} {i : Nat} {c : UInt8} (hc : bs[i]? = some c) : fnv h (bs.take (i + 1)) = hs (fnv h (bs.take i)) c := by
  rw [List.take_add_one, hc]; exact fnv_snoc ..
theorem more_spec {S : HProp} {a : Option Addr} {c : Nat} {bs : List UInt8} (hS : Srd S 1 byteC a bs) (hl : bs.length ≤ 1048576) (h : Int) :
    Ct Tryd.prog 83 [.int .u64 h, .slice a bs.length c] [S] (fun v hs => v = .int .u64 (fnv h bs) ∧ hs = [S]) := by
  refine Ct.intro Tryd.func83 rfl (by kernel_rfl) 21 Tryd.ntmps83 (Nat.le_of_ble_eq_true rfl) fun w0 R => ?_
  refine Gs.slAddr (hS.h (by repeat constructor)) fun ab ao ha => ?_
  refine Gs.seq ?_
  refine Gs.reg ?_
  refine Go.Sl.L.pu rfl rfl trivial (pu_assign rfl) ?_
  refine Go.Sl.L.nil ?_
  refine Gs.then_n ?_
  refine Gs.seq ?_
  refine Gs.seq ?_
  refine Gs.reg ?_
  refine Go.Sl.L.pu rfl rfl trivial (pu_assign rfl) ?_
  refine Go.Sl.L.nil ?_
  refine Gs.then_n ?_
  refine Gs.block ?_
  refine Gs.loop1 (fun i : Nat => i ≤ bs.length) (fun i => [(0, .int .u64 (fnv h (bs.take i))), (1, .slice a bs.length c), (5, int i)]) (fun i => [S] ++ R) (fun i => bs.length - i) 0 (Nat.zero_le _) (by repeat constructor) (by repeat constructor) (fun i hi => ?_)
  refine Gs.seq ?_
  refine Gs.seq ?_
  refine Gs.reg ?_
  refine Go.Sl.L.pu rfl rfl trivial (pu_move rfl) ?_
  refine Go.Sl.L.pu rfl rfl trivial (pu_move rfl) ?_
  refine Go.Sl.L.pu rfl rfl trivial (pu_len Tryd.underlying82 rfl) ?_
  refine Go.Sl.L.pu rfl rfl trivial (pu_lt rfl rfl) ?_
  refine Go.Sl.L.nil ?_
  refine Gs.then_n ?_
  refine Gs.cond rfl (fun hc0 => ?_) (fun hc0 => ?_)
  · skip
    have hlt : i < bs.length := by have := of_decide_eq_true hc0; omega
    obtain ⟨x, hx⟩ : ∃ x, bs[i]? = some x := ⟨bs[i], by simp [hlt]⟩
    obtain rfl := ha (by rintro rfl; simp at hlt)
    refine Gs.skip ?_
    refine Gs.then_n ?_
    refine Gs.seq ?_
    refine Gs.block ?_
    refine Gs.reg ?_
    refine Go.Sl.L.pu rfl rfl trivial (pu_move rfl) ?_
    refine Go.Sl.L.pu rfl rfl trivial (pu_move rfl) ?_
    refine Go.Sl.L.pu rfl rfl trivial (pu_move rfl) ?_
    refine Go.Sl.L.pu rfl rfl trivial (pu_ia se_82 rfl rfl (by omega) (by omega)) ?_
    refine Go.Sl.L.rd rfl rfl trivial (rd_ld na_5 rfl (Rdc.el0 (hS.h (by repeat constructor)) hx rfl rfl)) ?_
    refine Go.Sl.L.pu rfl rfl trivial (pu_conv Tryd.underlying5 Tryd.underlying51 rfl) ?_
    refine Go.Sl.L.pu rfl rfl trivial (pu_xor rfl rfl) ?_
    refine Go.Sl.L.pu rfl rfl trivial (by first | exact pu_mulI rfl rfl rfl (by omega) (by omega) | exact pu_mul rfl rfl) ?_
    refine Go.Sl.L.pu rfl rfl trivial (pu_assign rfl) ?_
    refine Go.Sl.L.nil ?_
    rw [show IntKind.u64.wrap (xorK .u64 (fnv h (bs.take i)) (IntKind.u64.wrap x.toNat) * 1099511628211) = fnv h (bs.take (i + 1)) from (fnv_take hx).symm]
    refine Gs.blk_n ?_
    refine Gs.then_n ?_
    refine Gs.reg ?_
    refine Go.Sl.L.pu rfl rfl trivial (pu_move rfl) ?_
    refine Go.Sl.L.pu rfl rfl trivial (by first | exact pu_addI rfl rfl rfl (by omega) (by omega) | exact pu_add rfl rfl) ?_
    refine Go.Sl.L.pu rfl rfl trivial (pu_assign rfl) ?_
    refine Go.Sl.L.nil ?_
    refine Gs.then_n ?_
    exact Gs.again1 (i + 1) (by omega) (by omega) (by repeat constructor) (by repeat constructor)
  · skip
    have hge : i = bs.length := by have := of_decide_eq_false hc0; omega
    rw [hge, List.take_length]
    refine Gs.exit ?_
    refine Gs.then_x ?_
    refine Gs.then_x ?_
    refine Gs.blk_hit ?_
    refine Gs.then_n ?_
    refine Gs.seq ?_
    refine Gs.reg ?_
    refine Go.Sl.L.pu rfl rfl trivial (pu_move rfl) ?_
    refine Go.Sl.L.pu rfl rfl trivial (pu_assign rfl) ?_
    refine Go.Sl.L.nil ?_
    refine Gs.then_n ?_
    refine Gs.ret ?_
    exact Gs.fin1 Tryd.results83 rfl _ (⟨rfl, rfl⟩) (by repeat constructor)
/-- Parts, one behind the other. -/
def flat (ps : List (SlV UInt8)) : List UInt8 := ps.flatMap SlV.xs
theorem flat_take {ps : List (SlV UInt8)} {i : Nat} {x : SlV UInt8} (h : ps[i]? = some x) : flat (ps.take (i + 1)) = flat (ps.take i) ++ x.xs := by
  unfold flat; rw [List.take_add_one, h]; simp
theorem of5_spec {U S : HProp} {a : Option Addr} {c : Nat} {ps : List (SlV UInt8)} (hU : Srd U 1 slC a ps) (hS : ∀ p ∈ ps, Srd S 1 byteC p.a p.xs ∧ p.xs.length ≤ 1048576) (hl : ps.length ≤ 1048576) :
    Ct Tryd.prog 72 [.slice a ps.length c] [U, S] (fun v hs => v = .int .u64 (hashB (flat ps)) ∧ hs = [U, S]) := by
  refine Ct.intro Tryd.func72 rfl (by kernel_rfl) 18 Tryd.ntmps72 (Nat.le_of_ble_eq_true rfl) fun w0 R => ?_
  refine Gs.slAddr (hU.h (by repeat constructor)) fun ab ao ha => ?_
  refine Gs.seq ?_
  refine Gs.reg ?_
  refine Go.Sl.L.pu rfl rfl trivial (pu_assign rfl) ?_
  refine Go.Sl.L.nil ?_
  refine Gs.then_n ?_
  refine Gs.seq ?_
  refine Gs.reg ?_
  refine Go.Sl.L.pu rfl rfl trivial (pu_assign rfl) ?_
  refine Go.Sl.L.nil ?_
  refine Gs.then_n ?_
  refine Gs.seq ?_
  refine Gs.seq ?_
  refine Gs.reg ?_
  refine Go.Sl.L.pu rfl rfl trivial (pu_assign rfl) ?_
  refine Go.Sl.L.nil ?_
  refine Gs.then_n ?_
  refine Gs.block ?_
  refine Gs.loop1 (fun i : Nat => i ≤ ps.length) (fun i => [(0, .slice a ps.length c), (3, .int .u64 (hashB (flat (ps.take i)))), (4, int i)]) (fun i => [U, S] ++ R) (fun i => ps.length - i) 0 (Nat.zero_le _) (by repeat constructor) (by repeat constructor) (fun i hi => ?_)
  refine Gs.seq ?_
  refine Gs.seq ?_
  refine Gs.reg ?_
  refine Go.Sl.L.pu rfl rfl trivial (pu_move rfl) ?_
  refine Go.Sl.L.pu rfl rfl trivial (pu_move rfl) ?_
  refine Go.Sl.L.pu rfl rfl trivial (pu_len Tryd.underlying102 rfl) ?_
  refine Go.Sl.L.pu rfl rfl trivial (pu_lt rfl rfl) ?_
  refine Go.Sl.L.nil ?_
  refine Gs.then_n ?_
  refine Gs.cond rfl (fun hc0 => ?_) (fun hc0 => ?_)
  · skip
    have hlt : i < ps.length := by have := of_decide_eq_true hc0; omega
    obtain ⟨x, hx⟩ : ∃ x, ps[i]? = some x := ⟨ps[i], by simp [hlt]⟩
    obtain rfl := ha (by rintro rfl; simp at hlt)
    obtain ⟨g1, g2⟩ := hS x (List.mem_of_getElem? hx)
    refine Gs.skip ?_
    refine Gs.then_n ?_
    refine Gs.seq ?_
    refine Gs.block ?_
    refine Gs.reg ?_
    refine Go.Sl.L.pu rfl rfl trivial (pu_move rfl) ?_
    refine Go.Sl.L.pu rfl rfl trivial (pu_move rfl) ?_
    refine Go.Sl.L.pu rfl rfl trivial (pu_move rfl) ?_
    refine Go.Sl.L.pu rfl rfl trivial (pu_ia se_102 rfl rfl (by omega) (by omega)) ?_
    refine Go.Sl.L.rd rfl rfl trivial (rd_ld na_82 rfl (Rdc.el0 (hU.h (by repeat constructor)) hx rfl rfl)) ?_
    refine Go.Sl.L.ac rfl rfl trivial (as_call (more_spec g1 g2 (hashB (flat (ps.take i)))) (by repeat constructor) (by repeat constructor)) ?_
    rintro _ _ ⟨_, ⟨rfl, rfl⟩, rfl⟩
    rw [show fnv (hashB (flat (ps.take i))) x.xs = hashB (flat (ps.take (i + 1))) by rw [flat_take hx]; exact (fnv_app ..).symm]
    refine Go.Sl.L.pu rfl rfl trivial (pu_assign rfl) ?_
    refine Go.Sl.L.nil ?_
    refine Gs.blk_n ?_
    refine Gs.then_n ?_
    refine Gs.reg ?_
    refine Go.Sl.L.pu rfl rfl trivial (pu_move rfl) ?_
    refine Go.Sl.L.pu rfl rfl trivial (by first | exact pu_addI rfl rfl rfl (by omega) (by omega) | exact pu_add rfl rfl) ?_
    refine Go.Sl.L.pu rfl rfl trivial (pu_assign rfl) ?_
    refine Go.Sl.L.nil ?_
    refine Gs.then_n ?_
    exact Gs.again1 (i + 1) (by omega) (by omega) (by repeat constructor) (by repeat constructor)
  · skip
    have hge : i = ps.length := by have := of_decide_eq_false hc0; omega
    rw [hge, List.take_length]
    refine Gs.exit ?_
    refine Gs.then_x ?_
    refine Gs.then_x ?_
    refine Gs.blk_hit ?_
    refine Gs.then_n ?_
    refine Gs.seq ?_
    refine Gs.reg ?_
    refine Go.Sl.L.pu rfl rfl trivial (pu_move rfl) ?_
    refine Go.Sl.L.pu rfl rfl trivial (pu_assign rfl) ?_
    refine Go.Sl.L.nil ?_
    refine Gs.then_n ?_
    refine Gs.ret ?_
    exact Gs.fin1 Tryd.results72 rfl _ (⟨rfl, rfl⟩) (by repeat constructor)
theorem of_spec {U S : HProp} {a : Option Addr} {c : Nat} {ps : List (SlV UInt8)} (hU : Srd U 1 slC a ps) (hS : ∀ p ∈ ps, Srd S 1 byteC p.a p.xs ∧ p.xs.length ≤ 1048576) (hl : ps.length ≤ 1048576) :
    Ct Tryd.prog 43 [.slice a ps.length c] [U, S] (fun v hs => v = .int .u64 (hashB (flat ps)) ∧ hs = [U, S]) := by
  refine Ct.intro Tryd.func43 rfl (by kernel_rfl) 28 Tryd.ntmps43 (Nat.le_of_ble_eq_true rfl) fun w0 R => ?_
  refine Gs.slAddr (hU.h (by repeat constructor)) fun ab ao ha => ?_
  refine Gs.seq ?_
  refine Gs.reg ?_
  refine Go.Sl.L.pu rfl rfl trivial (pu_assign rfl) ?_
  refine Go.Sl.L.nil ?_
  refine Gs.then_n ?_
  refine Gs.seq ?_
  refine Gs.reg ?_
  refine Go.Sl.L.pu rfl rfl trivial (pu_assign rfl) ?_
  refine Go.Sl.L.nil ?_
  refine Gs.then_n ?_
  refine Gs.seq ?_
  refine Gs.seq ?_
  refine Gs.reg ?_
  refine Go.Sl.L.pu rfl rfl trivial (pu_move rfl) ?_
  refine Go.Sl.L.pu rfl rfl trivial (pu_len Tryd.underlying102 rfl) ?_
  refine Go.Sl.L.pu rfl rfl trivial (pu_move rfl) ?_
  refine Go.Sl.L.nil ?_
  refine Gs.then_n ?_
  refine Gs.block ?_
  refine Gs.loop1 (fun i : Nat => i ≤ ps.length) (fun i => [(3, .int .u64 (hashB (flat (ps.take i)))), (8, .slice a ps.length c), (9, int ps.length), (10, int i)]) (fun i => [U, S] ++ R) (fun i => ps.length - i) 0 (Nat.zero_le _) (by repeat constructor) (by repeat constructor) (fun i hi => ?_)
  refine Gs.seq ?_
  refine Gs.reg ?_
  refine Go.Sl.L.pu rfl rfl trivial (pu_lt rfl rfl) ?_
  refine Go.Sl.L.nil ?_
  refine Gs.then_n ?_
  refine Gs.seq ?_
  refine Gs.cond rfl (fun hc0 => ?_) (fun hc0 => ?_)
  · skip
    have hlt : i < ps.length := by have := of_decide_eq_true hc0; omega
    obtain ⟨x, hx⟩ : ∃ x, ps[i]? = some x := ⟨ps[i], by simp [hlt]⟩
    obtain rfl := ha (by rintro rfl; simp at hlt)
    obtain ⟨g1, g2⟩ := hS x (List.mem_of_getElem? hx)
    refine Gs.slAddr (g1.h (by repeat constructor)) fun xb xo hxa => ?_
    refine Gs.skip ?_
    refine Gs.then_n ?_
    refine Gs.seq ?_
    refine Gs.block ?_
    refine Gs.seq ?_
    refine Gs.reg ?_
    refine Go.Sl.L.pu rfl rfl trivial (pu_ia se_102 rfl rfl (by omega) (by omega)) ?_
    refine Go.Sl.L.rd rfl rfl trivial (rd_ld na_82 rfl (Rdc.el0 (hU.h (by repeat constructor)) hx rfl rfl)) ?_
    refine Go.Sl.L.pu rfl rfl trivial (pu_assign rfl) ?_
    refine Go.Sl.L.nil ?_
    refine Gs.then_n ?_
    refine Gs.seq ?_
    refine Gs.reg ?_
    refine Go.Sl.L.pu rfl rfl trivial (pu_move rfl) ?_
    refine Go.Sl.L.pu rfl rfl trivial (pu_len Tryd.underlying82 rfl) ?_
    refine Go.Sl.L.pu rfl rfl trivial (pu_move rfl) ?_
    refine Go.Sl.L.nil ?_
    refine Gs.then_n ?_
    refine Gs.block ?_
    refine Gs.loop1 (fun j : Nat => j ≤ x.xs.length) (fun j => [(3, .int .u64 (fnv (hashB (flat (ps.take i))) (x.xs.take j))), (8, .slice (some ⟨ab, ao, none⟩) ps.length c), (9, int ps.length), (10, int i), (14, .slice x.a x.xs.length x.c), (15, int x.xs.length), (16, int j)]) (fun j => [U, S] ++ R) (fun j => x.xs.length - j) 0 (Nat.zero_le _) (by repeat constructor) (by repeat constructor) (fun j hj => ?_)
    refine Gs.seq ?_
    refine Gs.reg ?_
    refine Go.Sl.L.pu rfl rfl trivial (pu_lt rfl rfl) ?_
    refine Go.Sl.L.nil ?_
    refine Gs.then_n ?_
    refine Gs.seq ?_
    refine Gs.cond rfl (fun hc1 => ?_) (fun hc1 => ?_)
    · skip
      have hlt1 : j < x.xs.length := by have := of_decide_eq_true hc1; omega
      obtain ⟨y, hy⟩ : ∃ y, x.xs[j]? = some y := ⟨x.xs[j], by simp [hlt1]⟩
      obtain ⟨xa, xl, xc⟩ := x
      obtain rfl := hxa (by rintro rfl; simp at hlt1)
      dsimp only at hx hlt1 hy hj g1 g2 hc1 ⊢
      refine Gs.skip ?_
      refine Gs.then_n ?_
      refine Gs.seq ?_
      refine Gs.block ?_
      refine Gs.seq ?_
      refine Gs.reg ?_
      refine Go.Sl.L.pu rfl rfl trivial (pu_ia se_82 rfl rfl (by omega) (by omega)) ?_
      refine Go.Sl.L.rd rfl rfl trivial (rd_ld na_5 rfl (Rdc.el0 (g1.h (by repeat constructor)) hy rfl rfl)) ?_
      refine Go.Sl.L.pu rfl rfl trivial (pu_assign rfl) ?_
      refine Go.Sl.L.nil ?_
      refine Gs.then_n ?_
      refine Gs.reg ?_
      refine Go.Sl.L.pu rfl rfl trivial (pu_move rfl) ?_
      refine Go.Sl.L.pu rfl rfl trivial (pu_move rfl) ?_
      refine Go.Sl.L.pu rfl rfl trivial (pu_conv Tryd.underlying5 Tryd.underlying51 rfl) ?_
      refine Go.Sl.L.pu rfl rfl trivial (pu_xor rfl rfl) ?_
      refine Go.Sl.L.pu rfl rfl trivial (by first | exact pu_mulI rfl rfl rfl (by omega) (by omega) | exact pu_mul rfl rfl) ?_
      refine Go.Sl.L.pu rfl rfl trivial (pu_assign rfl) ?_
      refine Go.Sl.L.nil ?_
      rw [show IntKind.u64.wrap (xorK .u64 (fnv (hashB (flat (ps.take i))) (xl.take j)) (IntKind.u64.wrap y.toNat) * 1099511628211) = fnv (hashB (flat (ps.take i))) (xl.take (j + 1)) from (fnv_take hy).symm]
      refine Gs.blk_n ?_
      refine Gs.then_n ?_
      refine Gs.reg ?_
      refine Go.Sl.L.pu rfl rfl trivial (by first | exact pu_addI rfl rfl rfl (by omega) (by omega) | exact pu_add rfl rfl) ?_
      refine Go.Sl.L.pu rfl rfl trivial (pu_move rfl) ?_
      refine Go.Sl.L.nil ?_
      refine Gs.then_n ?_
      exact Gs.again1 (j + 1) (by show j + 1 ≤ xl.length; omega) (by show xl.length - (j + 1) < xl.length - j; omega) (by repeat constructor) (by repeat constructor)
    · skip
      have hge1 : j = x.xs.length := by have := of_decide_eq_false hc1; omega
      rw [hge1, List.take_length, show fnv (hashB (flat (ps.take i))) x.xs = hashB (flat (ps.take (i + 1))) by rw [flat_take hx]; exact (fnv_app ..).symm]
      refine Gs.exit ?_
      refine Gs.then_x ?_
      refine Gs.then_x ?_
      refine Gs.blk_hit ?_
      refine Gs.blk_n ?_
      refine Gs.then_n ?_
      refine Gs.reg ?_
      refine Go.Sl.L.pu rfl rfl trivial (by first | exact pu_addI rfl rfl rfl (by omega) (by omega) | exact pu_add rfl rfl) ?_
      refine Go.Sl.L.pu rfl rfl trivial (pu_move rfl) ?_
      refine Go.Sl.L.nil ?_
      refine Gs.then_n ?_
      exact Gs.again1 (i + 1) (by omega) (by omega) (by repeat constructor) (by repeat constructor)
  · skip
    have hge : i = ps.length := by have := of_decide_eq_false hc0; omega
    rw [hge, List.take_length]
    refine Gs.exit ?_
    refine Gs.then_x ?_
    refine Gs.then_x ?_
    refine Gs.blk_hit ?_
    refine Gs.then_n ?_
    refine Gs.seq ?_
    refine Gs.reg ?_
    refine Go.Sl.L.pu rfl rfl trivial (pu_move rfl) ?_
    refine Go.Sl.L.pu rfl rfl trivial (pu_assign rfl) ?_
    refine Go.Sl.L.nil ?_
    refine Gs.then_n ?_
    refine Gs.ret ?_
    exact Gs.fin1 Tryd.results43 rfl _ (⟨rfl, rfl⟩) (by repeat constructor)
theorem one5_spec {S : HProp} {a : Option Addr} {c : Nat} {bs : List UInt8} (hS : Srd S 1 byteC a bs) (hl : bs.length ≤ 1048576) :
    Ct Tryd.prog 51 [.slice a bs.length c] [S] (fun v hs => v = .int .u64 (hashB bs) ∧ hs = [S]) := by
  have hf : flat [⟨a, bs, c⟩] = bs := by simp [flat]
  refine Ct.intro Tryd.func51 rfl (by kernel_rfl) 6 Tryd.ntmps51 (Nat.le_of_ble_eq_true rfl) fun w0 R => ?_
  refine Gs.seq ?_
  refine Gs.reg ?_
  refine Go.Sl.L.pu rfl rfl trivial (pu_assign rfl) ?_
  refine Go.Sl.L.nil ?_
  refine Gs.then_n ?_
  refine Gs.seq ?_
  refine Gs.reg ?_
  refine Go.Sl.L.pu rfl rfl trivial (pu_move rfl) ?_
  refine Go.Sl.L.ac rfl rfl trivial (ac_lit encC_82 ([⟨a, bs, c⟩]) et_102 ek_82 rfl (by repeat constructor) rfl rfl (by decide)) ?_
  rintro _ _ ⟨a4, rfl, rfl⟩
  refine Go.Sl.L.ac rfl rfl trivial (as_call (of5_spec (U := sl 82 1 slC (some ⟨a4, 0, none⟩) 1 [⟨a, bs, c⟩]) (S := S) Srd.own (by simp; exact ⟨hS, hl⟩) (by simp)) (by repeat constructor) (by repeat constructor)) ?_
  rintro _ _ ⟨_, ⟨rfl, rfl⟩, rfl⟩
  rw [hf]
  refine Go.Sl.L.pu rfl rfl trivial (pu_assign rfl) ?_
  refine Go.Sl.L.nil ?_
  refine Gs.then_n ?_
  refine Gs.ret ?_
  exact Gs.fin1 Tryd.results51 rfl _ (⟨rfl, rfl⟩) (by repeat constructor)
/-! ### Sums of sums -/
def byteU (x : Int) (s : Nat) : UInt8 := cutB (shrK .u64 x s)
/-- The first j of the eight bytes of a sum. -/
def bytes8 (x : Int) (j : Nat) : List UInt8 := (List.range j).map fun k => byteU x (56 - 8 * k)
theorem bytes8_succ (x : Int) (j : Nat) : bytes8 x (j + 1) = bytes8 x j ++ [byteU x (56 - 8 * j)] := by simp [bytes8, List.range_succ]
theorem bytes8_length (x : Int) (j : Nat) : (bytes8 x j).length = j := by simp [bytes8]
def bytesAll (ds : List Int) : List UInt8 := ds.flatMap fun x => bytes8 x 8
theorem bytesAll_take {ds : List Int} {i : Nat} {x : Int} (h : ds[i]? = some x) : bytesAll (ds.take (i + 1)) = bytesAll (ds.take i) ++ bytes8 x 8 := by
  unfold bytesAll; rw [List.take_add_one, h]; simp
theorem bytesAll_length (ds : List Int) : (bytesAll ds).length = 8 * ds.length := by
  induction ds with
  | nil => rfl
  | cons x ds ih => simp only [bytesAll, List.flatMap_cons, List.length_append, bytes8_length, List.length_cons] at ih ⊢; omega
def someB (ds : List Int) : Bool := ds.any fun x => decide (x ≠ 0)
theorem someB_take {ds : List Int} {i : Nat} {x : Int} (h : ds[i]? = some x) : someB (ds.take (i + 1)) = (someB (ds.take i) || decide (x ≠ 0)) := by
  unfold someB; rw [List.take_add_one, h]; simp
def allH (ds : List Int) : Int := if someB ds then hashB (bytesAll ds) else 0
theorem all_spec {S : HProp} {a : Option Addr} {c : Nat} {ds : List Int} (hS : Srd S 1 u64C a ds) (hl : ds.length ≤ 1000) :
    Ct Tryd.prog 73 [.slice a ds.length c] [S] (fun v hs => v = .int .u64 (allH ds) ∧ hs = [S]) := by
  refine Ct.intro Tryd.func73 rfl (by kernel_rfl) 36 Tryd.ntmps73 (Nat.le_of_ble_eq_true rfl) fun w0 R => ?_
  refine Gs.slAddr (hS.h (by repeat constructor)) fun ab ao ha => ?_
  refine Gs.seq ?_
  refine Gs.reg ?_
  refine Go.Sl.L.pu rfl rfl trivial (pu_assign rfl) ?_
  refine Go.Sl.L.nil ?_
  refine Gs.then_n ?_
  refine Gs.seq ?_
  refine Gs.reg ?_
  refine Go.Sl.L.pu rfl rfl trivial (pu_assign rfl) ?_
  refine Go.Sl.L.nil ?_
  refine Gs.slNil 5 1 byteC ?_
  refine Gs.then_n ?_
  refine Gs.seq ?_
  refine Gs.reg ?_
  refine Go.Sl.L.pu rfl rfl trivial (pu_assign rfl) ?_
  refine Go.Sl.L.nil ?_
  refine Gs.then_n ?_
  refine Gs.seq ?_
  refine Gs.seq ?_
  refine Gs.reg ?_
  refine Go.Sl.L.pu rfl rfl trivial (pu_move rfl) ?_
  refine Go.Sl.L.pu rfl rfl trivial (pu_len Tryd.underlying96 rfl) ?_
  refine Go.Sl.L.pu rfl rfl trivial (pu_move rfl) ?_
  refine Go.Sl.L.nil ?_
  refine Gs.then_n ?_
  refine Gs.block ?_
  refine Gs.loop1 (fun s : Nat × Option Addr × Nat => s.1 ≤ ds.length) (fun s => [(3, .slice s.2.1 (bytesAll (ds.take s.1)).length s.2.2), (4, .bool (someB (ds.take s.1))), (8, .slice a ds.length c), (9, int ds.length), (10, int s.1)]) (fun s => [sl 5 1 byteC s.2.1 s.2.2 (bytesAll (ds.take s.1)), S] ++ R) (fun s => ds.length - s.1) (0, none, 0) (Nat.zero_le _) (by repeat constructor) (by repeat constructor) (fun s hs => ?_)
  obtain ⟨i, ba, bc⟩ := s
  dsimp only at hs ⊢
  refine Gs.seq ?_
  refine Gs.reg ?_
  refine Go.Sl.L.pu rfl rfl trivial (pu_lt rfl rfl) ?_
  refine Go.Sl.L.nil ?_
  refine Gs.then_n ?_
  refine Gs.seq ?_
  refine Gs.cond rfl (fun hc0 => ?_) (fun hc0 => ?_)
  · skip
    have hlt : i < ds.length := by have := of_decide_eq_true hc0; omega
    obtain ⟨x, hx⟩ : ∃ x, ds[i]? = some x := ⟨ds[i], by simp [hlt]⟩
    obtain rfl := ha (by rintro rfl; simp at hlt)
    have hbl := bytesAll_length (ds.take i)
    rw [List.length_take] at hbl
    refine Gs.skip ?_
    refine Gs.then_n ?_
    refine Gs.seq ?_
    refine Gs.block ?_
    refine Gs.seq ?_
    refine Gs.reg ?_
    refine Go.Sl.L.pu rfl rfl trivial (pu_ia se_96 rfl rfl (by omega) (by omega)) ?_
    refine Go.Sl.L.rd rfl rfl trivial (rd_ld na_51 rfl (Rdc.el0 (hS.h (by repeat constructor)) hx rfl rfl)) ?_
    refine Go.Sl.L.pu rfl rfl trivial (pu_assign rfl) ?_
    refine Go.Sl.L.nil ?_
    refine Gs.then_n ?_
    refine Gs.seq ?_
    refine Gs.reg ?_
    refine Go.Sl.L.pu rfl rfl trivial (pu_move rfl) ?_
    refine Go.Sl.L.puB rfl rfl trivial (pu_move rfl) (fun hg1 => ?_) (fun hg1 => ?_)
    · skip
      let sb : Bool := true
      have hsb : sb = someB (ds.take (i + 1)) := by rw [someB_take hx, hg1]; rfl
      refine Go.Sl.L.off rfl rfl rfl rfl rfl rfl ?_
      refine Go.Sl.L.off rfl rfl rfl rfl rfl rfl ?_
      refine Go.Sl.L.pu rfl rfl trivial (by first | exact pu_pick_t rfl rfl | exact pu_pick_f rfl rfl) ?_
      refine Go.Sl.L.pu rfl rfl trivial (pu_assign rfl) ?_
      refine Go.Sl.L.nil ?_
      refine Gs.then_n ?_
      refine Gs.seq ?_
      refine Gs.reg ?_
      refine Go.Sl.L.pu rfl rfl trivial (pu_assign rfl) ?_
      refine Go.Sl.L.nil ?_
      refine Gs.then_n ?_
      refine Gs.block ?_
      refine Gs.loop1 (fun s : Nat × Option Addr × Nat × List UInt8 => s.1 ≤ 8 ∧ s.2.2.2 = bytesAll (ds.take i) ++ bytes8 x s.1) (fun s => [(3, .slice s.2.1 s.2.2.2.length s.2.2.1), (4, .bool sb), (6, .int .u64 x), (7, int (56 - 8 * (s.1 : Int))), (8, .slice (some ⟨ab, ao, none⟩) ds.length c), (9, int ds.length), (10, int i)]) (fun s => [sl 5 1 byteC s.2.1 s.2.2.1 s.2.2.2, S] ++ R) (fun s => 8 - s.1) (0, ba, bc, bytesAll (ds.take i)) (⟨Nat.zero_le _, by simp [bytes8]⟩) (by repeat constructor) (by repeat constructor) (fun s hs1 => ?_)
      obtain ⟨j, ca, cc, l⟩ := s
      obtain ⟨hj, hl1⟩ := hs1
      dsimp only at hj hl1 ⊢
      have hll : l.length ≤ 10000 := by rw [hl1, List.length_append, bytes8_length]; omega
      refine Gs.seq ?_
      refine Gs.seq ?_
      refine Gs.reg ?_
      refine Go.Sl.L.pu rfl rfl trivial (pu_move rfl) ?_
      refine Go.Sl.L.pu rfl rfl trivial (pu_ge rfl rfl) ?_
      refine Go.Sl.L.nil ?_
      refine Gs.then_n ?_
      refine Gs.cond rfl (fun hc1 => ?_) (fun hc1 => ?_)
      · skip
        have hlt1 : j < 8 := by have := of_decide_eq_true hc1; omega
        have hsh : (56 - 8 * (j : Int)) = ((56 - 8 * j : Nat) : Int) := by omega
        rw [hsh]
        have hl2 : l ++ [byteU x (56 - 8 * j)] = bytesAll (ds.take i) ++ bytes8 x (j + 1) := by rw [hl1, bytes8_succ, List.append_assoc]
        refine Gs.skip ?_
        refine Gs.then_n ?_
        refine Gs.seq ?_
        refine Gs.block ?_
        refine Gs.reg ?_
        refine Go.Sl.L.pu rfl rfl trivial (pu_move rfl) ?_
        refine Go.Sl.L.pu rfl rfl trivial (pu_move rfl) ?_
        refine Go.Sl.L.pu rfl rfl trivial (pu_move rfl) ?_
        refine Go.Sl.L.pu rfl rfl trivial (pu_shr rfl rfl (by omega)) ?_
        refine Go.Sl.L.pu rfl rfl trivial (pu_conv Tryd.underlying51 Tryd.underlying5 rfl) ?_
        rw [cutB_eq]
        refine Go.Sl.L.ac rfl rfl trivial (ac_lit encC_5 ([byteU x (56 - 8 * j)]) et_82 ek_5 rfl (by repeat constructor) rfl rfl (by decide)) ?_
        rintro _ _ ⟨a28, rfl, rfl⟩
        refine Go.Sl.L.ac rfl rfl trivial (ac_append et_82 ek_5 rfl rfl (by repeat constructor) (SrcH.sl Tryd.underlying82 ek_5 (SlH.own (by repeat constructor))) (by first | omega | (simp; omega)) (by first | omega | (simp; omega))) ?_
        rintro _ _ ⟨a29, c29, rfl, rfl⟩
        refine Go.Sl.L.pu rfl rfl trivial (pu_assign rfl) ?_
        refine Go.Sl.L.nil ?_
        refine Gs.blk_n ?_
        refine Gs.then_n ?_
        refine Gs.reg ?_
        refine Go.Sl.L.pu rfl rfl trivial (pu_move rfl) ?_
        refine Go.Sl.L.pu rfl rfl trivial (pu_subI (z := 56 - 8 * ((j + 1 : Nat) : Int)) rfl rfl (by omega) (by omega) (by omega)) ?_
        refine Go.Sl.L.pu rfl rfl trivial (pu_assign rfl) ?_
        refine Go.Sl.L.nil ?_
        refine Gs.then_n ?_
        exact Gs.again1 (j + 1, a29, c29, l ++ [byteU x (56 - 8 * j)]) ⟨by show j + 1 ≤ 8; omega, hl2⟩ (by show 8 - (j + 1) < 8 - j; omega) (by repeat constructor) (by repeat constructor)
      · skip
        have hge1 : j = 8 := by have := of_decide_eq_false hc1; omega
        have hl3 : l = bytesAll (ds.take (i + 1)) := by rw [hl1, hge1, bytesAll_take hx]
        rw [hl3, hsb]
        refine Gs.exit ?_
        refine Gs.then_x ?_
        refine Gs.then_x ?_
        refine Gs.blk_hit ?_
        refine Gs.blk_n ?_
        refine Gs.then_n ?_
        refine Gs.reg ?_
        refine Go.Sl.L.pu rfl rfl trivial (by first | exact pu_addI rfl rfl rfl (by omega) (by omega) | exact pu_add rfl rfl) ?_
        refine Go.Sl.L.pu rfl rfl trivial (pu_move rfl) ?_
        refine Go.Sl.L.nil ?_
        refine Gs.then_n ?_
        exact Gs.again1 (i + 1, ca, cc) (by show i + 1 ≤ ds.length; omega) (by show ds.length - (i + 1) < ds.length - i; omega) (by repeat constructor) (by repeat constructor)
    · skip
      let sb : Bool := decide (x ≠ 0)
      have hsb : sb = someB (ds.take (i + 1)) := by rw [someB_take hx, hg1]; rfl
      refine Go.Sl.L.pu rfl rfl ⟨_, rfl, rfl⟩ (pu_move rfl) ?_
      refine Go.Sl.L.pu rfl rfl ⟨_, rfl, rfl⟩ (pu_ne rfl rfl) ?_
      refine Go.Sl.L.pu rfl rfl trivial (by first | exact pu_pick_t rfl rfl | exact pu_pick_f rfl rfl) ?_
      refine Go.Sl.L.pu rfl rfl trivial (pu_assign rfl) ?_
      refine Go.Sl.L.nil ?_
      refine Gs.then_n ?_
      refine Gs.seq ?_
      refine Gs.reg ?_
      refine Go.Sl.L.pu rfl rfl trivial (pu_assign rfl) ?_
      refine Go.Sl.L.nil ?_
      refine Gs.then_n ?_
      refine Gs.block ?_
      refine Gs.loop1 (fun s : Nat × Option Addr × Nat × List UInt8 => s.1 ≤ 8 ∧ s.2.2.2 = bytesAll (ds.take i) ++ bytes8 x s.1) (fun s => [(3, .slice s.2.1 s.2.2.2.length s.2.2.1), (4, .bool sb), (6, .int .u64 x), (7, int (56 - 8 * (s.1 : Int))), (8, .slice (some ⟨ab, ao, none⟩) ds.length c), (9, int ds.length), (10, int i)]) (fun s => [sl 5 1 byteC s.2.1 s.2.2.1 s.2.2.2, S] ++ R) (fun s => 8 - s.1) (0, ba, bc, bytesAll (ds.take i)) (⟨Nat.zero_le _, by simp [bytes8]⟩) (by repeat constructor) (by repeat constructor) (fun s hs1 => ?_)
      obtain ⟨j, ca, cc, l⟩ := s
      obtain ⟨hj, hl1⟩ := hs1
      dsimp only at hj hl1 ⊢
      have hll : l.length ≤ 10000 := by rw [hl1, List.length_append, bytes8_length]; omega
      refine Gs.seq ?_
      refine Gs.seq ?_
      refine Gs.reg ?_
      refine Go.Sl.L.pu rfl rfl trivial (pu_move rfl) ?_
      refine Go.Sl.L.pu rfl rfl trivial (pu_ge rfl rfl) ?_
      refine Go.Sl.L.nil ?_
      refine Gs.then_n ?_
      refine Gs.cond rfl (fun hc1 => ?_) (fun hc1 => ?_)
      · skip
        have hlt1 : j < 8 := by have := of_decide_eq_true hc1; omega
        have hsh : (56 - 8 * (j : Int)) = ((56 - 8 * j : Nat) : Int) := by omega
        rw [hsh]
        have hl2 : l ++ [byteU x (56 - 8 * j)] = bytesAll (ds.take i) ++ bytes8 x (j + 1) := by rw [hl1, bytes8_succ, List.append_assoc]
        refine Gs.skip ?_
        refine Gs.then_n ?_
        refine Gs.seq ?_
        refine Gs.block ?_
        refine Gs.reg ?_
        refine Go.Sl.L.pu rfl rfl trivial (pu_move rfl) ?_
        refine Go.Sl.L.pu rfl rfl trivial (pu_move rfl) ?_
        refine Go.Sl.L.pu rfl rfl trivial (pu_move rfl) ?_
        refine Go.Sl.L.pu rfl rfl trivial (pu_shr rfl rfl (by omega)) ?_
        refine Go.Sl.L.pu rfl rfl trivial (pu_conv Tryd.underlying51 Tryd.underlying5 rfl) ?_
        rw [cutB_eq]
        refine Go.Sl.L.ac rfl rfl trivial (ac_lit encC_5 ([byteU x (56 - 8 * j)]) et_82 ek_5 rfl (by repeat constructor) rfl rfl (by decide)) ?_
        rintro _ _ ⟨a28, rfl, rfl⟩
        refine Go.Sl.L.ac rfl rfl trivial (ac_append et_82 ek_5 rfl rfl (by repeat constructor) (SrcH.sl Tryd.underlying82 ek_5 (SlH.own (by repeat constructor))) (by first | omega | (simp; omega)) (by first | omega | (simp; omega))) ?_
        rintro _ _ ⟨a29, c29, rfl, rfl⟩
        refine Go.Sl.L.pu rfl rfl trivial (pu_assign rfl) ?_
        refine Go.Sl.L.nil ?_
        refine Gs.blk_n ?_
        refine Gs.then_n ?_
        refine Gs.reg ?_
        refine Go.Sl.L.pu rfl rfl trivial (pu_move rfl) ?_
        refine Go.Sl.L.pu rfl rfl trivial (pu_subI (z := 56 - 8 * ((j + 1 : Nat) : Int)) rfl rfl (by omega) (by omega) (by omega)) ?_
        refine Go.Sl.L.pu rfl rfl trivial (pu_assign rfl) ?_
        refine Go.Sl.L.nil ?_
        refine Gs.then_n ?_
        exact Gs.again1 (j + 1, a29, c29, l ++ [byteU x (56 - 8 * j)]) ⟨by show j + 1 ≤ 8; omega, hl2⟩ (by show 8 - (j + 1) < 8 - j; omega) (by repeat constructor) (by repeat constructor)
      · skip
        have hge1 : j = 8 := by have := of_decide_eq_false hc1; omega
        have hl3 : l = bytesAll (ds.take (i + 1)) := by rw [hl1, hge1, bytesAll_take hx]
        rw [hl3, hsb]
        refine Gs.exit ?_
        refine Gs.then_x ?_
        refine Gs.then_x ?_
        refine Gs.blk_hit ?_
        refine Gs.blk_n ?_
        refine Gs.then_n ?_
        refine Gs.reg ?_
        refine Go.Sl.L.pu rfl rfl trivial (by first | exact pu_addI rfl rfl rfl (by omega) (by omega) | exact pu_add rfl rfl) ?_
        refine Go.Sl.L.pu rfl rfl trivial (pu_move rfl) ?_
        refine Go.Sl.L.nil ?_
        refine Gs.then_n ?_
        exact Gs.again1 (i + 1, ca, cc) (by show i + 1 ≤ ds.length; omega) (by show ds.length - (i + 1) < ds.length - i; omega) (by repeat constructor) (by repeat constructor)
  · skip
    have hge : i = ds.length := by have := of_decide_eq_false hc0; omega
    rw [hge, List.take_length]
    refine Gs.exit ?_
    refine Gs.then_x ?_
    refine Gs.then_x ?_
    refine Gs.blk_hit ?_
    refine Gs.then_n ?_
    refine Gs.seq ?_
    refine Gs.seq ?_
    refine Gs.reg ?_
    refine Go.Sl.L.pu rfl rfl trivial (pu_move rfl) ?_
    refine Go.Sl.L.pu rfl rfl trivial (pu_not rfl) ?_
    refine Go.Sl.L.nil ?_
    refine Gs.then_n ?_
    refine Gs.cond rfl (fun hc2 => ?_) (fun hc2 => ?_)
    · skip
      have hno : someB ds = false := by simpa using hc2
      refine Gs.seq ?_
      refine Gs.reg ?_
      refine Go.Sl.L.pu rfl rfl trivial (pu_assign rfl) ?_
      refine Go.Sl.L.nil ?_
      refine Gs.then_n ?_
      refine Gs.ret ?_
      refine Gs.then_r ?_
      exact Gs.fin1 Tryd.results73 rfl _ (⟨by simp [allH, hno], rfl⟩) (by repeat constructor)
    · skip
      have hyes : someB ds = true := by simpa using hc2
      have hbl := bytesAll_length ds
      refine Gs.skip ?_
      refine Gs.then_n ?_
      refine Gs.seq ?_
      refine Gs.reg ?_
      refine Go.Sl.L.pu rfl rfl trivial (pu_move rfl) ?_
      refine Go.Sl.L.ac rfl rfl trivial (ac_lit encC_82 ([⟨ba, bytesAll ds, bc⟩]) et_102 ek_82 rfl (by repeat constructor) rfl rfl (by decide)) ?_
      rintro _ _ ⟨a34, rfl, rfl⟩
      refine Go.Sl.L.ac rfl rfl trivial (as_call (of_spec (U := sl 82 1 slC (some ⟨a34, 0, none⟩) 1 [⟨ba, bytesAll ds, bc⟩]) (S := sl 5 1 byteC ba bc (bytesAll ds)) Srd.own (by simp; exact ⟨Srd.own, by omega⟩) (by simp)) (by repeat constructor) (by repeat constructor)) ?_
      rintro _ _ ⟨_, ⟨rfl, rfl⟩, rfl⟩
      rw [show flat [⟨ba, bytesAll ds, bc⟩] = bytesAll ds by simp [flat]]
      refine Go.Sl.L.pu rfl rfl trivial (pu_assign rfl) ?_
      refine Go.Sl.L.nil ?_
      refine Gs.then_n ?_
      refine Gs.ret ?_
      exact Gs.fin1 Tryd.results73 rfl _ (⟨by simp [allH, hyes], rfl⟩) (by repeat constructor)
theorem all5_spec {S : HProp} {a : Option Addr} {c : Nat} {ds : List Int} (hS : Srd S 1 u64C a ds) (hl : ds.length ≤ 1000) :
    Ct Tryd.prog 52 [.slice a ds.length c] [S] (fun v hs => v = .int .u64 (allH ds) ∧ hs = [S]) := by
  refine Ct.intro Tryd.func52 rfl (by kernel_rfl) 40 Tryd.ntmps52 (Nat.le_of_ble_eq_true rfl) fun w0 R => ?_
  refine Gs.slAddr (hS.h (by repeat constructor)) fun ab ao ha => ?_
  refine Gs.seq ?_
  refine Gs.reg ?_
  refine Go.Sl.L.pu rfl rfl trivial (pu_assign rfl) ?_
  refine Go.Sl.L.nil ?_
  refine Gs.then_n ?_
  refine Gs.seq ?_
  refine Gs.reg ?_
  refine Go.Sl.L.pu rfl rfl trivial (pu_assign rfl) ?_
  refine Go.Sl.L.nil ?_
  refine Gs.then_n ?_
  refine Gs.seq ?_
  refine Gs.reg ?_
  refine Go.Sl.L.pu rfl rfl trivial (pu_assign rfl) ?_
  refine Go.Sl.L.nil ?_
  refine Gs.slNil 5 1 byteC ?_
  refine Gs.then_n ?_
  refine Gs.seq ?_
  refine Gs.seq ?_
  refine Gs.reg ?_
  refine Go.Sl.L.pu rfl rfl trivial (pu_assign rfl) ?_
  refine Go.Sl.L.nil ?_
  refine Gs.then_n ?_
  refine Gs.block ?_
  refine Gs.loop1 (fun s : Nat × Option Addr × Nat => s.1 ≤ ds.length) (fun s => [(0, .slice a ds.length c), (4, .slice s.2.1 (bytesAll (ds.take s.1)).length s.2.2), (3, .bool (someB (ds.take s.1))), (5, int s.1)]) (fun s => [sl 5 1 byteC s.2.1 s.2.2 (bytesAll (ds.take s.1)), S] ++ R) (fun s => ds.length - s.1) (0, none, 0) (Nat.zero_le _) (by repeat constructor) (by repeat constructor) (fun s hs => ?_)
  obtain ⟨i, ba, bc⟩ := s
  dsimp only at hs ⊢
  refine Gs.seq ?_
  refine Gs.seq ?_
  refine Gs.reg ?_
  refine Go.Sl.L.pu rfl rfl trivial (pu_move rfl) ?_
  refine Go.Sl.L.pu rfl rfl trivial (pu_move rfl) ?_
  refine Go.Sl.L.pu rfl rfl trivial (pu_len Tryd.underlying96 rfl) ?_
  refine Go.Sl.L.pu rfl rfl trivial (pu_lt rfl rfl) ?_
  refine Go.Sl.L.nil ?_
  refine Gs.then_n ?_
  refine Gs.cond rfl (fun hc0 => ?_) (fun hc0 => ?_)
  · skip
    have hlt : i < ds.length := by have := of_decide_eq_true hc0; omega
    obtain ⟨x, hx⟩ : ∃ x, ds[i]? = some x := ⟨ds[i], by simp [hlt]⟩
    obtain rfl := ha (by rintro rfl; simp at hlt)
    have hbl := bytesAll_length (ds.take i)
    rw [List.length_take] at hbl
    refine Gs.skip ?_
    refine Gs.then_n ?_
    refine Gs.seq ?_
    refine Gs.block ?_
    refine Gs.seq ?_
    refine Gs.reg ?_
    refine Go.Sl.L.pu rfl rfl trivial (pu_move rfl) ?_
    refine Go.Sl.L.puB rfl rfl trivial (pu_move rfl) (fun hg1 => ?_) (fun hg1 => ?_)
    · skip
      let sb : Bool := true
      have hsb : sb = someB (ds.take (i + 1)) := by rw [someB_take hx, hg1]; rfl
      refine Go.Sl.L.off rfl rfl rfl rfl rfl rfl ?_
      refine Go.Sl.L.off rfl rfl rfl rfl rfl rfl ?_
      refine Go.Sl.L.off rfl rfl rfl rfl rfl rfl ?_
      refine Go.Sl.L.off rfl rfl rfl rfl rfl rfl ?_
      refine Go.Sl.L.off rfl rfl rfl rfl rfl rfl ?_
      refine Go.Sl.L.pu rfl rfl trivial (by first | exact pu_pick_t rfl rfl | exact pu_pick_f rfl rfl) ?_
      refine Go.Sl.L.pu rfl rfl trivial (pu_assign rfl) ?_
      refine Go.Sl.L.nil ?_
      refine Gs.then_n ?_
      refine Gs.seq ?_
      refine Gs.reg ?_
      refine Go.Sl.L.pu rfl rfl trivial (pu_assign rfl) ?_
      refine Go.Sl.L.nil ?_
      refine Gs.then_n ?_
      refine Gs.block ?_
      refine Gs.loop1 (fun s : Nat × Option Addr × Nat × List UInt8 => s.1 ≤ 8 ∧ s.2.2.2 = bytesAll (ds.take i) ++ bytes8 x s.1) (fun s => [(0, .slice (some ⟨ab, ao, none⟩) ds.length c), (4, .slice s.2.1 s.2.2.2.length s.2.2.1), (3, .bool sb), (6, int (7 - (s.1 : Int))), (5, int i)]) (fun s => [sl 5 1 byteC s.2.1 s.2.2.1 s.2.2.2, S] ++ R) (fun s => 8 - s.1) (0, ba, bc, bytesAll (ds.take i)) (⟨Nat.zero_le _, by simp [bytes8]⟩) (by repeat constructor) (by repeat constructor) (fun s hs1 => ?_)
      obtain ⟨j, ca, cc, l⟩ := s
      obtain ⟨hj, hl1⟩ := hs1
      dsimp only at hj hl1 ⊢
      have hll : l.length ≤ 10000 := by rw [hl1, List.length_append, bytes8_length]; omega
      refine Gs.seq ?_
      refine Gs.seq ?_
      refine Gs.reg ?_
      refine Go.Sl.L.pu rfl rfl trivial (pu_move rfl) ?_
      refine Go.Sl.L.pu rfl rfl trivial (pu_ge rfl rfl) ?_
      refine Go.Sl.L.nil ?_
      refine Gs.then_n ?_
      refine Gs.cond rfl (fun hc1 => ?_) (fun hc1 => ?_)
      · skip
        have hlt1 : j < 8 := by have := of_decide_eq_true hc1; omega
        have hl2 : l ++ [byteU x (56 - 8 * j)] = bytesAll (ds.take i) ++ bytes8 x (j + 1) := by rw [hl1, bytes8_succ, List.append_assoc]
        refine Gs.skip ?_
        refine Gs.then_n ?_
        refine Gs.seq ?_
        refine Gs.block ?_
        refine Gs.reg ?_
        refine Go.Sl.L.pu rfl rfl trivial (pu_move rfl) ?_
        refine Go.Sl.L.pu rfl rfl trivial (pu_move rfl) ?_
        refine Go.Sl.L.pu rfl rfl trivial (pu_move rfl) ?_
        refine Go.Sl.L.pu rfl rfl trivial (pu_ia se_96 rfl rfl (by omega) (by omega)) ?_
        refine Go.Sl.L.rd rfl rfl trivial (rd_ld na_51 rfl (Rdc.el0 (hS.h (by repeat constructor)) hx rfl rfl)) ?_
        refine Go.Sl.L.pu rfl rfl trivial (pu_move rfl) ?_
        refine Go.Sl.L.pu rfl rfl trivial (pu_mulI (z := ((56 - 8 * j : Nat) : Int)) rfl rfl (by omega) (by omega) (by omega)) ?_
        refine Go.Sl.L.pu rfl rfl trivial (pu_shr rfl rfl (by omega)) ?_
        refine Go.Sl.L.pu rfl rfl trivial (pu_conv Tryd.underlying51 Tryd.underlying5 rfl) ?_
        rw [cutB_eq]
        refine Go.Sl.L.ac rfl rfl trivial (ac_lit encC_5 ([byteU x (56 - 8 * j)]) et_82 ek_5 rfl (by repeat constructor) rfl rfl (by decide)) ?_
        rintro _ _ ⟨a34, rfl, rfl⟩
        refine Go.Sl.L.ac rfl rfl trivial (ac_append et_82 ek_5 rfl rfl (by repeat constructor) (SrcH.sl Tryd.underlying82 ek_5 (SlH.own (by repeat constructor))) (by first | omega | (simp; omega)) (by first | omega | (simp; omega))) ?_
        rintro _ _ ⟨a35, c35, rfl, rfl⟩
        refine Go.Sl.L.pu rfl rfl trivial (pu_assign rfl) ?_
        refine Go.Sl.L.nil ?_
        refine Gs.blk_n ?_
        refine Gs.then_n ?_
        refine Gs.reg ?_
        refine Go.Sl.L.pu rfl rfl trivial (pu_move rfl) ?_
        refine Go.Sl.L.pu rfl rfl trivial (pu_subI (z := 7 - ((j + 1 : Nat) : Int)) rfl rfl (by omega) (by omega) (by omega)) ?_
        refine Go.Sl.L.pu rfl rfl trivial (pu_assign rfl) ?_
        refine Go.Sl.L.nil ?_
        refine Gs.then_n ?_
        exact Gs.again1 (j + 1, a35, c35, l ++ [byteU x (56 - 8 * j)]) ⟨by show j + 1 ≤ 8; omega, hl2⟩ (by show 8 - (j + 1) < 8 - j; omega) (by repeat constructor) (by repeat constructor)
      · skip
        have hge1 : j = 8 := by have := of_decide_eq_false hc1; omega
        have hl3 : l = bytesAll (ds.take (i + 1)) := by rw [hl1, hge1, bytesAll_take hx]
        rw [hl3, hsb]
        refine Gs.exit ?_
        refine Gs.then_x ?_
        refine Gs.then_x ?_
        refine Gs.blk_hit ?_
        refine Gs.blk_n ?_
        refine Gs.then_n ?_
        refine Gs.reg ?_
        refine Go.Sl.L.pu rfl rfl trivial (pu_move rfl) ?_
        refine Go.Sl.L.pu rfl rfl trivial (by first | exact pu_addI rfl rfl rfl (by omega) (by omega) | exact pu_add rfl rfl) ?_
        refine Go.Sl.L.pu rfl rfl trivial (pu_assign rfl) ?_
        refine Go.Sl.L.nil ?_
        refine Gs.then_n ?_
        exact Gs.again1 (i + 1, ca, cc) (by show i + 1 ≤ ds.length; omega) (by show ds.length - (i + 1) < ds.length - i; omega) (by repeat constructor) (by repeat constructor)
    · skip
      let sb : Bool := decide (x ≠ 0)
      have hsb : sb = someB (ds.take (i + 1)) := by rw [someB_take hx, hg1]; rfl
      refine Go.Sl.L.pu rfl rfl ⟨_, rfl, rfl⟩ (pu_move rfl) ?_
      refine Go.Sl.L.pu rfl rfl ⟨_, rfl, rfl⟩ (pu_move rfl) ?_
      refine Go.Sl.L.pu rfl rfl ⟨_, rfl, rfl⟩ (pu_ia se_96 rfl rfl (by omega) (by omega)) ?_
      refine Go.Sl.L.rd rfl rfl ⟨_, rfl, rfl⟩ (rd_ld na_51 rfl (Rdc.el0 (hS.h (by repeat constructor)) hx rfl rfl)) ?_
      refine Go.Sl.L.pu rfl rfl ⟨_, rfl, rfl⟩ (pu_ne rfl rfl) ?_
      refine Go.Sl.L.pu rfl rfl trivial (by first | exact pu_pick_t rfl rfl | exact pu_pick_f rfl rfl) ?_
      refine Go.Sl.L.pu rfl rfl trivial (pu_assign rfl) ?_
      refine Go.Sl.L.nil ?_
      refine Gs.then_n ?_
      refine Gs.seq ?_
      refine Gs.reg ?_
      refine Go.Sl.L.pu rfl rfl trivial (pu_assign rfl) ?_
      refine Go.Sl.L.nil ?_
      refine Gs.then_n ?_
      refine Gs.block ?_
      refine Gs.loop1 (fun s : Nat × Option Addr × Nat × List UInt8 => s.1 ≤ 8 ∧ s.2.2.2 = bytesAll (ds.take i) ++ bytes8 x s.1) (fun s => [(0, .slice (some ⟨ab, ao, none⟩) ds.length c), (4, .slice s.2.1 s.2.2.2.length s.2.2.1), (3, .bool sb), (6, int (7 - (s.1 : Int))), (5, int i)]) (fun s => [sl 5 1 byteC s.2.1 s.2.2.1 s.2.2.2, S] ++ R) (fun s => 8 - s.1) (0, ba, bc, bytesAll (ds.take i)) (⟨Nat.zero_le _, by simp [bytes8]⟩) (by repeat constructor) (by repeat constructor) (fun s hs1 => ?_)
      obtain ⟨j, ca, cc, l⟩ := s
      obtain ⟨hj, hl1⟩ := hs1
      dsimp only at hj hl1 ⊢
      have hll : l.length ≤ 10000 := by rw [hl1, List.length_append, bytes8_length]; omega
      refine Gs.seq ?_
      refine Gs.seq ?_
      refine Gs.reg ?_
      refine Go.Sl.L.pu rfl rfl trivial (pu_move rfl) ?_
      refine Go.Sl.L.pu rfl rfl trivial (pu_ge rfl rfl) ?_
      refine Go.Sl.L.nil ?_
      refine Gs.then_n ?_
      refine Gs.cond rfl (fun hc1 => ?_) (fun hc1 => ?_)
      · skip
        have hlt1 : j < 8 := by have := of_decide_eq_true hc1; omega
        have hl2 : l ++ [byteU x (56 - 8 * j)] = bytesAll (ds.take i) ++ bytes8 x (j + 1) := by rw [hl1, bytes8_succ, List.append_assoc]
        refine Gs.skip ?_
        refine Gs.then_n ?_
        refine Gs.seq ?_
        refine Gs.block ?_
        refine Gs.reg ?_
        refine Go.Sl.L.pu rfl rfl trivial (pu_move rfl) ?_
        refine Go.Sl.L.pu rfl rfl trivial (pu_move rfl) ?_
        refine Go.Sl.L.pu rfl rfl trivial (pu_move rfl) ?_
        refine Go.Sl.L.pu rfl rfl trivial (pu_ia se_96 rfl rfl (by omega) (by omega)) ?_
        refine Go.Sl.L.rd rfl rfl trivial (rd_ld na_51 rfl (Rdc.el0 (hS.h (by repeat constructor)) hx rfl rfl)) ?_
        refine Go.Sl.L.pu rfl rfl trivial (pu_move rfl) ?_
        refine Go.Sl.L.pu rfl rfl trivial (pu_mulI (z := ((56 - 8 * j : Nat) : Int)) rfl rfl (by omega) (by omega) (by omega)) ?_
        refine Go.Sl.L.pu rfl rfl trivial (pu_shr rfl rfl (by omega)) ?_
        refine Go.Sl.L.pu rfl rfl trivial (pu_conv Tryd.underlying51 Tryd.underlying5 rfl) ?_
        rw [cutB_eq]
        refine Go.Sl.L.ac rfl rfl trivial (ac_lit encC_5 ([byteU x (56 - 8 * j)]) et_82 ek_5 rfl (by repeat constructor) rfl rfl (by decide)) ?_
        rintro _ _ ⟨a34, rfl, rfl⟩
        refine Go.Sl.L.ac rfl rfl trivial (ac_append et_82 ek_5 rfl rfl (by repeat constructor) (SrcH.sl Tryd.underlying82 ek_5 (SlH.own (by repeat constructor))) (by first | omega | (simp; omega)) (by first | omega | (simp; omega))) ?_
        rintro _ _ ⟨a35, c35, rfl, rfl⟩
        refine Go.Sl.L.pu rfl rfl trivial (pu_assign rfl) ?_
        refine Go.Sl.L.nil ?_
        refine Gs.blk_n ?_
        refine Gs.then_n ?_
        refine Gs.reg ?_
        refine Go.Sl.L.pu rfl rfl trivial (pu_move rfl) ?_
        refine Go.Sl.L.pu rfl rfl trivial (pu_subI (z := 7 - ((j + 1 : Nat) : Int)) rfl rfl (by omega) (by omega) (by omega)) ?_
        refine Go.Sl.L.pu rfl rfl trivial (pu_assign rfl) ?_
        refine Go.Sl.L.nil ?_
        refine Gs.then_n ?_
        exact Gs.again1 (j + 1, a35, c35, l ++ [byteU x (56 - 8 * j)]) ⟨by show j + 1 ≤ 8; omega, hl2⟩ (by show 8 - (j + 1) < 8 - j; omega) (by repeat constructor) (by repeat constructor)
      · skip
        have hge1 : j = 8 := by have := of_decide_eq_false hc1; omega
        have hl3 : l = bytesAll (ds.take (i + 1)) := by rw [hl1, hge1, bytesAll_take hx]
        rw [hl3, hsb]
        refine Gs.exit ?_
        refine Gs.then_x ?_
        refine Gs.then_x ?_
        refine Gs.blk_hit ?_
        refine Gs.blk_n ?_
        refine Gs.then_n ?_
        refine Gs.reg ?_
        refine Go.Sl.L.pu rfl rfl trivial (pu_move rfl) ?_
        refine Go.Sl.L.pu rfl rfl trivial (by first | exact pu_addI rfl rfl rfl (by omega) (by omega) | exact pu_add rfl rfl) ?_
        refine Go.Sl.L.pu rfl rfl trivial (pu_assign rfl) ?_
        refine Go.Sl.L.nil ?_
        refine Gs.then_n ?_
        exact Gs.again1 (i + 1, ca, cc) (by show i + 1 ≤ ds.length; omega) (by show ds.length - (i + 1) < ds.length - i; omega) (by repeat constructor) (by repeat constructor)
  · skip
    have hge : i = ds.length := by have := of_decide_eq_false hc0; omega
    rw [hge, List.take_length]
    refine Gs.exit ?_
    refine Gs.then_x ?_
    refine Gs.then_x ?_
    refine Gs.blk_hit ?_
    refine Gs.then_n ?_
    refine Gs.seq ?_
    refine Gs.seq ?_
    refine Gs.reg ?_
    refine Go.Sl.L.pu rfl rfl trivial (pu_move rfl) ?_
    refine Go.Sl.L.pu rfl rfl trivial (pu_not rfl) ?_
    refine Go.Sl.L.nil ?_
    refine Gs.then_n ?_
    refine Gs.cond rfl (fun hc2 => ?_) (fun hc2 => ?_)
    · skip
      have hno : someB ds = false := by simpa using hc2
      refine Gs.seq ?_
      refine Gs.reg ?_
      refine Go.Sl.L.pu rfl rfl trivial (pu_assign rfl) ?_
      refine Go.Sl.L.nil ?_
      refine Gs.then_n ?_
      refine Gs.ret ?_
      refine Gs.then_r ?_
      exact Gs.fin1 Tryd.results52 rfl _ (⟨by simp [allH, hno], rfl⟩) (by repeat constructor)
    · skip
      have hyes : someB ds = true := by simpa using hc2
      have hbl := bytesAll_length ds
      refine Gs.skip ?_
      refine Gs.then_n ?_
      refine Gs.seq ?_
      refine Gs.reg ?_
      refine Go.Sl.L.pu rfl rfl trivial (pu_move rfl) ?_
      refine Go.Sl.L.ac rfl rfl trivial (as_call (one5_spec (S := sl 5 1 byteC ba bc (bytesAll ds)) Srd.own (by omega)) (by repeat constructor) (by repeat constructor)) ?_
      rintro _ _ ⟨_, ⟨rfl, rfl⟩, rfl⟩
      refine Go.Sl.L.pu rfl rfl trivial (pu_assign rfl) ?_
      refine Go.Sl.L.nil ?_
      refine Gs.then_n ?_
      refine Gs.ret ?_
      exact Gs.fin1 Tryd.results52 rfl _ (⟨by simp [allH, hyes], rfl⟩) (by repeat constructor)
end Go.Proofs.YthlnjkfahmebjaaDoor
